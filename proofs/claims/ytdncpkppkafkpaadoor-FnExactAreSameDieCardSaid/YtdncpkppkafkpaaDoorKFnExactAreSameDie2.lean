/- The program's AreSameDie returns what the reference's returns, for all texts (the law lets longer texts by). No further condition. -/
import Derived.Test.YtdncpkppkafkpaaDoorKFnExactAreSameDie1

namespace Go.Proofs.YtdncpkppkafkpaaDoor.P
open Go.RowKit Go.Proofs.YtdncpkppkafkpaaDoorW.PrintWords Go.Proofs.YtdncpkppkafkpaaDoorW.PrintLast Go.Proofs.YtdncpkppkafkpaaDoorW.PrintMore
attribute [local go_sem] qz qx qJA qIA qo qn qy qw
set_option linter.unusedVariables false
set_option linter.unusedSimpArgs false
mutual
def qK.l0 : Nat → List Int → List (S31) → Int → Int → Int → Int → List Int → Option (List Int × Bool)
 | 0, _, _, _, _, _, _, _ => none
 | k + 1, x18, x22, x24, x25, x249000, x249001, x249002 => if x25 < x24 then (if 0 ≤ x25 then (if x25 < (x18.length : Int) then (qK.l0 k (x18.set (x25 : Int).toNat (-1)) x22 x24 (wrap64 (x25 + 1)) x249000 x249001 x249002) else (none)) else (none)) else ((qg.f k x249000 x249001 x249002).bind fun t256 => (if 0 < (t256.length : Int) then ((qRB.f).bind fun bt260 => (if 0 ≤ (rd t256 0) then (if (rd t256 0) < (x22.length : Int) then (if (rd t256 0) < (x18.length : Int) then (qK.l1 k (([rd t256 0] : List Int)) 0 (x18.set ((rd t256 0) : Int).toNat 5) (x22.set ((rd t256 0) : Int).toNat (⟨bt260.1, bt260.2.1, bt260.2.2.1, bt260.2.2.2.1, bt260.2.2.2.2.1, bt260.2.2.2.2.2⟩ : S31)) t256 x249000 x249001 x249002) else (none)) else (none)) else (none))) else (none)))
def qK.l1 : Nat → List Int → Int → List Int → List (S31) → List Int → Int → Int → List Int → Option (List Int × Bool)
 | 0, _, _, _, _, _, _, _, _ => none
 | k + 1, x8, x9, x18, x22, x33, x249000, x249001, x249002 => if x9 < (x8.length : Int) then (qK.l2 k x8 x9 0 x18 x22 x33 x249000 x249001 x249002) else (qK.l3 k 0 x18 x33 (x33.length : Int) 0)
def qK.l2 : Nat → List Int → Int → Int → List Int → List (S31) → List Int → Int → Int → List Int → Option (List Int × Bool)
 | 0, _, _, _, _, _, _, _, _, _ => none
 | k + 1, x8, x9, x10, x18, x22, x33, x249000, x249001, x249002 => if x10 < 4 then (if 0 ≤ x9 then (if x9 < (x8.length : Int) then ((qgA.f x249000 x249001 x249002 (rd x8 x9) x10).bind fun t274 => (if t274 ≥ 0 then (if 0 ≤ t274 then (if t274 < (x18.length : Int) then (if (rd x18 t274) < 0 then (if 0 ≤ (rd x8 x9) then (if (rd x8 x9) < (x22.length : Int) then ((qjA.f ((qP x22 (rd x8 x9)).f0) ((qP x22 (rd x8 x9)).f1) ((qP x22 (rd x8 x9)).f2) ((qP x22 (rd x8 x9)).f3) ((qP x22 (rd x8 x9)).f4) ((qP x22 (rd x8 x9)).f5) x10).bind fun bt278 => (if t274 < (x22.length : Int) then ((some (x22.set (t274 : Int).toNat (⟨bt278.1, bt278.2.1, bt278.2.2.1, bt278.2.2.2.1, bt278.2.2.2.2.1, bt278.2.2.2.2.2⟩ : S31) : List (S31))).bind fun y284 => (if x8.length < 17592186044416 then (qK.l2 k (x8 ++ [t274]) x9 (wrap64 (x10 + 1)) (x18.set (t274 : Int).toNat ((qP y284 t274).f5)) y284 x33 x249000 x249001 x249002) else (none))) else (none))) else (none)) else (none)) else (qK.l2 k x8 x9 (wrap64 (x10 + 1)) x18 x22 x33 x249000 x249001 x249002)) else (none)) else (none)) else (qK.l2 k x8 x9 (wrap64 (x10 + 1)) x18 x22 x33 x249000 x249001 x249002))) else (none)) else (none)) else (qK.l1 k x8 (wrap64 (x9 + 1)) x18 x22 x33 x249000 x249001 x249002)
def qK.l3 : Nat → Int → List Int → List Int → Int → Int → Option (List Int × Bool)
 | 0, _, _, _, _, _ => none
 | k + 1, x12, x18, x33, x100, x101 => if x101 < x100 then (if 0 ≤ x101 then (if x101 < (x33.length : Int) then (if 0 ≤ (rd x33 x101) then (if (rd x33 x101) < (x18.length : Int) then (if 0 ≤ (rd x18 (rd x33 x101)) then (if (Int.tmod (shr .i64 x12 (rd x18 (rd x33 x101))) 2) = 1 then (some (x18, false)) else (qK.l3 k (Go.bits .or .i64 x12 (shl .i64 1 (rd x18 (rd x33 x101)))) x18 x33 x100 (wrap64 (x101 + 1)))) else (none)) else (none)) else (none)) else (none)) else (none)) else (some (x18, true))
end
def qK.f (k : Nat) (a0_0 : Int) (a0_1 : Int) (l0_2 : List Int) : Option (List Int × Bool) := if 0 ≤ (l0_2.length : Int) then (if ((l0_2.length : Int) : Int).toNat ≤ 35184372088832 then ((some (List.replicate ((l0_2.length : Int) : Int).toNat 0 : List Int)).bind fun y249 => (if ((l0_2.length : Int) : Int).toNat ≤ 5864062014805 then (qK.l0 k y249 (List.replicate ((l0_2.length : Int) : Int).toNat z31) (y249.length : Int) 0 a0_0 a0_1 l0_2) else (none))) else (none)) else (none)
def qK.T18 : Bool × List (List Nat × List Nat) := (true, [([], []), ([], []), ([], []), ([1, 2], [1, 2]), ([3], [3]), ([], []), ([0, 4, 5], [0, 4, 5]), ([6, 6, 0, 1, 2, 3, 4, 5, 6], [6])])
def qK.B18 : List Nat := [0, 0, 0, 6, 14, 0, 63, 127]
theorem qK.tab18 : rtab .any (opsOf Tryd.f50 18) = qK.T18 := by kernel_rfl
theorem qK.bits18 : waitsOk qK.T18.2 qK.B18 = true := by kernel_rfl
set_option maxHeartbeats 8000000 in
set_option maxRecDepth 100000 in
theorem qK.calls (k : Nat) (a0_0 : Int) (a0_1 : Int) (A0_2 : Option Addr) (c0_2 : Nat) (l0_2 : List Int) (r1 : List Int) (r2 : Bool) (w : World) (hr0_2 : Kd.C (Kd.int .u8) w A0_2 l0_2.length l0_2) (hc0_2 : l0_2.length ≤ c0_2) (h : qK.f k a0_0 a0_1 l0_2 = some (r1, r2)) :
  Calls Tryd.prog 50 #[.agg #[.int .i64 a0_0, .int .i64 a0_1, .slice A0_2 l0_2.length c0_2]] w fun e w' => ∃ v0_ : Value, e = .returned (.tuple #[v0_, .bool r2]) ∧ Kd.R (Kd.int .i64) 3 w' w.heap.size (fun _ => True) v0_ r1 ∧ Below w.heap.size w w' := by
 have hu45 := Tryd.underlying45
 have hu31 := Tryd.underlying31
 have HR0_2 := Aside0.mk hr0_2
 have HC0_2 := Aside0.mk hc0_2
 clear hr0_2 hc0_2
 have HB := Aside0.mk (Below.refl w.heap.size w)
 have H : (if 0 ≤ (l0_2.length : Int) then (if ((l0_2.length : Int) : Int).toNat ≤ 35184372088832 then ((some (List.replicate ((l0_2.length : Int) : Int).toNat 0 : List Int)).bind fun y249 => (if ((l0_2.length : Int) : Int).toNat ≤ 5864062014805 then (qK.l0 k y249 (List.replicate ((l0_2.length : Int) : Int).toNat z31) (y249.length : Int) 0 a0_0 a0_1 l0_2) else (none))) else (none)) else (none)) = some (r1, r2) := h
 clear h
 by_cases c2 : 0 ≤ (l0_2.length : Int)
 ·rw [if_pos c2] at H
  have c2b0 := eq_true c2
  have c2b1 : decide (0 ≤ (l0_2.length : Int)) = true := decide_eq_true c2
  clear c2
  by_cases c3 : ((l0_2.length : Int) : Int).toNat ≤ 35184372088832
  ·rw [if_pos c3] at H
   have c3b0 := eq_true c3
   have c3b1 : decide (((l0_2.length : Int) : Int).toNat ≤ 35184372088832) = true := decide_eq_true c3
   clear c3
   obtain ⟨y249, hy249⟩ : ∃ y_ : List Int, y_ = (List.replicate ((l0_2.length : Int) : Int).toNat 0) := ⟨_, rfl⟩
   replace H : (if ((l0_2.length : Int) : Int).toNat ≤ 5864062014805 then (qK.l0 k y249 (List.replicate ((l0_2.length : Int) : Int).toNat z31) (y249.length : Int) 0 a0_0 a0_1 l0_2) else (none)) = some (r1, r2) := by first | (rw [hy249]; with_reducible exact H) | (have H2_ := (Option.bind_some _ _).symm.trans H; rw [hy249]; with_reducible exact H2_) | (have H2_ := (Option.bind_some _ _).symm.trans H; with_reducible exact H2_) | with_reducible exact H | (rw [hy249]; exact H) | exact H
   have Ny249 := Aside0.mk hy249
   clear hy249
   by_cases c4 : ((l0_2.length : Int) : Int).toNat ≤ 5864062014805
   ·rw [if_pos c4] at H
    have c4b0 := eq_true c4
    have c4b1 : decide (((l0_2.length : Int) : Int).toNat ≤ 5864062014805) = true := decide_eq_true c4
    clear c4
    obtain ⟨y252, hy252⟩ : ∃ y_ : List (S31), y_ = (List.replicate ((l0_2.length : Int) : Int).toNat z31) := ⟨_, rfl⟩
    replace H : (qK.l0 k y249 y252 (y249.length : Int) 0 a0_0 a0_1 l0_2) = some (r1, r2) := by first | (rw [hy252]; with_reducible exact H) | (have H2_ := (Option.bind_some _ _).symm.trans H; rw [hy252]; with_reducible exact H2_) | (have H2_ := (Option.bind_some _ _).symm.trans H; with_reducible exact H2_) | with_reducible exact H | (rw [hy252]; exact H) | exact H
    have Ny252 := Aside0.mk hy252
    clear hy252
    have H' := Aside0.mk H
    clear H
    go_enter Tryd.func50, Tryd.ntmps50
    go_wp2_with (first | ((with_reducible refine qX (N := 1) rfl ?_); refine qW ?hg (N := 1) ?hd (cs := #[.int .i64 a0_0, .int .i64 a0_1, .slice A0_2 l0_2.length c0_2]) (t := 45) ?hr ?_; (case hd => rfl); (case hg => rfl); (case hr => first | (go_simp; done) | (go_simp; rfl)); intro gb248 hg w5 hbox hb; have n0_ := Aside0.mk (qJ bl hb); have n1_ := Aside0.mk (hbox); have n2_ := Aside0.mk ((gg hg)); have n3_ := Aside0.mk ((gg hg)); clear HB; have HB := n0_; have BK248 := n1_; have GW248 := n2_; have GE248 := n3_; clear n0_ n1_ n2_ n3_; clear hb hbox hg; have hcz6_0 := bc BK248 0; have hcz6_1 := bc BK248 1; have hcz6_2 := bc BK248 2; have hfz6_0 := qA BK248.out 0; have hfz6_1 := qA BK248.out 1; have hfz6_2 := qA BK248.out 2) | ((with_reducible refine qX (N := 18) rfl ?_); refine Kd.qBD (Kd.int .i64) _ 3 rfl (N := 18) rfl 25 _ _ rfl (l0_2.length : Int) rfl rfl Tryd.underlying25 (.int .i64 0) 8 info3 rfl (by decide) (by omega) 0 (ok := fun _ => True) (okp := fun _ => True) rfl (fun _ hk => hk) trivial (of_decide_eq_true (by first | (with_reducible assumption) | assumption)) (Nat.le_trans (Nat.mul_le_mul_right _ (of_decide_eq_true (by first | (with_reducible assumption) | assumption) : (l0_2.length : Int).toNat ≤ 35184372088832)) (by omega)) (Below.refl _ _) (Nat.le_refl _) ?_; intro v250 w7 ho8 hb hg_ hnew_; clear hg_ hnew_; (first | rw [← Ny249.out] at ho8 | (simp only [Int.reduceToNat] at ho8; rw [← Ny249.out] at ho8)); have n0_ := Aside0.mk (Kd.qEA ho8 (qb bl)); have n1_ := Aside0.mk (bb BK248 hb); have n2_ := Aside0.mk (qJ bl hb); clear BK248; clear HB; have HO251 := n0_; have BK248 := n1_; have HB := n2_; clear n0_ n1_ n2_; clear hb ho8; have hcz9_0 := bc BK248 0; have hcz9_1 := bc BK248 1; have hcz9_2 := bc BK248 2; have hfz9_0 := qA BK248.out 0; have hfz9_1 := qA BK248.out 1; have hfz9_2 := qA BK248.out 2) | ((with_reducible refine qX (N := 22) rfl ?_); refine Kd.qBD k31 _ 31 rfl (N := 22) rfl 69 _ _ rfl (l0_2.length : Int) rfl rfl Tryd.underlying69 (.agg #[(.int .i64 0), (.int .i64 0), (.int .i64 0), (.int .i64 0), (.int .i64 0), (.int .i64 0)]) 48 info31 rfl (by decide) (by omega) z31 (ok := fun _ => True) (okp := fun _ => True) (qrB _ _ _ z31 ) (fun _ hk => hk) trivial (of_decide_eq_true (by first | (with_reducible assumption) | assumption)) (Nat.le_trans (Nat.mul_le_mul_right _ (of_decide_eq_true (by first | (with_reducible assumption) | assumption) : (l0_2.length : Int).toNat ≤ 5864062014805)) (by omega)) (Below.refl _ _) (Nat.le_refl _) ?_; intro v253 w10 ho11 hb hg_ hnew_; clear hg_ hnew_; (first | rw [← Ny252.out] at ho11 | (simp only [Int.reduceToNat] at ho11; rw [← Ny252.out] at ho11)); have n0_ := Aside0.mk (Kd.qU (by (with_reducible repeat (first | apply Kd.qF | apply Kd.qG | apply Kd.qH)); exact HO251.out) hb); have n1_ := Aside0.mk (Kd.qEA ho11 (qb bl)); have n2_ := Aside0.mk (bb BK248 hb); have n3_ := Aside0.mk (qJ bl hb); clear HO251; clear BK248; clear HB; have HO251 := n0_; have HO254 := n1_; have BK248 := n2_; have HB := n3_; clear n0_ n1_ n2_ n3_; clear hb ho11; obtain ⟨Ao12, co12, eo12⟩ := Kd.qr HO251.out; subst eo12))
    go_loopg [25] k (fun kq v25 w' => ∃ (x18_1 : List Int) (x25_1 : Int), v25 = .int .i64 x25_1 ∧ Aside0 (qK.l0 kq x18_1 y252 (y249.length : Int) x25_1 a0_0 a0_1 l0_2 = some (r1, r2)) ∧ Aside0 (kq ≤ k) ∧ Aside0 (Kd.R (Kd.int .i64) 3 w' w.heap.size (fun _ => True) (.slice Ao12 y249.length co12) x18_1) ∧ Aside0 (Kd.R k31 31 w' w.heap.size (fun _ => True) v253 y252) ∧ Aside0 (w'.heap[gb248]? = some (.cells #[.int .i64 a0_0, .int .i64 a0_1, (.slice A0_2 l0_2.length c0_2)] 45 (0, 0))) ∧ Aside0 (Below w.heap.size w w'))
    case atStart => exact ⟨(y249), (0), (by first | rfl | (simp; done) | (simp [*]; done)), H', ⟨Nat.le_refl _⟩, ⟨by (with_reducible repeat (first | apply Kd.qF | apply Kd.qG | apply Kd.qH)); exact HO251.out⟩, ⟨by (with_reducible repeat (first | apply Kd.qF | apply Kd.qG | apply Kd.qH)); exact HO254.out⟩, ⟨by (with_reducible repeat (first | refine qD ?_ _ | refine qE ?_ | refine qC ?_ _)); exact BK248.out⟩, ⟨bl⟩⟩
    case round =>
     clear H'
     try clear c2
     try clear c2b0
     try clear c2b1
     try clear p2
     try clear c3
     try clear c3b0
     try clear c3b1
     try clear c4
     try clear c4b0
     try clear c4b1
     try clear c5
     try clear hcz6_0
     try clear hcz6_1
     try clear hcz6_2
     try clear hcz9_0
     try clear hcz9_1
     try clear hcz9_2
     try clear hfz6_0
     try clear hfz6_1
     try clear hfz6_2
     try clear hfz9_0
     try clear hfz9_1
     try clear hfz9_2
     obtain ⟨x18_1, x25_1, rfl, HA, HK1, HO_18, HO_22, BK248, HB⟩ := hrel
     have hl18_1 := (Kd.qS HO_18.out).1
     rw [hl18_1] at HO_18
     (try simp only [hl18_1])
     (try simp only [hl18_1] at BK248)
     (try simp only [hl18_1] at HO_22)
     cases gk with
     | zero => exact absurd HA.out (by simp [qK.l0])
     | succ k1 =>
      have H := HA.out
      clear HA
      simp only [qK.l0] at H
      by_cases c13 : x25_1 < (y249.length : Int)
      ·rw [if_pos c13] at H
       have c13b0 : decide (x25_1 < (y249.length : Int)) = true := decide_eq_true c13
       (try (have c13b0_hl18_1 := c13b0; simp only [hl18_1] at c13b0_hl18_1))
       clear c13
       by_cases c14 : 0 ≤ x25_1
       ·rw [if_pos c14] at H
        have c14b0 : decide (0 ≤ x25_1) = true := decide_eq_true c14
        clear c14
        by_cases c15 : x25_1 < (x18_1.length : Int)
        ·rw [if_pos c15] at H
         have c15b0 : decide (x25_1 < (x18_1.length : Int)) = true := decide_eq_true c15
         (try (have c15b0_hl18_1 := c15b0; simp only [hl18_1] at c15b0_hl18_1))
         clear c15
         obtain ⟨y255, hy255⟩ : ∃ y_ : List Int, y_ = (x18_1.set (x25_1 : Int).toNat (-1)) := ⟨_, rfl⟩
         replace H : (qK.l0 k1 y255 y252 (y249.length : Int) (wrap64 (x25_1 + 1)) a0_0 a0_1 l0_2) = some (r1, r2) := by first | (rw [hy255]; with_reducible exact H) | (have H2_ := (Option.bind_some _ _).symm.trans H; rw [hy255]; with_reducible exact H2_) | (have H2_ := (Option.bind_some _ _).symm.trans H; with_reducible exact H2_) | with_reducible exact H | (rw [hy255]; exact H) | exact H
         have Ny255 := Aside0.mk hy255
         clear hy255
         have H' := Aside0.mk H
         clear H
         have p16 : 0 ≤ (x25_1 : Int) := of_decide_eq_true (by first | (with_reducible assumption) | assumption)
         have q16 : (x25_1 : Int) < ((x18_1.length : Int) : Int) := of_decide_eq_true (by first | (with_reducible assumption) | assumption)
         obtain ⟨go16, co16, eo16, gb16, gl16, cl16, HG16⟩ := Kd.qtB HO_18.out (by omega)
         (first | cases eo16 | (injection eo16 with ea_ en_ ec_; (first | subst ea_ | (injection ea_ with ea_; subst ea_)); subst ec_; clear en_))
         have GB16 := Aside0.mk gb16
         have GG16 := Aside0.mk HG16
         clear gb16 gl16 HG16
         obtain ⟨hx16_0, hf16_0⟩ := Kd.quA 0 HO_18.out (x25_1 : Int) p16 q16
         replace p16 := eq_true p16
         replace q16 := eq_true q16
         have HP17 := Kd.qsB HO_18.out (x25_1 : Int) (-1)
         go_wp2_with (first | ((with_reducible refine qiA (t := 3) (p := 30) rfl ?_); refine qcA (t := 3) (p := 30) (v := ?vo_w18) (w1 := (wr.setCell ⟨go16, (x25_1 : Int).toNat, none⟩ (.int .i64 (-1)))) ?hg ?ho ?hn ?hr ?_; (case ho => rfl); (case hg => rfl); (case hn => rfl); (case hr => first | (go_simp; done) | (go_simp; rfl)); intro w18 hw; have hg : wr.grownBy w18 (some go16) := (by rw [hw]; exact HP17.2); have hp_ : Kd.R (Kd.int .i64) 3 w18 w.heap.size (fun _ => True) (.slice (some ⟨go16, 0, none⟩) x18_1.length co12) y255 := (by rw [hw, Ny255.out]; exact HP17.1); clear HP17; have n0_ := Aside0.mk (hp_); have n1_ := Aside0.mk (Kd.qqA (v := (.slice (some ⟨go16, 0, none⟩) x18_1.length co12)) (by (with_reducible repeat (first | apply Kd.qF | apply Kd.qG | apply Kd.qH)); exact HO_22.out) (Kd.qOA HO_18.out) (by decide) hg); have n2_ := Aside0.mk (qfA (g := gb248) (o := .cells #[.int .i64 a0_0, .int .i64 a0_1, .slice A0_2 l0_2.length c0_2] 45 (0, 0)) (by (with_reducible repeat (first | refine qD ?_ _ | refine qE ?_ | refine qC ?_ _)); exact BK248.out) hg (Kd.R_ne HO_18.out BK248.out (by decide))); have n3_ := Aside0.mk ((by rw [hw]; exact ql (HB.out) GB16.out : Below w.heap.size w w18)); clear HO_18; clear HO_22; clear BK248; clear HB; have HO_18 := n0_; have HO_22 := n1_; have BK248 := n2_; have HB := n3_; clear n0_ n1_ n2_ n3_; clear hg hw hp_))
         (try simp only [← hl18_1])
         go_roundg k1
         case measure => have := HK1.out; omega
         case rel => exact ⟨(y255), (wrap64 (x25_1 + 1)), (by first | rfl | (simp; done) | (simp [*]; done)), H', ⟨by have := HK1.out; omega⟩, ⟨by (try simp only [hl18_1]); (with_reducible repeat (first | apply Kd.qF | apply Kd.qG | apply Kd.qH)); exact HO_18.out⟩, ⟨by (try simp only [hl18_1]); (with_reducible repeat (first | apply Kd.qF | apply Kd.qG | apply Kd.qH)); exact HO_22.out⟩, ⟨by (try simp only [hl18_1]); (with_reducible repeat (first | refine qD ?_ _ | refine qE ?_ | refine qC ?_ _)); exact BK248.out⟩, ⟨bl⟩⟩
        ·rw [if_neg c15] at H
         exact absurd H (by simp)
       ·rw [if_neg c14] at H
        exact absurd H (by simp)
      ·rw [if_neg c13] at H
       have c13b0 : decide (x25_1 < (y249.length : Int)) = false := decide_eq_false c13
       (try (have c13b0_hl18_1 := c13b0; simp only [hl18_1] at c13b0_hl18_1))
       clear c13
       replace H := Option.bind_eq_some_iff.mp H
       obtain ⟨t256, A190, H⟩ := H
       replace H : (if 0 < (t256.length : Int) then ((qRB.f).bind fun bt260 => (if 0 ≤ (rd t256 0) then (if (rd t256 0) < (y252.length : Int) then (if (rd t256 0) < (x18_1.length : Int) then (qK.l1 k1 (([rd t256 0] : List Int)) 0 (x18_1.set ((rd t256 0) : Int).toNat 5) (y252.set ((rd t256 0) : Int).toNat (⟨bt260.1, bt260.2.1, bt260.2.2.1, bt260.2.2.2.1, bt260.2.2.2.2.1, bt260.2.2.2.2.2⟩ : S31)) t256 a0_0 a0_1 l0_2) else (none)) else (none)) else (none))) else (none)) = some (r1, r2) := H
       have A19 := Aside0.mk A190
       clear A190
       by_cases c20 : 0 < (t256.length : Int)
       ·rw [if_pos c20] at H
        have c20b0 : decide (0 < (t256.length : Int)) = true := decide_eq_true c20
        (try (have c20b0_hl18_1 := c20b0; simp only [hl18_1] at c20b0_hl18_1))
        have c20b1 : decide (0 < t256.length) = true := decide_eq_true (by omega)
        clear c20
        replace H := Option.bind_eq_some_iff.mp H
        obtain ⟨⟨t260, t261, t262, t263, t264, t265⟩, A210, H⟩ := H
        replace H : (if 0 ≤ (rd t256 0) then (if (rd t256 0) < (y252.length : Int) then (if (rd t256 0) < (x18_1.length : Int) then (qK.l1 k1 (([rd t256 0] : List Int)) 0 (x18_1.set ((rd t256 0) : Int).toNat 5) (y252.set ((rd t256 0) : Int).toNat (⟨t260, t261, t262, t263, t264, t265⟩ : S31)) t256 a0_0 a0_1 l0_2) else (none)) else (none)) else (none)) = some (r1, r2) := H
        have A21 := Aside0.mk A210
        clear A210
        by_cases c22 : 0 ≤ (rd t256 0)
        ·rw [if_pos c22] at H
         have c22b0 : decide (0 ≤ (rd t256 0)) = true := decide_eq_true c22
         clear c22
         by_cases c23 : (rd t256 0) < (y252.length : Int)
         ·rw [if_pos c23] at H
          have c23b0 : decide ((rd t256 0) < (y252.length : Int)) = true := decide_eq_true c23
          (try (have c23b0_hl18_1 := c23b0; simp only [hl18_1] at c23b0_hl18_1))
          clear c23
          obtain ⟨y266, hy266⟩ : ∃ y_ : List (S31), y_ = (y252.set ((rd t256 0) : Int).toNat (⟨t260, t261, t262, t263, t264, t265⟩ : S31)) := ⟨_, rfl⟩
          replace H : (if (rd t256 0) < (x18_1.length : Int) then (qK.l1 k1 (([rd t256 0] : List Int)) 0 (x18_1.set ((rd t256 0) : Int).toNat 5) y266 t256 a0_0 a0_1 l0_2) else (none)) = some (r1, r2) := by first | (rw [hy266]; with_reducible exact H) | (have H2_ := (Option.bind_some _ _).symm.trans H; rw [hy266]; with_reducible exact H2_) | (have H2_ := (Option.bind_some _ _).symm.trans H; with_reducible exact H2_) | with_reducible exact H | (rw [hy266]; exact H) | exact H
          have Ny266 := Aside0.mk hy266
          clear hy266
          by_cases c25 : (rd t256 0) < (x18_1.length : Int)
          ·rw [if_pos c25] at H
           have c25b0 : decide ((rd t256 0) < (x18_1.length : Int)) = true := decide_eq_true c25
           (try (have c25b0_hl18_1 := c25b0; simp only [hl18_1] at c25b0_hl18_1))
           clear c25
           obtain ⟨y268, hy268⟩ : ∃ y_ : List Int, y_ = (x18_1.set ((rd t256 0) : Int).toNat 5) := ⟨_, rfl⟩
           replace H : (qK.l1 k1 (([rd t256 0] : List Int)) 0 y268 y266 t256 a0_0 a0_1 l0_2) = some (r1, r2) := by first | (rw [hy268]; with_reducible exact H) | (have H2_ := (Option.bind_some _ _).symm.trans H; rw [hy268]; with_reducible exact H2_) | (have H2_ := (Option.bind_some _ _).symm.trans H; with_reducible exact H2_) | with_reducible exact H | (rw [hy268]; exact H) | exact H
           have Ny268 := Aside0.mk hy268
           clear hy268
           obtain ⟨y270, hy270⟩ : ∃ y_ : List Int, y_ = (([rd t256 0] : List Int)) := ⟨_, rfl⟩
           replace H : (qK.l1 k1 y270 0 y268 y266 t256 a0_0 a0_1 l0_2) = some (r1, r2) := by first | (rw [hy270]; with_reducible exact H) | (have H2_ := (Option.bind_some _ _).symm.trans H; rw [hy270]; with_reducible exact H2_) | (have H2_ := (Option.bind_some _ _).symm.trans H; with_reducible exact H2_) | with_reducible exact H | (rw [hy270]; exact H) | exact H
           have Ny270 := Aside0.mk hy270
           clear hy270
           have H' := Aside0.mk H
           clear H
           have hcz27_0 := bc BK248 0
           have hcz27_1 := bc BK248 1
           have hcz27_2 := bc BK248 2
           have hfz27_0 := qA BK248.out 0
           have hfz27_1 := qA BK248.out 1
           have hfz27_2 := qA BK248.out 2
           try go_wp2_with (first | ((with_reducible refine qa (f := 36) rfl ?_); refine qQA (some 33) rfl rfl Tryd.func36 (by kernel_rfl) rfl #[.agg #[.int .i64 a0_0, .int .i64 a0_1, .slice A0_2 l0_2.length c0_2]] rfl (by (try simp only [List.map_toArray, List.map_cons, List.map_nil]); first | done | rfl | (simp only [List.length_drop, List.length_take]; rfl)) ?_; (with_reducible refine (qg.calls k1 a0_0 a0_1 _ _ l0_2 t256 _ ?side1 ?side2 A19.out).mono ?_); (case side1 => repeat (first | exact (Kd.qyA HR0_2.out HB.out) | (with_reducible refine Kd.qZA ?_ _) | (with_reducible refine Kd.qYA ?_ _) | (with_reducible refine Kd.qpA ?_))); (case side2 => exact HC0_2.out); rintro e w28 ⟨v257, rfl, ho0, hb⟩; refine ⟨_, rfl, ?_⟩; have n0_ := Aside0.mk (Kd.qmA (by (with_reducible repeat (first | apply Kd.qF | apply Kd.qG | apply Kd.qH)); exact HO_18.out) (Kd.qLB ho0) hb); have n1_ := Aside0.mk (Kd.qU (by (with_reducible repeat (first | apply Kd.qF | apply Kd.qG | apply Kd.qH)); exact HO_22.out) hb); have n2_ := Aside0.mk (Kd.qEA (Kd.qKB ho0 (Kd.R_lt (by (with_reducible repeat (first | apply Kd.qF | apply Kd.qG | apply Kd.qH)); exact HO_18.out))) (qb bl)); have n3_ := Aside0.mk (bb BK248 hb); have n4_ := Aside0.mk (qJ bl hb); clear HO_18; clear HO_22; clear BK248; clear HB; have HO_18 := n0_; have HO_22 := n1_; have HO258 := n2_; have BK248 := n3_; have HB := n4_; clear n0_ n1_ n2_ n3_ n4_; (try clear hb); (try clear hb2); (try clear hk); (try clear hi); (try clear ho0)))
           have n0_ := Aside0.mk (Kd.qH HO_18.out)
           have n1_ := Aside0.mk (Kd.qH HO_22.out)
           have n2_ := Aside0.mk (Kd.qH HO258.out)
           have n3_ := Aside0.mk (qE BK248.out)
           have n4_ := Aside0.mk (qk HB.out)
           clear HO_18
           clear HO_22
           clear HO258
           clear BK248
           clear HB
           have HO_18 := n0_
           have HO_22 := n1_
           have HO258 := n2_
           have BK248 := n3_
           have HB := n4_
           clear n0_ n1_ n2_ n3_ n4_
           obtain ⟨Ao30, co30, eo30⟩ := Kd.qr HO258.out
           (first | subst eo30 | (injection eo30 with f1_ f2_ f3_; have f4_ := f1_.symm; have f5_ := f3_.symm; clear f1_ f2_ f3_; subst f4_; subst f5_))
           have p259 : 0 ≤ (0 : Int) := (by omega)
           have q259 : 0 < (t256.length : Int) := of_decide_eq_true (by first | (with_reducible assumption) | assumption)
           obtain ⟨ad259, e259, hx259_0⟩ := Kd.qGA (Kd.qS HO258.out).2.2 0 p259 q259
           cases e259
           have qi259 : (0 < t256.length) = True := eq_true (by omega)
           (try rw [show ((0 : Int)).toNat = 0 from rfl] at hx259_0)
           (try rw [Addr.add_zero'] at hx259_0)
           replace p259 := eq_true p259
           replace q259 := eq_true q259
           refine qwA (n := 7) (S := fun w' => w'.cell? ad259 = some (.int .i64 (rd t256 0))) (ds := [6]) #[false, false, false, false, false, false, false] (by kernel_rfl) rfl rfl (hx259_0) (fun hHeld => ?_)
           generalize w28.drew = w29 at HO_18 HO_22 HO258 BK248 HB hx259_0 hHeld ⊢
           refine pure_ (i := 0) (N := some 34) (v := ?_) (a' := ?_) #[true, false, false, false, false, false, false] rfl rfl (by kernel_rfl) (fun _ _ _ h => h) (Or.inl ⟨by rfl, ?_⟩) ?_ ?_
           rotate_left
           ·intro w'
            go_simp
            first | (with_reducible rfl) | (rw [if_neg (by simp only [ByteArray.size_extract, ByteArray.size_append] at * <;> omega)]; try with_reducible rfl)
           rotate_left
           ·simp only [Act.put, List.setIfInBounds_toArray, List.set_cons_zero, List.set_cons_succ, i64_w, i32_w]
            rfl
           refine pure_ (i := 1) (N := some 35) (v := ?_) (a' := ?_) #[true, true, false, false, false, false, false] rfl rfl (by kernel_rfl) (fun _ _ _ h => h) (Or.inl ⟨by rfl, ?_⟩) ?_ ?_
           rotate_left
           ·intro w'
            go_simp
            first | (with_reducible rfl) | (rw [if_neg (by simp only [ByteArray.size_extract, ByteArray.size_append] at * <;> omega)]; try with_reducible rfl)
           rotate_left
           ·simp only [Act.put, List.setIfInBounds_toArray, List.set_cons_zero, List.set_cons_succ, i64_w, i32_w]
            rfl
           refine pure_ (i := 2) (N := some 36) (v := ?_) (a' := ?_) #[true, true, true, false, false, false, false] rfl rfl (by kernel_rfl) (fun _ _ _ h => h) (Or.inl ⟨by rfl, ?_⟩) ?_ ?_
           rotate_left
           ·intro w'
            go_simp
            first | (with_reducible rfl) | (rw [if_neg (by simp only [ByteArray.size_extract, ByteArray.size_append] at * <;> omega)]; try with_reducible rfl)
           rotate_left
           ·simp only [Act.put, List.setIfInBounds_toArray, List.set_cons_zero, List.set_cons_succ, i64_w, i32_w]
            rfl
           refine take_ (i := 3) (N := some 37) (v := ?_) (a' := ?_) #[true, true, true, true, false, false, false] rfl rfl (by kernel_rfl) (fun _ _ _ h => h) (Or.inl ⟨by rfl, ?_⟩) hHeld ?_ ?_
           rotate_left
           ·intro w' s0
            go_simp
            first | (with_reducible rfl) | (rw [if_neg (by simp only [ByteArray.size_extract, ByteArray.size_append] at * <;> omega)]; try with_reducible rfl)
           rotate_left
           ·simp only [Act.put, List.setIfInBounds_toArray, List.set_cons_zero, List.set_cons_succ, i64_w, i32_w]
            rfl
           refine one_ (i := 4) (N := some 38) #[true, true, true, true, true, false, false] rfl rfl (by kernel_rfl) (by decide) (fun K hK => ?_)
           refine goes_ Tryd.func72 (by kernel_rfl) rfl #[] (by rfl) rfl rfl (by (try simp only [List.map_toArray, List.map_cons, List.map_nil]); first | done | rfl | (simp only [List.length_drop, List.length_take]; rfl)) ?_
           with_reducible refine (qRB.calls  t260 t261 t262 t263 t264 t265 _ A21.out).mono ?_
           rintro e w31 ⟨rfl, hb⟩
           have HS0_ := (hb.cell (World.block_lt_of_cell? _ _ (hHeld))).trans (hHeld)
           refine ⟨_, rfl, ?_⟩
           have n0_ := Aside0.mk (Kd.qU (by (with_reducible repeat (first | apply Kd.qF | apply Kd.qG | apply Kd.qH)); exact HO_18.out) hb)
           have n1_ := Aside0.mk (Kd.qU (by (with_reducible repeat (first | apply Kd.qF | apply Kd.qG | apply Kd.qH)); exact HO_22.out) hb)
           have n2_ := Aside0.mk (Kd.qU (by (with_reducible repeat (first | apply Kd.qF | apply Kd.qG | apply Kd.qH)); exact HO258.out) hb)
           have n3_ := Aside0.mk (bb BK248 hb)
           have n4_ := Aside0.mk (qJ bl hb)
           clear HO_18
           clear HO_22
           clear HO258
           clear BK248
           clear HB
           have HO_18 := n0_
           have HO_22 := n1_
           have HO258 := n2_
           have BK248 := n3_
           have HB := n4_
           clear n0_ n1_ n2_ n3_ n4_
           (try clear hb)
           (try clear hb2)
           (try clear hk)
           (try clear hi)
           have p24 : 0 ≤ ((rd t256 0) : Int) := of_decide_eq_true (by first | (with_reducible assumption) | assumption)
           have q24 : ((rd t256 0) : Int) < ((y252.length : Int) : Int) := of_decide_eq_true (by first | (with_reducible assumption) | assumption)
           obtain ⟨go24, co24, eo24, gb24, gl24, cl24, HG24⟩ := Kd.qtB HO_22.out (by omega)
           (first | cases eo24 | (injection eo24 with ea_ en_ ec_; (first | subst ea_ | (injection ea_ with ea_; subst ea_)); subst ec_; clear en_))
           have GB24 := Aside0.mk gb24
           have GG24 := Aside0.mk HG24
           clear gb24 gl24 HG24
           obtain ⟨ce24, hcl24, hM24, hcc24, hfr24⟩ := Kd.qXC HO_22.out z31 ((rd t256 0) : Int) p24 q24
           obtain rfl := qMB hM24
           have hx24_0 : World.cell? _ ⟨go24, ((rd t256 0) : Int).toNat * 6, none⟩ = some (.int .i64 ((qP y252 (rd t256 0)).f0)) := hcc24 0 _ rfl
           have hx24_1 : World.cell? _ ⟨go24, ((rd t256 0) : Int).toNat * 6 + 1, none⟩ = some (.int .i64 ((qP y252 (rd t256 0)).f1)) := hcc24 1 _ rfl
           have hx24_2 : World.cell? _ ⟨go24, ((rd t256 0) : Int).toNat * 6 + 2, none⟩ = some (.int .i64 ((qP y252 (rd t256 0)).f2)) := hcc24 2 _ rfl
           have hx24_3 : World.cell? _ ⟨go24, ((rd t256 0) : Int).toNat * 6 + 3, none⟩ = some (.int .i64 ((qP y252 (rd t256 0)).f3)) := hcc24 3 _ rfl
           have hx24_4 : World.cell? _ ⟨go24, ((rd t256 0) : Int).toNat * 6 + 4, none⟩ = some (.int .i64 ((qP y252 (rd t256 0)).f4)) := hcc24 4 _ rfl
           have hx24_5 : World.cell? _ ⟨go24, ((rd t256 0) : Int).toNat * 6 + 5, none⟩ = some (.int .i64 ((qP y252 (rd t256 0)).f5)) := hcc24 5 _ rfl
           have hf24_0 : World.frozen? _ ⟨go24, ((rd t256 0) : Int).toNat * 6, none⟩ = false := hfr24 0
           have hf24_1 : World.frozen? _ ⟨go24, ((rd t256 0) : Int).toNat * 6 + 1, none⟩ = false := hfr24 1
           have hf24_2 : World.frozen? _ ⟨go24, ((rd t256 0) : Int).toNat * 6 + 2, none⟩ = false := hfr24 2
           have hf24_3 : World.frozen? _ ⟨go24, ((rd t256 0) : Int).toNat * 6 + 3, none⟩ = false := hfr24 3
           have hf24_4 : World.frozen? _ ⟨go24, ((rd t256 0) : Int).toNat * 6 + 4, none⟩ = false := hfr24 4
           have hf24_5 : World.frozen? _ ⟨go24, ((rd t256 0) : Int).toNat * 6 + 5, none⟩ = false := hfr24 5
           clear hcl24 hcc24 hfr24 hM24
           replace p24 := eq_true p24
           replace q24 := eq_true q24
           obtain ⟨ce32, hcl32, hM32, hcc32, hfr32⟩ := Kd.qXC (Kd.qVB (Kd.qVB HO_22.out (Kd.qOA HO_18.out) (by decide)) (Kd.qOA HO258.out) (by decide)) z31 ((rd t256 0) : Int) (of_decide_eq_true (by first | (with_reducible assumption) | assumption)) (by have h_ : ((rd t256 0) : Int) < ((y252.length : Int) : Int) := of_decide_eq_true (by first | (with_reducible assumption) | assumption); first | exact h_ | (have e_ := (Kd.qS HO_22.out).1; omega) | simpa using h_)
           obtain rfl := qMB hM32
           have HP32 := (Kd.R_seg (Kd.qVB (Kd.qVB HO_22.out (Kd.qOA HO_18.out) (by decide)) (Kd.qOA HO258.out) (by decide)) ((rd t256 0) : Int) (of_decide_eq_true (by first | (with_reducible assumption) | assumption)) (by have h_ : ((rd t256 0) : Int) < ((y252.length : Int) : Int) := of_decide_eq_true (by first | (with_reducible assumption) | assumption); first | exact h_ | (have e_ := (Kd.qS HO_22.out).1; omega) | simpa using h_) (seg := [.int .i64 t260, .int .i64 t261, .int .i64 t262, .int .i64 t263, .int .i64 t264, .int .i64 t265]) (j := 0) hcl32 hcc32 (show 6 ≤ 6 from by decide) (x' := (⟨t260, t261, t262, t263, t264, t265⟩ : S31)) (qrB _ _ _ (⟨t260, t261, t262, t263, t264, t265⟩ : S31) ) (fun _ hk => hk)).1
           rw [← Ny266.out] at HP32
           have HQ32 := Aside0.mk HP32
           clear hcl32 hcc32 hfr32 hM32 HP32
           refine hK.out _ _ (HS0_) (fun hHeld => ?_)
           clear hK K
           refine norm_ (a' := ?_) ?_ ?_
           rotate_left
           ·show Act.put _ (some 38) _ = _
            simp only [Act.put, List.setIfInBounds_toArray, List.set_cons_zero, List.set_cons_succ, i64_w, i32_w]
            rfl
           refine pure_ (i := 5) (N := some 39) (v := ?_) (a' := ?_) #[true, true, true, true, true, true, false] rfl rfl (by kernel_rfl) (fun _ _ _ h => h) (Or.inl ⟨by rfl, ?_⟩) ?_ ?_
           rotate_left
           ·intro w'
            go_simp
            first | (with_reducible rfl) | (rw [if_neg (by simp only [ByteArray.size_extract, ByteArray.size_append] at * <;> omega)]; try with_reducible rfl)
           rotate_left
           ·simp only [Act.put, List.setIfInBounds_toArray, List.set_cons_zero, List.set_cons_succ, i64_w, i32_w]
            rfl
           refine last_ (i := 6) (N := none) #[true, true, true, true, true, true, true] rfl rfl (by kernel_rfl) (by decide) (fun K hK => ?_)
           refine skip_ (w1 := ?_) (by rfl) rfl ?_ ?_
           rotate_left
           ·go_simp
            rfl
           refine hK.out _ _ ?_
           clear hK K
           refine done_ (by kernel_rfl) ?_
           have n0_ : Aside0 (Kd.R (Kd.int .i64) 3 ((((((w31.setCell ⟨go24, ((rd t256 0) : Int).toNat * 6, none⟩ (.int .i64 t260)).setCell ⟨go24, ((rd t256 0) : Int).toNat * 6 + 1, none⟩ (.int .i64 t261)).setCell ⟨go24, ((rd t256 0) : Int).toNat * 6 + 2, none⟩ (.int .i64 t262)).setCell ⟨go24, ((rd t256 0) : Int).toNat * 6 + 3, none⟩ (.int .i64 t263)).setCell ⟨go24, ((rd t256 0) : Int).toNat * 6 + 4, none⟩ (.int .i64 t264)).setCell ⟨go24, ((rd t256 0) : Int).toNat * 6 + 5, none⟩ (.int .i64 t265)) w.heap.size (fun k_ => some k_ ≠ (.slice (some ad259) t256.length co30 : Value).ownBlock) (.slice Ao12 x18_1.length co12) x18_1) := ⟨by (with_reducible repeat (first | apply Kd.qF | apply Kd.qG | apply Kd.qH)); exact Kd.qd (Kd.R_far (p := ⟨go24, ((rd t256 0) : Int).toNat * 6 + 5, none⟩) (Kd.R_far (p := ⟨go24, ((rd t256 0) : Int).toNat * 6 + 4, none⟩) (Kd.R_far (p := ⟨go24, ((rd t256 0) : Int).toNat * 6 + 3, none⟩) (Kd.R_far (p := ⟨go24, ((rd t256 0) : Int).toNat * 6 + 2, none⟩) (Kd.R_far (p := ⟨go24, ((rd t256 0) : Int).toNat * 6 + 1, none⟩) (Kd.R_far (p := ⟨go24, ((rd t256 0) : Int).toNat * 6, none⟩) (Kd.qRA HO_18.out (by first | exact GG24.out | exact (Kd.qOA HO_22.out go24 rfl).choose_spec) (by decide)) (fun _ hk => hk.2) (.int .i64 t260)) (fun _ hk => hk.2) (.int .i64 t261)) (fun _ hk => hk.2) (.int .i64 t262)) (fun _ hk => hk.2) (.int .i64 t263)) (fun _ hk => hk.2) (.int .i64 t264)) (fun _ hk => hk.2) (.int .i64 t265)) (fun _ hk => hk.1.2)⟩
           have n1_ : Aside0 (Kd.R k31 31 ((((((w31.setCell ⟨go24, ((rd t256 0) : Int).toNat * 6, none⟩ (.int .i64 t260)).setCell ⟨go24, ((rd t256 0) : Int).toNat * 6 + 1, none⟩ (.int .i64 t261)).setCell ⟨go24, ((rd t256 0) : Int).toNat * 6 + 2, none⟩ (.int .i64 t262)).setCell ⟨go24, ((rd t256 0) : Int).toNat * 6 + 3, none⟩ (.int .i64 t263)).setCell ⟨go24, ((rd t256 0) : Int).toNat * 6 + 4, none⟩ (.int .i64 t264)).setCell ⟨go24, ((rd t256 0) : Int).toNat * 6 + 5, none⟩ (.int .i64 t265)) w.heap.size (fun _ => True) (.slice (some ⟨go24, 0, none⟩) y252.length co24) y266) := ⟨by (with_reducible repeat (first | apply Kd.qF | apply Kd.qG | apply Kd.qH)); exact Kd.qd HQ32.out (fun _ hk => trivial)⟩
           have n2_ : Aside0 (Kd.R (Kd.int .i64) 3 ((((((w31.setCell ⟨go24, ((rd t256 0) : Int).toNat * 6, none⟩ (.int .i64 t260)).setCell ⟨go24, ((rd t256 0) : Int).toNat * 6 + 1, none⟩ (.int .i64 t261)).setCell ⟨go24, ((rd t256 0) : Int).toNat * 6 + 2, none⟩ (.int .i64 t262)).setCell ⟨go24, ((rd t256 0) : Int).toNat * 6 + 3, none⟩ (.int .i64 t263)).setCell ⟨go24, ((rd t256 0) : Int).toNat * 6 + 4, none⟩ (.int .i64 t264)).setCell ⟨go24, ((rd t256 0) : Int).toNat * 6 + 5, none⟩ (.int .i64 t265)) w.heap.size (fun k_ => some k_ ≠ (.slice Ao12 x18_1.length co12 : Value).ownBlock) (.slice (some ad259) t256.length co30) t256) := ⟨by (with_reducible repeat (first | apply Kd.qF | apply Kd.qG | apply Kd.qH)); exact Kd.qd (Kd.R_far (p := ⟨go24, ((rd t256 0) : Int).toNat * 6 + 5, none⟩) (Kd.R_far (p := ⟨go24, ((rd t256 0) : Int).toNat * 6 + 4, none⟩) (Kd.R_far (p := ⟨go24, ((rd t256 0) : Int).toNat * 6 + 3, none⟩) (Kd.R_far (p := ⟨go24, ((rd t256 0) : Int).toNat * 6 + 2, none⟩) (Kd.R_far (p := ⟨go24, ((rd t256 0) : Int).toNat * 6 + 1, none⟩) (Kd.R_far (p := ⟨go24, ((rd t256 0) : Int).toNat * 6, none⟩) (Kd.qRA HO258.out (by first | exact GG24.out | exact (Kd.qOA HO_22.out go24 rfl).choose_spec) (by decide)) (fun _ hk => hk.2) (.int .i64 t260)) (fun _ hk => hk.2) (.int .i64 t261)) (fun _ hk => hk.2) (.int .i64 t262)) (fun _ hk => hk.2) (.int .i64 t263)) (fun _ hk => hk.2) (.int .i64 t264)) (fun _ hk => hk.2) (.int .i64 t265)) (fun _ hk => hk.1.2)⟩
           have n3_ : Aside0 (((((((w31.setCell ⟨go24, ((rd t256 0) : Int).toNat * 6, none⟩ (.int .i64 t260)).setCell ⟨go24, ((rd t256 0) : Int).toNat * 6 + 1, none⟩ (.int .i64 t261)).setCell ⟨go24, ((rd t256 0) : Int).toNat * 6 + 2, none⟩ (.int .i64 t262)).setCell ⟨go24, ((rd t256 0) : Int).toNat * 6 + 3, none⟩ (.int .i64 t263)).setCell ⟨go24, ((rd t256 0) : Int).toNat * 6 + 4, none⟩ (.int .i64 t264)).setCell ⟨go24, ((rd t256 0) : Int).toNat * 6 + 5, none⟩ (.int .i64 t265)).heap[gb248]? = some (.cells #[.int .i64 a0_0, .int .i64 a0_1, .slice A0_2 l0_2.length c0_2] 45 (0, 0))) := ⟨by (with_reducible repeat (first | refine qD ?_ _ | refine qE ?_ | refine qC ?_ _)); refine qc ?_ (by have h_ := Kd.R_ne HO_22.out BK248.out (by decide); intro e_; exact h_ (by rw [e_]; rfl)) _; (with_reducible repeat (first | refine qD ?_ _ | refine qE ?_ | refine qC ?_ _)); refine qc ?_ (by have h_ := Kd.R_ne HO_22.out BK248.out (by decide); intro e_; exact h_ (by rw [e_]; rfl)) _; (with_reducible repeat (first | refine qD ?_ _ | refine qE ?_ | refine qC ?_ _)); refine qc ?_ (by have h_ := Kd.R_ne HO_22.out BK248.out (by decide); intro e_; exact h_ (by rw [e_]; rfl)) _; (with_reducible repeat (first | refine qD ?_ _ | refine qE ?_ | refine qC ?_ _)); refine qc ?_ (by have h_ := Kd.R_ne HO_22.out BK248.out (by decide); intro e_; exact h_ (by rw [e_]; rfl)) _; (with_reducible repeat (first | refine qD ?_ _ | refine qE ?_ | refine qC ?_ _)); refine qc ?_ (by have h_ := Kd.R_ne HO_22.out BK248.out (by decide); intro e_; exact h_ (by rw [e_]; rfl)) _; (with_reducible repeat (first | refine qD ?_ _ | refine qE ?_ | refine qC ?_ _)); refine qc ?_ (by have h_ := Kd.R_ne HO_22.out BK248.out (by decide); intro e_; exact h_ (by rw [e_]; rfl)) _; (with_reducible repeat (first | refine qD ?_ _ | refine qE ?_ | refine qC ?_ _)); exact BK248.out⟩
           have n4_ : Aside0 (Below w.heap.size w ((((((w31.setCell ⟨go24, ((rd t256 0) : Int).toNat * 6, none⟩ (.int .i64 t260)).setCell ⟨go24, ((rd t256 0) : Int).toNat * 6 + 1, none⟩ (.int .i64 t261)).setCell ⟨go24, ((rd t256 0) : Int).toNat * 6 + 2, none⟩ (.int .i64 t262)).setCell ⟨go24, ((rd t256 0) : Int).toNat * 6 + 3, none⟩ (.int .i64 t263)).setCell ⟨go24, ((rd t256 0) : Int).toNat * 6 + 4, none⟩ (.int .i64 t264)).setCell ⟨go24, ((rd t256 0) : Int).toNat * 6 + 5, none⟩ (.int .i64 t265))) := ⟨by repeat (first | (with_reducible first | exact HB.out | apply qBA | apply qWA | apply qk | refine ql ?_ GB24.out | refine ql ?_ GB24.out | refine ql ?_ GB24.out | refine ql ?_ GB24.out | refine ql ?_ GB24.out | refine ql ?_ GB24.out | refine ql ?_ GE248.out) | exact HB.out)⟩
           (try clear HO_18)
           (try clear HO_22)
           (try clear HO258)
           (try clear BK248)
           (try clear HB)
           generalize ((((((w31.setCell ⟨go24, ((rd t256 0) : Int).toNat * 6, none⟩ (.int .i64 t260)).setCell ⟨go24, ((rd t256 0) : Int).toNat * 6 + 1, none⟩ (.int .i64 t261)).setCell ⟨go24, ((rd t256 0) : Int).toNat * 6 + 2, none⟩ (.int .i64 t262)).setCell ⟨go24, ((rd t256 0) : Int).toNat * 6 + 3, none⟩ (.int .i64 t263)).setCell ⟨go24, ((rd t256 0) : Int).toNat * 6 + 4, none⟩ (.int .i64 t264)).setCell ⟨go24, ((rd t256 0) : Int).toNat * 6 + 5, none⟩ (.int .i64 t265)) = w33 at n0_ n1_ n2_ n3_ n4_ ⊢
           have HO_18 := n0_
           have HO_22 := n1_
           have HO258 := n2_
           have BK248 := n3_
           have HB := n4_
           clear n0_ n1_ n2_ n3_ n4_
           have p267 : 0 ≤ (0 : Int) := (by omega)
           have q267 : 0 < (t256.length : Int) := of_decide_eq_true (by first | (with_reducible assumption) | assumption)
           obtain ⟨ad267, e267, hx267_0⟩ := Kd.qGA (Kd.qS HO258.out).2.2 0 p267 q267
           obtain rfl : ad259 = ad267 := (by injection e267)
           have qi267 : (0 < t256.length) = True := eq_true (by omega)
           (try rw [show ((0 : Int)).toNat = 0 from rfl] at hx267_0)
           (try rw [Addr.add_zero'] at hx267_0)
           replace p267 := eq_true p267
           replace q267 := eq_true q267
           have p26 : 0 ≤ ((rd t256 0) : Int) := of_decide_eq_true (by first | (with_reducible assumption) | assumption)
           have q26 : ((rd t256 0) : Int) < ((x18_1.length : Int) : Int) := of_decide_eq_true (by first | (with_reducible assumption) | assumption)
           obtain ⟨go26, co26, eo26, gb26, gl26, cl26, HG26⟩ := Kd.qtB HO_18.out (by omega)
           (first | cases eo26 | (injection eo26 with ea_ en_ ec_; (first | subst ea_ | (injection ea_ with ea_; subst ea_)); subst ec_; clear en_))
           have GB26 := Aside0.mk gb26
           have GG26 := Aside0.mk HG26
           clear gb26 gl26 HG26
           obtain ⟨hx26_0, hf26_0⟩ := Kd.quA 0 HO_18.out ((rd t256 0) : Int) p26 q26
           replace p26 := eq_true p26
           replace q26 := eq_true q26
           obtain ⟨hy34_, hz34_⟩ := Kd.quA 0 HO_18.out ((rd t256 0) : Int) (of_decide_eq_true (by first | (with_reducible assumption) | assumption)) (of_decide_eq_true (by first | (with_reducible assumption) | assumption))
           have HP34 := Kd.qsB HO_18.out ((rd t256 0) : Int) 5
           try go_wp2_with (first | ((with_reducible refine qiA (t := 3) (p := 44) rfl ?_); refine qcA (t := 3) (p := 44) (v := ?vo_w35) (w1 := (w33.setCell ⟨go26, ((rd t256 0) : Int).toNat, none⟩ (.int .i64 5))) ?hg ?ho ?hn ?hr ?_; (case ho => rfl); (case hg => rfl); (case hn => rfl); (case hr => first | (go_simp; done) | (go_simp; rfl)); intro w35 hw; have hg : w33.grownBy w35 (some go26) := (by rw [hw]; exact HP34.2); have hp_ : Kd.R (Kd.int .i64) 3 w35 w.heap.size (fun k_ => some k_ ≠ (.slice (some ad259) t256.length co30 : Value).ownBlock) (.slice (some ⟨go26, 0, none⟩) x18_1.length co12) y268 := (by rw [hw, Ny268.out]; exact HP34.1); clear HP34; have n0_ := Aside0.mk (hp_); have n1_ := Aside0.mk (Kd.qqA (v := (.slice (some ⟨go26, 0, none⟩) x18_1.length co12)) (by (with_reducible repeat (first | apply Kd.qF | apply Kd.qG | apply Kd.qH)); exact HO_22.out) (Kd.qOA HO_18.out) (by decide) hg); have n2_ := Aside0.mk (qfA (g := gb248) (o := .cells #[.int .i64 a0_0, .int .i64 a0_1, .slice A0_2 l0_2.length c0_2] 45 (0, 0)) (by (with_reducible repeat (first | refine qD ?_ _ | refine qE ?_ | refine qC ?_ _)); exact BK248.out) hg (Kd.R_ne HO_18.out BK248.out (by decide))); have n3_ := Aside0.mk (Kd.qxA (v := (.slice (some ⟨go26, 0, none⟩) x18_1.length co12)) (v1 := (.slice (some ⟨go26, 0, none⟩) x18_1.length co12)) (ok := (fun _ => True)) (by (with_reducible repeat (first | apply Kd.qF | apply Kd.qG | apply Kd.qH)); exact Kd.qd HO258.out (fun _ hk => ⟨trivial, hk⟩)) hg (.inl rfl)); have n4_ := Aside0.mk ((by rw [hw]; exact ql (HB.out) GB26.out : Below w.heap.size w w35)); clear HO_18; clear HO_22; clear BK248; clear HO258; clear HB; have HO_18 := n0_; have HO_22 := n1_; have BK248 := n2_; have HO258 := n3_; have HB := n4_; clear n0_ n1_ n2_ n3_ n4_; clear hg hw hp_; have p269 : 0 ≤ (0 : Int) := (by omega); have q269 : 0 < (t256.length : Int) := of_decide_eq_true (by first | (with_reducible assumption) | assumption); obtain ⟨ad269, e269, hx269_0⟩ := Kd.qGA (Kd.qS HO258.out).2.2 0 p269 q269; obtain rfl : ad259 = ad269 := (by injection e269); have qi269 : (0 < t256.length) = True := eq_true (by omega); (try rw [show ((0 : Int)).toNat = 0 from rfl] at hx269_0); (try rw [Addr.add_zero'] at hx269_0); replace p269 := eq_true p269; replace q269 := eq_true q269) | ((with_reducible refine qX (N := 48) rfl ?_); refine Kd.R_lit (Kd.int .i64) _ 3 ?hg (N := 48) ?hd (xs := ([rd t256 0] : List Int)) (inner := [.int .i64 (rd t256 0)]) (ok := fun _ => True) (okp := fun _ => True) ?hr ?hp (fun _ hk => hk) trivial (Below.refl _ _) (Nat.le_refl _) (by simp) ?_; (case hd => rfl); (case hg => rfl); (case hr => first | (go_simp; done) | (go_simp; rfl)); (case hp => exact (Reps.one (show Kd.M (Kd.int .i64) _ _ _ (rd t256 0) [.int .i64 (rd t256 0)] from rfl) (Reps.none _ _))); intro v271 w36 ho37 hb hg_ hnew_; clear hg_ hnew_; (first | rw [← Ny270.out] at ho37 | (simp only [Int.reduceToNat] at ho37; rw [← Ny270.out] at ho37)); have n0_ := Aside0.mk (Kd.qmA (by (with_reducible repeat (first | apply Kd.qF | apply Kd.qG | apply Kd.qH)); exact HO_18.out) (Kd.qLB ho37) hb); have n1_ := Aside0.mk (Kd.qU (by (with_reducible repeat (first | apply Kd.qF | apply Kd.qG | apply Kd.qH)); exact HO_22.out) hb); have n2_ := Aside0.mk (Kd.qmA (by (with_reducible repeat (first | apply Kd.qF | apply Kd.qG | apply Kd.qH)); exact HO258.out) (Kd.qLB ho37) hb); have n3_ := Aside0.mk (Kd.qEA (Kd.qKB (Kd.qKB ho37 (Kd.R_lt (by (with_reducible repeat (first | apply Kd.qF | apply Kd.qG | apply Kd.qH)); exact HO_18.out))) (Kd.R_lt (by (with_reducible repeat (first | apply Kd.qF | apply Kd.qG | apply Kd.qH)); exact HO258.out))) (qb bl)); have n4_ := Aside0.mk (bb BK248 hb); have n5_ := Aside0.mk (qJ bl hb); clear HO_18; clear HO_22; clear HO258; clear BK248; clear HB; have HO_18 := n0_; have HO_22 := n1_; have HO258 := n2_; have HO272 := n3_; have BK248 := n4_; have HB := n5_; clear n0_ n1_ n2_ n3_ n4_ n5_; clear hb ho37))
           go_loopg [8, 9] k1 (fun kq v8 v9 w' => ∃ (x8_2 : List Int) (x9_2 : Int) (x18_2 : List Int) (x22_2 : List (S31)), v9 = .int .i64 x9_2 ∧ Aside0 (qK.l1 kq x8_2 x9_2 x18_2 x22_2 t256 a0_0 a0_1 l0_2 = some (r1, r2)) ∧ Aside0 (kq ≤ k1) ∧ Aside0 (Kd.R (Kd.int .i64) 3 w' w.heap.size (fun k_ => some k_ ≠ ((.slice (some ⟨go26, 0, none⟩) x18_1.length co12) : Value).ownBlock ∧ some k_ ≠ ((.slice (some ad259) t256.length co30) : Value).ownBlock) v8 x8_2) ∧ Aside0 (Kd.R (Kd.int .i64) 3 w' w.heap.size (fun k_ => some k_ ≠ (v8 : Value).ownBlock ∧ some k_ ≠ ((.slice (some ad259) t256.length co30) : Value).ownBlock) (.slice (some ⟨go26, 0, none⟩) x18_1.length co12) x18_2) ∧ Aside0 (Kd.R k31 31 w' w.heap.size (fun _ => True) (.slice (some ⟨go24, 0, none⟩) y252.length co24) x22_2) ∧ Aside0 (Kd.R (Kd.int .i64) 3 w' w.heap.size (fun k_ => some k_ ≠ (v8 : Value).ownBlock ∧ some k_ ≠ ((.slice (some ⟨go26, 0, none⟩) x18_1.length co12) : Value).ownBlock) (.slice (some ad259) t256.length co30) t256) ∧ Aside0 (w'.heap[gb248]? = some (.cells #[.int .i64 a0_0, .int .i64 a0_1, (.slice A0_2 l0_2.length c0_2)] 45 (0, 0))) ∧ Aside0 (Below w.heap.size w w'))
           case atStart => exact ⟨(y270), (0), (y268), (y266), (by first | rfl | (simp; done) | (simp [*]; done)), H', ⟨Nat.le_refl _⟩, ⟨by (try simp only [hl18_1]); (with_reducible repeat (first | apply Kd.qF | apply Kd.qG | apply Kd.qH)); exact Kd.qd HO272.out (fun _ hk => ⟨hk.1.2, hk.2⟩)⟩, ⟨by (try simp only [hl18_1]); (with_reducible repeat (first | apply Kd.qF | apply Kd.qG | apply Kd.qH)); exact Kd.qd HO_18.out (fun _ hk => ⟨hk.2, hk.1⟩)⟩, ⟨by (try simp only [hl18_1]); (with_reducible repeat (first | apply Kd.qF | apply Kd.qG | apply Kd.qH)); exact HO_22.out⟩, ⟨by (try simp only [hl18_1]); (with_reducible repeat (first | apply Kd.qF | apply Kd.qG | apply Kd.qH)); exact Kd.qd HO258.out (fun _ hk => ⟨hk.2, hk.1.2⟩)⟩, ⟨by (try simp only [hl18_1]); (with_reducible repeat (first | refine qD ?_ _ | refine qE ?_ | refine qC ?_ _)); exact BK248.out⟩, ⟨bl⟩⟩
           case round =>
            clear H'
            try clear c1
            try clear p1
            try clear q1
            try clear hx1
            try clear hf1
            try clear c2
            try clear c2b0
            try clear c2b1
            try clear p2
            try clear q2
            try clear hx2
            try clear qi2
            try clear hf2
            try clear c3
            try clear c3b0
            try clear c3b1
            try clear c4
            try clear c4b0
            try clear c4b1
            try clear c5
            try clear p6
            try clear c7
            try clear c13
            try clear c13b0
            try clear c14
            try clear c14b0
            try clear c15
            try clear c15b0
            try clear p16
            try clear q16
            try clear hx16
            try clear hf16
            try clear c20
            try clear c20b0
            try clear c20b1
            try clear c22
            try clear c22b0
            try clear c23
            try clear c23b0
            try clear c24
            try clear p24
            try clear q24
            try clear hx24
            try clear hf24
            try clear c25
            try clear c25b0
            try clear p25
            try clear q25
            try clear hx25
            try clear qi25
            try clear p26
            try clear q26
            try clear hx26
            try clear qi26
            try clear hf26
            try clear c32
            try clear c36
            try clear hcz27_0
            try clear hcz27_1
            try clear hcz27_2
            try clear hcz6_0
            try clear hcz6_1
            try clear hcz6_2
            try clear hcz9_0
            try clear hcz9_1
            try clear hcz9_2
            try clear hfz27_0
            try clear hfz27_1
            try clear hfz27_2
            try clear hfz6_0
            try clear hfz6_1
            try clear hfz6_2
            try clear hfz9_0
            try clear hfz9_1
            try clear hfz9_2
            try clear hx16_0
            try clear hx24_0
            try clear hx24_1
            try clear hx24_2
            try clear hx24_3
            try clear hx24_4
            try clear hx24_5
            try clear hx259_0
            try clear hx267_0
            try clear hx269_0
            try clear hx26_0
            try clear p16
            try clear p2
            try clear p24
            try clear p259
            try clear p26
            try clear p267
            try clear p269
            try clear q16
            try clear q24
            try clear q259
            try clear q26
            try clear q267
            try clear q269
            obtain ⟨x8_2, x9_2, x18_2, x22_2, rfl, HA, HK2, HO_8, HO_18, HO_22, HO_33, BK248, HB⟩ := hrel
            have hl18_2 := (Kd.qS HO_18.out).1
            rw [hl18_2] at HO_18
            (try simp only [hl18_2])
            (try simp only [hl18_2] at BK248)
            (try simp only [hl18_2] at HO_8)
            (try simp only [hl18_2] at HO_22)
            (try simp only [hl18_2] at HO_33)
            have hl22_2 := (Kd.qS HO_22.out).1
            rw [hl22_2] at HO_22
            (try simp only [hl22_2])
            (try simp only [hl22_2] at BK248)
            (try simp only [hl22_2] at HO_8)
            (try simp only [hl22_2] at HO_18)
            (try simp only [hl22_2] at HO_33)
            cases gk with
            | zero => exact absurd HA.out (by simp [qK.l1])
            | succ k2 =>
             have H := HA.out
             clear HA
             simp only [qK.l1] at H
             by_cases c38 : x9_2 < (x8_2.length : Int)
             ·rw [if_pos c38] at H
              have c38b0 : decide (x9_2 < (x8_2.length : Int)) = true := decide_eq_true c38
              (try (have c38b0_hl18_1 := c38b0; simp only [hl18_1] at c38b0_hl18_1))
              (try (have c38b0_hl18_2 := c38b0; simp only [hl18_2] at c38b0_hl18_2))
              (try (have c38b0_hl22_2 := c38b0; simp only [hl22_2] at c38b0_hl22_2))
              clear c38
              have H' := Aside0.mk H
              clear H
              obtain ⟨Ao39, co39, eo39⟩ := Kd.qr HO_8.out
              subst eo39
              go_wp2
              go_loopg [8, 10] k2 (fun kq v8 v10 w' => ∃ (x8_3 : List Int) (x10_3 : Int) (x18_3 : List Int) (x22_3 : List (S31)), v10 = .int .i64 x10_3 ∧ Aside0 (qK.l2 kq x8_3 x9_2 x10_3 x18_3 x22_3 t256 a0_0 a0_1 l0_2 = some (r1, r2)) ∧ Aside0 (kq ≤ k2) ∧ Aside0 (Kd.R (Kd.int .i64) 3 w' w.heap.size (fun k_ => some k_ ≠ ((.slice (some ⟨go26, 0, none⟩) x18_2.length co12) : Value).ownBlock ∧ some k_ ≠ ((.slice (some ad259) t256.length co30) : Value).ownBlock) v8 x8_3) ∧ Aside0 (Kd.R (Kd.int .i64) 3 w' w.heap.size (fun k_ => some k_ ≠ (v8 : Value).ownBlock ∧ some k_ ≠ ((.slice (some ad259) t256.length co30) : Value).ownBlock) (.slice (some ⟨go26, 0, none⟩) x18_2.length co12) x18_3) ∧ Aside0 (Kd.R k31 31 w' w.heap.size (fun _ => True) (.slice (some ⟨go24, 0, none⟩) x22_2.length co24) x22_3) ∧ Aside0 (Kd.R (Kd.int .i64) 3 w' w.heap.size (fun k_ => some k_ ≠ (v8 : Value).ownBlock ∧ some k_ ≠ ((.slice (some ⟨go26, 0, none⟩) x18_2.length co12) : Value).ownBlock) (.slice (some ad259) t256.length co30) t256) ∧ Aside0 (w'.heap[gb248]? = some (.cells #[.int .i64 a0_0, .int .i64 a0_1, (.slice A0_2 l0_2.length c0_2)] 45 (0, 0))) ∧ Aside0 (Below w.heap.size w w'))
              case atStart => exact ⟨(x8_2), (0), (x18_2), (x22_2), (by first | rfl | (simp; done) | (simp [*]; done)), H', ⟨Nat.le_refl _⟩, ⟨by (try simp only [hl18_1]); (try simp only [hl18_2]); (try simp only [hl22_2]); (with_reducible repeat (first | apply Kd.qF | apply Kd.qG | apply Kd.qH)); exact HO_8.out⟩, ⟨by (try simp only [hl18_1]); (try simp only [hl18_2]); (try simp only [hl22_2]); (with_reducible repeat (first | apply Kd.qF | apply Kd.qG | apply Kd.qH)); exact HO_18.out⟩, ⟨by (try simp only [hl18_1]); (try simp only [hl18_2]); (try simp only [hl22_2]); (with_reducible repeat (first | apply Kd.qF | apply Kd.qG | apply Kd.qH)); exact HO_22.out⟩, ⟨by (try simp only [hl18_1]); (try simp only [hl18_2]); (try simp only [hl22_2]); (with_reducible repeat (first | apply Kd.qF | apply Kd.qG | apply Kd.qH)); exact HO_33.out⟩, ⟨by (try simp only [hl18_1]); (try simp only [hl18_2]); (try simp only [hl22_2]); (with_reducible repeat (first | refine qD ?_ _ | refine qE ?_ | refine qC ?_ _)); exact BK248.out⟩, ⟨bl⟩⟩
              case round =>
               clear H'
               try clear c1
               try clear p1
               try clear q1
               try clear hx1
               try clear hf1
               try clear c2
               try clear c2b0
               try clear c2b1
               try clear p2
               try clear q2
               try clear hx2
               try clear qi2
               try clear hf2
               try clear c3
               try clear c3b0
               try clear c3b1
               try clear c4
               try clear c4b0
               try clear c4b1
               try clear c5
               try clear p6
               try clear c7
               try clear c13
               try clear c13b0
               try clear c14
               try clear c14b0
               try clear c15
               try clear c15b0
               try clear p16
               try clear q16
               try clear hx16
               try clear hf16
               try clear c20
               try clear c20b0
               try clear c20b1
               try clear c22
               try clear c22b0
               try clear c23
               try clear c23b0
               try clear c24
               try clear p24
               try clear q24
               try clear hx24
               try clear hf24
               try clear c25
               try clear c25b0
               try clear p25
               try clear q25
               try clear hx25
               try clear qi25
               try clear p26
               try clear q26
               try clear hx26
               try clear qi26
               try clear hf26
               try clear c32
               try clear c36
               try clear c38
               try clear c38b0
               try clear hcz27_0
               try clear hcz27_1
               try clear hcz27_2
               try clear hcz6_0
               try clear hcz6_1
               try clear hcz6_2
               try clear hcz9_0
               try clear hcz9_1
               try clear hcz9_2
               try clear hfz27_0
               try clear hfz27_1
               try clear hfz27_2
               try clear hfz6_0
               try clear hfz6_1
               try clear hfz6_2
               try clear hfz9_0
               try clear hfz9_1
               try clear hfz9_2
               try clear hx16_0
               try clear hx24_0
               try clear hx24_1
               try clear hx24_2
               try clear hx24_3
               try clear hx24_4
               try clear hx24_5
               try clear hx259_0
               try clear hx267_0
               try clear hx269_0
               try clear hx26_0
               try clear p1
               try clear p16
               try clear p2
               try clear p24
               try clear p25
               try clear p259
               try clear p26
               try clear p267
               try clear p269
               try clear p6
               try clear q1
               try clear q16
               try clear q2
               try clear q24
               try clear q25
               try clear q259
               try clear q26
               try clear q267
               try clear q269
               obtain ⟨x8_3, x10_3, x18_3, x22_3, rfl, HA, HK3, HO_8, HO_18, HO_22, HO_33, BK248, HB⟩ := hrel
               have hl18_3 := (Kd.qS HO_18.out).1
               rw [hl18_3] at HO_18
               (try simp only [hl18_3])
               (try simp only [hl18_3] at BK248)
               (try simp only [hl18_3] at HO_8)
               (try simp only [hl18_3] at HO_22)
               (try simp only [hl18_3] at HO_33)
               have hl22_3 := (Kd.qS HO_22.out).1
               rw [hl22_3] at HO_22
               (try simp only [hl22_3])
               (try simp only [hl22_3] at BK248)
               (try simp only [hl22_3] at HO_8)
               (try simp only [hl22_3] at HO_18)
               (try simp only [hl22_3] at HO_33)
               cases gk with
               | zero => exact absurd HA.out (by simp [qK.l2])
               | succ k3 =>
                have H := HA.out
                clear HA
                simp only [qK.l2] at H
                by_cases c40 : x10_3 < 4
                ·rw [if_pos c40] at H
                 have c40b0 : decide (x10_3 < 4) = true := decide_eq_true c40
                 clear c40
                 by_cases c41 : 0 ≤ x9_2
                 ·rw [if_pos c41] at H
                  have c41b0 : decide (0 ≤ x9_2) = true := decide_eq_true c41
                  clear c41
                  by_cases c42 : x9_2 < (x8_3.length : Int)
                  ·rw [if_pos c42] at H
                   have c42b0 : decide (x9_2 < (x8_3.length : Int)) = true := decide_eq_true c42
                   (try (have c42b0_hl18_1 := c42b0; simp only [hl18_1] at c42b0_hl18_1))
                   (try (have c42b0_hl18_2 := c42b0; simp only [hl18_2] at c42b0_hl18_2))
                   (try (have c42b0_hl22_2 := c42b0; simp only [hl22_2] at c42b0_hl22_2))
                   (try (have c42b0_hl18_3 := c42b0; simp only [hl18_3] at c42b0_hl18_3))
                   (try (have c42b0_hl22_3 := c42b0; simp only [hl22_3] at c42b0_hl22_3))
                   clear c42
                   replace H := Option.bind_eq_some_iff.mp H
                   obtain ⟨t274, A430, H⟩ := H
                   replace H : (if t274 ≥ 0 then (if 0 ≤ t274 then (if t274 < (x18_3.length : Int) then (if (rd x18_3 t274) < 0 then (if 0 ≤ (rd x8_3 x9_2) then (if (rd x8_3 x9_2) < (x22_3.length : Int) then ((qjA.f ((qP x22_3 (rd x8_3 x9_2)).f0) ((qP x22_3 (rd x8_3 x9_2)).f1) ((qP x22_3 (rd x8_3 x9_2)).f2) ((qP x22_3 (rd x8_3 x9_2)).f3) ((qP x22_3 (rd x8_3 x9_2)).f4) ((qP x22_3 (rd x8_3 x9_2)).f5) x10_3).bind fun bt278 => (if t274 < (x22_3.length : Int) then ((some (x22_3.set (t274 : Int).toNat (⟨bt278.1, bt278.2.1, bt278.2.2.1, bt278.2.2.2.1, bt278.2.2.2.2.1, bt278.2.2.2.2.2⟩ : S31) : List (S31))).bind fun y284 => (if x8_3.length < 17592186044416 then (qK.l2 k3 (x8_3 ++ [t274]) x9_2 (wrap64 (x10_3 + 1)) (x18_3.set (t274 : Int).toNat ((qP y284 t274).f5)) y284 t256 a0_0 a0_1 l0_2) else (none))) else (none))) else (none)) else (none)) else (qK.l2 k3 x8_3 x9_2 (wrap64 (x10_3 + 1)) x18_3 x22_3 t256 a0_0 a0_1 l0_2)) else (none)) else (none)) else (qK.l2 k3 x8_3 x9_2 (wrap64 (x10_3 + 1)) x18_3 x22_3 t256 a0_0 a0_1 l0_2)) = some (r1, r2) := H
                   have A43 := Aside0.mk A430
                   clear A430
                   by_cases c44 : t274 ≥ 0
                   ·rw [if_pos c44] at H
                    have c44b0 : decide (0 ≤ t274) = true := decide_eq_true c44
                    clear c44
                    by_cases c45 : 0 ≤ t274
                    ·rw [if_pos c45] at H
                     have c45b0 : decide (0 ≤ t274) = true := decide_eq_true c45
                     clear c45
                     by_cases c46 : t274 < (x18_3.length : Int)
                     ·rw [if_pos c46] at H
                      have c46b0 : decide (t274 < (x18_3.length : Int)) = true := decide_eq_true c46
                      (try (have c46b0_hl18_1 := c46b0; simp only [hl18_1] at c46b0_hl18_1))
                      (try (have c46b0_hl18_2 := c46b0; simp only [hl18_2] at c46b0_hl18_2))
                      (try (have c46b0_hl22_2 := c46b0; simp only [hl22_2] at c46b0_hl22_2))
                      (try (have c46b0_hl18_3 := c46b0; simp only [hl18_3] at c46b0_hl18_3))
                      (try (have c46b0_hl22_3 := c46b0; simp only [hl22_3] at c46b0_hl22_3))
                      clear c46
                      by_cases c47 : (rd x18_3 t274) < 0
                      ·rw [if_pos c47] at H
                       have c47b0 : decide ((rd x18_3 t274) < 0) = true := decide_eq_true c47
                       clear c47
                       by_cases c48 : 0 ≤ (rd x8_3 x9_2)
                       ·rw [if_pos c48] at H
                        have c48b0 : decide (0 ≤ (rd x8_3 x9_2)) = true := decide_eq_true c48
                        clear c48
                        by_cases c49 : (rd x8_3 x9_2) < (x22_3.length : Int)
                        ·rw [if_pos c49] at H
                         have c49b0 : decide ((rd x8_3 x9_2) < (x22_3.length : Int)) = true := decide_eq_true c49
                         (try (have c49b0_hl18_1 := c49b0; simp only [hl18_1] at c49b0_hl18_1))
                         (try (have c49b0_hl18_2 := c49b0; simp only [hl18_2] at c49b0_hl18_2))
                         (try (have c49b0_hl22_2 := c49b0; simp only [hl22_2] at c49b0_hl22_2))
                         (try (have c49b0_hl18_3 := c49b0; simp only [hl18_3] at c49b0_hl18_3))
                         (try (have c49b0_hl22_3 := c49b0; simp only [hl22_3] at c49b0_hl22_3))
                         clear c49
                         replace H := Option.bind_eq_some_iff.mp H
                         obtain ⟨⟨t278, t279, t280, t281, t282, t283⟩, A500, H⟩ := H
                         replace H : (if t274 < (x22_3.length : Int) then ((some (x22_3.set (t274 : Int).toNat (⟨t278, t279, t280, t281, t282, t283⟩ : S31) : List (S31))).bind fun y284 => (if x8_3.length < 17592186044416 then (qK.l2 k3 (x8_3 ++ [t274]) x9_2 (wrap64 (x10_3 + 1)) (x18_3.set (t274 : Int).toNat ((qP y284 t274).f5)) y284 t256 a0_0 a0_1 l0_2) else (none))) else (none)) = some (r1, r2) := H
                         have A50 := Aside0.mk A500
                         clear A500
                         by_cases c51 : t274 < (x22_3.length : Int)
                         ·rw [if_pos c51] at H
                          have c51b0 : decide (t274 < (x22_3.length : Int)) = true := decide_eq_true c51
                          (try (have c51b0_hl18_1 := c51b0; simp only [hl18_1] at c51b0_hl18_1))
                          (try (have c51b0_hl18_2 := c51b0; simp only [hl18_2] at c51b0_hl18_2))
                          (try (have c51b0_hl22_2 := c51b0; simp only [hl22_2] at c51b0_hl22_2))
                          (try (have c51b0_hl18_3 := c51b0; simp only [hl18_3] at c51b0_hl18_3))
                          (try (have c51b0_hl22_3 := c51b0; simp only [hl22_3] at c51b0_hl22_3))
                          clear c51
                          obtain ⟨y284, hy284⟩ : ∃ y_ : List (S31), y_ = (x22_3.set (t274 : Int).toNat (⟨t278, t279, t280, t281, t282, t283⟩ : S31)) := ⟨_, rfl⟩
                          replace H : (if x8_3.length < 17592186044416 then (qK.l2 k3 (x8_3 ++ [t274]) x9_2 (wrap64 (x10_3 + 1)) (x18_3.set (t274 : Int).toNat ((qP y284 t274).f5)) y284 t256 a0_0 a0_1 l0_2) else (none)) = some (r1, r2) := by first | (rw [hy284]; with_reducible exact H) | (have H2_ := (Option.bind_some _ _).symm.trans H; rw [hy284]; with_reducible exact H2_) | (have H2_ := (Option.bind_some _ _).symm.trans H; with_reducible exact H2_) | with_reducible exact H | (rw [hy284]; exact H) | exact H
                          have Ny284 := Aside0.mk hy284
                          clear hy284
                          obtain ⟨y286, hy286⟩ : ∃ y_ : List Int, y_ = (x18_3.set (t274 : Int).toNat ((qP y284 t274).f5)) := ⟨_, rfl⟩
                          replace H : (if x8_3.length < 17592186044416 then (qK.l2 k3 (x8_3 ++ [t274]) x9_2 (wrap64 (x10_3 + 1)) y286 y284 t256 a0_0 a0_1 l0_2) else (none)) = some (r1, r2) := by first | (rw [hy286]; with_reducible exact H) | (have H2_ := (Option.bind_some _ _).symm.trans H; rw [hy286]; with_reducible exact H2_) | (have H2_ := (Option.bind_some _ _).symm.trans H; with_reducible exact H2_) | with_reducible exact H | (rw [hy286]; exact H) | exact H
                          have Ny286 := Aside0.mk hy286
                          clear hy286
                          by_cases c54 : x8_3.length < 17592186044416
                          ·rw [if_pos c54] at H
                           have LMc54 := Aside0.mk c54
                           clear c54
                           obtain ⟨y287, hy287⟩ : ∃ y_ : List Int, y_ = (x8_3 ++ [t274]) := ⟨_, rfl⟩
                           replace H : (qK.l2 k3 y287 x9_2 (wrap64 (x10_3 + 1)) y286 y284 t256 a0_0 a0_1 l0_2) = some (r1, r2) := by first | (rw [hy287]; with_reducible exact H) | (have H2_ := (Option.bind_some _ _).symm.trans H; rw [hy287]; with_reducible exact H2_) | (have H2_ := (Option.bind_some _ _).symm.trans H; with_reducible exact H2_) | with_reducible exact H | (rw [hy287]; exact H) | exact H
                           have Ny287 := Aside0.mk hy287
                           clear hy287
                           have H' := Aside0.mk H
                           clear H
                           try go_wp2
                           have n0_ := Aside0.mk (Kd.qH HO_8.out)
                           have n1_ := Aside0.mk (Kd.qH HO_18.out)
                           have n2_ := Aside0.mk (Kd.qH HO_22.out)
                           have n3_ := Aside0.mk (Kd.qH HO_33.out)
                           have n4_ := Aside0.mk (qE BK248.out)
                           have n5_ := Aside0.mk (qk HB.out)
                           clear HO_8
                           clear HO_18
                           clear HO_22
                           clear HO_33
                           clear BK248
                           clear HB
                           have HO_8 := n0_
                           have HO_18 := n1_
                           have HO_22 := n2_
                           have HO_33 := n3_
                           have BK248 := n4_
                           have HB := n5_
                           clear n0_ n1_ n2_ n3_ n4_ n5_
                           obtain ⟨Ao56, co56, eo56⟩ := Kd.qr HO_8.out
                           (first | subst eo56 | (injection eo56 with f1_ f2_ f3_; have f4_ := f1_.symm; have f5_ := f3_.symm; clear f1_ f2_ f3_; subst f4_; subst f5_))
                           have p273 : 0 ≤ (x9_2 : Int) := of_decide_eq_true (by first | (with_reducible assumption) | assumption)
                           have q273 : x9_2 < (x8_3.length : Int) := of_decide_eq_true (by first | (with_reducible assumption) | assumption)
                           obtain ⟨ad273, e273, hx273_0⟩ := Kd.qGA (Kd.qS HO_8.out).2.2 x9_2 p273 q273
                           cases e273
                           replace p273 := eq_true p273
                           replace q273 := eq_true q273
                           refine qwA (n := 8) (S := fun w' => w'.cell? ⟨gb248, 0, none⟩ = some (.int .i64 a0_0) ∧ w'.cell? ⟨gb248, 1, none⟩ = some (.int .i64 a0_1) ∧ w'.cell? ⟨gb248, 2, none⟩ = some (.slice A0_2 l0_2.length c0_2) ∧ w'.cell? (ad273.add (x9_2).toNat) = some (.int .i64 (rd x8_3 x9_2))) (ds := []) #[false, false, false, false, false, false, false, false] (by kernel_rfl) rfl rfl ⟨(qL BK248.out 0).trans rfl, (qL BK248.out 1).trans rfl, (qL BK248.out 2).trans rfl, hx273_0⟩ (fun hHeld => ?_); refine qTA qK.tab18 qK.bits18 (fun HT_ HW_ => ?_)
                           generalize wr.drew = w55 at HO_8 HO_18 HO_22 HO_33 BK248 HB hx273_0 hHeld ⊢
                           refine pS (i := 1) (N := some 60) #[false, true, false, false, false, false, false, false] HT_ ?_
                           refine pS (i := 2) (N := some 61) #[false, true, true, false, false, false, false, false] HT_ ?_
                           refine pS (i := 3) (N := some 62) #[false, true, true, true, false, false, false, false] HT_ ?_
                           refine pS (i := 5) (N := some 64) #[false, true, true, true, false, true, false, false] HT_ ?_
                           refine tS (i := 0) (N := some 59) #[true, true, true, true, false, true, false, false] HT_ HW_ hHeld ?_
                           refine tS (i := 4) (N := some 63) #[true, true, true, true, true, true, false, false] HT_ HW_ hHeld ?_
                           refine one_ (i := 6) (N := some 65) #[true, true, true, true, true, true, true, false] rfl rfl (qnA HT_.out (by kernel_rfl)) (by decide) (fun K hK => ?_)
                           refine goes_ Tryd.func42 (by kernel_rfl) rfl #[.agg #[.int .i64 a0_0, .int .i64 a0_1, .slice A0_2 l0_2.length c0_2], .int .i64 (rd x8_3 x9_2), .int .i64 x10_3] (by rfl) rfl rfl (by (try simp only [List.map_toArray, List.map_cons, List.map_nil]); first | done | rfl | (simp only [List.length_drop, List.length_take]; rfl)) ?_
                           with_reducible refine (qgA.calls a0_0 a0_1 _ _ l0_2 (rd x8_3 x9_2) x10_3 t274 _ ?side1 ?side2 A43.out).mono ?_
                           (case side1 => repeat (first | exact (Kd.qyA HR0_2.out HB.out) | (with_reducible refine Kd.qZA ?_ _) | (with_reducible refine Kd.qYA ?_ _) | (with_reducible refine Kd.qpA ?_)))
                           (case side2 => exact HC0_2.out)
                           rintro e w57 ⟨rfl, hb⟩
                           have HS3_ := (hb.cell (World.block_lt_of_cell? _ _ (hHeld.2.2.2))).trans (hHeld.2.2.2)
                           refine ⟨_, rfl, ?_⟩
                           have n0_ := Aside0.mk (Kd.qU (by (with_reducible repeat (first | apply Kd.qF | apply Kd.qG | apply Kd.qH)); exact HO_8.out) hb)
                           have n1_ := Aside0.mk (Kd.qU (by (with_reducible repeat (first | apply Kd.qF | apply Kd.qG | apply Kd.qH)); exact HO_18.out) hb)
                           have n2_ := Aside0.mk (Kd.qU (by (with_reducible repeat (first | apply Kd.qF | apply Kd.qG | apply Kd.qH)); exact HO_22.out) hb)
                           have n3_ := Aside0.mk (Kd.qU (by (with_reducible repeat (first | apply Kd.qF | apply Kd.qG | apply Kd.qH)); exact HO_33.out) hb)
                           have n4_ := Aside0.mk (bb BK248 hb)
                           have n5_ := Aside0.mk (qJ bl hb)
                           clear HO_8
                           clear HO_18
                           clear HO_22
                           clear HO_33
                           clear BK248
                           clear HB
                           have HO_8 := n0_
                           have HO_18 := n1_
                           have HO_22 := n2_
                           have HO_33 := n3_
                           have BK248 := n4_
                           have HB := n5_
                           clear n0_ n1_ n2_ n3_ n4_ n5_
                           (try clear hb)
                           (try clear hb2)
                           (try clear hk)
                           (try clear hi)
                           refine hK.out _ _ ⟨(qL BK248.out 0).trans rfl, (qL BK248.out 1).trans rfl, (qL BK248.out 2).trans rfl, HS3_⟩ (fun hHeld => ?_)
                           clear hK K
                           refine norm_ (a' := ?_) ?_ ?_
                           rotate_left
                           ·show Act.put _ (some 65) _ = _
                            simp only [Act.put, List.setIfInBounds_toArray, List.set_cons_zero, List.set_cons_succ, i64_w, i32_w]
                            rfl
                           refine pS (i := 7) (N := some 11) #[true, true, true, true, true, true, true, true] HT_ ?_
                           refine done_ (qDB HT_.out (by kernel_rfl)) ?_
                           have p275 : 0 ≤ (t274 : Int) := of_decide_eq_true (by first | (with_reducible assumption) | assumption)
                           have q275 : t274 < (x18_3.length : Int) := of_decide_eq_true (by first | (with_reducible assumption) | assumption)
                           obtain ⟨ad275, e275, hx275_0⟩ := Kd.qGA (Kd.qS HO_18.out).2.2 t274 p275 q275
                           obtain rfl : (⟨go26, 0, none⟩ : Addr) = ad275 := (by injection e275)
                           (first | simp only [qDA] at hx275_0 | simp only [qoA] at hx275_0 | simp only [Addr.add, Nat.zero_add] at hx275_0 | skip)
                           replace p275 := eq_true p275
                           replace q275 := eq_true q275
                           have p276 : 0 ≤ (x9_2 : Int) := of_decide_eq_true (by first | (with_reducible assumption) | assumption)
                           have q276 : x9_2 < (x8_3.length : Int) := of_decide_eq_true (by first | (with_reducible assumption) | assumption)
                           obtain ⟨ad276, e276, hx276_0⟩ := Kd.qGA (Kd.qS HO_8.out).2.2 x9_2 p276 q276
                           obtain rfl : ad273 = ad276 := (by injection e276)
                           replace p276 := eq_true p276
                           replace q276 := eq_true q276
                           have p277 : 0 ≤ ((rd x8_3 x9_2) : Int) := of_decide_eq_true (by first | (with_reducible assumption) | assumption)
                           have q277 : (rd x8_3 x9_2) < (x22_3.length : Int) := of_decide_eq_true (by first | (with_reducible assumption) | assumption)
                           obtain ⟨ad277, e277, hx277_0, hx277_1, hx277_2, hx277_3, hx277_4, hx277_5⟩ := qkC (Kd.qS HO_22.out).2.2 (rd x8_3 x9_2) p277 q277
                           obtain rfl : (⟨go24, 0, none⟩ : Addr) = ad277 := (by injection e277)
                           (first | simp only [qDA] at hx277_0 | simp only [qoA] at hx277_0 | simp only [Addr.add, Nat.zero_add] at hx277_0 | skip)
                           (first | simp only [qDA] at hx277_1 | simp only [qoA] at hx277_1 | simp only [Addr.add, Nat.zero_add] at hx277_1 | skip)
                           (first | simp only [qDA] at hx277_2 | simp only [qoA] at hx277_2 | simp only [Addr.add, Nat.zero_add] at hx277_2 | skip)
                           (first | simp only [qDA] at hx277_3 | simp only [qoA] at hx277_3 | simp only [Addr.add, Nat.zero_add] at hx277_3 | skip)
                           (first | simp only [qDA] at hx277_4 | simp only [qoA] at hx277_4 | simp only [Addr.add, Nat.zero_add] at hx277_4 | skip)
                           (first | simp only [qDA] at hx277_5 | simp only [qoA] at hx277_5 | simp only [Addr.add, Nat.zero_add] at hx277_5 | skip)
                           replace p277 := eq_true p277
                           replace q277 := eq_true q277
                           try go_wp2_with (first | ((with_reducible refine qa (f := 73) rfl ?_); refine qQA (some 85) rfl rfl Tryd.func73 (by kernel_rfl) rfl #[.agg #[.int .i64 ((qP x22_3 (rd x8_3 x9_2)).f0), .int .i64 ((qP x22_3 (rd x8_3 x9_2)).f1), .int .i64 ((qP x22_3 (rd x8_3 x9_2)).f2), .int .i64 ((qP x22_3 (rd x8_3 x9_2)).f3), .int .i64 ((qP x22_3 (rd x8_3 x9_2)).f4), .int .i64 ((qP x22_3 (rd x8_3 x9_2)).f5)], .int .i64 x10_3] rfl (by (try simp only [List.map_toArray, List.map_cons, List.map_nil]); first | done | rfl | (simp only [List.length_drop, List.length_take]; rfl)) ?_; (with_reducible refine (qjA.calls ((qP x22_3 (rd x8_3 x9_2)).f0) ((qP x22_3 (rd x8_3 x9_2)).f1) ((qP x22_3 (rd x8_3 x9_2)).f2) ((qP x22_3 (rd x8_3 x9_2)).f3) ((qP x22_3 (rd x8_3 x9_2)).f4) ((qP x22_3 (rd x8_3 x9_2)).f5) x10_3 t278 t279 t280 t281 t282 t283 _ A50.out).mono ?_); rintro e w58 ⟨rfl, hb⟩; refine ⟨_, rfl, ?_⟩; have n0_ := Aside0.mk (Kd.qU (by (with_reducible repeat (first | apply Kd.qF | apply Kd.qG | apply Kd.qH)); exact HO_8.out) hb); have n1_ := Aside0.mk (Kd.qU (by (with_reducible repeat (first | apply Kd.qF | apply Kd.qG | apply Kd.qH)); exact HO_18.out) hb); have n2_ := Aside0.mk (Kd.qU (by (with_reducible repeat (first | apply Kd.qF | apply Kd.qG | apply Kd.qH)); exact HO_22.out) hb); have n3_ := Aside0.mk (Kd.qU (by (with_reducible repeat (first | apply Kd.qF | apply Kd.qG | apply Kd.qH)); exact HO_33.out) hb); have n4_ := Aside0.mk (bb BK248 hb); have n5_ := Aside0.mk (qJ bl hb); clear HO_8; clear HO_18; clear HO_22; clear HO_33; clear BK248; clear HB; have HO_8 := n0_; have HO_18 := n1_; have HO_22 := n2_; have HO_33 := n3_; have BK248 := n4_; have HB := n5_; clear n0_ n1_ n2_ n3_ n4_ n5_; (try clear hb); (try clear hb2); (try clear hk); (try clear hi); have p52 : 0 ≤ (t274 : Int) := of_decide_eq_true (by first | (with_reducible assumption) | assumption); have q52 : (t274 : Int) < ((x22_3.length : Int) : Int) := of_decide_eq_true (by first | (with_reducible assumption) | assumption); obtain ⟨ce52, hcl52, hM52, hcc52, hfr52⟩ := Kd.qXC HO_22.out z31 (t274 : Int) p52 q52; obtain rfl := qMB hM52; have hx52_0 : w58.cell? ⟨go24, (t274 : Int).toNat * 6, none⟩ = some (.int .i64 ((qP x22_3 t274).f0)) := hcc52 0 _ rfl; have hx52_1 : w58.cell? ⟨go24, (t274 : Int).toNat * 6 + 1, none⟩ = some (.int .i64 ((qP x22_3 t274).f1)) := hcc52 1 _ rfl; have hx52_2 : w58.cell? ⟨go24, (t274 : Int).toNat * 6 + 2, none⟩ = some (.int .i64 ((qP x22_3 t274).f2)) := hcc52 2 _ rfl; have hx52_3 : w58.cell? ⟨go24, (t274 : Int).toNat * 6 + 3, none⟩ = some (.int .i64 ((qP x22_3 t274).f3)) := hcc52 3 _ rfl; have hx52_4 : w58.cell? ⟨go24, (t274 : Int).toNat * 6 + 4, none⟩ = some (.int .i64 ((qP x22_3 t274).f4)) := hcc52 4 _ rfl; have hx52_5 : w58.cell? ⟨go24, (t274 : Int).toNat * 6 + 5, none⟩ = some (.int .i64 ((qP x22_3 t274).f5)) := hcc52 5 _ rfl; have hf52_0 : w58.frozen? ⟨go24, (t274 : Int).toNat * 6, none⟩ = false := hfr52 0; have hf52_1 : w58.frozen? ⟨go24, (t274 : Int).toNat * 6 + 1, none⟩ = false := hfr52 1; have hf52_2 : w58.frozen? ⟨go24, (t274 : Int).toNat * 6 + 2, none⟩ = false := hfr52 2; have hf52_3 : w58.frozen? ⟨go24, (t274 : Int).toNat * 6 + 3, none⟩ = false := hfr52 3; have hf52_4 : w58.frozen? ⟨go24, (t274 : Int).toNat * 6 + 4, none⟩ = false := hfr52 4; have hf52_5 : w58.frozen? ⟨go24, (t274 : Int).toNat * 6 + 5, none⟩ = false := hfr52 5; clear hcl52 hcc52 hfr52 hM52; replace p52 := eq_true p52; replace q52 := eq_true q52; have HX59 := Aside0.mk (show Kd.R k31 31 w58 w.heap.size (fun _ => True) (.slice (some ⟨go24, 0, none⟩) x22_3.length co24) x22_3 from (by (with_reducible repeat (first | apply Kd.qF | apply Kd.qG | apply Kd.qH)); exact HO_22.out)); obtain ⟨ce59, hcl59, hM59, hcc59, hfr59⟩ := Kd.qXC HX59.out z31 (t274 : Int) (of_decide_eq_true (by first | (with_reducible assumption) | assumption)) (by have h_ : (t274 : Int) < ((x22_3.length : Int) : Int) := of_decide_eq_true (by first | (with_reducible assumption) | assumption); first | exact h_ | (have e_ := (Kd.qS HO_22.out).1; omega) | simpa using h_); obtain rfl := qMB hM59; have HP59 := Kd.R_seg HX59.out (t274 : Int) (of_decide_eq_true (by first | (with_reducible assumption) | assumption)) (by have h_ : (t274 : Int) < ((x22_3.length : Int) : Int) := of_decide_eq_true (by first | (with_reducible assumption) | assumption); first | exact h_ | (have e_ := (Kd.qS HO_22.out).1; omega) | simpa using h_) (seg := [.int .i64 t278, .int .i64 t279, .int .i64 t280, .int .i64 t281, .int .i64 t282, .int .i64 t283]) (j := 0) hcl59 hcc59 (show 6 ≤ 6 from by decide) (x' := (⟨t278, t279, t280, t281, t282, t283⟩ : S31)) (qrB _ _ _ (⟨t278, t279, t280, t281, t282, t283⟩ : S31) ) (fun _ hk => hk); have hx59_0 := hcc59 0 _ rfl; (try simp only [show (k31).sz = 6 from rfl, Nat.mul_one, Nat.add_zero] at hx59_0); have hf59_0 := hfr59 0; (try simp only [show (k31).sz = 6 from rfl, Nat.mul_one, Nat.add_zero] at hf59_0); have hx59_1 := hcc59 1 _ rfl; (try simp only [show (k31).sz = 6 from rfl, Nat.mul_one, Nat.add_zero] at hx59_1); have hf59_1 := hfr59 1; (try simp only [show (k31).sz = 6 from rfl, Nat.mul_one, Nat.add_zero] at hf59_1); have hx59_2 := hcc59 2 _ rfl; (try simp only [show (k31).sz = 6 from rfl, Nat.mul_one, Nat.add_zero] at hx59_2); have hf59_2 := hfr59 2; (try simp only [show (k31).sz = 6 from rfl, Nat.mul_one, Nat.add_zero] at hf59_2); have hx59_3 := hcc59 3 _ rfl; (try simp only [show (k31).sz = 6 from rfl, Nat.mul_one, Nat.add_zero] at hx59_3); have hf59_3 := hfr59 3; (try simp only [show (k31).sz = 6 from rfl, Nat.mul_one, Nat.add_zero] at hf59_3); have hx59_4 := hcc59 4 _ rfl; (try simp only [show (k31).sz = 6 from rfl, Nat.mul_one, Nat.add_zero] at hx59_4); have hf59_4 := hfr59 4; (try simp only [show (k31).sz = 6 from rfl, Nat.mul_one, Nat.add_zero] at hf59_4); have hx59_5 := hcc59 5 _ rfl; (try simp only [show (k31).sz = 6 from rfl, Nat.mul_one, Nat.add_zero] at hx59_5); have hf59_5 := hfr59 5; (try simp only [show (k31).sz = 6 from rfl, Nat.mul_one, Nat.add_zero] at hf59_5); clear hcl59 hcc59 hfr59 hM59) | ((with_reducible refine qiA (t := 31) (p := 86) rfl ?_); refine qcA (t := 31) (p := 86) (v := ?vo_w60) (w1 := ((((((w58.setCell ⟨go24, (t274 : Int).toNat * 6, none⟩ (.int .i64 t278)).setCell ⟨go24, (t274 : Int).toNat * 6 + 1, none⟩ (.int .i64 t279)).setCell ⟨go24, (t274 : Int).toNat * 6 + 2, none⟩ (.int .i64 t280)).setCell ⟨go24, (t274 : Int).toNat * 6 + 3, none⟩ (.int .i64 t281)).setCell ⟨go24, (t274 : Int).toNat * 6 + 4, none⟩ (.int .i64 t282)).setCell ⟨go24, (t274 : Int).toNat * 6 + 5, none⟩ (.int .i64 t283))) ?hg ?ho ?hn ?hr ?_; (case ho => rfl); (case hg => rfl); (case hn => rfl); (case hr => first | (go_simp; done) | (go_simp; rfl)); intro w60 hw; have hg : w58.grownBy w60 (some go24) := (by rw [hw]; exact HP59.2); have hp_ : Kd.R k31 31 w60 w.heap.size (fun _ => True) (.slice (some ⟨go24, 0, none⟩) x22_3.length co24) y284 := (by rw [hw, Ny284.out]; exact HP59.1); clear HP59; have n0_ := Aside0.mk (Kd.qqA (v := (.slice (some ⟨go24, 0, none⟩) x22_3.length co24)) (by (with_reducible repeat (first | apply Kd.qF | apply Kd.qG | apply Kd.qH)); exact HO_8.out) (Kd.qOA HO_22.out) (by decide) hg); have n1_ := Aside0.mk (Kd.qqA (v := (.slice (some ⟨go24, 0, none⟩) x22_3.length co24)) (by (with_reducible repeat (first | apply Kd.qF | apply Kd.qG | apply Kd.qH)); exact HO_18.out) (Kd.qOA HO_22.out) (by decide) hg); have n2_ := Aside0.mk (hp_); have n3_ := Aside0.mk (Kd.qqA (v := (.slice (some ⟨go24, 0, none⟩) x22_3.length co24)) (by (with_reducible repeat (first | apply Kd.qF | apply Kd.qG | apply Kd.qH)); exact HO_33.out) (Kd.qOA HO_22.out) (by decide) hg); have n4_ := Aside0.mk (qfA (g := gb248) (o := .cells #[.int .i64 a0_0, .int .i64 a0_1, .slice A0_2 l0_2.length c0_2] 45 (0, 0)) (by (with_reducible repeat (first | refine qD ?_ _ | refine qE ?_ | refine qC ?_ _)); exact BK248.out) hg (Kd.R_ne HO_22.out BK248.out (by decide))); have n5_ := Aside0.mk ((by rw [hw]; exact ql (ql (ql (ql (ql (ql (HB.out) GB24.out) GB24.out) GB24.out) GB24.out) GB24.out) GB24.out : Below w.heap.size w w60)); clear HO_8; clear HO_18; clear HO_22; clear HO_33; clear BK248; clear HB; have HO_8 := n0_; have HO_18 := n1_; have HO_22 := n2_; have HO_33 := n3_; have BK248 := n4_; have HB := n5_; clear n0_ n1_ n2_ n3_ n4_ n5_; clear hg hw hp_; have p285 : 0 ≤ (t274 : Int) := of_decide_eq_true (by first | (with_reducible assumption) | assumption); have q285 : t274 < (y284.length : Int) := (by have h_ : (t274 : Int) < ((x22_3.length : Int) : Int) := of_decide_eq_true (by first | (with_reducible assumption) | assumption); first | (have e_ := (Kd.qS HO_22.out).1; omega) | simpa only [Ny284.out, List.length_set] using h_); have ql285 : ((t274 : Int) < ((x22_3.length : Int) : Int)) = True := eq_true (of_decide_eq_true (by first | (with_reducible assumption) | assumption)); obtain ⟨ad285, e285, hx285_0, hx285_1, hx285_2, hx285_3, hx285_4, hx285_5⟩ := qkC (Kd.qS HO_22.out).2.2 t274 p285 q285; obtain rfl : (⟨go24, 0, none⟩ : Addr) = ad285 := (by injection e285); (first | simp only [qDA] at hx285_0 | simp only [qoA] at hx285_0 | simp only [Addr.add, Nat.zero_add] at hx285_0 | skip); (first | simp only [qDA] at hx285_1 | simp only [qoA] at hx285_1 | simp only [Addr.add, Nat.zero_add] at hx285_1 | skip); (first | simp only [qDA] at hx285_2 | simp only [qoA] at hx285_2 | simp only [Addr.add, Nat.zero_add] at hx285_2 | skip); (first | simp only [qDA] at hx285_3 | simp only [qoA] at hx285_3 | simp only [Addr.add, Nat.zero_add] at hx285_3 | skip); (first | simp only [qDA] at hx285_4 | simp only [qoA] at hx285_4 | simp only [Addr.add, Nat.zero_add] at hx285_4 | skip); (first | simp only [qDA] at hx285_5 | simp only [qoA] at hx285_5 | simp only [Addr.add, Nat.zero_add] at hx285_5 | skip); replace p285 := eq_true p285; replace q285 := eq_true q285; have p53 : 0 ≤ (t274 : Int) := of_decide_eq_true (by first | (with_reducible assumption) | assumption); have q53 : (t274 : Int) < ((x18_3.length : Int) : Int) := of_decide_eq_true (by first | (with_reducible assumption) | assumption); obtain ⟨hx53_0, hf53_0⟩ := Kd.quA 0 HO_18.out (t274 : Int) p53 q53; replace p53 := eq_true p53; replace q53 := eq_true q53; obtain ⟨hy61_, hz61_⟩ := Kd.quA 0 HO_18.out (t274 : Int) (of_decide_eq_true (by first | (with_reducible assumption) | assumption)) (of_decide_eq_true (by first | (with_reducible assumption) | assumption)); have HP61 := Kd.qsB HO_18.out (t274 : Int) ((qP y284 t274).f5)) | ((with_reducible refine qiA (t := 3) (p := 94) rfl ?_); refine qcA (t := 3) (p := 94) (v := ?vo_w62) (w1 := (w60.setCell ⟨go26, (t274 : Int).toNat, none⟩ (.int .i64 ((qP y284 t274).f5)))) ?hg ?ho ?hn ?hr ?_; (case ho => rfl); (case hg => rfl); (case hn => rfl); (case hr => first | (go_simp; done) | (go_simp; rfl)); intro w62 hw; have hg : w60.grownBy w62 (some go26) := (by rw [hw]; exact HP61.2); have hp_ : Kd.R (Kd.int .i64) 3 w62 w.heap.size (fun k_ => some k_ ≠ (.slice (some ad273) x8_3.length co56 : Value).ownBlock ∧ some k_ ≠ (.slice (some ad259) t256.length co30 : Value).ownBlock) (.slice (some ⟨go26, 0, none⟩) x18_3.length co12) y286 := (by rw [hw, Ny286.out]; exact HP61.1); clear HP61; have n0_ := Aside0.mk (Kd.qxA (v := (.slice (some ⟨go26, 0, none⟩) x18_3.length co12)) (v1 := (.slice (some ⟨go26, 0, none⟩) x18_3.length co12)) (ok := (fun k_ => some k_ ≠ (.slice (some ad259) t256.length co30 : Value).ownBlock)) (by (with_reducible repeat (first | apply Kd.qF | apply Kd.qG | apply Kd.qH)); exact Kd.qd HO_8.out (fun _ hk => ⟨hk.2, hk.1⟩)) hg (.inl rfl)); have n1_ := Aside0.mk (hp_); have n2_ := Aside0.mk (Kd.qqA (v := (.slice (some ⟨go26, 0, none⟩) x18_3.length co12)) (by (with_reducible repeat (first | apply Kd.qF | apply Kd.qG | apply Kd.qH)); exact HO_22.out) (Kd.qOA HO_18.out) (by decide) hg); have n3_ := Aside0.mk (Kd.qxA (v := (.slice (some ⟨go26, 0, none⟩) x18_3.length co12)) (v1 := (.slice (some ⟨go26, 0, none⟩) x18_3.length co12)) (ok := (fun k_ => some k_ ≠ (.slice (some ad273) x8_3.length co56 : Value).ownBlock)) (by (with_reducible repeat (first | apply Kd.qF | apply Kd.qG | apply Kd.qH)); exact HO_33.out) hg (.inl rfl)); have n4_ := Aside0.mk (qfA (g := gb248) (o := .cells #[.int .i64 a0_0, .int .i64 a0_1, .slice A0_2 l0_2.length c0_2] 45 (0, 0)) (by (with_reducible repeat (first | refine qD ?_ _ | refine qE ?_ | refine qC ?_ _)); exact BK248.out) hg (Kd.R_ne HO_18.out BK248.out (by decide))); have n5_ := Aside0.mk ((by rw [hw]; exact ql (HB.out) GB26.out : Below w.heap.size w w62)); clear HO_8; clear HO_18; clear HO_22; clear HO_33; clear BK248; clear HB; have HO_8 := n0_; have HO_18 := n1_; have HO_22 := n2_; have HO_33 := n3_; have BK248 := n4_; have HB := n5_; clear n0_ n1_ n2_ n3_ n4_ n5_; clear hg hw hp_) | ((with_reducible refine qJB (b := .append) (xs := #[.tmp 95, .tmp 97]) rfl ?_); at_builtin; refine Kd.qAC (Kd.int .i64) (w0 := w) w.heap.size rfl (.tmp 95) (.tmp 97) 25 3 (.int .i64 0) 8 rfl Tryd.underlying25 info3 rfl (by decide) (by omega) (.slice (some ad273) x8_3.length co56) x8_3 t274 [.int .i64 t274] (fun k_ => some k_ ≠ (.slice (some ⟨go26, 0, none⟩) x18_3.length co12 : Value).ownBlock ∧ some k_ ≠ (.slice (some ad259) t256.length co30 : Value).ownBlock) (fun _ => False) rfl rfl ?aP (fun _ hk => hk.elim) ?aF ?aO ?aB ?aS ?aL ?_; (case aP => exact rfl); (case aB => exact bl); (case aF => exact (fun k_ hk => ⟨Kd.fresh' (Kd.R_lt (by (with_reducible repeat (first | apply Kd.qF | apply Kd.qG | apply Kd.qH)); exact HO_18.out)) k_ hk, Kd.fresh' (Kd.R_lt (by (with_reducible repeat (first | apply Kd.qF | apply Kd.qG | apply Kd.qH)); exact HO_33.out)) k_ hk⟩)); (case aO => exact (by (with_reducible repeat (first | apply Kd.qF | apply Kd.qG | apply Kd.qH)); exact Kd.qd HO_8.out (fun _ hk => ⟨hk.2, hk.1⟩))); (case aS => exact (qb bl)); (case aL => have := LMc54.out; omega); intro v288 w63 ho hb hg hat; rw [← Ny287.out] at ho; have n0_ := Aside0.mk (Kd.qxA (ok := (fun k_ => some k_ ≠ (.slice (some ad259) t256.length co30 : Value).ownBlock)) (by (with_reducible repeat (first | apply Kd.qF | apply Kd.qG | apply Kd.qH)); exact Kd.qd HO_18.out (fun _ hk => ⟨hk.2, hk.1⟩)) hg hat); have n1_ := Aside0.mk (Kd.qqA (by (with_reducible repeat (first | apply Kd.qF | apply Kd.qG | apply Kd.qH)); exact HO_22.out) (Kd.qOA (by (with_reducible repeat (first | apply Kd.qF | apply Kd.qG | apply Kd.qH)); exact HO_8.out)) (by decide) hg); have n2_ := Aside0.mk (Kd.qxA (ok := (fun k_ => some k_ ≠ (.slice (some ⟨go26, 0, none⟩) x18_3.length co12 : Value).ownBlock)) (by (with_reducible repeat (first | apply Kd.qF | apply Kd.qG | apply Kd.qH)); exact Kd.qd HO_33.out (fun _ hk => ⟨hk.2, hk.1⟩)) hg hat); have n3_ := Aside0.mk (qfA (g := gb248) (o := .cells #[.int .i64 a0_0, .int .i64 a0_1, .slice A0_2 l0_2.length c0_2] 45 (0, 0)) (by (with_reducible repeat (first | refine qD ?_ _ | refine qE ?_ | refine qC ?_ _)); exact BK248.out) hg (Kd.R_ne HO_8.out BK248.out (by decide))); have n4_ := Aside0.mk (hb); have n5_ := Aside0.mk (ho); clear HO_18; clear HO_22; clear HO_33; clear BK248; clear HB; clear HO_8; have HO_18 := n0_; have HO_22 := n1_; have HO_33 := n2_; have BK248 := n3_; have HB := n4_; have HO289 := n5_; clear n0_ n1_ n2_ n3_ n4_ n5_; clear ho hb hg hat))
                           (try simp only [← hl18_3, ← hl22_3])
                           go_roundg k3
                           case measure => have := HK1.out; have := HK2.out; have := HK3.out; omega
                           case rel => exact ⟨(y287), (wrap64 (x10_3 + 1)), (y286), (y284), (by first | rfl | (simp; done) | (simp [*]; done)), H', ⟨by have := HK1.out; have := HK2.out; have := HK3.out; omega⟩, ⟨by (try simp only [hl18_1]); (try simp only [hl18_2]); (try simp only [hl22_2]); (try simp only [hl18_3]); (try simp only [hl22_3]); (with_reducible repeat (first | apply Kd.qF | apply Kd.qG | apply Kd.qH)); exact HO289.out⟩, ⟨by (try simp only [hl18_1]); (try simp only [hl18_2]); (try simp only [hl22_2]); (try simp only [hl18_3]); (try simp only [hl22_3]); (with_reducible repeat (first | apply Kd.qF | apply Kd.qG | apply Kd.qH)); exact Kd.qd HO_18.out (fun _ hk => ⟨hk.2, hk.1⟩)⟩, ⟨by (try simp only [hl18_1]); (try simp only [hl18_2]); (try simp only [hl22_2]); (try simp only [hl18_3]); (try simp only [hl22_3]); (with_reducible repeat (first | apply Kd.qF | apply Kd.qG | apply Kd.qH)); exact HO_22.out⟩, ⟨by (try simp only [hl18_1]); (try simp only [hl18_2]); (try simp only [hl22_2]); (try simp only [hl18_3]); (try simp only [hl22_3]); (with_reducible repeat (first | apply Kd.qF | apply Kd.qG | apply Kd.qH)); exact Kd.qd HO_33.out (fun _ hk => ⟨hk.2, hk.1⟩)⟩, ⟨by (try simp only [hl18_1]); (try simp only [hl18_2]); (try simp only [hl22_2]); (try simp only [hl18_3]); (try simp only [hl22_3]); (with_reducible repeat (first | refine qD ?_ _ | refine qE ?_ | refine qC ?_ _)); exact BK248.out⟩, ⟨bl⟩⟩
                          ·rw [if_neg c54] at H
                           exact absurd H (by simp)
                         ·rw [if_neg c51] at H
                          exact absurd H (by simp)
                        ·rw [if_neg c49] at H
                         exact absurd H (by simp)
                       ·rw [if_neg c48] at H
                        exact absurd H (by simp)
                      ·rw [if_neg c47] at H
                       have c47b0 : decide ((rd x18_3 t274) < 0) = false := decide_eq_false c47
                       clear c47
                       have H' := Aside0.mk H
                       clear H
                       try go_wp2
                       have n0_ := Aside0.mk (Kd.qH HO_8.out)
                       have n1_ := Aside0.mk (Kd.qH HO_18.out)
                       have n2_ := Aside0.mk (Kd.qH HO_22.out)
                       have n3_ := Aside0.mk (Kd.qH HO_33.out)
                       have n4_ := Aside0.mk (qE BK248.out)
                       have n5_ := Aside0.mk (qk HB.out)
                       clear HO_8
                       clear HO_18
                       clear HO_22
                       clear HO_33
                       clear BK248
                       clear HB
                       have HO_8 := n0_
                       have HO_18 := n1_
                       have HO_22 := n2_
                       have HO_33 := n3_
                       have BK248 := n4_
                       have HB := n5_
                       clear n0_ n1_ n2_ n3_ n4_ n5_
                       obtain ⟨Ao65, co65, eo65⟩ := Kd.qr HO_8.out
                       (first | subst eo65 | (injection eo65 with f1_ f2_ f3_; have f4_ := f1_.symm; have f5_ := f3_.symm; clear f1_ f2_ f3_; subst f4_; subst f5_))
                       have p273 : 0 ≤ (x9_2 : Int) := of_decide_eq_true (by first | (with_reducible assumption) | assumption)
                       have q273 : x9_2 < (x8_3.length : Int) := of_decide_eq_true (by first | (with_reducible assumption) | assumption)
                       obtain ⟨ad273, e273, hx273_0⟩ := Kd.qGA (Kd.qS HO_8.out).2.2 x9_2 p273 q273
                       cases e273
                       replace p273 := eq_true p273
                       replace q273 := eq_true q273
                       refine qwA (n := 8) (S := fun w' => w'.cell? ⟨gb248, 0, none⟩ = some (.int .i64 a0_0) ∧ w'.cell? ⟨gb248, 1, none⟩ = some (.int .i64 a0_1) ∧ w'.cell? ⟨gb248, 2, none⟩ = some (.slice A0_2 l0_2.length c0_2) ∧ w'.cell? (ad273.add (x9_2).toNat) = some (.int .i64 (rd x8_3 x9_2))) (ds := []) #[false, false, false, false, false, false, false, false] (by kernel_rfl) rfl rfl ⟨(qL BK248.out 0).trans rfl, (qL BK248.out 1).trans rfl, (qL BK248.out 2).trans rfl, hx273_0⟩ (fun hHeld => ?_); refine qTA qK.tab18 qK.bits18 (fun HT_ HW_ => ?_)
                       generalize wr.drew = w64 at HO_8 HO_18 HO_22 HO_33 BK248 HB hx273_0 hHeld ⊢
                       refine pS (i := 1) (N := some 60) #[false, true, false, false, false, false, false, false] HT_ ?_
                       refine pS (i := 2) (N := some 61) #[false, true, true, false, false, false, false, false] HT_ ?_
                       refine pS (i := 3) (N := some 62) #[false, true, true, true, false, false, false, false] HT_ ?_
                       refine pS (i := 5) (N := some 64) #[false, true, true, true, false, true, false, false] HT_ ?_
                       refine tS (i := 0) (N := some 59) #[true, true, true, true, false, true, false, false] HT_ HW_ hHeld ?_
                       refine tS (i := 4) (N := some 63) #[true, true, true, true, true, true, false, false] HT_ HW_ hHeld ?_
                       refine one_ (i := 6) (N := some 65) #[true, true, true, true, true, true, true, false] rfl rfl (qnA HT_.out (by kernel_rfl)) (by decide) (fun K hK => ?_)
                       refine goes_ Tryd.func42 (by kernel_rfl) rfl #[.agg #[.int .i64 a0_0, .int .i64 a0_1, .slice A0_2 l0_2.length c0_2], .int .i64 (rd x8_3 x9_2), .int .i64 x10_3] (by rfl) rfl rfl (by (try simp only [List.map_toArray, List.map_cons, List.map_nil]); first | done | rfl | (simp only [List.length_drop, List.length_take]; rfl)) ?_
                       with_reducible refine (qgA.calls a0_0 a0_1 _ _ l0_2 (rd x8_3 x9_2) x10_3 t274 _ ?side1 ?side2 A43.out).mono ?_
                       (case side1 => repeat (first | exact (Kd.qyA HR0_2.out HB.out) | (with_reducible refine Kd.qZA ?_ _) | (with_reducible refine Kd.qYA ?_ _) | (with_reducible refine Kd.qpA ?_)))
                       (case side2 => exact HC0_2.out)
                       rintro e w66 ⟨rfl, hb⟩
                       have HS3_ := (hb.cell (World.block_lt_of_cell? _ _ (hHeld.2.2.2))).trans (hHeld.2.2.2)
                       refine ⟨_, rfl, ?_⟩
                       have n0_ := Aside0.mk (Kd.qU (by (with_reducible repeat (first | apply Kd.qF | apply Kd.qG | apply Kd.qH)); exact HO_8.out) hb)
                       have n1_ := Aside0.mk (Kd.qU (by (with_reducible repeat (first | apply Kd.qF | apply Kd.qG | apply Kd.qH)); exact HO_18.out) hb)
                       have n2_ := Aside0.mk (Kd.qU (by (with_reducible repeat (first | apply Kd.qF | apply Kd.qG | apply Kd.qH)); exact HO_22.out) hb)
                       have n3_ := Aside0.mk (Kd.qU (by (with_reducible repeat (first | apply Kd.qF | apply Kd.qG | apply Kd.qH)); exact HO_33.out) hb)
                       have n4_ := Aside0.mk (bb BK248 hb)
                       have n5_ := Aside0.mk (qJ bl hb)
                       clear HO_8
                       clear HO_18
                       clear HO_22
                       clear HO_33
                       clear BK248
                       clear HB
                       have HO_8 := n0_
                       have HO_18 := n1_
                       have HO_22 := n2_
                       have HO_33 := n3_
                       have BK248 := n4_
                       have HB := n5_
                       clear n0_ n1_ n2_ n3_ n4_ n5_
                       (try clear hb)
                       (try clear hb2)
                       (try clear hk)
                       (try clear hi)
                       refine hK.out _ _ ⟨(qL BK248.out 0).trans rfl, (qL BK248.out 1).trans rfl, (qL BK248.out 2).trans rfl, HS3_⟩ (fun hHeld => ?_)
                       clear hK K
                       refine norm_ (a' := ?_) ?_ ?_
                       rotate_left
                       ·show Act.put _ (some 65) _ = _
                        simp only [Act.put, List.setIfInBounds_toArray, List.set_cons_zero, List.set_cons_succ, i64_w, i32_w]
                        rfl
                       refine pS (i := 7) (N := some 11) #[true, true, true, true, true, true, true, true] HT_ ?_
                       refine done_ (qDB HT_.out (by kernel_rfl)) ?_
                       have p275 : 0 ≤ (t274 : Int) := of_decide_eq_true (by first | (with_reducible assumption) | assumption)
                       have q275 : t274 < (x18_3.length : Int) := of_decide_eq_true (by first | (with_reducible assumption) | assumption)
                       obtain ⟨ad275, e275, hx275_0⟩ := Kd.qGA (Kd.qS HO_18.out).2.2 t274 p275 q275
                       obtain rfl : (⟨go26, 0, none⟩ : Addr) = ad275 := (by injection e275)
                       (first | simp only [qDA] at hx275_0 | simp only [qoA] at hx275_0 | simp only [Addr.add, Nat.zero_add] at hx275_0 | skip)
                       replace p275 := eq_true p275
                       replace q275 := eq_true q275
                       try go_wp2
                       (try simp only [← hl18_3, ← hl22_3])
                       go_roundg k3
                       case measure => have := HK1.out; have := HK2.out; have := HK3.out; omega
                       case rel => exact ⟨(x8_3), (wrap64 (x10_3 + 1)), (x18_3), (x22_3), (by first | rfl | (simp; done) | (simp [*]; done)), H', ⟨by have := HK1.out; have := HK2.out; have := HK3.out; omega⟩, ⟨by (try simp only [hl18_1]); (try simp only [hl18_2]); (try simp only [hl22_2]); (try simp only [hl18_3]); (try simp only [hl22_3]); (with_reducible repeat (first | apply Kd.qF | apply Kd.qG | apply Kd.qH)); exact HO_8.out⟩, ⟨by (try simp only [hl18_1]); (try simp only [hl18_2]); (try simp only [hl22_2]); (try simp only [hl18_3]); (try simp only [hl22_3]); (with_reducible repeat (first | apply Kd.qF | apply Kd.qG | apply Kd.qH)); exact HO_18.out⟩, ⟨by (try simp only [hl18_1]); (try simp only [hl18_2]); (try simp only [hl22_2]); (try simp only [hl18_3]); (try simp only [hl22_3]); (with_reducible repeat (first | apply Kd.qF | apply Kd.qG | apply Kd.qH)); exact HO_22.out⟩, ⟨by (try simp only [hl18_1]); (try simp only [hl18_2]); (try simp only [hl22_2]); (try simp only [hl18_3]); (try simp only [hl22_3]); (with_reducible repeat (first | apply Kd.qF | apply Kd.qG | apply Kd.qH)); exact HO_33.out⟩, ⟨by (try simp only [hl18_1]); (try simp only [hl18_2]); (try simp only [hl22_2]); (try simp only [hl18_3]); (try simp only [hl22_3]); (with_reducible repeat (first | refine qD ?_ _ | refine qE ?_ | refine qC ?_ _)); exact BK248.out⟩, ⟨bl⟩⟩
                     ·rw [if_neg c46] at H
                      exact absurd H (by simp)
                    ·rw [if_neg c45] at H
                     exact absurd H (by simp)
                   ·rw [if_neg c44] at H
                    have c44b0 : decide (0 ≤ t274) = false := decide_eq_false c44
                    clear c44
                    have H' := Aside0.mk H
                    clear H
                    try go_wp2
                    have n0_ := Aside0.mk (Kd.qH HO_8.out)
                    have n1_ := Aside0.mk (Kd.qH HO_18.out)
                    have n2_ := Aside0.mk (Kd.qH HO_22.out)
                    have n3_ := Aside0.mk (Kd.qH HO_33.out)
                    have n4_ := Aside0.mk (qE BK248.out)
                    have n5_ := Aside0.mk (qk HB.out)
                    clear HO_8
                    clear HO_18
                    clear HO_22
                    clear HO_33
                    clear BK248
                    clear HB
                    have HO_8 := n0_
                    have HO_18 := n1_
                    have HO_22 := n2_
                    have HO_33 := n3_
                    have BK248 := n4_
                    have HB := n5_
                    clear n0_ n1_ n2_ n3_ n4_ n5_
                    obtain ⟨Ao68, co68, eo68⟩ := Kd.qr HO_8.out
                    (first | subst eo68 | (injection eo68 with f1_ f2_ f3_; have f4_ := f1_.symm; have f5_ := f3_.symm; clear f1_ f2_ f3_; subst f4_; subst f5_))
                    have p273 : 0 ≤ (x9_2 : Int) := of_decide_eq_true (by first | (with_reducible assumption) | assumption)
                    have q273 : x9_2 < (x8_3.length : Int) := of_decide_eq_true (by first | (with_reducible assumption) | assumption)
                    obtain ⟨ad273, e273, hx273_0⟩ := Kd.qGA (Kd.qS HO_8.out).2.2 x9_2 p273 q273
                    cases e273
                    replace p273 := eq_true p273
                    replace q273 := eq_true q273
                    refine qwA (n := 8) (S := fun w' => w'.cell? ⟨gb248, 0, none⟩ = some (.int .i64 a0_0) ∧ w'.cell? ⟨gb248, 1, none⟩ = some (.int .i64 a0_1) ∧ w'.cell? ⟨gb248, 2, none⟩ = some (.slice A0_2 l0_2.length c0_2) ∧ w'.cell? (ad273.add (x9_2).toNat) = some (.int .i64 (rd x8_3 x9_2))) (ds := []) #[false, false, false, false, false, false, false, false] (by kernel_rfl) rfl rfl ⟨(qL BK248.out 0).trans rfl, (qL BK248.out 1).trans rfl, (qL BK248.out 2).trans rfl, hx273_0⟩ (fun hHeld => ?_); refine qTA qK.tab18 qK.bits18 (fun HT_ HW_ => ?_)
                    generalize wr.drew = w67 at HO_8 HO_18 HO_22 HO_33 BK248 HB hx273_0 hHeld ⊢
                    refine pS (i := 1) (N := some 60) #[false, true, false, false, false, false, false, false] HT_ ?_
                    refine pS (i := 2) (N := some 61) #[false, true, true, false, false, false, false, false] HT_ ?_
                    refine pS (i := 3) (N := some 62) #[false, true, true, true, false, false, false, false] HT_ ?_
                    refine pS (i := 5) (N := some 64) #[false, true, true, true, false, true, false, false] HT_ ?_
                    refine tS (i := 0) (N := some 59) #[true, true, true, true, false, true, false, false] HT_ HW_ hHeld ?_
                    refine tS (i := 4) (N := some 63) #[true, true, true, true, true, true, false, false] HT_ HW_ hHeld ?_
                    refine one_ (i := 6) (N := some 65) #[true, true, true, true, true, true, true, false] rfl rfl (qnA HT_.out (by kernel_rfl)) (by decide) (fun K hK => ?_)
                    refine goes_ Tryd.func42 (by kernel_rfl) rfl #[.agg #[.int .i64 a0_0, .int .i64 a0_1, .slice A0_2 l0_2.length c0_2], .int .i64 (rd x8_3 x9_2), .int .i64 x10_3] (by rfl) rfl rfl (by (try simp only [List.map_toArray, List.map_cons, List.map_nil]); first | done | rfl | (simp only [List.length_drop, List.length_take]; rfl)) ?_
                    with_reducible refine (qgA.calls a0_0 a0_1 _ _ l0_2 (rd x8_3 x9_2) x10_3 t274 _ ?side1 ?side2 A43.out).mono ?_
                    (case side1 => repeat (first | exact (Kd.qyA HR0_2.out HB.out) | (with_reducible refine Kd.qZA ?_ _) | (with_reducible refine Kd.qYA ?_ _) | (with_reducible refine Kd.qpA ?_)))
                    (case side2 => exact HC0_2.out)
                    rintro e w69 ⟨rfl, hb⟩
                    have HS3_ := (hb.cell (World.block_lt_of_cell? _ _ (hHeld.2.2.2))).trans (hHeld.2.2.2)
                    refine ⟨_, rfl, ?_⟩
                    have n0_ := Aside0.mk (Kd.qU (by (with_reducible repeat (first | apply Kd.qF | apply Kd.qG | apply Kd.qH)); exact HO_8.out) hb)
                    have n1_ := Aside0.mk (Kd.qU (by (with_reducible repeat (first | apply Kd.qF | apply Kd.qG | apply Kd.qH)); exact HO_18.out) hb)
                    have n2_ := Aside0.mk (Kd.qU (by (with_reducible repeat (first | apply Kd.qF | apply Kd.qG | apply Kd.qH)); exact HO_22.out) hb)
                    have n3_ := Aside0.mk (Kd.qU (by (with_reducible repeat (first | apply Kd.qF | apply Kd.qG | apply Kd.qH)); exact HO_33.out) hb)
                    have n4_ := Aside0.mk (bb BK248 hb)
                    have n5_ := Aside0.mk (qJ bl hb)
                    clear HO_8
                    clear HO_18
                    clear HO_22
                    clear HO_33
                    clear BK248
                    clear HB
                    have HO_8 := n0_
                    have HO_18 := n1_
                    have HO_22 := n2_
                    have HO_33 := n3_
                    have BK248 := n4_
                    have HB := n5_
                    clear n0_ n1_ n2_ n3_ n4_ n5_
                    (try clear hb)
                    (try clear hb2)
                    (try clear hk)
                    (try clear hi)
                    refine hK.out _ _ ⟨(qL BK248.out 0).trans rfl, (qL BK248.out 1).trans rfl, (qL BK248.out 2).trans rfl, HS3_⟩ (fun hHeld => ?_)
                    clear hK K
                    refine norm_ (a' := ?_) ?_ ?_
                    rotate_left
                    ·show Act.put _ (some 65) _ = _
                     simp only [Act.put, List.setIfInBounds_toArray, List.set_cons_zero, List.set_cons_succ, i64_w, i32_w]
                     rfl
                    refine pS (i := 7) (N := some 11) #[true, true, true, true, true, true, true, true] HT_ ?_
                    refine done_ (qDB HT_.out (by kernel_rfl)) ?_
                    try go_wp2
                    (try simp only [← hl18_3, ← hl22_3])
                    go_roundg k3
                    case measure => have := HK1.out; have := HK2.out; have := HK3.out; omega
                    case rel => exact ⟨(x8_3), (wrap64 (x10_3 + 1)), (x18_3), (x22_3), (by first | rfl | (simp; done) | (simp [*]; done)), H', ⟨by have := HK1.out; have := HK2.out; have := HK3.out; omega⟩, ⟨by (try simp only [hl18_1]); (try simp only [hl18_2]); (try simp only [hl22_2]); (try simp only [hl18_3]); (try simp only [hl22_3]); (with_reducible repeat (first | apply Kd.qF | apply Kd.qG | apply Kd.qH)); exact HO_8.out⟩, ⟨by (try simp only [hl18_1]); (try simp only [hl18_2]); (try simp only [hl22_2]); (try simp only [hl18_3]); (try simp only [hl22_3]); (with_reducible repeat (first | apply Kd.qF | apply Kd.qG | apply Kd.qH)); exact HO_18.out⟩, ⟨by (try simp only [hl18_1]); (try simp only [hl18_2]); (try simp only [hl22_2]); (try simp only [hl18_3]); (try simp only [hl22_3]); (with_reducible repeat (first | apply Kd.qF | apply Kd.qG | apply Kd.qH)); exact HO_22.out⟩, ⟨by (try simp only [hl18_1]); (try simp only [hl18_2]); (try simp only [hl22_2]); (try simp only [hl18_3]); (try simp only [hl22_3]); (with_reducible repeat (first | apply Kd.qF | apply Kd.qG | apply Kd.qH)); exact HO_33.out⟩, ⟨by (try simp only [hl18_1]); (try simp only [hl18_2]); (try simp only [hl22_2]); (try simp only [hl18_3]); (try simp only [hl22_3]); (with_reducible repeat (first | refine qD ?_ _ | refine qE ?_ | refine qC ?_ _)); exact BK248.out⟩, ⟨bl⟩⟩
                  ·rw [if_neg c42] at H
                   exact absurd H (by simp)
                 ·rw [if_neg c41] at H
                  exact absurd H (by simp)
                ·rw [if_neg c40] at H
                 have c40b0 : decide (x10_3 < 4) = false := decide_eq_false c40
                 clear c40
                 have H' := Aside0.mk H
                 clear H
                 go_wp2
                 (try simp only [← hl18_2, ← hl22_2, ← hl18_3, ← hl22_3])
                 go_roundg k3
                 case measure => have := HK1.out; have := HK2.out; have := HK3.out; omega
                 case rel => exact ⟨(x8_3), (wrap64 (x9_2 + 1)), (x18_3), (x22_3), (by first | rfl | (simp; done) | (simp [*]; done)), H', ⟨by have := HK1.out; have := HK2.out; have := HK3.out; omega⟩, ⟨by (try simp only [hl18_1]); (try simp only [hl18_2]); (try simp only [hl22_2]); (try simp only [hl18_3]); (try simp only [hl22_3]); (with_reducible repeat (first | apply Kd.qF | apply Kd.qG | apply Kd.qH)); exact HO_8.out⟩, ⟨by (try simp only [hl18_1]); (try simp only [hl18_2]); (try simp only [hl22_2]); (try simp only [hl18_3]); (try simp only [hl22_3]); (with_reducible repeat (first | apply Kd.qF | apply Kd.qG | apply Kd.qH)); exact HO_18.out⟩, ⟨by (try simp only [hl18_1]); (try simp only [hl18_2]); (try simp only [hl22_2]); (try simp only [hl18_3]); (try simp only [hl22_3]); (with_reducible repeat (first | apply Kd.qF | apply Kd.qG | apply Kd.qH)); exact HO_22.out⟩, ⟨by (try simp only [hl18_1]); (try simp only [hl18_2]); (try simp only [hl22_2]); (try simp only [hl18_3]); (try simp only [hl22_3]); (with_reducible repeat (first | apply Kd.qF | apply Kd.qG | apply Kd.qH)); exact HO_33.out⟩, ⟨by (try simp only [hl18_1]); (try simp only [hl18_2]); (try simp only [hl22_2]); (try simp only [hl18_3]); (try simp only [hl22_3]); (with_reducible repeat (first | refine qD ?_ _ | refine qE ?_ | refine qC ?_ _)); exact BK248.out⟩, ⟨bl⟩⟩
             ·rw [if_neg c38] at H
              have c38b0 : decide (x9_2 < (x8_2.length : Int)) = false := decide_eq_false c38
              (try (have c38b0_hl18_1 := c38b0; simp only [hl18_1] at c38b0_hl18_1))
              (try (have c38b0_hl18_2 := c38b0; simp only [hl18_2] at c38b0_hl18_2))
              (try (have c38b0_hl22_2 := c38b0; simp only [hl22_2] at c38b0_hl22_2))
              clear c38
              have H' := Aside0.mk H
              clear H
              obtain ⟨Ao70, co70, eo70⟩ := Kd.qr HO_8.out
              subst eo70
              go_wp2
              go_loopg [12, 101] k2 (fun kq v12 v101 w' => ∃ (x12_3 : Int) (x101_3 : Int), v12 = .int .i64 x12_3 ∧ v101 = .int .i64 x101_3 ∧ Aside0 (qK.l3 kq x12_3 x18_2 t256 (t256.length : Int) x101_3 = some (r1, r2)) ∧ Aside0 (kq ≤ k2) ∧ Aside0 (Kd.R (Kd.int .i64) 3 w' w.heap.size (fun k_ => some k_ ≠ ((.slice (some ad259) t256.length co30) : Value).ownBlock) (.slice (some ⟨go26, 0, none⟩) x18_2.length co12) x18_2) ∧ Aside0 (Kd.R (Kd.int .i64) 3 w' w.heap.size (fun k_ => some k_ ≠ ((.slice (some ⟨go26, 0, none⟩) x18_2.length co12) : Value).ownBlock) (.slice (some ad259) t256.length co30) t256) ∧ Aside0 (w'.heap[gb248]? = some (.cells #[.int .i64 a0_0, .int .i64 a0_1, (.slice A0_2 l0_2.length c0_2)] 45 (0, 0))) ∧ Aside0 (Below w.heap.size w w'))
              case atStart => exact ⟨(0), (0), (by first | rfl | (simp; done) | (simp [*]; done)), (by first | rfl | (simp; done) | (simp [*]; done)), H', ⟨Nat.le_refl _⟩, ⟨by (try simp only [hl18_1]); (try simp only [hl18_2]); (try simp only [hl22_2]); (with_reducible repeat (first | apply Kd.qF | apply Kd.qG | apply Kd.qH)); exact Kd.qd HO_18.out (fun _ hk => hk.2)⟩, ⟨by (try simp only [hl18_1]); (try simp only [hl18_2]); (try simp only [hl22_2]); (with_reducible repeat (first | apply Kd.qF | apply Kd.qG | apply Kd.qH)); exact Kd.qd HO_33.out (fun _ hk => hk.2)⟩, ⟨by (try simp only [hl18_1]); (try simp only [hl18_2]); (try simp only [hl22_2]); (with_reducible repeat (first | refine qD ?_ _ | refine qE ?_ | refine qC ?_ _)); exact BK248.out⟩, ⟨bl⟩⟩
              case round =>
               clear H'
               try clear p1
               try clear q1
               try clear hx1
               try clear p2
               try clear q2
               try clear hx2
               try clear c3
               try clear c4
               try clear c5
               try clear p5
               try clear q5
               try clear hx5
               try clear hf5
               try clear p6
               try clear c7
               try clear p16
               try clear q16
               try clear hx16
               try clear p24
               try clear q24
               try clear hx24
               try clear p25
               try clear q25
               try clear hx25
               try clear p26
               try clear q26
               try clear hx26
               try clear p27
               try clear q27
               try clear hx27
               try clear p28
               try clear q28
               try clear hx28
               try clear c38
               try clear c38b0
               try clear c40
               try clear c40b0
               try clear c41
               try clear c41b0
               try clear c42
               try clear c42b0
               try clear c44
               try clear c44b0
               try clear c45
               try clear c45b0
               try clear c46
               try clear c46b0
               try clear c47
               try clear c47b0
               try clear c48
               try clear c48b0
               try clear c49
               try clear c49b0
               try clear c51
               try clear c51b0
               try clear c52
               try clear p52
               try clear q52
               try clear hx52
               try clear hf52
               try clear p53
               try clear q53
               try clear hx53
               try clear hf53
               try clear c54
               try clear c59
               try clear hx59
               try clear hf59
               try clear p64
               try clear hcz9_1
               try clear hcz9_2
               try clear hfz27_0
               try clear hfz27_1
               try clear hfz27_2
               try clear hfz6_0
               try clear hfz6_1
               try clear hfz6_2
               try clear hfz9_0
               try clear hfz9_1
               try clear hfz9_2
               try clear hx16_0
               try clear hx24_0
               try clear hx24_1
               try clear hx24_2
               try clear hx24_3
               try clear hx24_4
               try clear hx24_5
               try clear hx259_0
               try clear hx267_0
               try clear hx269_0
               try clear hx26_0
               try clear hx273_0
               try clear hx275_0
               try clear hx276_0
               try clear hx277_0
               try clear hx277_1
               try clear hx277_2
               try clear hx277_3
               try clear hx277_4
               try clear hx277_5
               try clear hx285_0
               try clear hx285_1
               try clear hx285_2
               try clear hx285_3
               try clear hx285_4
               try clear hx285_5
               try clear hx52_0
               try clear hx52_1
               try clear hx52_2
               try clear hx52_3
               try clear hx52_4
               try clear hx52_5
               try clear hx53_0
               try clear hx59_0
               try clear hx59_1
               try clear hx59_2
               try clear hx59_3
               try clear hx59_4
               try clear hx59_5
               try clear p1
               try clear p16
               try clear p2
               try clear p24
               try clear p25
               try clear p259
               try clear p26
               try clear p267
               try clear p269
               try clear p273
               try clear p275
               try clear p276
               try clear p277
               try clear p285
               try clear p52
               try clear p53
               try clear p6
               try clear q1
               try clear q16
               try clear q2
               try clear q24
               try clear q25
               try clear q259
               try clear q26
               try clear q267
               try clear q269
               try clear q273
               try clear q275
               try clear q276
               try clear q277
               try clear q285
               try clear q52
               try clear q53
               obtain ⟨x12_3, x101_3, rfl, rfl, HA, HK3, HO_18, HO_33, BK248, HB⟩ := hrel
               cases gk with
               | zero => exact absurd HA.out (by simp [qK.l3])
               | succ k3 =>
                have H := HA.out
                clear HA
                simp only [qK.l3] at H
                by_cases c71 : x101_3 < (t256.length : Int)
                ·rw [if_pos c71] at H
                 have c71b0 : decide (x101_3 < (t256.length : Int)) = true := decide_eq_true c71
                 (try (have c71b0_hl18_1 := c71b0; simp only [hl18_1] at c71b0_hl18_1))
                 (try (have c71b0_hl18_2 := c71b0; simp only [hl18_2] at c71b0_hl18_2))
                 (try (have c71b0_hl22_2 := c71b0; simp only [hl22_2] at c71b0_hl22_2))
                 clear c71
                 by_cases c72 : 0 ≤ x101_3
                 ·rw [if_pos c72] at H
                  have c72b0 : decide (0 ≤ x101_3) = true := decide_eq_true c72
                  clear c72
                  by_cases c73 : x101_3 < (t256.length : Int)
                  ·rw [if_pos c73] at H
                   have c73b0 : decide (x101_3 < (t256.length : Int)) = true := decide_eq_true c73
                   (try (have c73b0_hl18_1 := c73b0; simp only [hl18_1] at c73b0_hl18_1))
                   (try (have c73b0_hl18_2 := c73b0; simp only [hl18_2] at c73b0_hl18_2))
                   (try (have c73b0_hl22_2 := c73b0; simp only [hl22_2] at c73b0_hl22_2))
                   clear c73
                   by_cases c74 : 0 ≤ (rd t256 x101_3)
                   ·rw [if_pos c74] at H
                    have c74b0 : decide (0 ≤ (rd t256 x101_3)) = true := decide_eq_true c74
                    clear c74
                    by_cases c75 : (rd t256 x101_3) < (x18_2.length : Int)
                    ·rw [if_pos c75] at H
                     have c75b0 : decide ((rd t256 x101_3) < (x18_2.length : Int)) = true := decide_eq_true c75
                     (try (have c75b0_hl18_1 := c75b0; simp only [hl18_1] at c75b0_hl18_1))
                     (try (have c75b0_hl18_2 := c75b0; simp only [hl18_2] at c75b0_hl18_2))
                     (try (have c75b0_hl22_2 := c75b0; simp only [hl22_2] at c75b0_hl22_2))
                     clear c75
                     by_cases c76 : 0 ≤ (rd x18_2 (rd t256 x101_3))
                     ·rw [if_pos c76] at H
                      have c76b0 := eq_true c76
                      have c76b1 : decide (0 ≤ (rd x18_2 (rd t256 x101_3))) = true := decide_eq_true c76
                      clear c76
                      obtain ⟨ji77, hji77⟩ : ∃ j_ : Int, (shr .i64 x12_3 (rd x18_2 (rd t256 x101_3))) = j_ := ⟨_, rfl⟩
                      replace H : (if (Int.tmod (ji77) 2) = 1 then (some (x18_2, false)) else (qK.l3 k3 (Go.bits .or .i64 x12_3 (shl .i64 1 (rd x18_2 (rd t256 x101_3)))) x18_2 t256 (t256.length : Int) (wrap64 (x101_3 + 1)))) = some (r1, r2) := by first | (rw [hji77] at H; exact H) | (simp only [hji77] at H ⊢; exact H)
                      have hji77_ : (x12_3 / 2 ^ min (rd x18_2 (rd t256 x101_3)).toNat 64) = ji77 := hji77
                      have hji77z : (rd x18_2 (rd t256 x101_3)) ≤ 64 → (x12_3 / 2 ^ (rd x18_2 (rd t256 x101_3)).toNat) = ji77 := shr_small hji77
                      by_cases c78 : (Int.tmod (ji77) 2) = 1
                      ·rw [if_pos c78] at H
                       have c78b0 : ((Int.tmod (ji77) 2) == 1) = true := beq_iff_eq.mpr c78
                       have c78b1 : ((Int.tmod (ji77) 2) != 1) = false := bne_eq_false_iff_eq.mpr c78
                       clear c78
                       simp only [Option.some.injEq, Prod.mk.injEq] at H
                       obtain ⟨rfl, rfl⟩ := H
                       have p290 : 0 ≤ (x101_3 : Int) := of_decide_eq_true (by first | (with_reducible assumption) | assumption)
                       have q290 : x101_3 < (t256.length : Int) := of_decide_eq_true (by first | (with_reducible assumption) | assumption)
                       obtain ⟨ad290, e290, hx290_0⟩ := Kd.qGA (Kd.qS HO_33.out).2.2 x101_3 p290 q290
                       obtain rfl : ad259 = ad290 := (by injection e290)
                       replace p290 := eq_true p290
                       replace q290 := eq_true q290
                       have p291 : 0 ≤ ((rd t256 x101_3) : Int) := of_decide_eq_true (by first | (with_reducible assumption) | assumption)
                       have q291 : (rd t256 x101_3) < (x18_2.length : Int) := of_decide_eq_true (by first | (with_reducible assumption) | assumption)
                       obtain ⟨ad291, e291, hx291_0⟩ := Kd.qGA (Kd.qS HO_18.out).2.2 (rd t256 x101_3) p291 q291
                       obtain rfl : (⟨go26, 0, none⟩ : Addr) = ad291 := (by injection e291)
                       (first | simp only [qDA] at hx291_0 | simp only [qoA] at hx291_0 | simp only [Addr.add, Nat.zero_add] at hx291_0 | skip)
                       replace p291 := eq_true p291
                       replace q291 := eq_true q291
                       go_wp2
                       go_ret2
                       exact ⟨_, by first | rfl | (simp [qN, qM] <;> rfl) | (simp only [← hji77]; first | rfl | (simp [qN, qM] <;> rfl)) | (simp [*, qN, qM] <;> rfl), by (with_reducible repeat (first | apply Kd.qF | apply Kd.qG | apply Kd.qH)); exact Kd.qd HO_18.out (fun _ hk => trivial), bl⟩
                      ·rw [if_neg c78] at H
                       have c78b0 : ((Int.tmod (ji77) 2) == 1) = false := beq_eq_false_iff_ne.mpr c78
                       have c78b1 : ((Int.tmod (ji77) 2) != 1) = true := bne_iff_ne.mpr c78
                       have c79b0 := eq_true (of_decide_eq_true (by first | (with_reducible assumption) | assumption) : 0 ≤ (rd x18_2 (rd t256 x101_3)))
                       obtain ⟨ji80, hji80⟩ : ∃ j_ : Int, (shl .i64 1 (rd x18_2 (rd t256 x101_3))) = j_ := ⟨_, rfl⟩
                       replace H : (qK.l3 k3 (Go.bits .or .i64 x12_3 (ji80)) x18_2 t256 (t256.length : Int) (wrap64 (x101_3 + 1))) = some (r1, r2) := by first | (rw [hji80] at H; exact H) | (simp only [hji80] at H ⊢; exact H)
                       have hji80_ : (IntKind.i64.wrap (1 * 2 ^ min (rd x18_2 (rd t256 x101_3)).toNat 64)) = ji80 := hji80
                       have hji80z : (rd x18_2 (rd t256 x101_3)) ≤ 64 → (IntKind.i64.wrap (1 * 2 ^ (rd x18_2 (rd t256 x101_3)).toNat)) = ji80 := qnB hji80
                       have hji80u : (IntKind.i64.wrap (2 ^ min (rd x18_2 (rd t256 x101_3)).toNat 64)) = ji80 := by have h_ := hji80_; rw [Int.one_mul] at h_; exact h_
                       have hji80v : (rd x18_2 (rd t256 x101_3)) ≤ 64 → (IntKind.i64.wrap (2 ^ (rd x18_2 (rd t256 x101_3)).toNat)) = ji80 := fun hle_ => by have h_ := hji80z hle_; rw [Int.one_mul] at h_; exact h_
                       have hji80y : (wrap64 (1 * 2 ^ min (rd x18_2 (rd t256 x101_3)).toNat 64)) = ji80 := (i64_w _).symm.trans hji80_
                       have hji80x : (rd x18_2 (rd t256 x101_3)) ≤ 64 → (wrap64 (1 * 2 ^ (rd x18_2 (rd t256 x101_3)).toNat)) = ji80 := fun h_ => (i64_w _).symm.trans (hji80z h_)
                       have H' := Aside0.mk H
                       clear H
                       have p290 : 0 ≤ (x101_3 : Int) := of_decide_eq_true (by first | (with_reducible assumption) | assumption)
                       have q290 : x101_3 < (t256.length : Int) := of_decide_eq_true (by first | (with_reducible assumption) | assumption)
                       obtain ⟨ad290, e290, hx290_0⟩ := Kd.qGA (Kd.qS HO_33.out).2.2 x101_3 p290 q290
                       obtain rfl : ad259 = ad290 := (by injection e290)
                       replace p290 := eq_true p290
                       replace q290 := eq_true q290
                       have p291 : 0 ≤ ((rd t256 x101_3) : Int) := of_decide_eq_true (by first | (with_reducible assumption) | assumption)
                       have q291 : (rd t256 x101_3) < (x18_2.length : Int) := of_decide_eq_true (by first | (with_reducible assumption) | assumption)
                       obtain ⟨ad291, e291, hx291_0⟩ := Kd.qGA (Kd.qS HO_18.out).2.2 (rd t256 x101_3) p291 q291
                       obtain rfl : (⟨go26, 0, none⟩ : Addr) = ad291 := (by injection e291)
                       (first | simp only [qDA] at hx291_0 | simp only [qoA] at hx291_0 | simp only [Addr.add, Nat.zero_add] at hx291_0 | skip)
                       replace p291 := eq_true p291
                       replace q291 := eq_true q291
                       have p292 : 0 ≤ ((rd t256 x101_3) : Int) := of_decide_eq_true (by first | (with_reducible assumption) | assumption)
                       have q292 : (rd t256 x101_3) < (x18_2.length : Int) := of_decide_eq_true (by first | (with_reducible assumption) | assumption)
                       obtain ⟨ad292, e292, hx292_0⟩ := Kd.qGA (Kd.qS HO_18.out).2.2 (rd t256 x101_3) p292 q292
                       obtain rfl : (⟨go26, 0, none⟩ : Addr) = ad292 := (by injection e292)
                       (first | simp only [qDA] at hx292_0 | simp only [qoA] at hx292_0 | simp only [Addr.add, Nat.zero_add] at hx292_0 | skip)
                       replace p292 := eq_true p292
                       replace q292 := eq_true q292
                       go_wp2
                       go_roundg k3
                       case measure => have := HK1.out; have := HK2.out; have := HK3.out; omega
                       case rel => exact ⟨(Go.bits .or .i64 x12_3 (ji80)), (wrap64 (x101_3 + 1)), (by first | rfl | (simp; done) | (simp only [← hji80] <;> (first | rfl | simp)) | (simp [*]; done)), (by first | rfl | (simp; done) | (simp [*]; done)), H', ⟨by have := HK1.out; have := HK2.out; have := HK3.out; omega⟩, ⟨by (try simp only [hl18_1]); (try simp only [hl18_2]); (try simp only [hl22_2]); (with_reducible repeat (first | apply Kd.qF | apply Kd.qG | apply Kd.qH)); exact HO_18.out⟩, ⟨by (try simp only [hl18_1]); (try simp only [hl18_2]); (try simp only [hl22_2]); (with_reducible repeat (first | apply Kd.qF | apply Kd.qG | apply Kd.qH)); exact HO_33.out⟩, ⟨by (try simp only [hl18_1]); (try simp only [hl18_2]); (try simp only [hl22_2]); (with_reducible repeat (first | refine qD ?_ _ | refine qE ?_ | refine qC ?_ _)); exact BK248.out⟩, ⟨bl⟩⟩
                     ·rw [if_neg c76] at H
                      exact absurd H (by simp)
                    ·rw [if_neg c75] at H
                     exact absurd H (by simp)
                   ·rw [if_neg c74] at H
                    exact absurd H (by simp)
                  ·rw [if_neg c73] at H
                   exact absurd H (by simp)
                 ·rw [if_neg c72] at H
                  exact absurd H (by simp)
                ·rw [if_neg c71] at H
                 have c71b0 : decide (x101_3 < (t256.length : Int)) = false := decide_eq_false c71
                 (try (have c71b0_hl18_1 := c71b0; simp only [hl18_1] at c71b0_hl18_1))
                 (try (have c71b0_hl18_2 := c71b0; simp only [hl18_2] at c71b0_hl18_2))
                 (try (have c71b0_hl22_2 := c71b0; simp only [hl22_2] at c71b0_hl22_2))
                 clear c71
                 simp only [Option.some.injEq, Prod.mk.injEq] at H
                 obtain ⟨rfl, rfl⟩ := H
                 go_wp2
                 go_ret2
                 exact ⟨_, by first | rfl | (simp [qN, qM] <;> rfl) | (simp [*, qN, qM] <;> rfl), by (with_reducible repeat (first | apply Kd.qF | apply Kd.qG | apply Kd.qH)); exact Kd.qd HO_18.out (fun _ hk => trivial), bl⟩
          ·rw [if_neg c25] at H
           exact absurd H (by simp)
         ·rw [if_neg c23] at H
          exact absurd H (by simp)
        ·rw [if_neg c22] at H
         exact absurd H (by simp)
       ·rw [if_neg c20] at H
        exact absurd H (by simp)
   ·rw [if_neg c4] at H
    exact absurd H (by simp)
  ·rw [if_neg c3] at H
   exact absurd H (by simp)
 ·rw [if_neg c2] at H
  exact absurd H (by simp)
def qsA.f (k : Nat) (a0 : ByteArray) : Option (Int × Int × List Int × List Int × Bool) := (qQ.f k a0 false).bind fun bt294 => (if bt294.2.2.2 = true then ((qf.f k bt294.1 bt294.2.1 bt294.2.2.1).bind fun t301 => (if t301 = true then ((qK.f k bt294.1 bt294.2.1 bt294.2.2.1).bind fun bt302 => (some (bt294.1, bt294.2.1, bt294.2.2.1, bt302.1, bt302.2))) else (some (bt294.1, bt294.2.1, bt294.2.2.1, ([] : List Int), false)))) else (some (bt294.1, bt294.2.1, bt294.2.2.1, ([] : List Int), false)))
set_option maxHeartbeats 8000000 in
set_option maxRecDepth 100000 in
theorem qsA.calls (k : Nat) (a0 : ByteArray) (r1 : Int) (r2 : Int) (r3 : List Int) (r4 : List Int) (r5 : Bool) (w : World) (h : qsA.f k a0 = some (r1, r2, r3, r4, r5)) :
  Calls Tryd.prog 34 #[.string a0] w fun e w' => ∃ v2_ v3_ : Value, e = .returned (.tuple #[.agg #[.int .i64 r1, .int .i64 r2, v2_], v3_, .bool r5]) ∧ Kd.R (Kd.int .u8) 5 w' w.heap.size (fun _ => True) v2_ r3 ∧ Kd.R (Kd.int .i64) 3 w' w.heap.size (fun _ => True) v3_ r4 ∧ Below w.heap.size w w' := by
 have hu45 := Tryd.underlying45
 have HB := Aside0.mk (Below.refl w.heap.size w)
 have H : ((qQ.f k a0 false).bind fun bt294 => (if bt294.2.2.2 = true then ((qf.f k bt294.1 bt294.2.1 bt294.2.2.1).bind fun t301 => (if t301 = true then ((qK.f k bt294.1 bt294.2.1 bt294.2.2.1).bind fun bt302 => (some (bt294.1, bt294.2.1, bt294.2.2.1, bt302.1, bt302.2))) else (some (bt294.1, bt294.2.1, bt294.2.2.1, ([] : List Int), false)))) else (some (bt294.1, bt294.2.1, bt294.2.2.1, ([] : List Int), false)))) = some (r1, r2, r3, r4, r5) := h
 clear h
 replace H := Option.bind_eq_some_iff.mp H
 obtain ⟨⟨t294, t295, t296, t299⟩, A20, H⟩ := H
 replace H : (if t299 = true then ((qf.f k t294 t295 t296).bind fun t301 => (if t301 = true then ((qK.f k t294 t295 t296).bind fun bt302 => (some (t294, t295, t296, bt302.1, bt302.2))) else (some (t294, t295, t296, ([] : List Int), false)))) else (some (t294, t295, t296, ([] : List Int), false))) = some (r1, r2, r3, r4, r5) := H
 have A2 := Aside0.mk A20
 clear A20
 by_cases c3 : t299 = true
 ·subst c3
  have H1 : ((qf.f k t294 t295 t296).bind fun t301 => (if t301 = true then ((qK.f k t294 t295 t296).bind fun bt302 => (some (t294, t295, t296, bt302.1, bt302.2))) else (some (t294, t295, t296, ([] : List Int), false)))) = some (r1, r2, r3, r4, r5) := by rw [if_pos rfl] at H; exact H
  clear H
  have H := H1
  clear H1
  replace H := Option.bind_eq_some_iff.mp H
  obtain ⟨t301, A40, H⟩ := H
  replace H : (if t301 = true then ((qK.f k t294 t295 t296).bind fun bt302 => (some (t294, t295, t296, bt302.1, bt302.2))) else (some (t294, t295, t296, ([] : List Int), false))) = some (r1, r2, r3, r4, r5) := H
  have A4 := Aside0.mk A40
  clear A40
  by_cases c5 : t301 = true
  ·subst c5
   have H1 : ((qK.f k t294 t295 t296).bind fun bt302 => (some (t294, t295, t296, bt302.1, bt302.2))) = some (r1, r2, r3, r4, r5) := by rw [if_pos rfl] at H; exact H
   clear H
   have H := H1
   clear H1
   replace H := Option.bind_eq_some_iff.mp H
   obtain ⟨⟨t302, t305⟩, A60, H⟩ := H
   replace H : (some (t294, t295, t296, t302, t305)) = some (r1, r2, r3, r4, r5) := H
   have A6 := Aside0.mk A60
   clear A60
   simp only [Option.some.injEq, Prod.mk.injEq] at H
   obtain ⟨rfl, rfl, rfl, rfl, rfl⟩ := H
   go_enter Tryd.func34, Tryd.ntmps34
   go_wp2_with (first | ((with_reducible refine qX (N := 2) rfl ?_); refine qW ?hg (N := 2) ?hd (cs := #[.int .i64 0, .int .i64 0, .slice none 0 0]) (t := 45) ?hr ?_; (case hd => rfl); (case hg => rfl); (case hr => first | (go_simp; done) | (go_simp; rfl)); intro gb293 hg w7 hbox hb; have n0_ := Aside0.mk (qJ bl hb); have n1_ := Aside0.mk (hbox); have n2_ := Aside0.mk ((gg hg)); have n3_ := Aside0.mk ((gg hg)); clear HB; have HB := n0_; have BK293 := n1_; have GW293 := n2_; have GE293 := n3_; clear n0_ n1_ n2_ n3_; clear hb hbox hg) | ((with_reducible refine qa (f := 31) rfl ?_); refine qQA (some 11) rfl rfl Tryd.func31 (by kernel_rfl) rfl #[.string a0, .bool false] rfl (by (try simp only [List.map_toArray, List.map_cons, List.map_nil]); first | done | rfl | (simp only [List.length_drop, List.length_take]; rfl)) ?_; (with_reducible refine (qQ.calls k a0 false t294 t295 t296 true _ A2.out).mono ?_); rintro e w8 ⟨v297, rfl, ho0, hb⟩; refine ⟨_, rfl, ?_⟩; have n0_ := Aside0.mk (Kd.qEA ho0 (qb bl)); have n1_ := Aside0.mk (bb BK293 hb); have n2_ := Aside0.mk (qJ bl hb); clear BK293; clear HB; have HO298 := n0_; have BK293 := n1_; have HB := n2_; clear n0_ n1_ n2_; (try clear hb); (try clear hb2); (try clear hk); (try clear hi); (try clear ho0)) | ((with_reducible refine qX (N := 5) rfl ?_); refine qW ?hg (N := 5) ?hd (cs := #[.int .i64 0, .int .i64 0, .slice none 0 0]) (t := 45) ?hr ?_; (case hd => rfl); (case hg => rfl); (case hr => first | (go_simp; done) | (go_simp; rfl)); intro gb300 hg w9 hbox hb; have n0_ := Aside0.mk (Kd.qU (by (with_reducible repeat (first | apply Kd.qF | apply Kd.qG | apply Kd.qH)); exact HO298.out) hb); have n1_ := Aside0.mk (bb BK293 hb); have n2_ := Aside0.mk (qJ bl hb); have n3_ := Aside0.mk (hbox); have n4_ := Aside0.mk ((gg hg)); have n5_ := Aside0.mk ((gg hg)); have n6_ := Aside0.mk ((nl BK293 hg)); have n7_ := Aside0.mk ((nr BK293 hg)); clear HO298; clear BK293; clear HB; have HO298 := n0_; have BK293 := n1_; have HB := n2_; have BK300 := n3_; have GW300 := n4_; have GE300 := n5_; have NB293_300 := n6_; have NB300_293 := n7_; clear n0_ n1_ n2_ n3_ n4_ n5_ n6_ n7_; clear hb hbox hg; have hnb10 := NB300_293.out; have hnc10 := NB293_300.out; have hcz11_0 := bc BK300 0; have hcz11_1 := bc BK300 1; have hcz11_2 := bc BK300 2; have hfz11_0 := qA BK300.out 0; have hfz11_1 := qA BK300.out 1; have hfz11_2 := qA BK300.out 2; obtain ⟨Ao12, co12, eo12⟩ := Kd.qr HO298.out; subst eo12) | (go_at_call 32; (with_reducible refine (qf.calls k t294 t295 _ _ t296 true _ ?side1 ?side2 A4.out).mono ?_); (case side1 => refine (Kd.qS (e := 5) (base := w.heap.size) (ok := fun k_ => True) (n := t296.length) (c := co12) ?_).2.2; exact (by (with_reducible repeat (first | apply Kd.qF | apply Kd.qG | apply Kd.qH)); exact (Kd.qd (Kd.R_far (p := ⟨gb300, 2, none⟩) (Kd.R_far (p := ⟨gb300, 1, none⟩) (Kd.R_far (p := ⟨gb300, 0, none⟩) (Kd.qRA HO298.out BK300.out (by decide)) (fun _ hk => hk.2) (.int .i64 t294)) (fun _ hk => hk.2) (.int .i64 t295)) (fun _ hk => hk.2) (.slice Ao12 t296.length co12)) (fun _ h_ => h_.1)))); (case side2 => exact (Kd.qS HO298.out).2.1); rintro e w13 ⟨rfl, hb⟩; have n0_ := Aside0.mk (Kd.qU (by (with_reducible repeat (first | apply Kd.qF | apply Kd.qG | apply Kd.qH)); exact (Kd.qd (Kd.R_far (p := ⟨gb300, 2, none⟩) (Kd.R_far (p := ⟨gb300, 1, none⟩) (Kd.R_far (p := ⟨gb300, 0, none⟩) (Kd.qRA HO298.out BK300.out (by decide)) (fun _ hk => hk.2) (.int .i64 t294)) (fun _ hk => hk.2) (.int .i64 t295)) (fun _ hk => hk.2) (.slice Ao12 t296.length co12)) (fun _ h_ => h_.1))) hb); have n1_ := Aside0.mk (qEB (g := gb293) (o := .cells #[.int .i64 0, .int .i64 0, .slice none 0 0] 45 (0, 0)) (by (with_reducible repeat (first | refine qD ?_ _ | refine qE ?_ | refine qC ?_ _)); refine qc ?_ NB293_300.out _; (with_reducible repeat (first | refine qD ?_ _ | refine qE ?_ | refine qC ?_ _)); refine qc ?_ NB293_300.out _; (with_reducible repeat (first | refine qD ?_ _ | refine qE ?_ | refine qC ?_ _)); refine qc ?_ NB293_300.out _; (with_reducible repeat (first | refine qD ?_ _ | refine qE ?_ | refine qC ?_ _)); exact BK293.out) hb); have n2_ := Aside0.mk (qEB (g := gb300) (o := .cells #[.int .i64 t294, .int .i64 t295, .slice Ao12 t296.length co12] 45 (0, 0)) (by (with_reducible repeat (first | refine qD ?_ _ | refine qE ?_ | refine qC ?_ _)); refine qO (cs := #[.int .i64 t294, .int .i64 t295, .slice none 0 0]) ?_ 2 _ rfl; (with_reducible repeat (first | refine qD ?_ _ | refine qE ?_ | refine qC ?_ _)); refine qO (cs := #[.int .i64 t294, .int .i64 0, .slice none 0 0]) ?_ 1 _ rfl; (with_reducible repeat (first | refine qD ?_ _ | refine qE ?_ | refine qC ?_ _)); refine qO (cs := #[.int .i64 0, .int .i64 0, .slice none 0 0]) ?_ 0 _ rfl; (with_reducible repeat (first | refine qD ?_ _ | refine qE ?_ | refine qC ?_ _)); exact BK300.out) hb); have n3_ := Aside0.mk (qJ bl hb); clear HO298; clear BK293; clear BK300; clear HB; have HO298 := n0_; have BK293 := n1_; have BK300 := n2_; have HB := n3_; clear n0_ n1_ n2_ n3_; (try clear hb); (try clear hb2); (try clear hk); (try clear hi); have hcz14_0 := bc BK300 0; have hcz14_1 := bc BK300 1; have hcz14_2 := bc BK300 2; have hfz14_0 := qA BK300.out 0; have hfz14_1 := qA BK300.out 1; have hfz14_2 := qA BK300.out 2) | ((with_reducible refine qa (f := 50) rfl ?_); refine qQA (some 24) rfl rfl Tryd.func50 (by kernel_rfl) rfl #[.agg #[.int .i64 t294, .int .i64 t295, .slice Ao12 t296.length co12]] rfl (by (try simp only [List.map_toArray, List.map_cons, List.map_nil]); first | done | rfl | (simp only [List.length_drop, List.length_take]; rfl)) ?_; (with_reducible refine (qK.calls k t294 t295 _ _ t296 t302 t305 _ ?side1 ?side2 A6.out).mono ?_); (case side1 => repeat (first | exact (Kd.qS HO298.out).2.2 | (with_reducible refine Kd.qZA ?_ _) | (with_reducible refine Kd.qYA ?_ _) | (with_reducible refine Kd.qpA ?_))); (case side2 => exact (Kd.qS HO298.out).2.1); rintro e w15 ⟨v303, rfl, ho0, hb⟩; refine ⟨_, rfl, ?_⟩; have n0_ := Aside0.mk (Kd.qU (by (with_reducible repeat (first | apply Kd.qF | apply Kd.qG | apply Kd.qH)); exact HO298.out) hb); have n1_ := Aside0.mk (Kd.qEA ho0 (qb bl)); have n2_ := Aside0.mk (bb BK293 hb); have n3_ := Aside0.mk (bb BK300 hb); have n4_ := Aside0.mk (qJ bl hb); clear HO298; clear BK293; clear BK300; clear HB; have HO298 := n0_; have HO304 := n1_; have BK293 := n2_; have BK300 := n3_; have HB := n4_; clear n0_ n1_ n2_ n3_ n4_; (try clear hb); (try clear hb2); (try clear hk); (try clear hi); (try clear ho0); have hcz16_0 := bc BK300 0; have hcz16_1 := bc BK300 1; have hcz16_2 := bc BK300 2; have hfz16_0 := qA BK300.out 0; have hfz16_1 := qA BK300.out 1; have hfz16_2 := qA BK300.out 2; have hcz17_0 := bc BK293 0; have hcz17_1 := bc BK293 1; have hcz17_2 := bc BK293 2; have hfz17_0 := qA BK293.out 0; have hfz17_1 := qA BK293.out 1; have hfz17_2 := qA BK293.out 2))
   refine bodyPost_ret (qEC rfl _ _ gb293 45 #[.int .i64 t294, .int .i64 t295, .slice Ao12 t296.length co12] (0, 0) _ rfl (by (with_reducible repeat (first | refine qD ?_ _ | refine qE ?_ | refine qC ?_ _)); refine qO (cs := #[.int .i64 t294, .int .i64 t295, .slice none 0 0]) ?_ 2 _ rfl; (with_reducible repeat (first | refine qD ?_ _ | refine qE ?_ | refine qC ?_ _)); refine qO (cs := #[.int .i64 t294, .int .i64 0, .slice none 0 0]) ?_ 1 _ rfl; (with_reducible repeat (first | refine qD ?_ _ | refine qE ?_ | refine qC ?_ _)); refine qO (cs := #[.int .i64 0, .int .i64 0, .slice none 0 0]) ?_ 0 _ rfl; (with_reducible repeat (first | refine qD ?_ _ | refine qE ?_ | refine qC ?_ _)); exact BK293.out) Tryd.underlying45 rfl (by kernel_rfl)) rfl ?_
   exact ⟨_, _, by first | rfl | (simp [qN, qM] <;> rfl) | (simp [*, qN, qM] <;> rfl), by (with_reducible repeat (first | apply Kd.qF | apply Kd.qG | apply Kd.qH)); exact Kd.qd (Kd.R_far (p := ⟨gb293, 2, none⟩) (Kd.R_far (p := ⟨gb293, 1, none⟩) (Kd.R_far (p := ⟨gb293, 0, none⟩) (Kd.qRA HO298.out BK293.out (by decide)) (fun _ hk => hk.2) (.int .i64 t294)) (fun _ hk => hk.2) (.int .i64 t295)) (fun _ hk => hk.2) (.slice Ao12 t296.length co12)) (fun _ hk => trivial), by (with_reducible repeat (first | apply Kd.qF | apply Kd.qG | apply Kd.qH)); exact Kd.qd (Kd.R_far (p := ⟨gb293, 2, none⟩) (Kd.R_far (p := ⟨gb293, 1, none⟩) (Kd.R_far (p := ⟨gb293, 0, none⟩) (Kd.qRA HO304.out BK293.out (by decide)) (fun _ hk => hk.2) (.int .i64 t294)) (fun _ hk => hk.2) (.int .i64 t295)) (fun _ hk => hk.2) (.slice Ao12 t296.length co12)) (fun _ hk => trivial), bl⟩
  ·replace c5 := Bool.eq_false_iff.mpr c5
   subst c5
   have H1 : (some (t294, t295, t296, ([] : List Int), false)) = some (r1, r2, r3, r4, r5) := by rw [if_neg (show ¬ (false = true) by decide)] at H; exact H
   clear H
   have H := H1
   clear H1
   simp only [Option.some.injEq, Prod.mk.injEq] at H
   obtain ⟨rfl, rfl, rfl, rfl, rfl⟩ := H
   go_enter Tryd.func34, Tryd.ntmps34
   go_wp2_with (first | ((with_reducible refine qX (N := 2) rfl ?_); refine qW ?hg (N := 2) ?hd (cs := #[.int .i64 0, .int .i64 0, .slice none 0 0]) (t := 45) ?hr ?_; (case hd => rfl); (case hg => rfl); (case hr => first | (go_simp; done) | (go_simp; rfl)); intro gb293 hg w18 hbox hb; have n0_ := Aside0.mk (qJ bl hb); have n1_ := Aside0.mk (hbox); have n2_ := Aside0.mk ((gg hg)); have n3_ := Aside0.mk ((gg hg)); clear HB; have HB := n0_; have BK293 := n1_; have GW293 := n2_; have GE293 := n3_; clear n0_ n1_ n2_ n3_; clear hb hbox hg) | ((with_reducible refine qa (f := 31) rfl ?_); refine qQA (some 11) rfl rfl Tryd.func31 (by kernel_rfl) rfl #[.string a0, .bool false] rfl (by (try simp only [List.map_toArray, List.map_cons, List.map_nil]); first | done | rfl | (simp only [List.length_drop, List.length_take]; rfl)) ?_; (with_reducible refine (qQ.calls k a0 false t294 t295 t296 true _ A2.out).mono ?_); rintro e w19 ⟨v297, rfl, ho0, hb⟩; refine ⟨_, rfl, ?_⟩; have n0_ := Aside0.mk (Kd.qEA ho0 (qb bl)); have n1_ := Aside0.mk (bb BK293 hb); have n2_ := Aside0.mk (qJ bl hb); clear BK293; clear HB; have HO298 := n0_; have BK293 := n1_; have HB := n2_; clear n0_ n1_ n2_; (try clear hb); (try clear hb2); (try clear hk); (try clear hi); (try clear ho0)) | ((with_reducible refine qX (N := 5) rfl ?_); refine qW ?hg (N := 5) ?hd (cs := #[.int .i64 0, .int .i64 0, .slice none 0 0]) (t := 45) ?hr ?_; (case hd => rfl); (case hg => rfl); (case hr => first | (go_simp; done) | (go_simp; rfl)); intro gb300 hg w20 hbox hb; have n0_ := Aside0.mk (Kd.qU (by (with_reducible repeat (first | apply Kd.qF | apply Kd.qG | apply Kd.qH)); exact HO298.out) hb); have n1_ := Aside0.mk (bb BK293 hb); have n2_ := Aside0.mk (qJ bl hb); have n3_ := Aside0.mk (hbox); have n4_ := Aside0.mk ((gg hg)); have n5_ := Aside0.mk ((gg hg)); have n6_ := Aside0.mk ((nl BK293 hg)); have n7_ := Aside0.mk ((nr BK293 hg)); clear HO298; clear BK293; clear HB; have HO298 := n0_; have BK293 := n1_; have HB := n2_; have BK300 := n3_; have GW300 := n4_; have GE300 := n5_; have NB293_300 := n6_; have NB300_293 := n7_; clear n0_ n1_ n2_ n3_ n4_ n5_ n6_ n7_; clear hb hbox hg; have hnb21 := NB300_293.out; have hnc21 := NB293_300.out; have hcz22_0 := bc BK300 0; have hcz22_1 := bc BK300 1; have hcz22_2 := bc BK300 2; have hfz22_0 := qA BK300.out 0; have hfz22_1 := qA BK300.out 1; have hfz22_2 := qA BK300.out 2; obtain ⟨Ao23, co23, eo23⟩ := Kd.qr HO298.out; subst eo23) | (go_at_call 32; (with_reducible refine (qf.calls k t294 t295 _ _ t296 false _ ?side1 ?side2 A4.out).mono ?_); (case side1 => refine (Kd.qS (e := 5) (base := w.heap.size) (ok := fun k_ => True) (n := t296.length) (c := co23) ?_).2.2; exact (by (with_reducible repeat (first | apply Kd.qF | apply Kd.qG | apply Kd.qH)); exact (Kd.qd (Kd.R_far (p := ⟨gb300, 2, none⟩) (Kd.R_far (p := ⟨gb300, 1, none⟩) (Kd.R_far (p := ⟨gb300, 0, none⟩) (Kd.qRA HO298.out BK300.out (by decide)) (fun _ hk => hk.2) (.int .i64 t294)) (fun _ hk => hk.2) (.int .i64 t295)) (fun _ hk => hk.2) (.slice Ao23 t296.length co23)) (fun _ h_ => h_.1)))); (case side2 => exact (Kd.qS HO298.out).2.1); rintro e w24 ⟨rfl, hb⟩; have n0_ := Aside0.mk (Kd.qU (by (with_reducible repeat (first | apply Kd.qF | apply Kd.qG | apply Kd.qH)); exact (Kd.qd (Kd.R_far (p := ⟨gb300, 2, none⟩) (Kd.R_far (p := ⟨gb300, 1, none⟩) (Kd.R_far (p := ⟨gb300, 0, none⟩) (Kd.qRA HO298.out BK300.out (by decide)) (fun _ hk => hk.2) (.int .i64 t294)) (fun _ hk => hk.2) (.int .i64 t295)) (fun _ hk => hk.2) (.slice Ao23 t296.length co23)) (fun _ h_ => h_.1))) hb); have n1_ := Aside0.mk (qEB (g := gb293) (o := .cells #[.int .i64 0, .int .i64 0, .slice none 0 0] 45 (0, 0)) (by (with_reducible repeat (first | refine qD ?_ _ | refine qE ?_ | refine qC ?_ _)); refine qc ?_ NB293_300.out _; (with_reducible repeat (first | refine qD ?_ _ | refine qE ?_ | refine qC ?_ _)); refine qc ?_ NB293_300.out _; (with_reducible repeat (first | refine qD ?_ _ | refine qE ?_ | refine qC ?_ _)); refine qc ?_ NB293_300.out _; (with_reducible repeat (first | refine qD ?_ _ | refine qE ?_ | refine qC ?_ _)); exact BK293.out) hb); have n2_ := Aside0.mk (qEB (g := gb300) (o := .cells #[.int .i64 t294, .int .i64 t295, .slice Ao23 t296.length co23] 45 (0, 0)) (by (with_reducible repeat (first | refine qD ?_ _ | refine qE ?_ | refine qC ?_ _)); refine qO (cs := #[.int .i64 t294, .int .i64 t295, .slice none 0 0]) ?_ 2 _ rfl; (with_reducible repeat (first | refine qD ?_ _ | refine qE ?_ | refine qC ?_ _)); refine qO (cs := #[.int .i64 t294, .int .i64 0, .slice none 0 0]) ?_ 1 _ rfl; (with_reducible repeat (first | refine qD ?_ _ | refine qE ?_ | refine qC ?_ _)); refine qO (cs := #[.int .i64 0, .int .i64 0, .slice none 0 0]) ?_ 0 _ rfl; (with_reducible repeat (first | refine qD ?_ _ | refine qE ?_ | refine qC ?_ _)); exact BK300.out) hb); have n3_ := Aside0.mk (qJ bl hb); clear HO298; clear BK293; clear BK300; clear HB; have HO298 := n0_; have BK293 := n1_; have BK300 := n2_; have HB := n3_; clear n0_ n1_ n2_ n3_; (try clear hb); (try clear hb2); (try clear hk); (try clear hi); have hcz25_0 := bc BK300 0; have hcz25_1 := bc BK300 1; have hcz25_2 := bc BK300 2; have hfz25_0 := qA BK300.out 0; have hfz25_1 := qA BK300.out 1; have hfz25_2 := qA BK300.out 2; have hcz26_0 := bc BK293 0; have hcz26_1 := bc BK293 1; have hcz26_2 := bc BK293 2; have hfz26_0 := qA BK293.out 0; have hfz26_1 := qA BK293.out 1; have hfz26_2 := qA BK293.out 2))
   refine bodyPost_ret (qEC rfl _ _ gb293 45 #[.int .i64 t294, .int .i64 t295, .slice Ao23 t296.length co23] (0, 0) _ rfl (by (with_reducible repeat (first | refine qD ?_ _ | refine qE ?_ | refine qC ?_ _)); refine qO (cs := #[.int .i64 t294, .int .i64 t295, .slice none 0 0]) ?_ 2 _ rfl; (with_reducible repeat (first | refine qD ?_ _ | refine qE ?_ | refine qC ?_ _)); refine qO (cs := #[.int .i64 t294, .int .i64 0, .slice none 0 0]) ?_ 1 _ rfl; (with_reducible repeat (first | refine qD ?_ _ | refine qE ?_ | refine qC ?_ _)); refine qO (cs := #[.int .i64 0, .int .i64 0, .slice none 0 0]) ?_ 0 _ rfl; (with_reducible repeat (first | refine qD ?_ _ | refine qE ?_ | refine qC ?_ _)); exact BK293.out) Tryd.underlying45 rfl (by kernel_rfl)) rfl ?_
   exact ⟨_, _, by first | rfl | (simp [qN, qM] <;> rfl) | (simp [*, qN, qM] <;> rfl), by (with_reducible repeat (first | apply Kd.qF | apply Kd.qG | apply Kd.qH)); exact Kd.qd (Kd.R_far (p := ⟨gb293, 2, none⟩) (Kd.R_far (p := ⟨gb293, 1, none⟩) (Kd.R_far (p := ⟨gb293, 0, none⟩) (Kd.qRA HO298.out BK293.out (by decide)) (fun _ hk => hk.2) (.int .i64 t294)) (fun _ hk => hk.2) (.int .i64 t295)) (fun _ hk => hk.2) (.slice Ao23 t296.length co23)) (fun _ hk => trivial), by first | exact Kd.R_nil _ _ _ _ _ | exact Kd.N_nil _ _ _ _ _ | exact Kd.V_nil _ _ _ _ _ | exact Kd.Q_nil _ _ _ _ _ | exact Kd.S_nil _ _ _ _ _, bl⟩
 ·replace c3 := Bool.eq_false_iff.mpr c3
  subst c3
  have H1 : (some (t294, t295, t296, ([] : List Int), false)) = some (r1, r2, r3, r4, r5) := by rw [if_neg (show ¬ (false = true) by decide)] at H; exact H
  clear H
  have H := H1
  clear H1
  simp only [Option.some.injEq, Prod.mk.injEq] at H
  obtain ⟨rfl, rfl, rfl, rfl, rfl⟩ := H
  go_enter Tryd.func34, Tryd.ntmps34
  go_wp2_with (first | ((with_reducible refine qX (N := 2) rfl ?_); refine qW ?hg (N := 2) ?hd (cs := #[.int .i64 0, .int .i64 0, .slice none 0 0]) (t := 45) ?hr ?_; (case hd => rfl); (case hg => rfl); (case hr => first | (go_simp; done) | (go_simp; rfl)); intro gb293 hg w27 hbox hb; have n0_ := Aside0.mk (qJ bl hb); have n1_ := Aside0.mk (hbox); have n2_ := Aside0.mk ((gg hg)); have n3_ := Aside0.mk ((gg hg)); clear HB; have HB := n0_; have BK293 := n1_; have GW293 := n2_; have GE293 := n3_; clear n0_ n1_ n2_ n3_; clear hb hbox hg) | ((with_reducible refine qa (f := 31) rfl ?_); refine qQA (some 11) rfl rfl Tryd.func31 (by kernel_rfl) rfl #[.string a0, .bool false] rfl (by (try simp only [List.map_toArray, List.map_cons, List.map_nil]); first | done | rfl | (simp only [List.length_drop, List.length_take]; rfl)) ?_; (with_reducible refine (qQ.calls k a0 false t294 t295 t296 false _ A2.out).mono ?_); rintro e w28 ⟨v297, rfl, ho0, hb⟩; refine ⟨_, rfl, ?_⟩; have n0_ := Aside0.mk (Kd.qEA ho0 (qb bl)); have n1_ := Aside0.mk (bb BK293 hb); have n2_ := Aside0.mk (qJ bl hb); clear BK293; clear HB; have HO298 := n0_; have BK293 := n1_; have HB := n2_; clear n0_ n1_ n2_; (try clear hb); (try clear hb2); (try clear hk); (try clear hi); (try clear ho0)) | ((with_reducible refine qX (N := 5) rfl ?_); refine qW ?hg (N := 5) ?hd (cs := #[.int .i64 0, .int .i64 0, .slice none 0 0]) (t := 45) ?hr ?_; (case hd => rfl); (case hg => rfl); (case hr => first | (go_simp; done) | (go_simp; rfl)); intro gb300 hg w29 hbox hb; have n0_ := Aside0.mk (Kd.qU (by (with_reducible repeat (first | apply Kd.qF | apply Kd.qG | apply Kd.qH)); exact HO298.out) hb); have n1_ := Aside0.mk (bb BK293 hb); have n2_ := Aside0.mk (qJ bl hb); have n3_ := Aside0.mk (hbox); have n4_ := Aside0.mk ((gg hg)); have n5_ := Aside0.mk ((gg hg)); have n6_ := Aside0.mk ((nl BK293 hg)); have n7_ := Aside0.mk ((nr BK293 hg)); clear HO298; clear BK293; clear HB; have HO298 := n0_; have BK293 := n1_; have HB := n2_; have BK300 := n3_; have GW300 := n4_; have GE300 := n5_; have NB293_300 := n6_; have NB300_293 := n7_; clear n0_ n1_ n2_ n3_ n4_ n5_ n6_ n7_; clear hb hbox hg; have hnb30 := NB300_293.out; have hnc30 := NB293_300.out; have hcz31_0 := bc BK300 0; have hcz31_1 := bc BK300 1; have hcz31_2 := bc BK300 2; have hfz31_0 := qA BK300.out 0; have hfz31_1 := qA BK300.out 1; have hfz31_2 := qA BK300.out 2; obtain ⟨Ao32, co32, eo32⟩ := Kd.qr HO298.out; subst eo32; have hcz33_0 := bc BK293 0; have hcz33_1 := bc BK293 1; have hcz33_2 := bc BK293 2; have hfz33_0 := qA BK293.out 0; have hfz33_1 := qA BK293.out 1; have hfz33_2 := qA BK293.out 2))
  refine bodyPost_ret (qEC rfl _ _ gb293 45 #[.int .i64 t294, .int .i64 t295, .slice Ao32 t296.length co32] (0, 0) _ rfl (by (with_reducible repeat (first | refine qD ?_ _ | refine qE ?_ | refine qC ?_ _)); refine qO (cs := #[.int .i64 t294, .int .i64 t295, .slice none 0 0]) ?_ 2 _ rfl; (with_reducible repeat (first | refine qD ?_ _ | refine qE ?_ | refine qC ?_ _)); refine qO (cs := #[.int .i64 t294, .int .i64 0, .slice none 0 0]) ?_ 1 _ rfl; (with_reducible repeat (first | refine qD ?_ _ | refine qE ?_ | refine qC ?_ _)); refine qO (cs := #[.int .i64 0, .int .i64 0, .slice none 0 0]) ?_ 0 _ rfl; (with_reducible repeat (first | refine qD ?_ _ | refine qE ?_ | refine qC ?_ _)); refine qc ?_ NB293_300.out _; (with_reducible repeat (first | refine qD ?_ _ | refine qE ?_ | refine qC ?_ _)); refine qc ?_ NB293_300.out _; (with_reducible repeat (first | refine qD ?_ _ | refine qE ?_ | refine qC ?_ _)); refine qc ?_ NB293_300.out _; (with_reducible repeat (first | refine qD ?_ _ | refine qE ?_ | refine qC ?_ _)); exact BK293.out) Tryd.underlying45 rfl (by kernel_rfl)) rfl ?_
  exact ⟨_, _, by first | rfl | (simp [qN, qM] <;> rfl) | (simp [*, qN, qM] <;> rfl), by (with_reducible repeat (first | apply Kd.qF | apply Kd.qG | apply Kd.qH)); exact Kd.qd (Kd.R_far (p := ⟨gb293, 2, none⟩) (Kd.R_far (p := ⟨gb293, 1, none⟩) (Kd.R_far (p := ⟨gb293, 0, none⟩) (Kd.R_far (p := ⟨gb300, 2, none⟩) (Kd.R_far (p := ⟨gb300, 1, none⟩) (Kd.R_far (p := ⟨gb300, 0, none⟩) (Kd.qRA (Kd.qRA HO298.out BK300.out (by decide)) BK293.out (by decide)) (fun _ hk => hk.1.2) (.int .i64 t294)) (fun _ hk => hk.1.2) (.int .i64 t295)) (fun _ hk => hk.1.2) (.slice Ao32 t296.length co32)) (fun _ hk => hk.2) (.int .i64 t294)) (fun _ hk => hk.2) (.int .i64 t295)) (fun _ hk => hk.2) (.slice Ao32 t296.length co32)) (fun _ hk => trivial), by first | exact Kd.R_nil _ _ _ _ _ | exact Kd.N_nil _ _ _ _ _ | exact Kd.V_nil _ _ _ _ _ | exact Kd.Q_nil _ _ _ _ _ | exact Kd.S_nil _ _ _ _ _, bl⟩
end Go.Proofs.YtdncpkppkafkpaaDoor.P
namespace Go.Proofs.YtdncpkppkafkpaaDoor.P
open Go.RowKit Go.Proofs.YtdncpkppkafkpaaDoorW.PrintWords Go.Proofs.YtdncpkppkafkpaaDoorW.PrintLast Go.Proofs.YtdncpkppkafkpaaDoorW.PrintMore
attribute [local go_sem] qz qx qJA qIA qo qn qy qw
theorem qt (x : Int) : wrap64 (IntKind.u8.wrap x) = x % 256 := by
 have h : IntKind.u8.wrap x = x % 256 := rfl
 rw [h]; unfold wrap64; omega
theorem qu (x : Int) : wrap64 (x % 256) = x % 256 := by unfold wrap64; omega
set_option linter.unusedVariables false
set_option linter.unusedSimpArgs false
def qj.l0 : Nat → List Int → List Int → List Int → Int → Int → Int → Int → List Int → Option (Int × Int × Int × Int × Int × Int)
 | 0, _, _, _, _, _, _, _, _ => none
 | k + 1, x1, x8, x10, x11, x12, x600000, x600001, x600002 => if x12 < x11 then (if 0 ≤ x12 then (if x12 < (x10.length : Int) then (if 0 ≤ (rd x10 x12) then (if (rd x10 x12) < (x1.length : Int) then (if (rd x10 x12) < (x600002.length : Int) then (if 0 ≤ (rd x1 (rd x10 x12)) then (if (rd x1 (rd x10 x12)) < (x8.length : Int) then (qj.l0 k x1 (x8.set ((rd x1 (rd x10 x12)) : Int).toNat (((rd x600002 (rd x10 x12)) - 48) % 256)) x10 x11 (wrap64 (x12 + 1)) x600000 x600001 x600002) else (none)) else (none)) else (none)) else (none)) else (none)) else (none)) else (none)) else ((qXA.f x8).bind fun bt611 => (some (bt611.1, bt611.2.1, bt611.2.2.1, bt611.2.2.2.1, bt611.2.2.2.2.1, bt611.2.2.2.2.2)))
def qj.f (k : Nat) (a0_0 : Int) (a0_1 : Int) (l0_2 : List Int) (l1 : List Int) : Option (Int × Int × Int × Int × Int × Int) := if 6 ≤ 35184372088832 then ((qg.f k a0_0 a0_1 l0_2).bind fun t604 => (qj.l0 k l1 (List.replicate 6 0) t604 (t604.length : Int) 0 a0_0 a0_1 l0_2)) else (none)
def qj.T5 : Bool × List (List Nat × List Nat) := (true, [([], []), ([], []), ([], []), ([1, 2], [1, 2]), ([3], [3]), ([], []), ([5], [5]), ([], []), ([6, 7], [6, 7]), ([8], [8]), ([9], [9]), ([10], [10]), ([0, 4, 0, 1, 2, 3, 4, 5, 6, 7, 8, 9, 10, 11], [0, 4]), ([12, 11, 0, 1, 2, 3, 4, 5, 6, 7, 8, 9, 10, 11], [11, 12])])
def qj.B5 : List Nat := [0, 0, 0, 6, 14, 0, 32, 0, 224, 480, 992, 2016, 4095, 8191]
theorem qj.tab5 : rtab .any (opsOf Tryd.f40 5) = qj.T5 := by kernel_rfl
theorem qj.bits5 : waitsOk qj.T5.2 qj.B5 = true := by kernel_rfl
set_option maxHeartbeats 8000000 in
set_option maxRecDepth 100000 in
theorem qj.calls (k : Nat) (a0_0 : Int) (a0_1 : Int) (A0_2 : Option Addr) (c0_2 : Nat) (l0_2 : List Int) (A1 : Option Addr) (c1 : Nat) (l1 : List Int) (r1 : Int) (r2 : Int) (r3 : Int) (r4 : Int) (r5 : Int) (r6 : Int) (w : World) (hr0_2 : Kd.C (Kd.int .u8) w A0_2 l0_2.length l0_2) (hc0_2 : l0_2.length ≤ c0_2) (hr1 : Kd.C (Kd.int .i64) w A1 l1.length l1) (hc1 : l1.length ≤ c1) (h : qj.f k a0_0 a0_1 l0_2 l1 = some (r1, r2, r3, r4, r5, r6)) :
  Calls Tryd.prog 40 #[.agg #[.int .i64 a0_0, .int .i64 a0_1, .slice A0_2 l0_2.length c0_2], .slice A1 l1.length c1] w fun e w' => e = .returned (.agg #[.int .i64 r1, .int .i64 r2, .int .i64 r3, .int .i64 r4, .int .i64 r5, .int .i64 r6]) ∧ Below w.heap.size w w' := by
 have hu45 := Tryd.underlying45
 have hu31 := Tryd.underlying31
 have HR0_2 := Aside0.mk hr0_2
 have HC0_2 := Aside0.mk hc0_2
 clear hr0_2 hc0_2
 have HR1 := Aside0.mk hr1
 have HC1 := Aside0.mk hc1
 clear hr1 hc1
 have HB := Aside0.mk (Below.refl w.heap.size w)
 have H : (if 6 ≤ 35184372088832 then ((qg.f k a0_0 a0_1 l0_2).bind fun t604 => (qj.l0 k l1 (List.replicate 6 0) t604 (t604.length : Int) 0 a0_0 a0_1 l0_2)) else (none)) = some (r1, r2, r3, r4, r5, r6) := h
 clear h
 by_cases c3 : 6 ≤ 35184372088832
 ·rw [if_pos c3] at H
  have c3b0 := eq_true c3
  have c3b1 : decide (6 ≤ 35184372088832) = true := decide_eq_true c3
  clear c3
  obtain ⟨y601, hy601⟩ : ∃ y_ : List Int, y_ = (List.replicate 6 0) := ⟨_, rfl⟩
  replace H : ((qg.f k a0_0 a0_1 l0_2).bind fun t604 => (qj.l0 k l1 y601 t604 (t604.length : Int) 0 a0_0 a0_1 l0_2)) = some (r1, r2, r3, r4, r5, r6) := by first | (rw [hy601]; with_reducible exact H) | (have H2_ := (Option.bind_some _ _).symm.trans H; rw [hy601]; with_reducible exact H2_) | (have H2_ := (Option.bind_some _ _).symm.trans H; with_reducible exact H2_) | with_reducible exact H | (rw [hy601]; exact H) | exact H
  have Ny601 := Aside0.mk hy601
  clear hy601
  replace H := Option.bind_eq_some_iff.mp H
  obtain ⟨t604, A40, H⟩ := H
  replace H : (qj.l0 k l1 y601 t604 (t604.length : Int) 0 a0_0 a0_1 l0_2) = some (r1, r2, r3, r4, r5, r6) := H
  have A4 := Aside0.mk A40
  clear A40
  have H' := Aside0.mk H
  clear H
  go_enter Tryd.func40, Tryd.ntmps40
  go_wp2_with (first | ((with_reducible refine qX (N := 2) rfl ?_); refine qW ?hg (N := 2) ?hd (cs := #[.int .i64 a0_0, .int .i64 a0_1, .slice A0_2 l0_2.length c0_2]) (t := 45) ?hr ?_; (case hd => rfl); (case hg => rfl); (case hr => first | (go_simp; done) | (go_simp; rfl)); intro gb599 hg w5 hbox hb; have n0_ := Aside0.mk (qJ bl hb); have n1_ := Aside0.mk (hbox); have n2_ := Aside0.mk ((gg hg)); have n3_ := Aside0.mk ((gg hg)); clear HB; have HB := n0_; have BK599 := n1_; have GW599 := n2_; have GE599 := n3_; clear n0_ n1_ n2_ n3_; clear hb hbox hg) | ((with_reducible refine qX (N := 4) rfl ?_); refine qW ?hg (N := 4) ?hd (cs := #[.int .i64 0, .int .i64 0, .int .i64 0, .int .i64 0, .int .i64 0, .int .i64 0]) (t := 31) ?hr ?_; (case hd => rfl); (case hg => rfl); (case hr => first | (go_simp; done) | (go_simp; rfl)); intro gb600 hg w6 hbox hb; have n0_ := Aside0.mk (bb BK599 hb); have n1_ := Aside0.mk (qJ bl hb); have n2_ := Aside0.mk (hbox); have n3_ := Aside0.mk ((gg hg)); have n4_ := Aside0.mk ((gg hg)); have n5_ := Aside0.mk ((nl BK599 hg)); have n6_ := Aside0.mk ((nr BK599 hg)); clear BK599; clear HB; have BK599 := n0_; have HB := n1_; have BK600 := n2_; have GW600 := n3_; have GE600 := n4_; have NB599_600 := n5_; have NB600_599 := n6_; clear n0_ n1_ n2_ n3_ n4_ n5_ n6_; clear hb hbox hg) | ((with_reducible refine qX (N := 8) rfl ?_); refine Kd.qBD (Kd.int .i64) _ 3 rfl (N := 8) rfl 25 _ _ rfl 6 rfl rfl Tryd.underlying25 (.int .i64 0) 8 info3 rfl (by decide) (by omega) 0 (ok := fun _ => True) (okp := fun _ => True) rfl (fun _ hk => hk) trivial (by omega) (by omega) (Below.refl _ _) (Nat.le_refl _) ?_; intro v602 w7 ho8 hb hg_ hnew_; clear hg_ hnew_; (first | rw [← Ny601.out] at ho8 | (simp only [Int.reduceToNat] at ho8; rw [← Ny601.out] at ho8)); have n0_ := Aside0.mk (Kd.qEA ho8 (qb bl)); have n1_ := Aside0.mk (bb BK599 hb); have n2_ := Aside0.mk (bb BK600 hb); have n3_ := Aside0.mk (qJ bl hb); clear BK599; clear BK600; clear HB; have HO603 := n0_; have BK599 := n1_; have BK600 := n2_; have HB := n3_; clear n0_ n1_ n2_ n3_; clear hb ho8; have hnb9 := NB599_600.out; have hnc9 := NB600_599.out; have hcz10_0 := bc BK599 0; have hcz10_1 := bc BK599 1; have hcz10_2 := bc BK599 2; have hfz10_0 := qA BK599.out 0; have hfz10_1 := qA BK599.out 1; have hfz10_2 := qA BK599.out 2) | ((with_reducible refine qa (f := 36) rfl ?_); refine qQA (some 10) rfl rfl Tryd.func36 (by kernel_rfl) rfl #[.agg #[.int .i64 a0_0, .int .i64 a0_1, .slice A0_2 l0_2.length c0_2]] rfl (by (try simp only [List.map_toArray, List.map_cons, List.map_nil]); first | done | rfl | (simp only [List.length_drop, List.length_take]; rfl)) ?_; (with_reducible refine (qg.calls k a0_0 a0_1 _ _ l0_2 t604 _ ?side1 ?side2 A4.out).mono ?_); (case side1 => repeat (first | exact (Kd.qyA HR0_2.out HB.out) | (with_reducible refine Kd.qZA ?_ _) | (with_reducible refine Kd.qYA ?_ _) | (with_reducible refine Kd.qpA ?_))); (case side2 => exact HC0_2.out); rintro e w11 ⟨v605, rfl, ho0, hb⟩; refine ⟨_, rfl, ?_⟩; have n0_ := Aside0.mk (Kd.qmA (by (with_reducible repeat (first | apply Kd.qF | apply Kd.qG | apply Kd.qH)); exact HO603.out) (Kd.qLB ho0) hb); have n1_ := Aside0.mk (Kd.qEA (Kd.qKB ho0 (Kd.R_lt (by (with_reducible repeat (first | apply Kd.qF | apply Kd.qG | apply Kd.qH)); exact HO603.out))) (qb bl)); have n2_ := Aside0.mk (bb BK599 hb); have n3_ := Aside0.mk (bb BK600 hb); have n4_ := Aside0.mk (qJ bl hb); clear HO603; clear BK599; clear BK600; clear HB; have HO603 := n0_; have HO606 := n1_; have BK599 := n2_; have BK600 := n3_; have HB := n4_; clear n0_ n1_ n2_ n3_ n4_; (try clear hb); (try clear hb2); (try clear hk); (try clear hi); (try clear ho0); obtain ⟨Ao12, co12, eo12⟩ := Kd.qr HO606.out; subst eo12))
  go_loopg [12] k (fun kq v12 w' => ∃ (x8_1 : List Int) (x12_1 : Int), v12 = .int .i64 x12_1 ∧ Aside0 (qj.l0 kq l1 x8_1 t604 (t604.length : Int) x12_1 a0_0 a0_1 l0_2 = some (r1, r2, r3, r4, r5, r6)) ∧ Aside0 (kq ≤ k) ∧ Aside0 (Kd.R (Kd.int .i64) 3 w' w.heap.size (fun k_ => some k_ ≠ ((.slice Ao12 t604.length co12) : Value).ownBlock) v602 x8_1) ∧ Aside0 (Kd.R (Kd.int .i64) 3 w' w.heap.size (fun k_ => some k_ ≠ (v602 : Value).ownBlock) (.slice Ao12 t604.length co12) t604) ∧ Aside0 (w'.heap[gb599]? = some (.cells #[.int .i64 a0_0, .int .i64 a0_1, (.slice A0_2 l0_2.length c0_2)] 45 (0, 0))) ∧ Aside0 (w'.heap[gb600]? = some (.cells #[.int .i64 0, .int .i64 0, .int .i64 0, .int .i64 0, .int .i64 0, .int .i64 0] 31 (0, 0))) ∧ Aside0 (Below w.heap.size w w'))
  case atStart => exact ⟨(y601), (0), (by first | rfl | (simp; done) | (simp [*]; done)), H', ⟨Nat.le_refl _⟩, ⟨by (with_reducible repeat (first | apply Kd.qF | apply Kd.qG | apply Kd.qH)); exact Kd.qd HO603.out (fun _ hk => hk.2)⟩, ⟨by (with_reducible repeat (first | apply Kd.qF | apply Kd.qG | apply Kd.qH)); exact Kd.qd HO606.out (fun _ hk => hk.2)⟩, ⟨by (with_reducible repeat (first | refine qD ?_ _ | refine qE ?_ | refine qC ?_ _)); exact BK599.out⟩, ⟨by (with_reducible repeat (first | refine qD ?_ _ | refine qE ?_ | refine qC ?_ _)); exact BK600.out⟩, ⟨bl⟩⟩
  case round =>
   clear H'
   try clear c1
   try clear p2
   try clear c3
   try clear c3b0
   try clear c3b1
   try clear c4
   try clear c9
   try clear hcz10_0
   try clear hcz10_1
   try clear hcz10_2
   try clear hfz10_0
   try clear hfz10_1
   try clear hfz10_2
   obtain ⟨x8_1, x12_1, rfl, HA, HK1, HO_8, HO_10, BK599, BK600, HB⟩ := hrel
   cases gk with
   | zero => exact absurd HA.out (by simp [qj.l0])
   | succ k1 =>
    have H := HA.out
    clear HA
    simp only [qj.l0] at H
    by_cases c13 : x12_1 < (t604.length : Int)
    ·rw [if_pos c13] at H
     have c13b0 : decide (x12_1 < (t604.length : Int)) = true := decide_eq_true c13
     clear c13
     by_cases c14 : 0 ≤ x12_1
     ·rw [if_pos c14] at H
      have c14b0 : decide (0 ≤ x12_1) = true := decide_eq_true c14
      clear c14
      by_cases c15 : x12_1 < (t604.length : Int)
      ·rw [if_pos c15] at H
       have c15b0 : decide (x12_1 < (t604.length : Int)) = true := decide_eq_true c15
       clear c15
       by_cases c16 : 0 ≤ (rd t604 x12_1)
       ·rw [if_pos c16] at H
        have c16b0 : decide (0 ≤ (rd t604 x12_1)) = true := decide_eq_true c16
        clear c16
        by_cases c17 : (rd t604 x12_1) < (l1.length : Int)
        ·rw [if_pos c17] at H
         have c17b0 : decide ((rd t604 x12_1) < (l1.length : Int)) = true := decide_eq_true c17
         clear c17
         by_cases c18 : (rd t604 x12_1) < (l0_2.length : Int)
         ·rw [if_pos c18] at H
          have c18b0 : decide ((rd t604 x12_1) < (l0_2.length : Int)) = true := decide_eq_true c18
          clear c18
          by_cases c19 : 0 ≤ (rd l1 (rd t604 x12_1))
          ·rw [if_pos c19] at H
           have c19b0 : decide (0 ≤ (rd l1 (rd t604 x12_1))) = true := decide_eq_true c19
           clear c19
           by_cases c20 : (rd l1 (rd t604 x12_1)) < (x8_1.length : Int)
           ·rw [if_pos c20] at H
            have c20b0 : decide ((rd l1 (rd t604 x12_1)) < (x8_1.length : Int)) = true := decide_eq_true c20
            clear c20
            obtain ⟨y610, hy610⟩ : ∃ y_ : List Int, y_ = (x8_1.set ((rd l1 (rd t604 x12_1)) : Int).toNat (((rd l0_2 (rd t604 x12_1)) - 48) % 256)) := ⟨_, rfl⟩
            replace H : (qj.l0 k1 l1 y610 t604 (t604.length : Int) (wrap64 (x12_1 + 1)) a0_0 a0_1 l0_2) = some (r1, r2, r3, r4, r5, r6) := by first | (rw [hy610]; with_reducible exact H) | (have H2_ := (Option.bind_some _ _).symm.trans H; rw [hy610]; with_reducible exact H2_) | (have H2_ := (Option.bind_some _ _).symm.trans H; with_reducible exact H2_) | with_reducible exact H | (rw [hy610]; exact H) | exact H
            have Ny610 := Aside0.mk hy610
            clear hy610
            have H' := Aside0.mk H
            clear H
            have p607 : 0 ≤ (x12_1 : Int) := of_decide_eq_true (by first | (with_reducible assumption) | assumption)
            have q607 : x12_1 < (t604.length : Int) := of_decide_eq_true (by first | (with_reducible assumption) | assumption)
            obtain ⟨ad607, e607, hx607_0⟩ := Kd.qGA (Kd.qS HO_10.out).2.2 x12_1 p607 q607
            cases e607
            replace p607 := eq_true p607
            replace q607 := eq_true q607
            try go_wp2
            have n0_ := Aside0.mk (Kd.qH HO_8.out)
            have n1_ := Aside0.mk (Kd.qH HO_10.out)
            have n2_ := Aside0.mk (qE BK599.out)
            have n3_ := Aside0.mk (qE BK600.out)
            have n4_ := Aside0.mk (qk HB.out)
            clear HO_8
            clear HO_10
            clear BK599
            clear BK600
            clear HB
            have HO_8 := n0_
            have HO_10 := n1_
            have BK599 := n2_
            have BK600 := n3_
            have HB := n4_
            clear n0_ n1_ n2_ n3_ n4_
            have p608 : 0 ≤ ((rd t604 x12_1) : Int) := of_decide_eq_true (by first | (with_reducible assumption) | assumption)
            have q608 : (rd t604 x12_1) < (l1.length : Int) := of_decide_eq_true (by first | (with_reducible assumption) | assumption)
            obtain ⟨ad608, e608, hx608_0⟩ := Kd.qGA HR1.out (rd t604 x12_1) p608 q608
            have hw608_0 := hx608_0
            cases e608
            replace hx608_0 := (HB.out.cell (World.block_lt_of_cell? w _ hx608_0)).trans hx608_0
            replace p608 := eq_true p608
            replace q608 := eq_true q608
            have p609 : 0 ≤ ((rd t604 x12_1) : Int) := of_decide_eq_true (by first | (with_reducible assumption) | assumption)
            have q609 : (rd t604 x12_1) < (l0_2.length : Int) := of_decide_eq_true (by first | (with_reducible assumption) | assumption)
            obtain ⟨ad609, e609, hx609_0⟩ := Kd.qGA HR0_2.out (rd t604 x12_1) p609 q609
            have hw609_0 := hx609_0
            cases e609
            replace hx609_0 := (HB.out.cell (World.block_lt_of_cell? w _ hx609_0)).trans hx609_0
            replace p609 := eq_true p609
            replace q609 := eq_true q609
            have p21 : 0 ≤ ((rd l1 (rd t604 x12_1)) : Int) := of_decide_eq_true (by first | (with_reducible assumption) | assumption)
            have q21 : ((rd l1 (rd t604 x12_1)) : Int) < ((x8_1.length : Int) : Int) := of_decide_eq_true (by first | (with_reducible assumption) | assumption)
            obtain ⟨go21, co21, eo21, gb21, gl21, cl21, HG21⟩ := Kd.qtB HO_8.out (by omega)
            (first | cases eo21 | (injection eo21 with ea_ en_ ec_; (first | subst ea_ | (injection ea_ with ea_; subst ea_)); subst ec_; clear en_))
            have GB21 := Aside0.mk gb21
            have GG21 := Aside0.mk HG21
            clear gb21 gl21 HG21
            obtain ⟨hx21_0, hf21_0⟩ := Kd.quA 0 HO_8.out ((rd l1 (rd t604 x12_1)) : Int) p21 q21
            replace p21 := eq_true p21
            replace q21 := eq_true q21
            have HP23 := Kd.R_putn HO_8.out ((rd l1 (rd t604 x12_1)) : Int) (((rd l0_2 (rd t604 x12_1)) - 48) % 256)
            rw [← Ny610.out] at HP23
            have HQ23 := Aside0.mk HP23
            clear HP23
            refine qwA (n := 14) (S := fun w' => w'.cell? ⟨gb599, 0, none⟩ = some (.int .i64 a0_0) ∧ w'.cell? ⟨gb599, 1, none⟩ = some (.int .i64 a0_1) ∧ w'.cell? ⟨gb599, 2, none⟩ = some (.slice (some ad609) l0_2.length c0_2) ∧ w'.cell? (ad608.add ((rd t604 x12_1)).toNat) = some (.int .i64 (rd l1 (rd t604 x12_1))) ∧ w'.cell? (ad609.add ((rd t604 x12_1)).toNat) = some (.int .u8 (rd l0_2 (rd t604 x12_1)))) (ds := [13]) #[false, false, false, false, false, false, false, false, false, false, false, false, false, false] (by kernel_rfl) rfl rfl ⟨(qL BK599.out 0).trans rfl, (qL BK599.out 1).trans rfl, (qL BK599.out 2).trans rfl, ((HB.out.cell (World.block_lt_of_cell? w _ hw608_0)).trans hw608_0), ((HB.out.cell (World.block_lt_of_cell? w _ hw609_0)).trans hw609_0)⟩ (fun hHeld => ?_); refine qTA qj.tab5 qj.bits5 (fun HT_ HW_ => ?_)
            generalize wr.drew = w22 at HO_8 HO_10 BK599 BK600 HB GG21 HQ23 hf21_0 hx21_0 hx608_0 hx609_0 hHeld ⊢
            refine pure_ (i := 0) (N := some 16) (v := ?_) (a' := ?_) #[true, false, false, false, false, false, false, false, false, false, false, false, false, false] rfl rfl (qKA HT_.out (by kernel_rfl)) (fun _ _ _ h => h) (Or.inl ⟨by rfl, ?_⟩) ?_ ?_
            rotate_left
            ·intro w'
             go_simp
             first | (with_reducible rfl) | (rw [if_neg (by simp only [ByteArray.size_extract, ByteArray.size_append] at * <;> omega)]; try with_reducible rfl)
            rotate_left
            ·simp only [Act.put, List.setIfInBounds_toArray, List.set_cons_zero, List.set_cons_succ, i64_w, i32_w, qt, qu]
             rfl
            refine pure_ (i := 1) (N := some 17) (v := ?_) (a' := ?_) #[true, true, false, false, false, false, false, false, false, false, false, false, false, false] rfl rfl (qKA HT_.out (by kernel_rfl)) (fun _ _ _ h => h) (Or.inl ⟨by rfl, ?_⟩) ?_ ?_
            rotate_left
            ·intro w'
             go_simp
             first | (with_reducible rfl) | (rw [if_neg (by simp only [ByteArray.size_extract, ByteArray.size_append] at * <;> omega)]; try with_reducible rfl)
            rotate_left
            ·simp only [Act.put, List.setIfInBounds_toArray, List.set_cons_zero, List.set_cons_succ, i64_w, i32_w, qt, qu]
             rfl
            refine pure_ (i := 2) (N := some 18) (v := ?_) (a' := ?_) #[true, true, true, false, false, false, false, false, false, false, false, false, false, false] rfl rfl (qKA HT_.out (by kernel_rfl)) (fun _ _ _ h => h) (Or.inl ⟨by rfl, ?_⟩) ?_ ?_
            rotate_left
            ·intro w'
             go_simp
             first | (with_reducible rfl) | (rw [if_neg (by simp only [ByteArray.size_extract, ByteArray.size_append] at * <;> omega)]; try with_reducible rfl)
            rotate_left
            ·simp only [Act.put, List.setIfInBounds_toArray, List.set_cons_zero, List.set_cons_succ, i64_w, i32_w, qt, qu]
             rfl
            refine pure_ (i := 3) (N := some 19) (v := ?_) (a' := ?_) #[true, true, true, true, false, false, false, false, false, false, false, false, false, false] rfl rfl (qKA HT_.out (by kernel_rfl)) (fun _ _ _ h => h) (Or.inl ⟨by rfl, ?_⟩) ?_ ?_
            rotate_left
            ·intro w'
             go_simp
             first | (with_reducible rfl) | (rw [if_neg (by simp only [ByteArray.size_extract, ByteArray.size_append] at * <;> omega)]; try with_reducible rfl)
            rotate_left
            ·simp only [Act.put, List.setIfInBounds_toArray, List.set_cons_zero, List.set_cons_succ, i64_w, i32_w, qt, qu]
             rfl
            refine pure_ (i := 5) (N := some 21) (v := ?_) (a' := ?_) #[true, true, true, true, false, true, false, false, false, false, false, false, false, false] rfl rfl (qKA HT_.out (by kernel_rfl)) (fun _ _ _ h => h) (Or.inl ⟨by rfl, ?_⟩) ?_ ?_
            rotate_left
            ·intro w'
             go_simp
             first | (with_reducible rfl) | (rw [if_neg (by simp only [ByteArray.size_extract, ByteArray.size_append] at * <;> omega)]; try with_reducible rfl)
            rotate_left
            ·simp only [Act.put, List.setIfInBounds_toArray, List.set_cons_zero, List.set_cons_succ, i64_w, i32_w, qt, qu]
             rfl
            refine pure_ (i := 7) (N := some 23) (v := ?_) (a' := ?_) #[true, true, true, true, false, true, false, true, false, false, false, false, false, false] rfl rfl (qKA HT_.out (by kernel_rfl)) (fun _ _ _ h => h) (Or.inl ⟨by rfl, ?_⟩) ?_ ?_
            rotate_left
            ·intro w'
             go_simp
             first | (with_reducible rfl) | (rw [if_neg (by simp only [ByteArray.size_extract, ByteArray.size_append] at * <;> omega)]; try with_reducible rfl)
            rotate_left
            ·simp only [Act.put, List.setIfInBounds_toArray, List.set_cons_zero, List.set_cons_succ, i64_w, i32_w, qt, qu]
             rfl
            refine take_ (i := 4) (N := some 20) (v := ?_) (a' := ?_) #[true, true, true, true, true, true, false, true, false, false, false, false, false, false] rfl rfl (qlC HT_.out HW_.out (by kernel_rfl)) (fun _ _ _ h => h) (Or.inl ⟨by rfl, ?_⟩) hHeld ?_ ?_
            rotate_left
            ·rintro w' ⟨s0, s1, s2, s3, s4⟩
             go_simp
             first | (with_reducible rfl) | (rw [if_neg (by simp only [ByteArray.size_extract, ByteArray.size_append] at * <;> omega)]; try with_reducible rfl)
            rotate_left
            ·simp only [Act.put, List.setIfInBounds_toArray, List.set_cons_zero, List.set_cons_succ, i64_w, i32_w, qt, qu]
             rfl
            refine take_ (i := 6) (N := some 22) (v := ?_) (a' := ?_) #[true, true, true, true, true, true, true, true, false, false, false, false, false, false] rfl rfl (qlC HT_.out HW_.out (by kernel_rfl)) (fun _ _ _ h => h) (Or.inl ⟨by rfl, ?_⟩) hHeld ?_ ?_
            rotate_left
            ·rintro w' ⟨s0, s1, s2, s3, s4⟩
             go_simp
             first | (with_reducible rfl) | (rw [if_neg (by simp only [ByteArray.size_extract, ByteArray.size_append] at * <;> omega)]; try with_reducible rfl)
            rotate_left
            ·simp only [Act.put, List.setIfInBounds_toArray, List.set_cons_zero, List.set_cons_succ, i64_w, i32_w, qt, qu]
             rfl
            refine pure_ (i := 8) (N := some 24) (v := ?_) (a' := ?_) #[true, true, true, true, true, true, true, true, true, false, false, false, false, false] rfl rfl (qKA HT_.out (by kernel_rfl)) (fun _ _ _ h => h) (Or.inl ⟨by rfl, ?_⟩) ?_ ?_
            rotate_left
            ·intro w'
             go_simp
             first | (with_reducible rfl) | (rw [if_neg (by simp only [ByteArray.size_extract, ByteArray.size_append] at * <;> omega)]; try with_reducible rfl)
            rotate_left
            ·simp only [Act.put, List.setIfInBounds_toArray, List.set_cons_zero, List.set_cons_succ, i64_w, i32_w, qt, qu]
             rfl
            refine take_ (i := 9) (N := some 25) (v := ?_) (a' := ?_) #[true, true, true, true, true, true, true, true, true, true, false, false, false, false] rfl rfl (qlC HT_.out HW_.out (by kernel_rfl)) (fun _ _ _ h => h) (Or.inl ⟨by rfl, ?_⟩) hHeld ?_ ?_
            rotate_left
            ·rintro w' ⟨s0, s1, s2, s3, s4⟩
             go_simp
             first | (with_reducible rfl) | (rw [if_neg (by simp only [ByteArray.size_extract, ByteArray.size_append] at * <;> omega)]; try with_reducible rfl)
            rotate_left
            ·simp only [Act.put, List.setIfInBounds_toArray, List.set_cons_zero, List.set_cons_succ, i64_w, i32_w, qt, qu]
             rfl
            refine pure_ (i := 10) (N := some 26) (v := ?_) (a' := ?_) #[true, true, true, true, true, true, true, true, true, true, true, false, false, false] rfl rfl (qKA HT_.out (by kernel_rfl)) (fun _ _ _ h => h) (Or.inl ⟨by rfl, ?_⟩) ?_ ?_
            rotate_left
            ·intro w'
             go_simp
             first | (with_reducible rfl) | (rw [if_neg (by simp only [ByteArray.size_extract, ByteArray.size_append] at * <;> omega)]; try with_reducible rfl)
            rotate_left
            ·simp only [Act.put, List.setIfInBounds_toArray, List.set_cons_zero, List.set_cons_succ, i64_w, i32_w, qt, qu]
             rfl
            refine pure_ (i := 11) (N := some 27) (v := ?_) (a' := ?_) #[true, true, true, true, true, true, true, true, true, true, true, true, false, false] rfl rfl (qKA HT_.out (by kernel_rfl)) (fun _ _ _ h => h) (Or.inl ⟨by rfl, ?_⟩) ?_ ?_
            rotate_left
            ·intro w'
             go_simp
             first | (with_reducible rfl) | (rw [if_neg (by simp only [ByteArray.size_extract, ByteArray.size_append] at * <;> omega)]; try with_reducible rfl)
            rotate_left
            ·simp only [Act.put, List.setIfInBounds_toArray, List.set_cons_zero, List.set_cons_succ, i64_w, i32_w, qt, qu]
             rfl
            refine pure_ (i := 12) (N := some 28) (v := ?_) (a' := ?_) #[true, true, true, true, true, true, true, true, true, true, true, true, true, false] rfl rfl (qKA HT_.out (by kernel_rfl)) (fun _ _ _ h => h) (Or.inl ⟨by rfl, ?_⟩) ?_ ?_
            rotate_left
            ·intro w'
             go_simp
             first | (with_reducible rfl) | (rw [if_neg (by simp only [ByteArray.size_extract, ByteArray.size_append] at * <;> omega)]; try with_reducible rfl)
            rotate_left
            ·simp only [Act.put, List.setIfInBounds_toArray, List.set_cons_zero, List.set_cons_succ, i64_w, i32_w, qt, qu]
             rfl
            refine last_ (i := 13) (N := none) #[true, true, true, true, true, true, true, true, true, true, true, true, true, true] rfl rfl (qnA HT_.out (by kernel_rfl)) (by decide) (fun K hK => ?_)
            refine skip_ (w1 := ?_) (by rfl) rfl ?_ ?_
            rotate_left
            ·go_simp
             rfl
            refine hK.out _ _ ?_
            clear hK K
            refine done_ (qDB HT_.out (by kernel_rfl)) ?_
            try go_wp2
            go_roundg k1
            case measure => have := HK1.out; omega
            case rel => exact ⟨(y610), (wrap64 (x12_1 + 1)), (by first | rfl | (simp; done) | (simp [*]; done)), H', ⟨by have := HK1.out; omega⟩, ⟨by (with_reducible repeat (first | apply Kd.qF | apply Kd.qG | apply Kd.qH)); exact HQ23.out⟩, ⟨by (with_reducible repeat (first | apply Kd.qF | apply Kd.qG | apply Kd.qH)); exact Kd.qd (Kd.R_far (p := ⟨go21, ((rd l1 (rd t604 x12_1)) : Int).toNat, none⟩) (Kd.qd HO_10.out (fun k_ hk => (⟨hk, fun e_ => hk (by rw [e_]; rfl)⟩ : _ ∧ k_ ≠ go21))) (fun _ hk => hk.2) (.int .i64 (((rd l0_2 (rd t604 x12_1)) - 48) % 256))) (fun _ hk => hk.1)⟩, ⟨by (with_reducible repeat (first | refine qD ?_ _ | refine qE ?_ | refine qC ?_ _)); refine qc ?_ (by have h_ := Kd.R_ne HO_8.out BK599.out (by decide); intro e_; exact h_ (by rw [e_]; rfl)) _; (with_reducible repeat (first | refine qD ?_ _ | refine qE ?_ | refine qC ?_ _)); exact BK599.out⟩, ⟨by (with_reducible repeat (first | refine qD ?_ _ | refine qE ?_ | refine qC ?_ _)); refine qc ?_ (by have h_ := Kd.R_ne HO_8.out BK600.out (by decide); intro e_; exact h_ (by rw [e_]; rfl)) _; (with_reducible repeat (first | refine qD ?_ _ | refine qE ?_ | refine qC ?_ _)); exact BK600.out⟩, ⟨by repeat (first | (with_reducible first | exact HB.out | apply qBA | apply qWA | apply qk | refine ql ?_ GB21.out | refine ql ?_ GE599.out | refine ql ?_ GE600.out) | exact HB.out)⟩⟩
           ·rw [if_neg c20] at H
            exact absurd H (by simp)
          ·rw [if_neg c19] at H
           exact absurd H (by simp)
         ·rw [if_neg c18] at H
          exact absurd H (by simp)
        ·rw [if_neg c17] at H
         exact absurd H (by simp)
       ·rw [if_neg c16] at H
        exact absurd H (by simp)
      ·rw [if_neg c15] at H
       exact absurd H (by simp)
     ·rw [if_neg c14] at H
      exact absurd H (by simp)
    ·rw [if_neg c13] at H
     have c13b0 : decide (x12_1 < (t604.length : Int)) = false := decide_eq_false c13
     clear c13
     replace H := Option.bind_eq_some_iff.mp H
     obtain ⟨⟨t611, t612, t613, t614, t615, t616⟩, A240, H⟩ := H
     replace H : (some (t611, t612, t613, t614, t615, t616)) = some (r1, r2, r3, r4, r5, r6) := H
     have A24 := Aside0.mk A240
     clear A240
     simp only [Option.some.injEq, Prod.mk.injEq] at H
     obtain ⟨rfl, rfl, rfl, rfl, rfl, rfl⟩ := H
     obtain ⟨Ao25, co25, eo25⟩ := Kd.qr HO_8.out
     subst eo25
     go_wp2_with (first | ((with_reducible refine qa (f := 56) rfl ?_); refine qQA (some 31) rfl rfl Tryd.func56 (by kernel_rfl) rfl #[.slice Ao25 x8_1.length co25] rfl (by (try simp only [List.map_toArray, List.map_cons, List.map_nil]); first | done | rfl | (simp only [List.length_drop, List.length_take]; rfl)) ?_; (with_reducible refine (qXA.calls _ _ x8_1 t611 t612 t613 t614 t615 t616 _ ?side1 ?side2 A24.out).mono ?_); (case side1 => repeat (first | exact (Kd.qS HO_8.out).2.2 | (with_reducible refine Kd.qZA ?_ _) | (with_reducible refine Kd.qYA ?_ _) | (with_reducible refine Kd.qpA ?_))); (case side2 => exact (Kd.qS HO_8.out).2.1); rintro e w26 ⟨rfl, hb⟩; refine ⟨_, rfl, ?_⟩; have n0_ := Aside0.mk (Kd.qU (by (with_reducible repeat (first | apply Kd.qF | apply Kd.qG | apply Kd.qH)); exact HO_8.out) hb); have n1_ := Aside0.mk (Kd.qU (by (with_reducible repeat (first | apply Kd.qF | apply Kd.qG | apply Kd.qH)); exact HO_10.out) hb); have n2_ := Aside0.mk (bb BK599 hb); have n3_ := Aside0.mk (bb BK600 hb); have n4_ := Aside0.mk (qJ bl hb); clear HO_8; clear HO_10; clear BK599; clear BK600; clear HB; have HO_8 := n0_; have HO_10 := n1_; have BK599 := n2_; have BK600 := n3_; have HB := n4_; clear n0_ n1_ n2_ n3_ n4_; (try clear hb); (try clear hb2); (try clear hk); (try clear hi); have hnb27 := NB600_599.out; have hnc27 := NB599_600.out; have hcz28_0 := bc BK600 0; have hcz28_1 := bc BK600 1; have hcz28_2 := bc BK600 2; have hcz28_3 := bc BK600 3; have hcz28_4 := bc BK600 4; have hcz28_5 := bc BK600 5; have hfz28_0 := qA BK600.out 0; have hfz28_1 := qA BK600.out 1; have hfz28_2 := qA BK600.out 2; have hfz28_3 := qA BK600.out 3; have hfz28_4 := qA BK600.out 4; have hfz28_5 := qA BK600.out 5))
     refine bodyPost_ret (results_cell_row rfl _ _ gb600 31 #[.int .i64 t611, .int .i64 t612, .int .i64 t613, .int .i64 t614, .int .i64 t615, .int .i64 t616] (0, 0) _ rfl (by (with_reducible repeat (first | refine qD ?_ _ | refine qE ?_ | refine qC ?_ _)); refine qO (cs := #[.int .i64 t611, .int .i64 t612, .int .i64 t613, .int .i64 t614, .int .i64 t615, .int .i64 0]) ?_ 5 _ rfl; (with_reducible repeat (first | refine qD ?_ _ | refine qE ?_ | refine qC ?_ _)); refine qO (cs := #[.int .i64 t611, .int .i64 t612, .int .i64 t613, .int .i64 t614, .int .i64 0, .int .i64 0]) ?_ 4 _ rfl; (with_reducible repeat (first | refine qD ?_ _ | refine qE ?_ | refine qC ?_ _)); refine qO (cs := #[.int .i64 t611, .int .i64 t612, .int .i64 t613, .int .i64 0, .int .i64 0, .int .i64 0]) ?_ 3 _ rfl; (with_reducible repeat (first | refine qD ?_ _ | refine qE ?_ | refine qC ?_ _)); refine qO (cs := #[.int .i64 t611, .int .i64 t612, .int .i64 0, .int .i64 0, .int .i64 0, .int .i64 0]) ?_ 2 _ rfl; (with_reducible repeat (first | refine qD ?_ _ | refine qE ?_ | refine qC ?_ _)); refine qO (cs := #[.int .i64 t611, .int .i64 0, .int .i64 0, .int .i64 0, .int .i64 0, .int .i64 0]) ?_ 1 _ rfl; (with_reducible repeat (first | refine qD ?_ _ | refine qE ?_ | refine qC ?_ _)); refine qO (cs := #[.int .i64 0, .int .i64 0, .int .i64 0, .int .i64 0, .int .i64 0, .int .i64 0]) ?_ 0 _ rfl; (with_reducible repeat (first | refine qD ?_ _ | refine qE ?_ | refine qC ?_ _)); exact BK600.out) Tryd.underlying31 rfl (by kernel_rfl)) rfl ?_
     exact ⟨by first | rfl | (simp [qN, qM] <;> rfl) | (simp [*, qN, qM] <;> rfl), bl⟩
 ·rw [if_neg c3] at H
  exact absurd H (by simp)
end Go.Proofs.YtdncpkppkafkpaaDoor.P
namespace Go.Proofs.YtdncpkppkafkpaaDoor.P
open Go.RowKit Go.Proofs.YtdncpkppkafkpaaDoorW.PrintWords Go.Proofs.YtdncpkppkafkpaaDoorW.PrintLast Go.Proofs.YtdncpkppkafkpaaDoorW.PrintMore
attribute [local go_sem] qz qx qJA qIA qo qn qy qw
set_option linter.unusedVariables false
set_option linter.unusedSimpArgs false
theorem eqA31 (d : Nat) (w : World) (x0 y0 : Int) (x1 y1 : Int) (x2 y2 : Int) (x3 y3 : Int) (x4 y4 : Int) (x5 y5 : Int) :
  (Op.equalIn (d + 2) 31 (.agg #[.int .i64 x0, .int .i64 x1, .int .i64 x2, .int .i64 x3, .int .i64 x4, .int .i64 x5]) (.agg #[.int .i64 y0, .int .i64 y1, .int .i64 y2, .int .i64 y3, .int .i64 y4, .int .i64 y5])).run Tryd.prog w = .ok (x0 == y0 && (x1 == y1 && (x2 == y2 && (x3 == y3 && (x4 == y4 && (x5 == y5)))))) w := by
 refine eqA_of Tryd.underlying31 (by kernel_rfl) ?_
 refine qUC (by rfl) (by go_simp; rfl) (by go_simp; rfl) (by go_simp) ?_
 refine qUC (by rfl) (by go_simp; rfl) (by go_simp; rfl) (by go_simp) ?_
 refine qUC (by rfl) (by go_simp; rfl) (by go_simp; rfl) (by go_simp) ?_
 refine qUC (by rfl) (by go_simp; rfl) (by go_simp; rfl) (by go_simp) ?_
 refine qUC (by rfl) (by go_simp; rfl) (by go_simp; rfl) (by go_simp) ?_
 exact eqf_last (by rfl) (by go_simp; rfl) (by go_simp; rfl) (by go_simp)
def qGB.f  : Option (ByteArray) := some (⟨#[110, 101, 115, 119]⟩ : ByteArray)
set_option maxHeartbeats 8000000 in
set_option maxRecDepth 100000 in
theorem qGB.calls  (r : ByteArray) (w : World) (h : qGB.f  = some r) :
  Calls Tryd.prog 78 #[] w fun e w' => e = .returned (.string r) ∧ Drawn0 w w' := by
 have H : (some (⟨#[110, 101, 115, 119]⟩ : ByteArray)) = some r := h
 clear h
 obtain rfl := Option.some.inj H
 go_enter Tryd.func78, Tryd.ntmps78
 go_wp2
 go_ret
 exact ⟨by first | rfl | (simp; done) | (simp [*]; done), by repeat (first | exact Drawn0.refl _ | apply Drawn0.step)⟩
end Go.Proofs.YtdncpkppkafkpaaDoor.P
namespace Go.Proofs.YtdncpkppkafkpaaDoor.P
open Go.RowKit Go.Proofs.YtdncpkppkafkpaaDoorW.PrintWords Go.Proofs.YtdncpkppkafkpaaDoorW.PrintLast Go.Proofs.YtdncpkppkafkpaaDoorW.PrintMore
attribute [local go_sem] qz qx qJA qIA qo qn qy qw
set_option linter.unusedVariables false
set_option linter.unusedSimpArgs false
attribute [local go_sem high] eqA31
mutual
def qR.l0 : Nat → List (S31) → List ByteArray → Int → Option ((List (S31)) × List ByteArray)
 | 0, _, _, _ => none
 | k + 1, x4, x5, x6 => if x6 < (x4.length : Int) then (qR.l1 k x4 x5 x6 0) else (some (x4, x5))
def qR.l1 : Nat → List (S31) → List ByteArray → Int → Int → Option ((List (S31)) × List ByteArray)
 | 0, _, _, _, _ => none
 | k + 1, x4, x5, x6, x7 => if x7 < 4 then (if 0 ≤ x6 then (if x6 < (x4.length : Int) then ((qjA.f ((qP x4 x6).f0) ((qP x4 x6).f1) ((qP x4 x6).f2) ((qP x4 x6).f3) ((qP x4 x6).f4) ((qP x4 x6).f5) x7).bind fun bt803 => (qR.l2 k x4 x5 x6 x7 false (x4.length : Int) 0 bt803.1 bt803.2.1 bt803.2.2.1 bt803.2.2.2.1 bt803.2.2.2.2.1 bt803.2.2.2.2.2)) else (none)) else (none)) else (qR.l0 k x4 x5 (wrap64 (x6 + 1)))
def qR.l2 : Nat → List (S31) → List ByteArray → Int → Int → Bool → Int → Int → Int → Int → Int → Int → Int → Int → Option ((List (S31)) × List ByteArray)
 | 0, _, _, _, _, _, _, _, _, _, _, _, _, _ => none
 | k + 1, x4, x5, x6, x7, x9, x32, x33, x810000, x810001, x810002, x810003, x810004, x810005 => if x33 < x32 then (if 0 ≤ x33 then (if x33 < (x4.length : Int) then (if x9 = true then (qR.l2 k x4 x5 x6 x7 true x32 (wrap64 (x33 + 1)) x810000 x810001 x810002 x810003 x810004 x810005) else (qR.l2 k x4 x5 x6 x7 (((qP x4 x33).f0) == x810000 && (((qP x4 x33).f1) == x810001 && (((qP x4 x33).f2) == x810002 && (((qP x4 x33).f3) == x810003 && (((qP x4 x33).f4) == x810004 && (((qP x4 x33).f5) == x810005)))))) x32 (wrap64 (x33 + 1)) x810000 x810001 x810002 x810003 x810004 x810005)) else (none)) else (none)) else (if x9 = true then (qR.l1 k x4 x5 x6 (wrap64 (x7 + 1))) else (if x4.length < 2932031007402 then (if 0 ≤ x6 then (if x6 < (x5.length : Int) then ((qGB.f).bind fun t816 => (if 0 ≤ x7 then (if x7 ≤ (wrap64 (x7 + 1)) then (if (wrap64 (x7 + 1)) ≤ (t816.size : Int) then (if (rdOf ByteArray.empty x5 x6).size + (t816.extract (x7 : Int).toNat ((wrap64 (x7 + 1)) : Int).toNat).size ≤ 9223372036854775807 then (if x5.length < 8796093022208 then (qR.l1 k (x4 ++ [(⟨x810000, x810001, x810002, x810003, x810004, x810005⟩ : S31)]) (x5 ++ [(rdOf ByteArray.empty x5 x6) ++ (t816.extract (x7 : Int).toNat ((wrap64 (x7 + 1)) : Int).toNat)]) x6 (wrap64 (x7 + 1))) else (none)) else (none)) else (none)) else (none)) else (none))) else (none)) else (none)) else (none)))
end
def qR.f (k : Nat) (a0_0 : Int) (a0_1 : Int) (a0_2 : Int) (a0_3 : Int) (a0_4 : Int) (a0_5 : Int) : Option ((List (S31)) × List ByteArray) := qR.l0 k (([(⟨a0_0, a0_1, a0_2, a0_3, a0_4, a0_5⟩ : S31)] : List (S31))) (([(⟨#[]⟩ : ByteArray)] : List ByteArray)) 0
def qR.T17 : Bool × List (List Nat × List Nat) := (true, [([], []), ([], []), ([], []), ([1, 2], [1, 2]), ([3], [3]), ([], []), ([], []), ([], []), ([7], [7]), ([5, 6, 8], [5, 6, 8]), ([4, 9], [4, 9]), ([10], [10]), ([0, 11, 5], [0, 11]), ([12, 12, 0, 1, 2, 3, 4, 5, 6, 7, 8, 9, 10, 11, 12], [0, 1, 12])])
def qR.B17 : List Nat := [0, 0, 0, 6, 14, 0, 0, 0, 128, 480, 1022, 2046, 4095, 8191]
theorem qR.tab17 : rtab .any (opsOf Tryd.f60 17) = qR.T17 := by kernel_rfl
theorem qR.bits17 : waitsOk qR.T17.2 qR.B17 = true := by kernel_rfl
set_option maxHeartbeats 8000000 in
set_option maxRecDepth 100000 in
theorem qR.calls (k : Nat) (a0_0 : Int) (a0_1 : Int) (a0_2 : Int) (a0_3 : Int) (a0_4 : Int) (a0_5 : Int) (r1 : List (S31)) (r2 : List ByteArray) (w : World) (h : qR.f k a0_0 a0_1 a0_2 a0_3 a0_4 a0_5 = some (r1, r2)) :
  Calls Tryd.prog 60 #[.agg #[.int .i64 a0_0, .int .i64 a0_1, .int .i64 a0_2, .int .i64 a0_3, .int .i64 a0_4, .int .i64 a0_5]] w fun e w' => ∃ v0_ v1_ : Value, e = .returned (.tuple #[v0_, v1_]) ∧ Kd.R k31 31 w' w.heap.size (fun _ => True) v0_ r1 ∧ Kd.R Kd.string 9 w' w.heap.size (fun _ => True) v1_ r2 ∧ Below w.heap.size w w' := by
 have hu31 := Tryd.underlying31
 have HB := Aside0.mk (Below.refl w.heap.size w)
 have H : (qR.l0 k (([(⟨a0_0, a0_1, a0_2, a0_3, a0_4, a0_5⟩ : S31)] : List (S31))) (([(⟨#[]⟩ : ByteArray)] : List ByteArray)) 0) = some (r1, r2) := h
 clear h
 obtain ⟨y796, hy796⟩ : ∃ y_ : List (S31), y_ = (([(⟨a0_0, a0_1, a0_2, a0_3, a0_4, a0_5⟩ : S31)] : List (S31))) := ⟨_, rfl⟩
 replace H : (qR.l0 k y796 (([(⟨#[]⟩ : ByteArray)] : List ByteArray)) 0) = some (r1, r2) := by first | (rw [hy796]; with_reducible exact H) | (have H2_ := (Option.bind_some _ _).symm.trans H; rw [hy796]; with_reducible exact H2_) | (have H2_ := (Option.bind_some _ _).symm.trans H; with_reducible exact H2_) | with_reducible exact H | (rw [hy796]; exact H) | exact H
 have Ny796 := Aside0.mk hy796
 clear hy796
 obtain ⟨y799, hy799⟩ : ∃ y_ : List ByteArray, y_ = (([(⟨#[]⟩ : ByteArray)] : List ByteArray)) := ⟨_, rfl⟩
 replace H : (qR.l0 k y796 y799 0) = some (r1, r2) := by first | (rw [hy799]; with_reducible exact H) | (have H2_ := (Option.bind_some _ _).symm.trans H; rw [hy799]; with_reducible exact H2_) | (have H2_ := (Option.bind_some _ _).symm.trans H; with_reducible exact H2_) | with_reducible exact H | (rw [hy799]; exact H) | exact H
 have Ny799 := Aside0.mk hy799
 clear hy799
 have H' := Aside0.mk H
 clear H
 go_enter Tryd.func60, Tryd.ntmps60
 go_wp2_with (first | ((with_reducible refine qX (N := 1) rfl ?_); refine qW ?hg (N := 1) ?hd (cs := #[.int .i64 a0_0, .int .i64 a0_1, .int .i64 a0_2, .int .i64 a0_3, .int .i64 a0_4, .int .i64 a0_5]) (t := 31) ?hr ?_; (case hd => rfl); (case hg => rfl); (case hr => first | (go_simp; done) | (go_simp; rfl)); intro gb795 hg w2 hbox hb; have n0_ := Aside0.mk (qJ bl hb); have n1_ := Aside0.mk (hbox); have n2_ := Aside0.mk ((gg hg)); have n3_ := Aside0.mk ((gg hg)); clear HB; have HB := n0_; have BK795 := n1_; have GW795 := n2_; have GE795 := n3_; clear n0_ n1_ n2_ n3_; clear hb hbox hg; have hcz3_0 := bc BK795 0; have hcz3_1 := bc BK795 1; have hcz3_2 := bc BK795 2; have hcz3_3 := bc BK795 3; have hcz3_4 := bc BK795 4; have hcz3_5 := bc BK795 5; have hfz3_0 := qA BK795.out 0; have hfz3_1 := qA BK795.out 1; have hfz3_2 := qA BK795.out 2; have hfz3_3 := qA BK795.out 3; have hfz3_4 := qA BK795.out 4; have hfz3_5 := qA BK795.out 5) | ((with_reducible refine qX (N := 13) rfl ?_); refine Kd.R_lit k31 _ 31 ?hg (N := 13) ?hd (xs := ([(⟨a0_0, a0_1, a0_2, a0_3, a0_4, a0_5⟩ : S31)] : List (S31))) (inner := [.int .i64 a0_0, .int .i64 a0_1, .int .i64 a0_2, .int .i64 a0_3, .int .i64 a0_4, .int .i64 a0_5]) (ok := fun _ => True) (okp := fun _ => True) ?hr ?hp (fun _ hk => hk) trivial (Below.refl _ _) (Nat.le_refl _) (by simp) ?_; (case hd => rfl); (case hg => rfl); (case hr => first | (go_simp; done) | (go_simp; rfl)); (case hp => exact (Reps.c6 (show Kd.M k31 _ _ _ (⟨a0_0, a0_1, a0_2, a0_3, a0_4, a0_5⟩ : S31) [.int .i64 a0_0, .int .i64 a0_1, .int .i64 a0_2, .int .i64 a0_3, .int .i64 a0_4, .int .i64 a0_5] from (qrB _ _ _ (⟨a0_0, a0_1, a0_2, a0_3, a0_4, a0_5⟩ : S31) )) (Reps.none _ _))); intro v797 w4 ho5 hb hg_ hnew_; clear hg_ hnew_; (first | rw [← Ny796.out] at ho5 | (simp only [Int.reduceToNat] at ho5; rw [← Ny796.out] at ho5)); have n0_ := Aside0.mk (Kd.qEA (Kd.qQD ho5 (g := gb795) (o := .cells #[.int .i64 a0_0, .int .i64 a0_1, .int .i64 a0_2, .int .i64 a0_3, .int .i64 a0_4, .int .i64 a0_5] 31 (0, 0)) (by (with_reducible repeat (first | refine qD ?_ _ | refine qE ?_ | refine qC ?_ _)); exact BK795.out)) (qb bl)); have n1_ := Aside0.mk (bb BK795 hb); have n2_ := Aside0.mk (qJ bl hb); clear BK795; clear HB; have HO798 := n0_; have BK795 := n1_; have HB := n2_; clear n0_ n1_ n2_; clear hb ho5) | ((with_reducible refine qX (N := 14) rfl ?_); refine Kd.R_lit Kd.string _ 9 ?hg (N := 14) ?hd (xs := ([(⟨#[]⟩ : ByteArray)] : List ByteArray)) (inner := [.string (⟨#[]⟩ : ByteArray)]) (ok := fun _ => True) (okp := fun _ => True) ?hr ?hp (fun _ hk => hk) trivial (Below.refl _ _) (Nat.le_refl _) (by simp) ?_; (case hd => rfl); (case hg => rfl); (case hr => first | (go_simp; done) | (go_simp; rfl)); (case hp => exact (Reps.one (show Kd.M Kd.string _ _ _ (⟨#[]⟩ : ByteArray) [.string (⟨#[]⟩ : ByteArray)] from rfl) (Reps.none _ _))); intro v800 w6 ho7 hb hg_ hnew_; clear hg_ hnew_; (first | rw [← Ny799.out] at ho7 | (simp only [Int.reduceToNat] at ho7; rw [← Ny799.out] at ho7)); have n0_ := Aside0.mk (Kd.qU (by (with_reducible repeat (first | apply Kd.qF | apply Kd.qG | apply Kd.qH)); exact HO798.out) hb); have n1_ := Aside0.mk (Kd.qEA ho7 (qb bl)); have n2_ := Aside0.mk (bb BK795 hb); have n3_ := Aside0.mk (qJ bl hb); clear HO798; clear BK795; clear HB; have HO798 := n0_; have HO801 := n1_; have BK795 := n2_; have HB := n3_; clear n0_ n1_ n2_ n3_; clear hb ho7))
 go_loopg [4, 5, 6] k (fun kq v4 v5 v6 w' => ∃ (x4_1 : List (S31)) (x5_1 : List ByteArray) (x6_1 : Int), v6 = .int .i64 x6_1 ∧ Aside0 (qR.l0 kq x4_1 x5_1 x6_1 = some (r1, r2)) ∧ Aside0 (kq ≤ k) ∧ Aside0 (Kd.R k31 31 w' w.heap.size (fun k_ => k_ ≠ gb795) v4 x4_1) ∧ Aside0 (Kd.R Kd.string 9 w' w.heap.size (fun _ => True) v5 x5_1) ∧ Aside0 (w'.heap[gb795]? = some (.cells #[.int .i64 a0_0, .int .i64 a0_1, .int .i64 a0_2, .int .i64 a0_3, .int .i64 a0_4, .int .i64 a0_5] 31 (0, 0))) ∧ Aside0 (Below w.heap.size w w'))
 case atStart => exact ⟨(y796), (y799), (0), (by first | rfl | (simp; done) | (simp [*]; done)), H', ⟨Nat.le_refl _⟩, ⟨by (with_reducible repeat (first | apply Kd.qF | apply Kd.qG | apply Kd.qH)); exact Kd.qd HO798.out (fun _ hk => hk.2)⟩, ⟨by (with_reducible repeat (first | apply Kd.qF | apply Kd.qG | apply Kd.qH)); exact HO801.out⟩, ⟨by (with_reducible repeat (first | refine qD ?_ _ | refine qE ?_ | refine qC ?_ _)); exact BK795.out⟩, ⟨bl⟩⟩
 case round =>
  clear H'
  try clear p2
  try clear c6
  try clear hcz3_0
  try clear hcz3_1
  try clear hcz3_2
  try clear hcz3_3
  try clear hcz3_4
  try clear hcz3_5
  try clear hfz3_0
  try clear hfz3_1
  try clear hfz3_2
  try clear hfz3_3
  try clear hfz3_4
  try clear hfz3_5
  obtain ⟨x4_1, x5_1, x6_1, rfl, HA, HK1, HO_4, HO_5, BK795, HB⟩ := hrel
  cases gk with
  | zero => exact absurd HA.out (by simp [qR.l0])
  | succ k1 =>
   have H := HA.out
   clear HA
   simp only [qR.l0] at H
   by_cases c8 : x6_1 < (x4_1.length : Int)
   ·rw [if_pos c8] at H
    have c8b0 : decide (x6_1 < (x4_1.length : Int)) = true := decide_eq_true c8
    clear c8
    have H' := Aside0.mk H
    clear H
    obtain ⟨Ao9, co9, eo9⟩ := Kd.qr HO_4.out
    subst eo9
    go_wp2
    go_loopg [4, 5, 7] k1 (fun kq v4 v5 v7 w' => ∃ (x4_2 : List (S31)) (x5_2 : List ByteArray) (x7_2 : Int), v7 = .int .i64 x7_2 ∧ Aside0 (qR.l1 kq x4_2 x5_2 x6_1 x7_2 = some (r1, r2)) ∧ Aside0 (kq ≤ k1) ∧ Aside0 (Kd.R k31 31 w' w.heap.size (fun k_ => k_ ≠ gb795) v4 x4_2) ∧ Aside0 (Kd.R Kd.string 9 w' w.heap.size (fun _ => True) v5 x5_2) ∧ Aside0 (w'.heap[gb795]? = some (.cells #[.int .i64 a0_0, .int .i64 a0_1, .int .i64 a0_2, .int .i64 a0_3, .int .i64 a0_4, .int .i64 a0_5] 31 (0, 0))) ∧ Aside0 (Below w.heap.size w w'))
    case atStart => exact ⟨(x4_1), (x5_1), (0), (by first | rfl | (simp; done) | (simp [*]; done)), H', ⟨Nat.le_refl _⟩, ⟨by (with_reducible repeat (first | apply Kd.qF | apply Kd.qG | apply Kd.qH)); exact HO_4.out⟩, ⟨by (with_reducible repeat (first | apply Kd.qF | apply Kd.qG | apply Kd.qH)); exact HO_5.out⟩, ⟨by (with_reducible repeat (first | refine qD ?_ _ | refine qE ?_ | refine qC ?_ _)); exact BK795.out⟩, ⟨bl⟩⟩
    case round =>
     clear H'
     try clear p2
     try clear c6
     try clear c8
     try clear c8b0
     try clear hcz3_0
     try clear hcz3_1
     try clear hcz3_2
     try clear hcz3_3
     try clear hcz3_4
     try clear hcz3_5
     try clear hfz3_0
     try clear hfz3_1
     try clear hfz3_2
     try clear hfz3_3
     try clear hfz3_4
     try clear hfz3_5
     try clear p2
     obtain ⟨x4_2, x5_2, x7_2, rfl, HA, HK2, HO_4, HO_5, BK795, HB⟩ := hrel
     cases gk with
     | zero => exact absurd HA.out (by simp [qR.l1])
     | succ k2 =>
      have H := HA.out
      clear HA
      simp only [qR.l1] at H
      by_cases c10 : x7_2 < 4
      ·rw [if_pos c10] at H
       have c10b0 : decide (x7_2 < 4) = true := decide_eq_true c10
       clear c10
       by_cases c11 : 0 ≤ x6_1
       ·rw [if_pos c11] at H
        have c11b0 : decide (0 ≤ x6_1) = true := decide_eq_true c11
        clear c11
        by_cases c12 : x6_1 < (x4_2.length : Int)
        ·rw [if_pos c12] at H
         have c12b0 : decide (x6_1 < (x4_2.length : Int)) = true := decide_eq_true c12
         clear c12
         replace H := Option.bind_eq_some_iff.mp H
         obtain ⟨⟨t803, t804, t805, t806, t807, t808⟩, A130, H⟩ := H
         replace H : (qR.l2 k2 x4_2 x5_2 x6_1 x7_2 false (x4_2.length : Int) 0 t803 t804 t805 t806 t807 t808) = some (r1, r2) := H
         have A13 := Aside0.mk A130
         clear A130
         have H' := Aside0.mk H
         clear H
         obtain ⟨Ao14, co14, eo14⟩ := Kd.qr HO_4.out
         subst eo14
         have p802 : 0 ≤ (x6_1 : Int) := of_decide_eq_true (by first | (with_reducible assumption) | assumption)
         have q802 : x6_1 < (x4_2.length : Int) := of_decide_eq_true (by first | (with_reducible assumption) | assumption)
         obtain ⟨ad802, e802, hx802_0, hx802_1, hx802_2, hx802_3, hx802_4, hx802_5⟩ := qkC (Kd.qS HO_4.out).2.2 x6_1 p802 q802
         cases e802
         replace p802 := eq_true p802
         replace q802 := eq_true q802
         go_wp2_with (first | ((with_reducible refine qa (f := 73) rfl ?_); refine qQA (some 30) rfl rfl Tryd.func73 (by kernel_rfl) rfl #[.agg #[.int .i64 ((qP x4_2 x6_1).f0), .int .i64 ((qP x4_2 x6_1).f1), .int .i64 ((qP x4_2 x6_1).f2), .int .i64 ((qP x4_2 x6_1).f3), .int .i64 ((qP x4_2 x6_1).f4), .int .i64 ((qP x4_2 x6_1).f5)], .int .i64 x7_2] rfl (by (try simp only [List.map_toArray, List.map_cons, List.map_nil]); first | done | rfl | (simp only [List.length_drop, List.length_take]; rfl)) ?_; (with_reducible refine (qjA.calls ((qP x4_2 x6_1).f0) ((qP x4_2 x6_1).f1) ((qP x4_2 x6_1).f2) ((qP x4_2 x6_1).f3) ((qP x4_2 x6_1).f4) ((qP x4_2 x6_1).f5) x7_2 t803 t804 t805 t806 t807 t808 _ A13.out).mono ?_); rintro e w15 ⟨rfl, hb⟩; refine ⟨_, rfl, ?_⟩; have n0_ := Aside0.mk (Kd.qU (by (with_reducible repeat (first | apply Kd.qF | apply Kd.qG | apply Kd.qH)); exact HO_4.out) hb); have n1_ := Aside0.mk (Kd.qU (by (with_reducible repeat (first | apply Kd.qF | apply Kd.qG | apply Kd.qH)); exact HO_5.out) hb); have n2_ := Aside0.mk (bb BK795 hb); have n3_ := Aside0.mk (qJ bl hb); clear HO_4; clear HO_5; clear BK795; clear HB; have HO_4 := n0_; have HO_5 := n1_; have BK795 := n2_; have HB := n3_; clear n0_ n1_ n2_ n3_; (try clear hb); (try clear hb2); (try clear hk); (try clear hi)) | ((with_reducible refine qX (N := 8) rfl ?_); refine qW ?hg (N := 8) ?hd (cs := #[.int .i64 0, .int .i64 0, .int .i64 0, .int .i64 0, .int .i64 0, .int .i64 0]) (t := 31) ?hr ?_; (case hd => rfl); (case hg => rfl); (case hr => first | (go_simp; done) | (go_simp; rfl)); intro gb809 hg w16 hbox hb; have n0_ := Aside0.mk (Kd.qU (Kd.qYC (by (with_reducible repeat (first | apply Kd.qF | apply Kd.qG | apply Kd.qH)); exact HO_4.out) gb809 (Nat.le_of_eq hg.symm)) hb); have n1_ := Aside0.mk (Kd.qU (by (with_reducible repeat (first | apply Kd.qF | apply Kd.qG | apply Kd.qH)); exact HO_5.out) hb); have n2_ := Aside0.mk (bb BK795 hb); have n3_ := Aside0.mk (qJ bl hb); have n4_ := Aside0.mk (hbox); have n5_ := Aside0.mk ((gg hg)); have n6_ := Aside0.mk ((gg hg)); have n7_ := Aside0.mk ((nl BK795 hg)); have n8_ := Aside0.mk ((nr BK795 hg)); clear HO_4; clear HO_5; clear BK795; clear HB; have HO_4 := n0_; have HO_5 := n1_; have BK795 := n2_; have HB := n3_; have BK809 := n4_; have GW809 := n5_; have GE809 := n6_; have NB795_809 := n7_; have NB809_795 := n8_; clear n0_ n1_ n2_ n3_ n4_ n5_ n6_ n7_ n8_; clear hb hbox hg; have hnb17 := NB809_795.out; have hnc17 := NB795_809.out; have hcz18_0 := bc BK809 0; have hcz18_1 := bc BK809 1; have hcz18_2 := bc BK809 2; have hcz18_3 := bc BK809 3; have hcz18_4 := bc BK809 4; have hcz18_5 := bc BK809 5; have hfz18_0 := qA BK809.out 0; have hfz18_1 := qA BK809.out 1; have hfz18_2 := qA BK809.out 2; have hfz18_3 := qA BK809.out 3; have hfz18_4 := qA BK809.out 4; have hfz18_5 := qA BK809.out 5))
         go_loopg [9, 33] k2 (fun kq v9 v33 w' => ∃ (x9_3 : Bool) (x33_3 : Int), v9 = .bool x9_3 ∧ v33 = .int .i64 x33_3 ∧ Aside0 (qR.l2 kq x4_2 x5_2 x6_1 x7_2 x9_3 (x4_2.length : Int) x33_3 t803 t804 t805 t806 t807 t808 = some (r1, r2)) ∧ Aside0 (kq ≤ k2) ∧ Aside0 (Kd.R k31 31 w' w.heap.size (fun k_ => k_ ≠ gb795 ∧ k_ ≠ gb809) (.slice (some ad802) x4_2.length co14) x4_2) ∧ Aside0 (Kd.R Kd.string 9 w' w.heap.size (fun _ => True) u5 x5_2) ∧ Aside0 (w'.heap[gb795]? = some (.cells #[.int .i64 a0_0, .int .i64 a0_1, .int .i64 a0_2, .int .i64 a0_3, .int .i64 a0_4, .int .i64 a0_5] 31 (0, 0))) ∧ Aside0 (w'.heap[gb809]? = some (.cells #[.int .i64 t803, .int .i64 t804, .int .i64 t805, .int .i64 t806, .int .i64 t807, .int .i64 t808] 31 (0, 0))) ∧ Aside0 (Below w.heap.size w w'))
         case atStart => exact ⟨(false), (0), (by first | rfl | (simp; done) | (simp [*]; done)), (by first | rfl | (simp; done) | (simp [*]; done)), H', ⟨Nat.le_refl _⟩, ⟨by (with_reducible repeat (first | apply Kd.qF | apply Kd.qG | apply Kd.qH)); exact Kd.qd (Kd.R_far (p := ⟨gb809, 5, none⟩) (Kd.R_far (p := ⟨gb809, 4, none⟩) (Kd.R_far (p := ⟨gb809, 3, none⟩) (Kd.R_far (p := ⟨gb809, 2, none⟩) (Kd.R_far (p := ⟨gb809, 1, none⟩) (Kd.R_far (p := ⟨gb809, 0, none⟩) (Kd.qd HO_4.out (fun k_ hk => (⟨hk, hk.2⟩ : _ ∧ k_ ≠ gb809))) (fun _ hk => hk.2) (.int .i64 t803)) (fun _ hk => hk.2) (.int .i64 t804)) (fun _ hk => hk.2) (.int .i64 t805)) (fun _ hk => hk.2) (.int .i64 t806)) (fun _ hk => hk.2) (.int .i64 t807)) (fun _ hk => hk.2) (.int .i64 t808)) (fun _ hk => ⟨hk.1.1, hk.1.2⟩)⟩, ⟨by (with_reducible repeat (first | apply Kd.qF | apply Kd.qG | apply Kd.qH)); exact Kd.qd (Kd.R_far (p := ⟨gb809, 5, none⟩) (Kd.R_far (p := ⟨gb809, 4, none⟩) (Kd.R_far (p := ⟨gb809, 3, none⟩) (Kd.R_far (p := ⟨gb809, 2, none⟩) (Kd.R_far (p := ⟨gb809, 1, none⟩) (Kd.R_far (p := ⟨gb809, 0, none⟩) (Kd.qRA HO_5.out BK809.out (by decide)) (fun _ hk => hk.2) (.int .i64 t803)) (fun _ hk => hk.2) (.int .i64 t804)) (fun _ hk => hk.2) (.int .i64 t805)) (fun _ hk => hk.2) (.int .i64 t806)) (fun _ hk => hk.2) (.int .i64 t807)) (fun _ hk => hk.2) (.int .i64 t808)) (fun _ hk => trivial)⟩, ⟨by (with_reducible repeat (first | refine qD ?_ _ | refine qE ?_ | refine qC ?_ _)); refine qc ?_ NB795_809.out _; (with_reducible repeat (first | refine qD ?_ _ | refine qE ?_ | refine qC ?_ _)); refine qc ?_ NB795_809.out _; (with_reducible repeat (first | refine qD ?_ _ | refine qE ?_ | refine qC ?_ _)); refine qc ?_ NB795_809.out _; (with_reducible repeat (first | refine qD ?_ _ | refine qE ?_ | refine qC ?_ _)); refine qc ?_ NB795_809.out _; (with_reducible repeat (first | refine qD ?_ _ | refine qE ?_ | refine qC ?_ _)); refine qc ?_ NB795_809.out _; (with_reducible repeat (first | refine qD ?_ _ | refine qE ?_ | refine qC ?_ _)); refine qc ?_ NB795_809.out _; (with_reducible repeat (first | refine qD ?_ _ | refine qE ?_ | refine qC ?_ _)); exact BK795.out⟩, ⟨by (with_reducible repeat (first | refine qD ?_ _ | refine qE ?_ | refine qC ?_ _)); refine qO (cs := #[.int .i64 t803, .int .i64 t804, .int .i64 t805, .int .i64 t806, .int .i64 t807, .int .i64 0]) ?_ 5 _ rfl; (with_reducible repeat (first | refine qD ?_ _ | refine qE ?_ | refine qC ?_ _)); refine qO (cs := #[.int .i64 t803, .int .i64 t804, .int .i64 t805, .int .i64 t806, .int .i64 0, .int .i64 0]) ?_ 4 _ rfl; (with_reducible repeat (first | refine qD ?_ _ | refine qE ?_ | refine qC ?_ _)); refine qO (cs := #[.int .i64 t803, .int .i64 t804, .int .i64 t805, .int .i64 0, .int .i64 0, .int .i64 0]) ?_ 3 _ rfl; (with_reducible repeat (first | refine qD ?_ _ | refine qE ?_ | refine qC ?_ _)); refine qO (cs := #[.int .i64 t803, .int .i64 t804, .int .i64 0, .int .i64 0, .int .i64 0, .int .i64 0]) ?_ 2 _ rfl; (with_reducible repeat (first | refine qD ?_ _ | refine qE ?_ | refine qC ?_ _)); refine qO (cs := #[.int .i64 t803, .int .i64 0, .int .i64 0, .int .i64 0, .int .i64 0, .int .i64 0]) ?_ 1 _ rfl; (with_reducible repeat (first | refine qD ?_ _ | refine qE ?_ | refine qC ?_ _)); refine qO (cs := #[.int .i64 0, .int .i64 0, .int .i64 0, .int .i64 0, .int .i64 0, .int .i64 0]) ?_ 0 _ rfl; (with_reducible repeat (first | refine qD ?_ _ | refine qE ?_ | refine qC ?_ _)); exact BK809.out⟩, ⟨bl⟩⟩
         case round =>
          clear H'
          try clear c1
          try clear p2
          try clear c6
          try clear c7
          try clear c8
          try clear c8b0
          try clear p8
          try clear q8
          try clear hx8
          try clear c10
          try clear c10b0
          try clear c11
          try clear c11b0
          try clear c12
          try clear c12b0
          try clear c17
          try clear hcz18_0
          try clear hcz18_1
          try clear hcz18_2
          try clear hcz18_3
          try clear hcz18_4
          try clear hcz18_5
          try clear hcz3_0
          try clear hcz3_1
          try clear hcz3_2
          try clear hcz3_3
          try clear hcz3_4
          try clear hcz3_5
          try clear hfz18_0
          try clear hfz18_1
          try clear hfz18_2
          try clear hfz18_3
          try clear hfz18_4
          try clear hfz18_5
          try clear hfz3_0
          try clear hfz3_1
          try clear hfz3_2
          try clear hfz3_3
          try clear hfz3_4
          try clear hfz3_5
          try clear hx802_0
          try clear hx802_1
          try clear hx802_2
          try clear hx802_3
          try clear hx802_4
          try clear hx802_5
          try clear p2
          try clear p802
          try clear q802
          obtain ⟨x9_3, x33_3, rfl, rfl, HA, HK3, HO_4, HO_5, BK795, BK809, HB⟩ := hrel
          cases gk with
          | zero => exact absurd HA.out (by simp [qR.l2])
          | succ k3 =>
           have H := HA.out
           clear HA
           simp only [qR.l2] at H
           by_cases c19 : x33_3 < (x4_2.length : Int)
           ·rw [if_pos c19] at H
            have c19b0 : decide (x33_3 < (x4_2.length : Int)) = true := decide_eq_true c19
            clear c19
            by_cases c20 : 0 ≤ x33_3
            ·rw [if_pos c20] at H
             have c20b0 : decide (0 ≤ x33_3) = true := decide_eq_true c20
             clear c20
             by_cases c21 : x33_3 < (x4_2.length : Int)
             ·rw [if_pos c21] at H
              have c21b0 : decide (x33_3 < (x4_2.length : Int)) = true := decide_eq_true c21
              clear c21
              by_cases c22 : x9_3 = true
              ·subst c22
               have H1 : (qR.l2 k3 x4_2 x5_2 x6_1 x7_2 true (x4_2.length : Int) (wrap64 (x33_3 + 1)) t803 t804 t805 t806 t807 t808) = some (r1, r2) := by rw [if_pos rfl] at H; exact H
               clear H
               have H := H1
               clear H1
               have H' := Aside0.mk H
               clear H
               have p810 : 0 ≤ (x33_3 : Int) := of_decide_eq_true (by first | (with_reducible assumption) | assumption)
               have q810 : x33_3 < (x4_2.length : Int) := of_decide_eq_true (by first | (with_reducible assumption) | assumption)
               obtain ⟨ad810, e810, hx810_0, hx810_1, hx810_2, hx810_3, hx810_4, hx810_5⟩ := qkC (Kd.qS HO_4.out).2.2 x33_3 p810 q810
               obtain rfl : ad802 = ad810 := (by injection e810)
               replace p810 := eq_true p810
               replace q810 := eq_true q810
               go_wp2_with (first | ((with_reducible refine qX (N := 11) rfl ?_); refine qW ?hg (N := 11) ?hd (cs := #[.int .i64 0, .int .i64 0, .int .i64 0, .int .i64 0, .int .i64 0, .int .i64 0]) (t := 31) ?hr ?_; (case hd => rfl); (case hg => rfl); (case hr => first | (go_simp; done) | (go_simp; rfl)); intro gb811 hg w23 hbox hb; have n0_ := Aside0.mk (Kd.qU (Kd.qYC (by (with_reducible repeat (first | apply Kd.qF | apply Kd.qG | apply Kd.qH)); exact HO_4.out) gb811 (Nat.le_of_eq hg.symm)) hb); have n1_ := Aside0.mk (Kd.qU (by (with_reducible repeat (first | apply Kd.qF | apply Kd.qG | apply Kd.qH)); exact HO_5.out) hb); have n2_ := Aside0.mk (bb BK795 hb); have n3_ := Aside0.mk (bb BK809 hb); have n4_ := Aside0.mk (qJ bl hb); have n5_ := Aside0.mk (hbox); have n6_ := Aside0.mk ((gg hg)); have n7_ := Aside0.mk ((gg hg)); have n8_ := Aside0.mk ((nl BK795 hg)); have n9_ := Aside0.mk ((nr BK795 hg)); have n10_ := Aside0.mk ((nl BK809 hg)); have n11_ := Aside0.mk ((nr BK809 hg)); clear HO_4; clear HO_5; clear BK795; clear BK809; clear HB; have HO_4 := n0_; have HO_5 := n1_; have BK795 := n2_; have BK809 := n3_; have HB := n4_; have BK811 := n5_; have GW811 := n6_; have GE811 := n7_; have NB795_811 := n8_; have NB811_795 := n9_; have NB809_811 := n10_; have NB811_809 := n11_; clear n0_ n1_ n2_ n3_ n4_ n5_ n6_ n7_ n8_ n9_ n10_ n11_; clear hb hbox hg; have hnb24 := NB811_795.out; have hnc24 := NB795_811.out; have hnb25 := NB811_809.out; have hnc25 := NB809_811.out; have hcz26_0 := bc BK811 0; have hcz26_1 := bc BK811 1; have hcz26_2 := bc BK811 2; have hcz26_3 := bc BK811 3; have hcz26_4 := bc BK811 4; have hcz26_5 := bc BK811 5; have hfz26_0 := qA BK811.out 0; have hfz26_1 := qA BK811.out 1; have hfz26_2 := qA BK811.out 2; have hfz26_3 := qA BK811.out 3; have hfz26_4 := qA BK811.out 4; have hfz26_5 := qA BK811.out 5))
               go_roundg k3
               case measure => have := HK1.out; have := HK2.out; have := HK3.out; omega
               case rel => exact ⟨(true), (wrap64 (x33_3 + 1)), (by first | rfl | (simp; done) | (simp [*]; done)), (by first | rfl | (simp; done) | (simp [*]; done)), H', ⟨by have := HK1.out; have := HK2.out; have := HK3.out; omega⟩, ⟨by (with_reducible repeat (first | apply Kd.qF | apply Kd.qG | apply Kd.qH)); exact Kd.qd (Kd.R_far (p := ⟨gb811, 5, none⟩) (Kd.R_far (p := ⟨gb811, 4, none⟩) (Kd.R_far (p := ⟨gb811, 3, none⟩) (Kd.R_far (p := ⟨gb811, 2, none⟩) (Kd.R_far (p := ⟨gb811, 1, none⟩) (Kd.R_far (p := ⟨gb811, 0, none⟩) (Kd.qd HO_4.out (fun k_ hk => (⟨hk, hk.2⟩ : _ ∧ k_ ≠ gb811))) (fun _ hk => hk.2) (.int .i64 ((qP x4_2 x33_3).f0))) (fun _ hk => hk.2) (.int .i64 ((qP x4_2 x33_3).f1))) (fun _ hk => hk.2) (.int .i64 ((qP x4_2 x33_3).f2))) (fun _ hk => hk.2) (.int .i64 ((qP x4_2 x33_3).f3))) (fun _ hk => hk.2) (.int .i64 ((qP x4_2 x33_3).f4))) (fun _ hk => hk.2) (.int .i64 ((qP x4_2 x33_3).f5))) (fun _ hk => ⟨hk.1.1.1, hk.1.1.2⟩)⟩, ⟨by (with_reducible repeat (first | apply Kd.qF | apply Kd.qG | apply Kd.qH)); exact Kd.qd (Kd.R_far (p := ⟨gb811, 5, none⟩) (Kd.R_far (p := ⟨gb811, 4, none⟩) (Kd.R_far (p := ⟨gb811, 3, none⟩) (Kd.R_far (p := ⟨gb811, 2, none⟩) (Kd.R_far (p := ⟨gb811, 1, none⟩) (Kd.R_far (p := ⟨gb811, 0, none⟩) (Kd.qRA HO_5.out BK811.out (by decide)) (fun _ hk => hk.2) (.int .i64 ((qP x4_2 x33_3).f0))) (fun _ hk => hk.2) (.int .i64 ((qP x4_2 x33_3).f1))) (fun _ hk => hk.2) (.int .i64 ((qP x4_2 x33_3).f2))) (fun _ hk => hk.2) (.int .i64 ((qP x4_2 x33_3).f3))) (fun _ hk => hk.2) (.int .i64 ((qP x4_2 x33_3).f4))) (fun _ hk => hk.2) (.int .i64 ((qP x4_2 x33_3).f5))) (fun _ hk => trivial)⟩, ⟨by (with_reducible repeat (first | refine qD ?_ _ | refine qE ?_ | refine qC ?_ _)); refine qc ?_ NB795_811.out _; (with_reducible repeat (first | refine qD ?_ _ | refine qE ?_ | refine qC ?_ _)); refine qc ?_ NB795_811.out _; (with_reducible repeat (first | refine qD ?_ _ | refine qE ?_ | refine qC ?_ _)); refine qc ?_ NB795_811.out _; (with_reducible repeat (first | refine qD ?_ _ | refine qE ?_ | refine qC ?_ _)); refine qc ?_ NB795_811.out _; (with_reducible repeat (first | refine qD ?_ _ | refine qE ?_ | refine qC ?_ _)); refine qc ?_ NB795_811.out _; (with_reducible repeat (first | refine qD ?_ _ | refine qE ?_ | refine qC ?_ _)); refine qc ?_ NB795_811.out _; (with_reducible repeat (first | refine qD ?_ _ | refine qE ?_ | refine qC ?_ _)); exact BK795.out⟩, ⟨by (with_reducible repeat (first | refine qD ?_ _ | refine qE ?_ | refine qC ?_ _)); refine qc ?_ NB809_811.out _; (with_reducible repeat (first | refine qD ?_ _ | refine qE ?_ | refine qC ?_ _)); refine qc ?_ NB809_811.out _; (with_reducible repeat (first | refine qD ?_ _ | refine qE ?_ | refine qC ?_ _)); refine qc ?_ NB809_811.out _; (with_reducible repeat (first | refine qD ?_ _ | refine qE ?_ | refine qC ?_ _)); refine qc ?_ NB809_811.out _; (with_reducible repeat (first | refine qD ?_ _ | refine qE ?_ | refine qC ?_ _)); refine qc ?_ NB809_811.out _; (with_reducible repeat (first | refine qD ?_ _ | refine qE ?_ | refine qC ?_ _)); refine qc ?_ NB809_811.out _; (with_reducible repeat (first | refine qD ?_ _ | refine qE ?_ | refine qC ?_ _)); exact BK809.out⟩, ⟨bl⟩⟩
              ·replace c22 := Bool.eq_false_iff.mpr c22
               subst c22
               have H1 : (qR.l2 k3 x4_2 x5_2 x6_1 x7_2 (((qP x4_2 x33_3).f0) == t803 && (((qP x4_2 x33_3).f1) == t804 && (((qP x4_2 x33_3).f2) == t805 && (((qP x4_2 x33_3).f3) == t806 && (((qP x4_2 x33_3).f4) == t807 && (((qP x4_2 x33_3).f5) == t808)))))) (x4_2.length : Int) (wrap64 (x33_3 + 1)) t803 t804 t805 t806 t807 t808) = some (r1, r2) := by rw [if_neg (show ¬ (false = true) by decide)] at H; exact H
               clear H
               have H := H1
               clear H1
               have H' := Aside0.mk H
               clear H
               have p810 : 0 ≤ (x33_3 : Int) := of_decide_eq_true (by first | (with_reducible assumption) | assumption)
               have q810 : x33_3 < (x4_2.length : Int) := of_decide_eq_true (by first | (with_reducible assumption) | assumption)
               obtain ⟨ad810, e810, hx810_0, hx810_1, hx810_2, hx810_3, hx810_4, hx810_5⟩ := qkC (Kd.qS HO_4.out).2.2 x33_3 p810 q810
               obtain rfl : ad802 = ad810 := (by injection e810)
               replace p810 := eq_true p810
               replace q810 := eq_true q810
               go_wp2_with (first | ((with_reducible refine qX (N := 11) rfl ?_); refine qW ?hg (N := 11) ?hd (cs := #[.int .i64 0, .int .i64 0, .int .i64 0, .int .i64 0, .int .i64 0, .int .i64 0]) (t := 31) ?hr ?_; (case hd => rfl); (case hg => rfl); (case hr => first | (go_simp; done) | (go_simp; rfl)); intro gb811 hg w27 hbox hb; have n0_ := Aside0.mk (Kd.qU (Kd.qYC (by (with_reducible repeat (first | apply Kd.qF | apply Kd.qG | apply Kd.qH)); exact HO_4.out) gb811 (Nat.le_of_eq hg.symm)) hb); have n1_ := Aside0.mk (Kd.qU (by (with_reducible repeat (first | apply Kd.qF | apply Kd.qG | apply Kd.qH)); exact HO_5.out) hb); have n2_ := Aside0.mk (bb BK795 hb); have n3_ := Aside0.mk (bb BK809 hb); have n4_ := Aside0.mk (qJ bl hb); have n5_ := Aside0.mk (hbox); have n6_ := Aside0.mk ((gg hg)); have n7_ := Aside0.mk ((gg hg)); have n8_ := Aside0.mk ((nl BK795 hg)); have n9_ := Aside0.mk ((nr BK795 hg)); have n10_ := Aside0.mk ((nl BK809 hg)); have n11_ := Aside0.mk ((nr BK809 hg)); clear HO_4; clear HO_5; clear BK795; clear BK809; clear HB; have HO_4 := n0_; have HO_5 := n1_; have BK795 := n2_; have BK809 := n3_; have HB := n4_; have BK811 := n5_; have GW811 := n6_; have GE811 := n7_; have NB795_811 := n8_; have NB811_795 := n9_; have NB809_811 := n10_; have NB811_809 := n11_; clear n0_ n1_ n2_ n3_ n4_ n5_ n6_ n7_ n8_ n9_ n10_ n11_; clear hb hbox hg; have hnb28 := NB811_795.out; have hnc28 := NB795_811.out; have hnb29 := NB811_809.out; have hnc29 := NB809_811.out; have hcz30_0 := bc BK811 0; have hcz30_1 := bc BK811 1; have hcz30_2 := bc BK811 2; have hcz30_3 := bc BK811 3; have hcz30_4 := bc BK811 4; have hcz30_5 := bc BK811 5; have hfz30_0 := qA BK811.out 0; have hfz30_1 := qA BK811.out 1; have hfz30_2 := qA BK811.out 2; have hfz30_3 := qA BK811.out 3; have hfz30_4 := qA BK811.out 4; have hfz30_5 := qA BK811.out 5; have hnb31 := NB809_795.out; have hnc31 := NB795_809.out; have hcz32_0 := bc BK809 0; have hcz32_1 := bc BK809 1; have hcz32_2 := bc BK809 2; have hcz32_3 := bc BK809 3; have hcz32_4 := bc BK809 4; have hcz32_5 := bc BK809 5; have hfz32_0 := qA BK809.out 0; have hfz32_1 := qA BK809.out 1; have hfz32_2 := qA BK809.out 2; have hfz32_3 := qA BK809.out 3; have hfz32_4 := qA BK809.out 4; have hfz32_5 := qA BK809.out 5))
               go_roundg k3
               case measure => have := HK1.out; have := HK2.out; have := HK3.out; omega
               case rel => exact ⟨((((qP x4_2 x33_3).f0) == t803 && (((qP x4_2 x33_3).f1) == t804 && (((qP x4_2 x33_3).f2) == t805 && (((qP x4_2 x33_3).f3) == t806 && (((qP x4_2 x33_3).f4) == t807 && (((qP x4_2 x33_3).f5) == t808))))))), (wrap64 (x33_3 + 1)), (by first | rfl | (simp; done) | (simp [*]; done)), (by first | rfl | (simp; done) | (simp [*]; done)), H', ⟨by have := HK1.out; have := HK2.out; have := HK3.out; omega⟩, ⟨by (with_reducible repeat (first | apply Kd.qF | apply Kd.qG | apply Kd.qH)); exact Kd.qd (Kd.R_far (p := ⟨gb811, 5, none⟩) (Kd.R_far (p := ⟨gb811, 4, none⟩) (Kd.R_far (p := ⟨gb811, 3, none⟩) (Kd.R_far (p := ⟨gb811, 2, none⟩) (Kd.R_far (p := ⟨gb811, 1, none⟩) (Kd.R_far (p := ⟨gb811, 0, none⟩) (Kd.qd HO_4.out (fun k_ hk => (⟨hk, hk.2⟩ : _ ∧ k_ ≠ gb811))) (fun _ hk => hk.2) (.int .i64 ((qP x4_2 x33_3).f0))) (fun _ hk => hk.2) (.int .i64 ((qP x4_2 x33_3).f1))) (fun _ hk => hk.2) (.int .i64 ((qP x4_2 x33_3).f2))) (fun _ hk => hk.2) (.int .i64 ((qP x4_2 x33_3).f3))) (fun _ hk => hk.2) (.int .i64 ((qP x4_2 x33_3).f4))) (fun _ hk => hk.2) (.int .i64 ((qP x4_2 x33_3).f5))) (fun _ hk => ⟨hk.1.1.1, hk.1.1.2⟩)⟩, ⟨by (with_reducible repeat (first | apply Kd.qF | apply Kd.qG | apply Kd.qH)); exact Kd.qd (Kd.R_far (p := ⟨gb811, 5, none⟩) (Kd.R_far (p := ⟨gb811, 4, none⟩) (Kd.R_far (p := ⟨gb811, 3, none⟩) (Kd.R_far (p := ⟨gb811, 2, none⟩) (Kd.R_far (p := ⟨gb811, 1, none⟩) (Kd.R_far (p := ⟨gb811, 0, none⟩) (Kd.qRA HO_5.out BK811.out (by decide)) (fun _ hk => hk.2) (.int .i64 ((qP x4_2 x33_3).f0))) (fun _ hk => hk.2) (.int .i64 ((qP x4_2 x33_3).f1))) (fun _ hk => hk.2) (.int .i64 ((qP x4_2 x33_3).f2))) (fun _ hk => hk.2) (.int .i64 ((qP x4_2 x33_3).f3))) (fun _ hk => hk.2) (.int .i64 ((qP x4_2 x33_3).f4))) (fun _ hk => hk.2) (.int .i64 ((qP x4_2 x33_3).f5))) (fun _ hk => trivial)⟩, ⟨by (with_reducible repeat (first | refine qD ?_ _ | refine qE ?_ | refine qC ?_ _)); refine qc ?_ NB795_811.out _; (with_reducible repeat (first | refine qD ?_ _ | refine qE ?_ | refine qC ?_ _)); refine qc ?_ NB795_811.out _; (with_reducible repeat (first | refine qD ?_ _ | refine qE ?_ | refine qC ?_ _)); refine qc ?_ NB795_811.out _; (with_reducible repeat (first | refine qD ?_ _ | refine qE ?_ | refine qC ?_ _)); refine qc ?_ NB795_811.out _; (with_reducible repeat (first | refine qD ?_ _ | refine qE ?_ | refine qC ?_ _)); refine qc ?_ NB795_811.out _; (with_reducible repeat (first | refine qD ?_ _ | refine qE ?_ | refine qC ?_ _)); refine qc ?_ NB795_811.out _; (with_reducible repeat (first | refine qD ?_ _ | refine qE ?_ | refine qC ?_ _)); exact BK795.out⟩, ⟨by (with_reducible repeat (first | refine qD ?_ _ | refine qE ?_ | refine qC ?_ _)); refine qc ?_ NB809_811.out _; (with_reducible repeat (first | refine qD ?_ _ | refine qE ?_ | refine qC ?_ _)); refine qc ?_ NB809_811.out _; (with_reducible repeat (first | refine qD ?_ _ | refine qE ?_ | refine qC ?_ _)); refine qc ?_ NB809_811.out _; (with_reducible repeat (first | refine qD ?_ _ | refine qE ?_ | refine qC ?_ _)); refine qc ?_ NB809_811.out _; (with_reducible repeat (first | refine qD ?_ _ | refine qE ?_ | refine qC ?_ _)); refine qc ?_ NB809_811.out _; (with_reducible repeat (first | refine qD ?_ _ | refine qE ?_ | refine qC ?_ _)); refine qc ?_ NB809_811.out _; (with_reducible repeat (first | refine qD ?_ _ | refine qE ?_ | refine qC ?_ _)); exact BK809.out⟩, ⟨bl⟩⟩
             ·rw [if_neg c21] at H
              exact absurd H (by simp)
            ·rw [if_neg c20] at H
             exact absurd H (by simp)
           ·rw [if_neg c19] at H
            have c19b0 : decide (x33_3 < (x4_2.length : Int)) = false := decide_eq_false c19
            clear c19
            by_cases c33 : x9_3 = true
            ·subst c33
             have H1 : (qR.l1 k3 x4_2 x5_2 x6_1 (wrap64 (x7_2 + 1))) = some (r1, r2) := by rw [if_pos rfl] at H; exact H
             clear H
             have H := H1
             clear H1
             have H' := Aside0.mk H
             clear H
             go_wp2
             go_roundg k3
             case measure => have := HK1.out; have := HK2.out; have := HK3.out; omega
             case rel => exact ⟨(x4_2), (x5_2), (wrap64 (x7_2 + 1)), (by first | rfl | (simp; done) | (simp [*]; done)), H', ⟨by have := HK1.out; have := HK2.out; have := HK3.out; omega⟩, ⟨by (with_reducible repeat (first | apply Kd.qF | apply Kd.qG | apply Kd.qH)); exact Kd.qd HO_4.out (fun _ hk => hk.1)⟩, ⟨by (with_reducible repeat (first | apply Kd.qF | apply Kd.qG | apply Kd.qH)); exact HO_5.out⟩, ⟨by (with_reducible repeat (first | refine qD ?_ _ | refine qE ?_ | refine qC ?_ _)); exact BK795.out⟩, ⟨bl⟩⟩
            ·replace c33 := Bool.eq_false_iff.mpr c33
             subst c33
             have H1 : (if x4_2.length < 2932031007402 then (if 0 ≤ x6_1 then (if x6_1 < (x5_2.length : Int) then ((qGB.f).bind fun t816 => (if 0 ≤ x7_2 then (if x7_2 ≤ (wrap64 (x7_2 + 1)) then (if (wrap64 (x7_2 + 1)) ≤ (t816.size : Int) then (if (rdOf ByteArray.empty x5_2 x6_1).size + (t816.extract (x7_2 : Int).toNat ((wrap64 (x7_2 + 1)) : Int).toNat).size ≤ 9223372036854775807 then (if x5_2.length < 8796093022208 then (qR.l1 k3 (x4_2 ++ [(⟨t803, t804, t805, t806, t807, t808⟩ : S31)]) (x5_2 ++ [(rdOf ByteArray.empty x5_2 x6_1) ++ (t816.extract (x7_2 : Int).toNat ((wrap64 (x7_2 + 1)) : Int).toNat)]) x6_1 (wrap64 (x7_2 + 1))) else (none)) else (none)) else (none)) else (none)) else (none))) else (none)) else (none)) else (none)) = some (r1, r2) := by rw [if_neg (show ¬ (false = true) by decide)] at H; exact H
             clear H
             have H := H1
             clear H1
             by_cases c34 : x4_2.length < 2932031007402
             ·rw [if_pos c34] at H
              have LMc34 := Aside0.mk c34
              clear c34
              obtain ⟨y812, hy812⟩ : ∃ y_ : List (S31), y_ = (x4_2 ++ [(⟨t803, t804, t805, t806, t807, t808⟩ : S31)]) := ⟨_, rfl⟩
              replace H : (if 0 ≤ x6_1 then (if x6_1 < (x5_2.length : Int) then ((qGB.f).bind fun t816 => (if 0 ≤ x7_2 then (if x7_2 ≤ (wrap64 (x7_2 + 1)) then (if (wrap64 (x7_2 + 1)) ≤ (t816.size : Int) then (if (rdOf ByteArray.empty x5_2 x6_1).size + (t816.extract (x7_2 : Int).toNat ((wrap64 (x7_2 + 1)) : Int).toNat).size ≤ 9223372036854775807 then (if x5_2.length < 8796093022208 then (qR.l1 k3 y812 (x5_2 ++ [(rdOf ByteArray.empty x5_2 x6_1) ++ (t816.extract (x7_2 : Int).toNat ((wrap64 (x7_2 + 1)) : Int).toNat)]) x6_1 (wrap64 (x7_2 + 1))) else (none)) else (none)) else (none)) else (none)) else (none))) else (none)) else (none)) = some (r1, r2) := by first | (rw [hy812]; with_reducible exact H) | (have H2_ := (Option.bind_some _ _).symm.trans H; rw [hy812]; with_reducible exact H2_) | (have H2_ := (Option.bind_some _ _).symm.trans H; with_reducible exact H2_) | with_reducible exact H | (rw [hy812]; exact H) | exact H
              have Ny812 := Aside0.mk hy812
              clear hy812
              by_cases c35 : 0 ≤ x6_1
              ·rw [if_pos c35] at H
               have c35b0 : decide (0 ≤ x6_1) = true := decide_eq_true c35
               clear c35
               by_cases c36 : x6_1 < (x5_2.length : Int)
               ·rw [if_pos c36] at H
                have c36b0 : decide (x6_1 < (x5_2.length : Int)) = true := decide_eq_true c36
                clear c36
                replace H := Option.bind_eq_some_iff.mp H
                obtain ⟨t816, A370, H⟩ := H
                replace H : (if 0 ≤ x7_2 then (if x7_2 ≤ (wrap64 (x7_2 + 1)) then (if (wrap64 (x7_2 + 1)) ≤ (t816.size : Int) then (if (rdOf ByteArray.empty x5_2 x6_1).size + (t816.extract (x7_2 : Int).toNat ((wrap64 (x7_2 + 1)) : Int).toNat).size ≤ 9223372036854775807 then (if x5_2.length < 8796093022208 then (qR.l1 k3 y812 (x5_2 ++ [(rdOf ByteArray.empty x5_2 x6_1) ++ (t816.extract (x7_2 : Int).toNat ((wrap64 (x7_2 + 1)) : Int).toNat)]) x6_1 (wrap64 (x7_2 + 1))) else (none)) else (none)) else (none)) else (none)) else (none)) = some (r1, r2) := H
                have A37 := Aside0.mk A370
                clear A370
                by_cases c38 : 0 ≤ x7_2
                ·rw [if_pos c38] at H
                 have c38b0 := eq_true c38
                 have c38b1 : decide (0 ≤ x7_2) = true := decide_eq_true c38
                 clear c38
                 by_cases c39 : x7_2 ≤ (wrap64 (x7_2 + 1))
                 ·rw [if_pos c39] at H
                  have c39b0 := eq_true c39
                  have c39b1 : decide (x7_2 ≤ (wrap64 (x7_2 + 1))) = true := decide_eq_true c39
                  by_cases c40 : (wrap64 (x7_2 + 1)) ≤ (t816.size : Int)
                  ·rw [if_pos c40] at H
                   have c40b0 := eq_true c40
                   have c40b1 : decide ((wrap64 (x7_2 + 1)) ≤ (t816.size : Int)) = true := decide_eq_true c40
                   by_cases c41 : (rdOf ByteArray.empty x5_2 x6_1).size + (t816.extract (x7_2 : Int).toNat ((wrap64 (x7_2 + 1)) : Int).toNat).size ≤ 9223372036854775807
                   ·rw [if_pos c41] at H
                    have c41b0 := eq_true c41
                    have c41b1 : decide ((rdOf ByteArray.empty x5_2 x6_1).size + (t816.extract (x7_2 : Int).toNat ((wrap64 (x7_2 + 1)) : Int).toNat).size ≤ 9223372036854775807) = true := decide_eq_true c41
                    try have c41b2 : (9223372036854775807 < (rdOf ByteArray.empty x5_2 x6_1).size + (t816.extract (x7_2 : Int).toNat ((wrap64 (x7_2 + 1)) : Int).toNat).size) = False := eq_false (Nat.not_lt.2 c41)
                    by_cases c42 : x5_2.length < 8796093022208
                    ·rw [if_pos c42] at H
                     have LMc42 := Aside0.mk c42
                     clear c42
                     obtain ⟨y817, hy817⟩ : ∃ y_ : List ByteArray, y_ = (x5_2 ++ [(rdOf ByteArray.empty x5_2 x6_1) ++ (t816.extract (x7_2 : Int).toNat ((wrap64 (x7_2 + 1)) : Int).toNat)]) := ⟨_, rfl⟩
                     replace H : (qR.l1 k3 y812 y817 x6_1 (wrap64 (x7_2 + 1))) = some (r1, r2) := by first | (rw [hy817]; with_reducible exact H) | (have H2_ := (Option.bind_some _ _).symm.trans H; rw [hy817]; with_reducible exact H2_) | (have H2_ := (Option.bind_some _ _).symm.trans H; with_reducible exact H2_) | with_reducible exact H | (rw [hy817]; exact H) | exact H
                     have Ny817 := Aside0.mk hy817
                     clear hy817
                     have H' := Aside0.mk H
                     clear H
                     have hnb43 := NB809_795.out
                     have hnc43 := NB795_809.out
                     have hcz44_0 := bc BK809 0
                     have hcz44_1 := bc BK809 1
                     have hcz44_2 := bc BK809 2
                     have hcz44_3 := bc BK809 3
                     have hcz44_4 := bc BK809 4
                     have hcz44_5 := bc BK809 5
                     have hfz44_0 := qA BK809.out 0
                     have hfz44_1 := qA BK809.out 1
                     have hfz44_2 := qA BK809.out 2
                     have hfz44_3 := qA BK809.out 3
                     have hfz44_4 := qA BK809.out 4
                     have hfz44_5 := qA BK809.out 5
                     try go_wp2_with (first | ((with_reducible refine qJB (b := .append) (xs := #[.tmp 46, .tmp 48]) rfl ?_); at_builtin; refine Kd.qAC k31 (w0 := w) w.heap.size rfl (.tmp 46) (.tmp 48) 69 31 (.agg #[(.int .i64 0), (.int .i64 0), (.int .i64 0), (.int .i64 0), (.int .i64 0), (.int .i64 0)]) 48 rfl Tryd.underlying69 info31 rfl (by decide) (by omega) (.slice (some ad802) x4_2.length co14) x4_2 (⟨t803, t804, t805, t806, t807, t808⟩ : S31) [.int .i64 t803, .int .i64 t804, .int .i64 t805, .int .i64 t806, .int .i64 t807, .int .i64 t808] (fun k_ => k_ ≠ gb795 ∧ k_ ≠ gb809) (fun _ => False) rfl rfl ?aP (fun _ hk => hk.elim) ?aF ?aO ?aB ?aS ?aL ?_; (case aP => exact qrB _ _ _ (⟨t803, t804, t805, t806, t807, t808⟩ : S31)); (case aB => exact bl); (case aF => exact (fun k_ hk => ⟨Kd.freshB (g := gb795) (o := .cells #[.int .i64 a0_0, .int .i64 a0_1, .int .i64 a0_2, .int .i64 a0_3, .int .i64 a0_4, .int .i64 a0_5] 31 (0, 0)) (by (with_reducible repeat (first | refine qD ?_ _ | refine qE ?_ | refine qC ?_ _)); exact BK795.out) k_ hk, Kd.freshB (g := gb809) (o := .cells #[.int .i64 t803, .int .i64 t804, .int .i64 t805, .int .i64 t806, .int .i64 t807, .int .i64 t808] 31 (0, 0)) (by (with_reducible repeat (first | refine qD ?_ _ | refine qE ?_ | refine qC ?_ _)); exact BK809.out) k_ hk⟩)); (case aO => exact (by (with_reducible repeat (first | apply Kd.qF | apply Kd.qG | apply Kd.qH)); exact HO_4.out)); (case aS => exact (qb bl)); (case aL => have := LMc34.out; omega); intro v813 w45 ho hb hg hat; rw [← Ny812.out] at ho; have n0_ := Aside0.mk (Kd.qqA (by (with_reducible repeat (first | apply Kd.qF | apply Kd.qG | apply Kd.qH)); exact HO_5.out) (Kd.qOA (by (with_reducible repeat (first | apply Kd.qF | apply Kd.qG | apply Kd.qH)); exact HO_4.out)) (by decide) hg); have n1_ := Aside0.mk (qfA (g := gb795) (o := .cells #[.int .i64 a0_0, .int .i64 a0_1, .int .i64 a0_2, .int .i64 a0_3, .int .i64 a0_4, .int .i64 a0_5] 31 (0, 0)) (by (with_reducible repeat (first | refine qD ?_ _ | refine qE ?_ | refine qC ?_ _)); exact BK795.out) hg (Kd.R_away HO_4.out (fun _ hk => hk.1))); have n2_ := Aside0.mk (qfA (g := gb809) (o := .cells #[.int .i64 t803, .int .i64 t804, .int .i64 t805, .int .i64 t806, .int .i64 t807, .int .i64 t808] 31 (0, 0)) (by (with_reducible repeat (first | refine qD ?_ _ | refine qE ?_ | refine qC ?_ _)); exact BK809.out) hg (Kd.R_away HO_4.out (fun _ hk => hk.2))); have n3_ := Aside0.mk (hb); have n4_ := Aside0.mk (ho); clear HO_5; clear BK795; clear BK809; clear HB; clear HO_4; have HO_5 := n0_; have BK795 := n1_; have BK809 := n2_; have HB := n3_; have HO814 := n4_; clear n0_ n1_ n2_ n3_ n4_; clear ho hb hg hat))
                     have n0_ := Aside0.mk (Kd.qH HO_5.out)
                     have n1_ := Aside0.mk (Kd.qH HO814.out)
                     have n2_ := Aside0.mk (qE BK795.out)
                     have n3_ := Aside0.mk (qE BK809.out)
                     have n4_ := Aside0.mk (qk HB.out)
                     clear HO_5
                     clear HO814
                     clear BK795
                     clear BK809
                     clear HB
                     have HO_5 := n0_
                     have HO814 := n1_
                     have BK795 := n2_
                     have BK809 := n3_
                     have HB := n4_
                     clear n0_ n1_ n2_ n3_ n4_
                     obtain ⟨Ao47, co47, eo47⟩ := Kd.qr HO_5.out
                     (first | subst eo47 | (injection eo47 with f1_ f2_ f3_; have f4_ := f1_.symm; have f5_ := f3_.symm; clear f1_ f2_ f3_; subst f4_; subst f5_))
                     have p815 : 0 ≤ (x6_1 : Int) := of_decide_eq_true (by first | (with_reducible assumption) | assumption)
                     have q815 : x6_1 < (x5_2.length : Int) := of_decide_eq_true (by first | (with_reducible assumption) | assumption)
                     obtain ⟨ad815, e815, hx815_0⟩ := Kd.qPB (Kd.qS HO_5.out).2.2 x6_1 p815 q815
                     cases e815
                     replace p815 := eq_true p815
                     replace q815 := eq_true q815
                     refine qwA (n := 14) (S := fun w' => w'.cell? (ad815.add (x6_1).toNat) = some (.string (rdOf ByteArray.empty x5_2 x6_1))) (ds := [11, 12]) #[false, false, false, false, false, false, false, false, false, false, false, false, false, false] (by kernel_rfl) rfl rfl (hx815_0) (fun hHeld => ?_); refine qTA qR.tab17 qR.bits17 (fun HT_ HW_ => ?_)
                     generalize w45.drew = w46 at HO_5 HO814 BK795 BK809 HB hx815_0 hHeld ⊢
                     refine pS (i := 0) (N := some 50) #[true, false, false, false, false, false, false, false, false, false, false, false, false, false] HT_ ?_
                     refine pS (i := 1) (N := some 51) #[true, true, false, false, false, false, false, false, false, false, false, false, false, false] HT_ ?_
                     refine pS (i := 2) (N := some 52) #[true, true, true, false, false, false, false, false, false, false, false, false, false, false] HT_ ?_
                     refine pS (i := 3) (N := some 53) #[true, true, true, true, false, false, false, false, false, false, false, false, false, false] HT_ ?_
                     refine pS (i := 6) (N := some 56) #[true, true, true, true, false, false, true, false, false, false, false, false, false, false] HT_ ?_
                     refine pS (i := 7) (N := some 57) #[true, true, true, true, false, false, true, true, false, false, false, false, false, false] HT_ ?_
                     refine pS (i := 8) (N := some 58) #[true, true, true, true, false, false, true, true, true, false, false, false, false, false] HT_ ?_
                     refine tS (i := 4) (N := some 54) #[true, true, true, true, true, false, true, true, true, false, false, false, false, false] HT_ HW_ hHeld ?_
                     refine one_ (i := 5) (N := some 55) #[true, true, true, true, true, true, true, true, true, false, false, false, false, false] rfl rfl (qnA HT_.out (by kernel_rfl)) (by decide) (fun K hK => ?_)
                     refine goes_ Tryd.func78 (by kernel_rfl) rfl #[] (by rfl) rfl rfl (by (try simp only [List.map_toArray, List.map_cons, List.map_nil]); first | done | rfl | (simp only [List.length_drop, List.length_take]; rfl)) ?_
                     with_reducible refine (qGB.calls  t816 _ A37.out).mono ?_
                     rintro e w' ⟨rfl, ⟨nd, rfl⟩⟩
                     refine ⟨_, rfl, ?_⟩
                     refine hK.out _ _ (hHeld) (fun hHeld => ?_)
                     clear hK K
                     refine norm_ (a' := ?_) ?_ ?_
                     rotate_left
                     ·show Act.put _ (some 55) _ = _
                      simp only [Act.put, List.setIfInBounds_toArray, List.set_cons_zero, List.set_cons_succ, i64_w, i32_w]
                      rfl
                     refine pS (i := 9) (N := some 59) #[true, true, true, true, true, true, true, true, true, true, false, false, false, false] HT_ ?_
                     refine pS (i := 10) (N := some 60) #[true, true, true, true, true, true, true, true, true, true, true, false, false, false] HT_ ?_
                     refine last_ (i := 11) (N := some 61) #[true, true, true, true, true, true, true, true, true, true, true, true, false, false] rfl rfl (qnA HT_.out (by kernel_rfl)) (by decide) (fun K hK => ?_)
                     refine qzA (w1 := ?_) (v := ?_) (by rfl) rfl ?_ ?_
                     rotate_left 2
                     ·go_simp
                      constructor
                      ·rfl
                      ·rfl
                     refine hK.out _ _ ?_
                     clear hK K
                     refine norm_ (a' := ?_) ?_ ?_
                     rotate_left
                     ·show Act.put _ (some 61) _ = _
                      simp only [Act.put, List.setIfInBounds_toArray, List.set_cons_zero, List.set_cons_succ, i64_w, i32_w]
                      rfl
                     refine last_ (i := 12) (N := some 62) #[true, true, true, true, true, true, true, true, true, true, true, true, true, false] rfl rfl (qnA HT_.out (by kernel_rfl)) (by decide) (fun K hK => ?_)
                     refine Kd.R_append_step Kd.string (w0 := w) w.heap.size (by rfl) (.tmp 50) (.tmp 61) 35 9 (.string ⟨#[]⟩) 16 rfl Tryd.underlying35 info9 rfl (by decide) (by omega) (.slice (some ad815) x5_2.length co47) x5_2 ((rdOf ByteArray.empty x5_2 x6_1) ++ (t816.extract (x7_2 : Int).toNat ((wrap64 (x7_2 + 1)) : Int).toNat)) [.string ((rdOf ByteArray.empty x5_2 x6_1) ++ (t816.extract (x7_2 : Int).toNat ((wrap64 (x7_2 + 1)) : Int).toNat))] (fun _ => True) (fun _ => False) rfl rfl ?aP (fun _ hk => hk.elim) ?aF ?aO ?aB ?aS ?aL ?_
                     (case aP => exact rfl)
                     (case aB => exact bl)
                     (case aF => exact (fun _ _ => trivial))
                     (case aO => exact (by (with_reducible repeat (first | apply Kd.qF | apply Kd.qG | apply Kd.qH)); exact HO_5.out))
                     (case aS => exact (qb bl))
                     (case aL => have := LMc42.out; omega)
                     intro v818 w48 ho hb hg hat
                     rw [← Ny817.out] at ho
                     have n0_ := Aside0.mk (qfA (g := gb795) (o := .cells #[.int .i64 a0_0, .int .i64 a0_1, .int .i64 a0_2, .int .i64 a0_3, .int .i64 a0_4, .int .i64 a0_5] 31 (0, 0)) (by (with_reducible repeat (first | refine qD ?_ _ | refine qE ?_ | refine qC ?_ _)); exact BK795.out) hg (Kd.R_ne HO_5.out BK795.out (by decide)))
                     have n1_ := Aside0.mk (qfA (g := gb809) (o := .cells #[.int .i64 t803, .int .i64 t804, .int .i64 t805, .int .i64 t806, .int .i64 t807, .int .i64 t808] 31 (0, 0)) (by (with_reducible repeat (first | refine qD ?_ _ | refine qE ?_ | refine qC ?_ _)); exact BK809.out) hg (Kd.R_ne HO_5.out BK809.out (by decide)))
                     have n2_ := Aside0.mk (Kd.qqA (by (with_reducible repeat (first | apply Kd.qF | apply Kd.qG | apply Kd.qH)); exact HO814.out) (Kd.qOA (by (with_reducible repeat (first | apply Kd.qF | apply Kd.qG | apply Kd.qH)); exact HO_5.out)) (by decide) hg)
                     have n3_ := Aside0.mk (hb)
                     have n4_ := Aside0.mk (ho)
                     clear BK795
                     clear BK809
                     clear HO814
                     clear HB
                     clear HO_5
                     have BK795 := n0_
                     have BK809 := n1_
                     have HO814 := n2_
                     have HB := n3_
                     have HO819 := n4_
                     clear n0_ n1_ n2_ n3_ n4_
                     clear ho hb hg hat
                     refine hK.out _ _ ?_
                     clear hK K
                     refine norm_ (a' := ?_) ?_ ?_
                     rotate_left
                     ·show Act.put _ (some 62) _ = _
                      simp only [Act.put, List.setIfInBounds_toArray, List.set_cons_zero, List.set_cons_succ, i64_w, i32_w]
                      rfl
                     refine pS (i := 13) (N := some 5) #[true, true, true, true, true, true, true, true, true, true, true, true, true, true] HT_ ?_
                     refine done_ (qDB HT_.out (by kernel_rfl)) ?_
                     try go_wp2
                     go_roundg k3
                     case measure => have := HK1.out; have := HK2.out; have := HK3.out; omega
                     case rel => exact ⟨(y812), (y817), (wrap64 (x7_2 + 1)), (by first | rfl | (simp; done) | (simp [*]; done)), H', ⟨by have := HK1.out; have := HK2.out; have := HK3.out; omega⟩, ⟨by (with_reducible repeat (first | apply Kd.qF | apply Kd.qG | apply Kd.qH)); exact Kd.qd HO814.out (fun _ hk => hk.1)⟩, ⟨by (with_reducible repeat (first | apply Kd.qF | apply Kd.qG | apply Kd.qH)); exact HO819.out⟩, ⟨by (with_reducible repeat (first | refine qD ?_ _ | refine qE ?_ | refine qC ?_ _)); exact BK795.out⟩, ⟨bl⟩⟩
                    ·rw [if_neg c42] at H
                     exact absurd H (by simp)
                   ·rw [if_neg c41] at H
                    exact absurd H (by simp)
                  ·rw [if_neg c40] at H
                   exact absurd H (by simp)
                 ·rw [if_neg c39] at H
                  exact absurd H (by simp)
                ·rw [if_neg c38] at H
                 exact absurd H (by simp)
               ·rw [if_neg c36] at H
                exact absurd H (by simp)
              ·rw [if_neg c35] at H
               exact absurd H (by simp)
             ·rw [if_neg c34] at H
              exact absurd H (by simp)
        ·rw [if_neg c12] at H
         exact absurd H (by simp)
       ·rw [if_neg c11] at H
        exact absurd H (by simp)
      ·rw [if_neg c10] at H
       have c10b0 : decide (x7_2 < 4) = false := decide_eq_false c10
       clear c10
       have H' := Aside0.mk H
       clear H
       go_wp2
       go_roundg k2
       case measure => have := HK1.out; have := HK2.out; omega
       case rel => exact ⟨(x4_2), (x5_2), (wrap64 (x6_1 + 1)), (by first | rfl | (simp; done) | (simp [*]; done)), H', ⟨by have := HK1.out; have := HK2.out; omega⟩, ⟨by (with_reducible repeat (first | apply Kd.qF | apply Kd.qG | apply Kd.qH)); exact HO_4.out⟩, ⟨by (with_reducible repeat (first | apply Kd.qF | apply Kd.qG | apply Kd.qH)); exact HO_5.out⟩, ⟨by (with_reducible repeat (first | refine qD ?_ _ | refine qE ?_ | refine qC ?_ _)); exact BK795.out⟩, ⟨bl⟩⟩
   ·rw [if_neg c8] at H
    have c8b0 : decide (x6_1 < (x4_1.length : Int)) = false := decide_eq_false c8
    clear c8
    simp only [Option.some.injEq, Prod.mk.injEq] at H
    obtain ⟨rfl, rfl⟩ := H
    obtain ⟨Ao49, co49, eo49⟩ := Kd.qr HO_4.out
    subst eo49
    go_wp2
    go_ret2
    exact ⟨_, _, by first | rfl | (simp [qN, qM] <;> rfl) | (simp [*, qN, qM] <;> rfl), by (with_reducible repeat (first | apply Kd.qF | apply Kd.qG | apply Kd.qH)); exact Kd.qd HO_4.out (fun _ hk => trivial), by (with_reducible repeat (first | apply Kd.qF | apply Kd.qG | apply Kd.qH)); exact HO_5.out, bl⟩
def qv.l0 : Nat → List (S31) → List ByteArray → Int → Int → Int → Int → Int → Int → Int → Int → Option (ByteArray × Bool)
 | 0, _, _, _, _, _, _, _, _, _, _ => none
 | k + 1, x13, x14, x16, x17, x822000, x822001, x822002, x822003, x822004, x822005 => if x17 < x16 then (if 0 ≤ x17 then (if x17 < (x13.length : Int) then (if (((qP x13 x17).f0) == x822000 && (((qP x13 x17).f1) == x822001 && (((qP x13 x17).f2) == x822002 && (((qP x13 x17).f3) == x822003 && (((qP x13 x17).f4) == x822004 && (((qP x13 x17).f5) == x822005)))))) = true then (if x17 < (x14.length : Int) then (some (rdOf ByteArray.empty x14 x17, true)) else (none)) else (qv.l0 k x13 x14 x16 (wrap64 (x17 + 1)) x822000 x822001 x822002 x822003 x822004 x822005)) else (none)) else (none)) else (some ((⟨#[]⟩ : ByteArray), false))
def qv.f (k : Nat) (a0_0 : Int) (a0_1 : Int) (a0_2 : Int) (a0_3 : Int) (a0_4 : Int) (a0_5 : Int) (a1_0 : Int) (a1_1 : Int) (a1_2 : Int) (a1_3 : Int) (a1_4 : Int) (a1_5 : Int) : Option (ByteArray × Bool) := (qR.f k a0_0 a0_1 a0_2 a0_3 a0_4 a0_5).bind fun bt822 => (qv.l0 k bt822.1 bt822.2 (bt822.1.length : Int) 0 a1_0 a1_1 a1_2 a1_3 a1_4 a1_5)
set_option maxHeartbeats 8000000 in
set_option maxRecDepth 100000 in
theorem qv.calls (k : Nat) (a0_0 : Int) (a0_1 : Int) (a0_2 : Int) (a0_3 : Int) (a0_4 : Int) (a0_5 : Int) (a1_0 : Int) (a1_1 : Int) (a1_2 : Int) (a1_3 : Int) (a1_4 : Int) (a1_5 : Int) (r1 : ByteArray) (r2 : Bool) (w : World) (h : qv.f k a0_0 a0_1 a0_2 a0_3 a0_4 a0_5 a1_0 a1_1 a1_2 a1_3 a1_4 a1_5 = some (r1, r2)) :
  Calls Tryd.prog 44 #[.agg #[.int .i64 a0_0, .int .i64 a0_1, .int .i64 a0_2, .int .i64 a0_3, .int .i64 a0_4, .int .i64 a0_5], .agg #[.int .i64 a1_0, .int .i64 a1_1, .int .i64 a1_2, .int .i64 a1_3, .int .i64 a1_4, .int .i64 a1_5]] w fun e w' => e = .returned (.tuple #[.string r1, .bool r2]) ∧ Below w.heap.size w w' := by
 have hu31 := Tryd.underlying31
 have HB := Aside0.mk (Below.refl w.heap.size w)
 have H : ((qR.f k a0_0 a0_1 a0_2 a0_3 a0_4 a0_5).bind fun bt822 => (qv.l0 k bt822.1 bt822.2 (bt822.1.length : Int) 0 a1_0 a1_1 a1_2 a1_3 a1_4 a1_5)) = some (r1, r2) := h
 clear h
 replace H := Option.bind_eq_some_iff.mp H
 obtain ⟨⟨t822, t825⟩, A30, H⟩ := H
 replace H : (qv.l0 k t822 t825 (t822.length : Int) 0 a1_0 a1_1 a1_2 a1_3 a1_4 a1_5) = some (r1, r2) := H
 have A3 := Aside0.mk A30
 clear A30
 have H' := Aside0.mk H
 clear H
 go_enter Tryd.func44, Tryd.ntmps44
 go_wp2_with (first | ((with_reducible refine qX (N := 2) rfl ?_); refine qW ?hg (N := 2) ?hd (cs := #[.int .i64 a0_0, .int .i64 a0_1, .int .i64 a0_2, .int .i64 a0_3, .int .i64 a0_4, .int .i64 a0_5]) (t := 31) ?hr ?_; (case hd => rfl); (case hg => rfl); (case hr => first | (go_simp; done) | (go_simp; rfl)); intro gb820 hg w4 hbox hb; have n0_ := Aside0.mk (qJ bl hb); have n1_ := Aside0.mk (hbox); have n2_ := Aside0.mk ((gg hg)); have n3_ := Aside0.mk ((gg hg)); clear HB; have HB := n0_; have BK820 := n1_; have GW820 := n2_; have GE820 := n3_; clear n0_ n1_ n2_ n3_; clear hb hbox hg) | ((with_reducible refine qX (N := 3) rfl ?_); refine qW ?hg (N := 3) ?hd (cs := #[.int .i64 a1_0, .int .i64 a1_1, .int .i64 a1_2, .int .i64 a1_3, .int .i64 a1_4, .int .i64 a1_5]) (t := 31) ?hr ?_; (case hd => rfl); (case hg => rfl); (case hr => first | (go_simp; done) | (go_simp; rfl)); intro gb821 hg w5 hbox hb; have n0_ := Aside0.mk (bb BK820 hb); have n1_ := Aside0.mk (qJ bl hb); have n2_ := Aside0.mk (hbox); have n3_ := Aside0.mk ((gg hg)); have n4_ := Aside0.mk ((gg hg)); have n5_ := Aside0.mk ((nl BK820 hg)); have n6_ := Aside0.mk ((nr BK820 hg)); clear BK820; clear HB; have BK820 := n0_; have HB := n1_; have BK821 := n2_; have GW821 := n3_; have GE821 := n4_; have NB820_821 := n5_; have NB821_820 := n6_; clear n0_ n1_ n2_ n3_ n4_ n5_ n6_; clear hb hbox hg; have hnb6 := NB820_821.out; have hnc6 := NB821_820.out; have hcz7_0 := bc BK820 0; have hcz7_1 := bc BK820 1; have hcz7_2 := bc BK820 2; have hcz7_3 := bc BK820 3; have hcz7_4 := bc BK820 4; have hcz7_5 := bc BK820 5; have hfz7_0 := qA BK820.out 0; have hfz7_1 := qA BK820.out 1; have hfz7_2 := qA BK820.out 2; have hfz7_3 := qA BK820.out 3; have hfz7_4 := qA BK820.out 4; have hfz7_5 := qA BK820.out 5) | ((with_reducible refine qa (f := 60) rfl ?_); refine qQA (some 12) rfl rfl Tryd.func60 (by kernel_rfl) rfl #[.agg #[.int .i64 a0_0, .int .i64 a0_1, .int .i64 a0_2, .int .i64 a0_3, .int .i64 a0_4, .int .i64 a0_5]] rfl (by (try simp only [List.map_toArray, List.map_cons, List.map_nil]); first | done | rfl | (simp only [List.length_drop, List.length_take]; rfl)) ?_; (with_reducible refine (qR.calls k a0_0 a0_1 a0_2 a0_3 a0_4 a0_5 t822 t825 _ A3.out).mono ?_); rintro e w8 ⟨v823, v826, rfl, ho0, ho1, hb⟩; refine ⟨_, rfl, ?_⟩; have n0_ := Aside0.mk (Kd.qEA (Kd.qQD (Kd.qQD ho0 (g := gb820) (o := .cells #[.int .i64 a0_0, .int .i64 a0_1, .int .i64 a0_2, .int .i64 a0_3, .int .i64 a0_4, .int .i64 a0_5] 31 (0, 0)) (by (with_reducible repeat (first | refine qD ?_ _ | refine qE ?_ | refine qC ?_ _)); exact BK820.out)) (g := gb821) (o := .cells #[.int .i64 a1_0, .int .i64 a1_1, .int .i64 a1_2, .int .i64 a1_3, .int .i64 a1_4, .int .i64 a1_5] 31 (0, 0)) (by (with_reducible repeat (first | refine qD ?_ _ | refine qE ?_ | refine qC ?_ _)); exact BK821.out)) (qb bl)); have n1_ := Aside0.mk (Kd.qEA ho1 (qb bl)); have n2_ := Aside0.mk (bb BK820 hb); have n3_ := Aside0.mk (bb BK821 hb); have n4_ := Aside0.mk (qJ bl hb); clear BK820; clear BK821; clear HB; have HO824 := n0_; have HO827 := n1_; have BK820 := n2_; have BK821 := n3_; have HB := n4_; clear n0_ n1_ n2_ n3_ n4_; (try clear hb); (try clear hb2); (try clear hk); (try clear hi); (try clear ho0); (try clear ho1); obtain ⟨Ao9, co9, eo9⟩ := Kd.qr HO824.out; subst eo9))
 go_loopg [17] k (fun kq v17 w' => ∃ (x17_1 : Int), v17 = .int .i64 x17_1 ∧ Aside0 (qv.l0 kq t822 t825 (t822.length : Int) x17_1 a1_0 a1_1 a1_2 a1_3 a1_4 a1_5 = some (r1, r2)) ∧ Aside0 (kq ≤ k) ∧ Aside0 (Kd.R k31 31 w' w.heap.size (fun k_ => k_ ≠ gb820 ∧ k_ ≠ gb821) (.slice Ao9 t822.length co9) t822) ∧ Aside0 (Kd.R Kd.string 9 w' w.heap.size (fun _ => True) v826 t825) ∧ Aside0 (w'.heap[gb820]? = some (.cells #[.int .i64 a0_0, .int .i64 a0_1, .int .i64 a0_2, .int .i64 a0_3, .int .i64 a0_4, .int .i64 a0_5] 31 (0, 0))) ∧ Aside0 (w'.heap[gb821]? = some (.cells #[.int .i64 a1_0, .int .i64 a1_1, .int .i64 a1_2, .int .i64 a1_3, .int .i64 a1_4, .int .i64 a1_5] 31 (0, 0))) ∧ Aside0 (Below w.heap.size w w'))
 case atStart => exact ⟨(0), (by first | rfl | (simp; done) | (simp [*]; done)), H', ⟨Nat.le_refl _⟩, ⟨by (with_reducible repeat (first | apply Kd.qF | apply Kd.qG | apply Kd.qH)); exact Kd.qd HO824.out (fun _ hk => ⟨hk.1.2, hk.2⟩)⟩, ⟨by (with_reducible repeat (first | apply Kd.qF | apply Kd.qG | apply Kd.qH)); exact HO827.out⟩, ⟨by (with_reducible repeat (first | refine qD ?_ _ | refine qE ?_ | refine qC ?_ _)); exact BK820.out⟩, ⟨by (with_reducible repeat (first | refine qD ?_ _ | refine qE ?_ | refine qC ?_ _)); exact BK821.out⟩, ⟨bl⟩⟩
 case round =>
  clear H'
  try clear p2
  try clear c4
  try clear c6
  try clear hcz7_0
  try clear hcz7_1
  try clear hcz7_2
  try clear hcz7_3
  try clear hcz7_4
  try clear hcz7_5
  try clear hfz7_0
  try clear hfz7_1
  try clear hfz7_2
  try clear hfz7_3
  try clear hfz7_4
  try clear hfz7_5
  obtain ⟨x17_1, rfl, HA, HK1, HO_13, HO_14, BK820, BK821, HB⟩ := hrel
  cases gk with
  | zero => exact absurd HA.out (by simp [qv.l0])
  | succ k1 =>
   have H := HA.out
   clear HA
   simp only [qv.l0] at H
   by_cases c10 : x17_1 < (t822.length : Int)
   ·rw [if_pos c10] at H
    have c10b0 : decide (x17_1 < (t822.length : Int)) = true := decide_eq_true c10
    clear c10
    by_cases c11 : 0 ≤ x17_1
    ·rw [if_pos c11] at H
     have c11b0 : decide (0 ≤ x17_1) = true := decide_eq_true c11
     clear c11
     by_cases c12 : x17_1 < (t822.length : Int)
     ·rw [if_pos c12] at H
      have c12b0 : decide (x17_1 < (t822.length : Int)) = true := decide_eq_true c12
      clear c12
      by_cases c13 : (((qP t822 x17_1).f0) == a1_0 && (((qP t822 x17_1).f1) == a1_1 && (((qP t822 x17_1).f2) == a1_2 && (((qP t822 x17_1).f3) == a1_3 && (((qP t822 x17_1).f4) == a1_4 && (((qP t822 x17_1).f5) == a1_5)))))) = true
      ·rw [if_pos c13] at H
       have c13b0 : (((qP t822 x17_1).f0) == a1_0 && (((qP t822 x17_1).f1) == a1_1 && (((qP t822 x17_1).f2) == a1_2 && (((qP t822 x17_1).f3) == a1_3 && (((qP t822 x17_1).f4) == a1_4 && (((qP t822 x17_1).f5) == a1_5)))))) = true := c13
       (try (have c13b1 : decide (((qP t822 x17_1).f0) = a1_0 && (((qP t822 x17_1).f1) == a1_1 && (((qP t822 x17_1).f2) == a1_2 && (((qP t822 x17_1).f3) == a1_3 && (((qP t822 x17_1).f4) == a1_4 && (((qP t822 x17_1).f5) == a1_5)))))) = true := by simpa using c13))
       (try (have c13b2 : (((qP t822 x17_1).f0) == a1_0 && (((qP t822 x17_1).f1) == a1_1 && (((qP t822 x17_1).f2) == a1_2 && (((qP t822 x17_1).f3) == a1_3 && (((qP t822 x17_1).f4) == a1_4 && (((qP t822 x17_1).f5) == a1_5)))))) = true := by simpa using c13))
       clear c13
       by_cases c14 : x17_1 < (t825.length : Int)
       ·rw [if_pos c14] at H
        have c14b0 : decide (x17_1 < (t825.length : Int)) = true := decide_eq_true c14
        clear c14
        simp only [Option.some.injEq, Prod.mk.injEq] at H
        obtain ⟨rfl, rfl⟩ := H
        have p828 : 0 ≤ (x17_1 : Int) := of_decide_eq_true (by first | (with_reducible assumption) | assumption)
        have q828 : x17_1 < (t822.length : Int) := of_decide_eq_true (by first | (with_reducible assumption) | assumption)
        obtain ⟨ad828, e828, hx828_0, hx828_1, hx828_2, hx828_3, hx828_4, hx828_5⟩ := qkC (Kd.qS HO_13.out).2.2 x17_1 p828 q828
        cases e828
        replace p828 := eq_true p828
        replace q828 := eq_true q828
        go_wp2_with (first | ((with_reducible refine qX (N := 9) rfl ?_); refine qW ?hg (N := 9) ?hd (cs := #[.int .i64 0, .int .i64 0, .int .i64 0, .int .i64 0, .int .i64 0, .int .i64 0]) (t := 31) ?hr ?_; (case hd => rfl); (case hg => rfl); (case hr => first | (go_simp; done) | (go_simp; rfl)); intro gb829 hg w15 hbox hb; have n0_ := Aside0.mk (Kd.qU (Kd.qYC (by (with_reducible repeat (first | apply Kd.qF | apply Kd.qG | apply Kd.qH)); exact HO_13.out) gb829 (Nat.le_of_eq hg.symm)) hb); have n1_ := Aside0.mk (Kd.qU (by (with_reducible repeat (first | apply Kd.qF | apply Kd.qG | apply Kd.qH)); exact HO_14.out) hb); have n2_ := Aside0.mk (bb BK820 hb); have n3_ := Aside0.mk (bb BK821 hb); have n4_ := Aside0.mk (qJ bl hb); have n5_ := Aside0.mk (hbox); have n6_ := Aside0.mk ((gg hg)); have n7_ := Aside0.mk ((gg hg)); have n8_ := Aside0.mk ((nl BK820 hg)); have n9_ := Aside0.mk ((nr BK820 hg)); have n10_ := Aside0.mk ((nl BK821 hg)); have n11_ := Aside0.mk ((nr BK821 hg)); clear HO_13; clear HO_14; clear BK820; clear BK821; clear HB; have HO_13 := n0_; have HO_14 := n1_; have BK820 := n2_; have BK821 := n3_; have HB := n4_; have BK829 := n5_; have GW829 := n6_; have GE829 := n7_; have NB820_829 := n8_; have NB829_820 := n9_; have NB821_829 := n10_; have NB829_821 := n11_; clear n0_ n1_ n2_ n3_ n4_ n5_ n6_ n7_ n8_ n9_ n10_ n11_; clear hb hbox hg; have hnb16 := NB829_820.out; have hnc16 := NB820_829.out; have hnb17 := NB829_821.out; have hnc17 := NB821_829.out; have hcz18_0 := bc BK829 0; have hcz18_1 := bc BK829 1; have hcz18_2 := bc BK829 2; have hcz18_3 := bc BK829 3; have hcz18_4 := bc BK829 4; have hcz18_5 := bc BK829 5; have hfz18_0 := qA BK829.out 0; have hfz18_1 := qA BK829.out 1; have hfz18_2 := qA BK829.out 2; have hfz18_3 := qA BK829.out 3; have hfz18_4 := qA BK829.out 4; have hfz18_5 := qA BK829.out 5; have hnb19 := NB821_820.out; have hnc19 := NB820_821.out; have hcz20_0 := bc BK821 0; have hcz20_1 := bc BK821 1; have hcz20_2 := bc BK821 2; have hcz20_3 := bc BK821 3; have hcz20_4 := bc BK821 4; have hcz20_5 := bc BK821 5; have hfz20_0 := qA BK821.out 0; have hfz20_1 := qA BK821.out 1; have hfz20_2 := qA BK821.out 2; have hfz20_3 := qA BK821.out 3; have hfz20_4 := qA BK821.out 4; have hfz20_5 := qA BK821.out 5; obtain ⟨Ao21, co21, eo21⟩ := Kd.qr HO_14.out; subst eo21; have p830 : 0 ≤ (x17_1 : Int) := of_decide_eq_true (by first | (with_reducible assumption) | assumption); have q830 : x17_1 < (t825.length : Int) := of_decide_eq_true (by first | (with_reducible assumption) | assumption); obtain ⟨ad830, e830, hx830_0⟩ := Kd.qPB (Kd.qS HO_14.out).2.2 x17_1 p830 q830; cases e830; have hn830_0 : ad830.block ≠ gb829 := Kd.qIC (Kd.R_ne HO_14.out BK829.out (by decide)); have hn830_1 : ad830.block ≠ gb829 := Kd.qIC (Kd.R_ne HO_14.out BK829.out (by decide)); have hn830_2 : ad830.block ≠ gb829 := Kd.qIC (Kd.R_ne HO_14.out BK829.out (by decide)); have hn830_3 : ad830.block ≠ gb829 := Kd.qIC (Kd.R_ne HO_14.out BK829.out (by decide)); have hn830_4 : ad830.block ≠ gb829 := Kd.qIC (Kd.R_ne HO_14.out BK829.out (by decide)); have hn830_5 : ad830.block ≠ gb829 := Kd.qIC (Kd.R_ne HO_14.out BK829.out (by decide)); replace hx830_0 := (qZ (p := ⟨gb829, 0, none⟩) (by first | (rw [qB]; exact hn830_0) | (show (Addr.add _ _).block ≠ _; rw [qB]; exact hn830_0) | exact hn830_0) (.int .i64 ((qP t822 x17_1).f0))).trans hx830_0; replace hx830_0 := (qZ (p := ⟨gb829, 1, none⟩) (by first | (rw [qB]; exact hn830_1) | (show (Addr.add _ _).block ≠ _; rw [qB]; exact hn830_1) | exact hn830_1) (.int .i64 ((qP t822 x17_1).f1))).trans hx830_0; replace hx830_0 := (qZ (p := ⟨gb829, 2, none⟩) (by first | (rw [qB]; exact hn830_2) | (show (Addr.add _ _).block ≠ _; rw [qB]; exact hn830_2) | exact hn830_2) (.int .i64 ((qP t822 x17_1).f2))).trans hx830_0; replace hx830_0 := (qZ (p := ⟨gb829, 3, none⟩) (by first | (rw [qB]; exact hn830_3) | (show (Addr.add _ _).block ≠ _; rw [qB]; exact hn830_3) | exact hn830_3) (.int .i64 ((qP t822 x17_1).f3))).trans hx830_0; replace hx830_0 := (qZ (p := ⟨gb829, 4, none⟩) (by first | (rw [qB]; exact hn830_4) | (show (Addr.add _ _).block ≠ _; rw [qB]; exact hn830_4) | exact hn830_4) (.int .i64 ((qP t822 x17_1).f4))).trans hx830_0; replace hx830_0 := (qZ (p := ⟨gb829, 5, none⟩) (by first | (rw [qB]; exact hn830_5) | (show (Addr.add _ _).block ≠ _; rw [qB]; exact hn830_5) | exact hn830_5) (.int .i64 ((qP t822 x17_1).f5))).trans hx830_0; clear hn830_0; clear hn830_1; clear hn830_2; clear hn830_3; clear hn830_4; clear hn830_5; replace p830 := eq_true p830; replace q830 := eq_true q830))
        go_ret2
        exact ⟨by first | rfl | (simp [qN, qM] <;> rfl) | (simp [*, qN, qM] <;> rfl), bl⟩
       ·rw [if_neg c14] at H
        exact absurd H (by simp)
      ·rw [if_neg c13] at H
       have c13b0 : (((qP t822 x17_1).f0) == a1_0 && (((qP t822 x17_1).f1) == a1_1 && (((qP t822 x17_1).f2) == a1_2 && (((qP t822 x17_1).f3) == a1_3 && (((qP t822 x17_1).f4) == a1_4 && (((qP t822 x17_1).f5) == a1_5)))))) = false := by simpa using c13
       (try (have c13b1 : decide (((qP t822 x17_1).f0) = a1_0 && (((qP t822 x17_1).f1) == a1_1 && (((qP t822 x17_1).f2) == a1_2 && (((qP t822 x17_1).f3) == a1_3 && (((qP t822 x17_1).f4) == a1_4 && (((qP t822 x17_1).f5) == a1_5)))))) = false := by simpa using c13))
       (try (have c13b2 : (((qP t822 x17_1).f0) == a1_0 && (((qP t822 x17_1).f1) == a1_1 && (((qP t822 x17_1).f2) == a1_2 && (((qP t822 x17_1).f3) == a1_3 && (((qP t822 x17_1).f4) == a1_4 && (((qP t822 x17_1).f5) == a1_5)))))) = false := by simpa using c13))
       (try (have c13b3 : ¬ (((qP t822 x17_1).f0) = a1_0 && (((qP t822 x17_1).f1) == a1_1 && (((qP t822 x17_1).f2) == a1_2 && (((qP t822 x17_1).f3) == a1_3 && (((qP t822 x17_1).f4) == a1_4 && (((qP t822 x17_1).f5) == a1_5)))))) := by simpa using c13))
       clear c13
       have H' := Aside0.mk H
       clear H
       have p828 : 0 ≤ (x17_1 : Int) := of_decide_eq_true (by first | (with_reducible assumption) | assumption)
       have q828 : x17_1 < (t822.length : Int) := of_decide_eq_true (by first | (with_reducible assumption) | assumption)
       obtain ⟨ad828, e828, hx828_0, hx828_1, hx828_2, hx828_3, hx828_4, hx828_5⟩ := qkC (Kd.qS HO_13.out).2.2 x17_1 p828 q828
       cases e828
       replace p828 := eq_true p828
       replace q828 := eq_true q828
       go_wp2_with (first | ((with_reducible refine qX (N := 9) rfl ?_); refine qW ?hg (N := 9) ?hd (cs := #[.int .i64 0, .int .i64 0, .int .i64 0, .int .i64 0, .int .i64 0, .int .i64 0]) (t := 31) ?hr ?_; (case hd => rfl); (case hg => rfl); (case hr => first | (go_simp; done) | (go_simp; rfl)); intro gb829 hg w22 hbox hb; have n0_ := Aside0.mk (Kd.qU (Kd.qYC (by (with_reducible repeat (first | apply Kd.qF | apply Kd.qG | apply Kd.qH)); exact HO_13.out) gb829 (Nat.le_of_eq hg.symm)) hb); have n1_ := Aside0.mk (Kd.qU (by (with_reducible repeat (first | apply Kd.qF | apply Kd.qG | apply Kd.qH)); exact HO_14.out) hb); have n2_ := Aside0.mk (bb BK820 hb); have n3_ := Aside0.mk (bb BK821 hb); have n4_ := Aside0.mk (qJ bl hb); have n5_ := Aside0.mk (hbox); have n6_ := Aside0.mk ((gg hg)); have n7_ := Aside0.mk ((gg hg)); have n8_ := Aside0.mk ((nl BK820 hg)); have n9_ := Aside0.mk ((nr BK820 hg)); have n10_ := Aside0.mk ((nl BK821 hg)); have n11_ := Aside0.mk ((nr BK821 hg)); clear HO_13; clear HO_14; clear BK820; clear BK821; clear HB; have HO_13 := n0_; have HO_14 := n1_; have BK820 := n2_; have BK821 := n3_; have HB := n4_; have BK829 := n5_; have GW829 := n6_; have GE829 := n7_; have NB820_829 := n8_; have NB829_820 := n9_; have NB821_829 := n10_; have NB829_821 := n11_; clear n0_ n1_ n2_ n3_ n4_ n5_ n6_ n7_ n8_ n9_ n10_ n11_; clear hb hbox hg; have hnb23 := NB829_820.out; have hnc23 := NB820_829.out; have hnb24 := NB829_821.out; have hnc24 := NB821_829.out; have hcz25_0 := bc BK829 0; have hcz25_1 := bc BK829 1; have hcz25_2 := bc BK829 2; have hcz25_3 := bc BK829 3; have hcz25_4 := bc BK829 4; have hcz25_5 := bc BK829 5; have hfz25_0 := qA BK829.out 0; have hfz25_1 := qA BK829.out 1; have hfz25_2 := qA BK829.out 2; have hfz25_3 := qA BK829.out 3; have hfz25_4 := qA BK829.out 4; have hfz25_5 := qA BK829.out 5; have hnb26 := NB821_820.out; have hnc26 := NB820_821.out; have hcz27_0 := bc BK821 0; have hcz27_1 := bc BK821 1; have hcz27_2 := bc BK821 2; have hcz27_3 := bc BK821 3; have hcz27_4 := bc BK821 4; have hcz27_5 := bc BK821 5; have hfz27_0 := qA BK821.out 0; have hfz27_1 := qA BK821.out 1; have hfz27_2 := qA BK821.out 2; have hfz27_3 := qA BK821.out 3; have hfz27_4 := qA BK821.out 4; have hfz27_5 := qA BK821.out 5))
       go_roundg k1
       case measure => have := HK1.out; omega
       case rel => exact ⟨(wrap64 (x17_1 + 1)), (by first | rfl | (simp; done) | (simp [*]; done)), H', ⟨by have := HK1.out; omega⟩, ⟨by (with_reducible repeat (first | apply Kd.qF | apply Kd.qG | apply Kd.qH)); exact Kd.qd (Kd.R_far (p := ⟨gb829, 5, none⟩) (Kd.R_far (p := ⟨gb829, 4, none⟩) (Kd.R_far (p := ⟨gb829, 3, none⟩) (Kd.R_far (p := ⟨gb829, 2, none⟩) (Kd.R_far (p := ⟨gb829, 1, none⟩) (Kd.R_far (p := ⟨gb829, 0, none⟩) (Kd.qd HO_13.out (fun k_ hk => (⟨hk, hk.2⟩ : _ ∧ k_ ≠ gb829))) (fun _ hk => hk.2) (.int .i64 ((qP t822 x17_1).f0))) (fun _ hk => hk.2) (.int .i64 ((qP t822 x17_1).f1))) (fun _ hk => hk.2) (.int .i64 ((qP t822 x17_1).f2))) (fun _ hk => hk.2) (.int .i64 ((qP t822 x17_1).f3))) (fun _ hk => hk.2) (.int .i64 ((qP t822 x17_1).f4))) (fun _ hk => hk.2) (.int .i64 ((qP t822 x17_1).f5))) (fun _ hk => ⟨hk.1.1.1, hk.1.1.2⟩)⟩, ⟨by (with_reducible repeat (first | apply Kd.qF | apply Kd.qG | apply Kd.qH)); exact Kd.qd (Kd.R_far (p := ⟨gb829, 5, none⟩) (Kd.R_far (p := ⟨gb829, 4, none⟩) (Kd.R_far (p := ⟨gb829, 3, none⟩) (Kd.R_far (p := ⟨gb829, 2, none⟩) (Kd.R_far (p := ⟨gb829, 1, none⟩) (Kd.R_far (p := ⟨gb829, 0, none⟩) (Kd.qRA HO_14.out BK829.out (by decide)) (fun _ hk => hk.2) (.int .i64 ((qP t822 x17_1).f0))) (fun _ hk => hk.2) (.int .i64 ((qP t822 x17_1).f1))) (fun _ hk => hk.2) (.int .i64 ((qP t822 x17_1).f2))) (fun _ hk => hk.2) (.int .i64 ((qP t822 x17_1).f3))) (fun _ hk => hk.2) (.int .i64 ((qP t822 x17_1).f4))) (fun _ hk => hk.2) (.int .i64 ((qP t822 x17_1).f5))) (fun _ hk => trivial)⟩, ⟨by (with_reducible repeat (first | refine qD ?_ _ | refine qE ?_ | refine qC ?_ _)); refine qc ?_ NB820_829.out _; (with_reducible repeat (first | refine qD ?_ _ | refine qE ?_ | refine qC ?_ _)); refine qc ?_ NB820_829.out _; (with_reducible repeat (first | refine qD ?_ _ | refine qE ?_ | refine qC ?_ _)); refine qc ?_ NB820_829.out _; (with_reducible repeat (first | refine qD ?_ _ | refine qE ?_ | refine qC ?_ _)); refine qc ?_ NB820_829.out _; (with_reducible repeat (first | refine qD ?_ _ | refine qE ?_ | refine qC ?_ _)); refine qc ?_ NB820_829.out _; (with_reducible repeat (first | refine qD ?_ _ | refine qE ?_ | refine qC ?_ _)); refine qc ?_ NB820_829.out _; (with_reducible repeat (first | refine qD ?_ _ | refine qE ?_ | refine qC ?_ _)); exact BK820.out⟩, ⟨by (with_reducible repeat (first | refine qD ?_ _ | refine qE ?_ | refine qC ?_ _)); refine qc ?_ NB821_829.out _; (with_reducible repeat (first | refine qD ?_ _ | refine qE ?_ | refine qC ?_ _)); refine qc ?_ NB821_829.out _; (with_reducible repeat (first | refine qD ?_ _ | refine qE ?_ | refine qC ?_ _)); refine qc ?_ NB821_829.out _; (with_reducible repeat (first | refine qD ?_ _ | refine qE ?_ | refine qC ?_ _)); refine qc ?_ NB821_829.out _; (with_reducible repeat (first | refine qD ?_ _ | refine qE ?_ | refine qC ?_ _)); refine qc ?_ NB821_829.out _; (with_reducible repeat (first | refine qD ?_ _ | refine qE ?_ | refine qC ?_ _)); refine qc ?_ NB821_829.out _; (with_reducible repeat (first | refine qD ?_ _ | refine qE ?_ | refine qC ?_ _)); exact BK821.out⟩, ⟨bl⟩⟩
     ·rw [if_neg c12] at H
      exact absurd H (by simp)
    ·rw [if_neg c11] at H
     exact absurd H (by simp)
   ·rw [if_neg c10] at H
    have c10b0 : decide (x17_1 < (t822.length : Int)) = false := decide_eq_false c10
    clear c10
    simp only [Option.some.injEq, Prod.mk.injEq] at H
    obtain ⟨rfl, rfl⟩ := H
    go_wp2
    go_ret2
    exact ⟨by first | rfl | (simp [qN, qM] <;> rfl) | (simp [*, qN, qM] <;> rfl), bl⟩
end Go.Proofs.YtdncpkppkafkpaaDoor.P
