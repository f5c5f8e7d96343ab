/- The program's KeptEdges returns what the reference's returns, for all texts (the law lets longer texts by). No further condition. -/
import Derived.Test.YtdncpkppkafkpaaDoorKFnExactKeptEdges1

namespace Go.Proofs.YtdncpkppkafkpaaDoor.P
open Go.RowKit Go.Proofs.YtdncpkppkafkpaaDoorW.PrintWords Go.Proofs.YtdncpkppkafkpaaDoorW.PrintLast Go.Proofs.YtdncpkppkafkpaaDoorW.PrintMore
attribute [local go_sem] qCA qAA qOA qNA qq qp qBA qz
set_option linter.unusedVariables false
set_option linter.unusedSimpArgs false
mutual
def qJ.l0 : Nat → List Int → List (S31) → Int → Int → Int → Int → List Int → Option (List Int × Bool)
 | 0, _, _, _, _, _, _, _ => none
 | k + 1, x18, x22, x24, x25, x249000, x249001, x249002 => if x25 < x24 then (if 0 ≤ x25 then (if x25 < (x18.length : Int) then (qJ.l0 k (x18.set (x25 : Int).toNat (-1)) x22 x24 (wrap64 (x25 + 1)) x249000 x249001 x249002) else (none)) else (none)) else ((qi.f k x249000 x249001 x249002).bind fun t256 => (if 0 < (t256.length : Int) then ((qKB.f).bind fun bt260 => (if 0 ≤ (rd t256 0) then (if (rd t256 0) < (x22.length : Int) then (if (rd t256 0) < (x18.length : Int) then (qJ.l1 k (([rd t256 0] : List Int)) 0 (x18.set ((rd t256 0) : Int).toNat 5) (x22.set ((rd t256 0) : Int).toNat (⟨bt260.1, bt260.2.1, bt260.2.2.1, bt260.2.2.2.1, bt260.2.2.2.2.1, bt260.2.2.2.2.2⟩ : S31)) t256 x249000 x249001 x249002) else (none)) else (none)) else (none))) else (none)))
def qJ.l1 : Nat → List Int → Int → List Int → List (S31) → List Int → Int → Int → List Int → Option (List Int × Bool)
 | 0, _, _, _, _, _, _, _, _ => none
 | k + 1, x8, x9, x18, x22, x33, x249000, x249001, x249002 => if x9 < (x8.length : Int) then (qJ.l2 k x8 x9 0 x18 x22 x33 x249000 x249001 x249002) else (qJ.l3 k 0 x18 x33 (x33.length : Int) 0)
def qJ.l2 : Nat → List Int → Int → Int → List Int → List (S31) → List Int → Int → Int → List Int → Option (List Int × Bool)
 | 0, _, _, _, _, _, _, _, _, _ => none
 | k + 1, x8, x9, x10, x18, x22, x33, x249000, x249001, x249002 => if x10 < 4 then (if 0 ≤ x9 then (if x9 < (x8.length : Int) then ((qVA.f x249000 x249001 x249002 (rd x8 x9) x10).bind fun t274 => (if t274 ≥ 0 then (if 0 ≤ t274 then (if t274 < (x18.length : Int) then (if (rd x18 t274) < 0 then (if 0 ≤ (rd x8 x9) then (if (rd x8 x9) < (x22.length : Int) then ((qAB.f ((qe x22 (rd x8 x9)).f0) ((qe x22 (rd x8 x9)).f1) ((qe x22 (rd x8 x9)).f2) ((qe x22 (rd x8 x9)).f3) ((qe x22 (rd x8 x9)).f4) ((qe x22 (rd x8 x9)).f5) x10).bind fun bt278 => (if t274 < (x22.length : Int) then ((some (x22.set (t274 : Int).toNat (⟨bt278.1, bt278.2.1, bt278.2.2.1, bt278.2.2.2.1, bt278.2.2.2.2.1, bt278.2.2.2.2.2⟩ : S31) : List (S31))).bind fun y284 => (if x8.length < 17592186044416 then (qJ.l2 k (x8 ++ [t274]) x9 (wrap64 (x10 + 1)) (x18.set (t274 : Int).toNat ((qe y284 t274).f5)) y284 x33 x249000 x249001 x249002) else (none))) else (none))) else (none)) else (none)) else (qJ.l2 k x8 x9 (wrap64 (x10 + 1)) x18 x22 x33 x249000 x249001 x249002)) else (none)) else (none)) else (qJ.l2 k x8 x9 (wrap64 (x10 + 1)) x18 x22 x33 x249000 x249001 x249002))) else (none)) else (none)) else (qJ.l1 k x8 (wrap64 (x9 + 1)) x18 x22 x33 x249000 x249001 x249002)
def qJ.l3 : Nat → Int → List Int → List Int → Int → Int → Option (List Int × Bool)
 | 0, _, _, _, _, _ => none
 | k + 1, x12, x18, x33, x100, x101 => if x101 < x100 then (if 0 ≤ x101 then (if x101 < (x33.length : Int) then (if 0 ≤ (rd x33 x101) then (if (rd x33 x101) < (x18.length : Int) then (if 0 ≤ (rd x18 (rd x33 x101)) then (if (Int.tmod (shr .i64 x12 (rd x18 (rd x33 x101))) 2) = 1 then (some (x18, false)) else (qJ.l3 k (Go.bits .or .i64 x12 (shl .i64 1 (rd x18 (rd x33 x101)))) x18 x33 x100 (wrap64 (x101 + 1)))) else (none)) else (none)) else (none)) else (none)) else (none)) else (some (x18, true))
end
def qJ.f (k : Nat) (a0_0 : Int) (a0_1 : Int) (l0_2 : List Int) : Option (List Int × Bool) := if 0 ≤ (l0_2.length : Int) then (if ((l0_2.length : Int) : Int).toNat ≤ 35184372088832 then ((some (List.replicate ((l0_2.length : Int) : Int).toNat 0 : List Int)).bind fun y249 => (if ((l0_2.length : Int) : Int).toNat ≤ 5864062014805 then (qJ.l0 k y249 (List.replicate ((l0_2.length : Int) : Int).toNat z31) (y249.length : Int) 0 a0_0 a0_1 l0_2) else (none))) else (none)) else (none)
def qJ.T18 : Bool × List (List Nat × List Nat) := (true, [([], []), ([], []), ([], []), ([1, 2], [1, 2]), ([3], [3]), ([], []), ([0, 4, 5], [0, 4, 5]), ([6, 6, 0, 1, 2, 3, 4, 5, 6], [6])])
def qJ.B18 : List Nat := [0, 0, 0, 6, 14, 0, 63, 127]
theorem qJ.tab18 : rtab .any (opsOf Tryd.f50 18) = qJ.T18 := by kernel_rfl
theorem qJ.bits18 : waitsOk qJ.T18.2 qJ.B18 = true := by kernel_rfl
set_option maxHeartbeats 8000000 in
set_option maxRecDepth 100000 in
theorem qJ.calls (k : Nat) (a0_0 : Int) (a0_1 : Int) (A0_2 : Option Addr) (c0_2 : Nat) (l0_2 : List Int) (r1 : List Int) (r2 : Bool) (w : World) (hr0_2 : Kd.C (Kd.int .u8) w A0_2 l0_2.length l0_2) (hc0_2 : l0_2.length ≤ c0_2) (h : qJ.f k a0_0 a0_1 l0_2 = some (r1, r2)) :
  Calls Tryd.prog 50 #[.agg #[.int .i64 a0_0, .int .i64 a0_1, .slice A0_2 l0_2.length c0_2]] w fun e w' => ∃ v0_ : Value, e = .returned (.tuple #[v0_, .bool r2]) ∧ Kd.R (Kd.int .i64) 3 w' w.heap.size (fun _ => True) v0_ r1 ∧ Below w.heap.size w w' := by
 have hu45 := Tryd.underlying45
 have hu31 := Tryd.underlying31
 have HR0_2 := Aside0.mk hr0_2
 have HC0_2 := Aside0.mk hc0_2
 clear hr0_2 hc0_2
 have HB := Aside0.mk (Below.refl w.heap.size w)
 have H : (if 0 ≤ (l0_2.length : Int) then (if ((l0_2.length : Int) : Int).toNat ≤ 35184372088832 then ((some (List.replicate ((l0_2.length : Int) : Int).toNat 0 : List Int)).bind fun y249 => (if ((l0_2.length : Int) : Int).toNat ≤ 5864062014805 then (qJ.l0 k y249 (List.replicate ((l0_2.length : Int) : Int).toNat z31) (y249.length : Int) 0 a0_0 a0_1 l0_2) else (none))) else (none)) else (none)) = some (r1, r2) := h
 clear h
 by_cases c2 : 0 ≤ (l0_2.length : Int)
 ·rw [if_pos c2] at H
  have c2b0 := eq_true c2
  have c2b1 : decide (0 ≤ (l0_2.length : Int)) = true := decide_eq_true c2
  clear c2
  by_cases c3 : ((l0_2.length : Int) : Int).toNat ≤ 35184372088832
  ·rw [if_pos c3] at H
   have c3b0 := eq_true c3
   have c3b1 : decide (((l0_2.length : Int) : Int).toNat ≤ 35184372088832) = true := decide_eq_true c3
   clear c3
   obtain ⟨y249, hy249⟩ : ∃ y_ : List Int, y_ = (List.replicate ((l0_2.length : Int) : Int).toNat 0) := ⟨_, rfl⟩
   replace H : (if ((l0_2.length : Int) : Int).toNat ≤ 5864062014805 then (qJ.l0 k y249 (List.replicate ((l0_2.length : Int) : Int).toNat z31) (y249.length : Int) 0 a0_0 a0_1 l0_2) else (none)) = some (r1, r2) := by first | (rw [hy249]; with_reducible exact H) | (have H2_ := (Option.bind_some _ _).symm.trans H; rw [hy249]; with_reducible exact H2_) | (have H2_ := (Option.bind_some _ _).symm.trans H; with_reducible exact H2_) | with_reducible exact H | (rw [hy249]; exact H) | exact H
   have Ny249 := Aside0.mk hy249
   clear hy249
   by_cases c4 : ((l0_2.length : Int) : Int).toNat ≤ 5864062014805
   ·rw [if_pos c4] at H
    have c4b0 := eq_true c4
    have c4b1 : decide (((l0_2.length : Int) : Int).toNat ≤ 5864062014805) = true := decide_eq_true c4
    clear c4
    obtain ⟨y252, hy252⟩ : ∃ y_ : List (S31), y_ = (List.replicate ((l0_2.length : Int) : Int).toNat z31) := ⟨_, rfl⟩
    replace H : (qJ.l0 k y249 y252 (y249.length : Int) 0 a0_0 a0_1 l0_2) = some (r1, r2) := by first | (rw [hy252]; with_reducible exact H) | (have H2_ := (Option.bind_some _ _).symm.trans H; rw [hy252]; with_reducible exact H2_) | (have H2_ := (Option.bind_some _ _).symm.trans H; with_reducible exact H2_) | with_reducible exact H | (rw [hy252]; exact H) | exact H
    have Ny252 := Aside0.mk hy252
    clear hy252
    have H' := Aside0.mk H
    clear H
    go_enter Tryd.func50, Tryd.ntmps50
    go_wp2_with (first | ((with_reducible refine qa (N := 1) rfl ?_); refine qb ?hg (N := 1) ?hd (cs := #[.int .i64 a0_0, .int .i64 a0_1, .slice A0_2 l0_2.length c0_2]) (t := 45) ?hr ?_; (case hd => rfl); (case hg => rfl); (case hr => first | (go_simp; done) | (go_simp; rfl)); intro gb248 hg w5 hbox hb; have n0_ := Aside0.mk (qK bl hb); have n1_ := Aside0.mk (hbox); have n2_ := Aside0.mk ((gg hg)); have n3_ := Aside0.mk ((gg hg)); clear HB; have HB := n0_; have BK248 := n1_; have GW248 := n2_; have GE248 := n3_; clear n0_ n1_ n2_ n3_; clear hb hbox hg; have hcz6_0 := bc BK248 0; have hcz6_1 := bc BK248 1; have hcz6_2 := bc BK248 2; have hfz6_0 := qA BK248.out 0; have hfz6_1 := qA BK248.out 1; have hfz6_2 := qA BK248.out 2) | ((with_reducible refine qa (N := 18) rfl ?_); refine Kd.qwC (Kd.int .i64) _ 3 rfl (N := 18) rfl 25 _ _ rfl (l0_2.length : Int) rfl rfl Tryd.underlying25 (.int .i64 0) 8 info3 rfl (by decide) (by omega) 0 (ok := fun _ => True) (okp := fun _ => True) rfl (fun _ hk => hk) trivial (of_decide_eq_true (by first | (with_reducible assumption) | assumption)) (Nat.le_trans (Nat.mul_le_mul_right _ (of_decide_eq_true (by first | (with_reducible assumption) | assumption) : (l0_2.length : Int).toNat ≤ 35184372088832)) (by omega)) (Below.refl _ _) (Nat.le_refl _) ?_; intro v250 w7 ho8 hb hg_ hnew_; clear hg_ hnew_; (first | rw [← Ny249.out] at ho8 | (simp only [Int.reduceToNat] at ho8; rw [← Ny249.out] at ho8)); have n0_ := Aside0.mk (Kd.qu ho8 (qY bl)); have n1_ := Aside0.mk (bb BK248 hb); have n2_ := Aside0.mk (qK bl hb); clear BK248; clear HB; have HO251 := n0_; have BK248 := n1_; have HB := n2_; clear n0_ n1_ n2_; clear hb ho8; have hcz9_0 := bc BK248 0; have hcz9_1 := bc BK248 1; have hcz9_2 := bc BK248 2; have hfz9_0 := qA BK248.out 0; have hfz9_1 := qA BK248.out 1; have hfz9_2 := qA BK248.out 2) | ((with_reducible refine qa (N := 22) rfl ?_); refine Kd.qwC k31 _ 31 rfl (N := 22) rfl 69 _ _ rfl (l0_2.length : Int) rfl rfl Tryd.underlying69 (.agg #[(.int .i64 0), (.int .i64 0), (.int .i64 0), (.int .i64 0), (.int .i64 0), (.int .i64 0)]) 48 info31 rfl (by decide) (by omega) z31 (ok := fun _ => True) (okp := fun _ => True) (qRC _ _ _ z31 ) (fun _ hk => hk) trivial (of_decide_eq_true (by first | (with_reducible assumption) | assumption)) (Nat.le_trans (Nat.mul_le_mul_right _ (of_decide_eq_true (by first | (with_reducible assumption) | assumption) : (l0_2.length : Int).toNat ≤ 5864062014805)) (by omega)) (Below.refl _ _) (Nat.le_refl _) ?_; intro v253 w10 ho11 hb hg_ hnew_; clear hg_ hnew_; (first | rw [← Ny252.out] at ho11 | (simp only [Int.reduceToNat] at ho11; rw [← Ny252.out] at ho11)); have n0_ := Aside0.mk (Kd.qS (by (with_reducible repeat (first | apply Kd.qB | apply Kd.qC | apply Kd.qF)); exact HO251.out) hb); have n1_ := Aside0.mk (Kd.qu ho11 (qY bl)); have n2_ := Aside0.mk (bb BK248 hb); have n3_ := Aside0.mk (qK bl hb); clear HO251; clear BK248; clear HB; have HO251 := n0_; have HO254 := n1_; have BK248 := n2_; have HB := n3_; clear n0_ n1_ n2_ n3_; clear hb ho11; obtain ⟨Ao12, co12, eo12⟩ := Kd.qn HO251.out; subst eo12))
    go_loopg [25] k (fun kq v25 w' => ∃ (x18_1 : List Int) (x25_1 : Int), v25 = .int .i64 x25_1 ∧ Aside0 (qJ.l0 kq x18_1 y252 (y249.length : Int) x25_1 a0_0 a0_1 l0_2 = some (r1, r2)) ∧ Aside0 (kq ≤ k) ∧ Aside0 (Kd.R (Kd.int .i64) 3 w' w.heap.size (fun _ => True) (.slice Ao12 y249.length co12) x18_1) ∧ Aside0 (Kd.R k31 31 w' w.heap.size (fun _ => True) v253 y252) ∧ Aside0 (w'.heap[gb248]? = some (.cells #[.int .i64 a0_0, .int .i64 a0_1, (.slice A0_2 l0_2.length c0_2)] 45 (0, 0))) ∧ Aside0 (Below w.heap.size w w'))
    case atStart => exact ⟨(y249), (0), (by first | rfl | (simp; done) | (simp [*]; done)), H', ⟨Nat.le_refl _⟩, ⟨by (with_reducible repeat (first | apply Kd.qB | apply Kd.qC | apply Kd.qF)); exact HO251.out⟩, ⟨by (with_reducible repeat (first | apply Kd.qB | apply Kd.qC | apply Kd.qF)); exact HO254.out⟩, ⟨by (with_reducible repeat (first | refine qE ?_ _ | refine qG ?_ | refine qD ?_ _)); exact BK248.out⟩, ⟨bl⟩⟩
    case round =>
     clear H'
     try clear c2
     try clear c2b0
     try clear c2b1
     try clear p2
     try clear c3
     try clear c3b0
     try clear c3b1
     try clear c4
     try clear c4b0
     try clear c4b1
     try clear c5
     try clear hcz6_0
     try clear hcz6_1
     try clear hcz6_2
     try clear hcz9_0
     try clear hcz9_1
     try clear hcz9_2
     try clear hfz6_0
     try clear hfz6_1
     try clear hfz6_2
     try clear hfz9_0
     try clear hfz9_1
     try clear hfz9_2
     obtain ⟨x18_1, x25_1, rfl, HA, HK1, HO_18, HO_22, BK248, HB⟩ := hrel
     have hl18_1 := (Kd.qO HO_18.out).1
     rw [hl18_1] at HO_18
     (try simp only [hl18_1])
     (try simp only [hl18_1] at BK248)
     (try simp only [hl18_1] at HO_22)
     cases gk with
     | zero => exact absurd HA.out (by simp [qJ.l0])
     | succ k1 =>
      have H := HA.out
      clear HA
      simp only [qJ.l0] at H
      by_cases c13 : x25_1 < (y249.length : Int)
      ·rw [if_pos c13] at H
       have c13b0 : decide (x25_1 < (y249.length : Int)) = true := decide_eq_true c13
       (try (have c13b0_hl18_1 := c13b0; simp only [hl18_1] at c13b0_hl18_1))
       clear c13
       by_cases c14 : 0 ≤ x25_1
       ·rw [if_pos c14] at H
        have c14b0 : decide (0 ≤ x25_1) = true := decide_eq_true c14
        clear c14
        by_cases c15 : x25_1 < (x18_1.length : Int)
        ·rw [if_pos c15] at H
         have c15b0 : decide (x25_1 < (x18_1.length : Int)) = true := decide_eq_true c15
         (try (have c15b0_hl18_1 := c15b0; simp only [hl18_1] at c15b0_hl18_1))
         clear c15
         obtain ⟨y255, hy255⟩ : ∃ y_ : List Int, y_ = (x18_1.set (x25_1 : Int).toNat (-1)) := ⟨_, rfl⟩
         replace H : (qJ.l0 k1 y255 y252 (y249.length : Int) (wrap64 (x25_1 + 1)) a0_0 a0_1 l0_2) = some (r1, r2) := by first | (rw [hy255]; with_reducible exact H) | (have H2_ := (Option.bind_some _ _).symm.trans H; rw [hy255]; with_reducible exact H2_) | (have H2_ := (Option.bind_some _ _).symm.trans H; with_reducible exact H2_) | with_reducible exact H | (rw [hy255]; exact H) | exact H
         have Ny255 := Aside0.mk hy255
         clear hy255
         have H' := Aside0.mk H
         clear H
         have p16 : 0 ≤ (x25_1 : Int) := of_decide_eq_true (by first | (with_reducible assumption) | assumption)
         have q16 : (x25_1 : Int) < ((x18_1.length : Int) : Int) := of_decide_eq_true (by first | (with_reducible assumption) | assumption)
         obtain ⟨go16, co16, eo16, gb16, gl16, cl16, HG16⟩ := Kd.qvB HO_18.out (by omega)
         (first | cases eo16 | (injection eo16 with ea_ en_ ec_; (first | subst ea_ | (injection ea_ with ea_; subst ea_)); subst ec_; clear en_))
         have GB16 := Aside0.mk gb16
         have GG16 := Aside0.mk HG16
         clear gb16 gl16 HG16
         obtain ⟨hx16_0, hf16_0⟩ := Kd.qnA 0 HO_18.out (x25_1 : Int) p16 q16
         replace p16 := eq_true p16
         replace q16 := eq_true q16
         have HP17 := Kd.qoB HO_18.out (x25_1 : Int) (-1)
         go_wp2_with (first | ((with_reducible refine qeA (t := 3) (p := 30) rfl ?_); refine qXA (t := 3) (p := 30) (v := ?vo_w18) (w1 := (wr.setCell ⟨go16, (x25_1 : Int).toNat, none⟩ (.int .i64 (-1)))) ?hg ?ho ?hn ?hr ?_; (case ho => rfl); (case hg => rfl); (case hn => rfl); (case hr => first | (go_simp; done) | (go_simp; rfl)); intro w18 hw; have hg : wr.grownBy w18 (some go16) := (by rw [hw]; exact HP17.2); have hp_ : Kd.R (Kd.int .i64) 3 w18 w.heap.size (fun _ => True) (.slice (some ⟨go16, 0, none⟩) x18_1.length co12) y255 := (by rw [hw, Ny255.out]; exact HP17.1); clear HP17; have n0_ := Aside0.mk (hp_); have n1_ := Aside0.mk (Kd.qTA (v := (.slice (some ⟨go16, 0, none⟩) x18_1.length co12)) (by (with_reducible repeat (first | apply Kd.qB | apply Kd.qC | apply Kd.qF)); exact HO_22.out) (Kd.qw HO_18.out) (by decide) hg); have n2_ := Aside0.mk (qaA (g := gb248) (o := .cells #[.int .i64 a0_0, .int .i64 a0_1, .slice A0_2 l0_2.length c0_2] 45 (0, 0)) (by (with_reducible repeat (first | refine qE ?_ _ | refine qG ?_ | refine qD ?_ _)); exact BK248.out) hg (Kd.R_ne HO_18.out BK248.out (by decide))); have n3_ := Aside0.mk ((by rw [hw]; exact qk (HB.out) GB16.out : Below w.heap.size w w18)); clear HO_18; clear HO_22; clear BK248; clear HB; have HO_18 := n0_; have HO_22 := n1_; have BK248 := n2_; have HB := n3_; clear n0_ n1_ n2_ n3_; clear hg hw hp_))
         (try simp only [← hl18_1])
         go_roundg k1
         case measure => have := HK1.out; omega
         case rel => exact ⟨(y255), (wrap64 (x25_1 + 1)), (by first | rfl | (simp; done) | (simp [*]; done)), H', ⟨by have := HK1.out; omega⟩, ⟨by (try simp only [hl18_1]); (with_reducible repeat (first | apply Kd.qB | apply Kd.qC | apply Kd.qF)); exact HO_18.out⟩, ⟨by (try simp only [hl18_1]); (with_reducible repeat (first | apply Kd.qB | apply Kd.qC | apply Kd.qF)); exact HO_22.out⟩, ⟨by (try simp only [hl18_1]); (with_reducible repeat (first | refine qE ?_ _ | refine qG ?_ | refine qD ?_ _)); exact BK248.out⟩, ⟨bl⟩⟩
        ·rw [if_neg c15] at H
         exact absurd H (by simp)
       ·rw [if_neg c14] at H
        exact absurd H (by simp)
      ·rw [if_neg c13] at H
       have c13b0 : decide (x25_1 < (y249.length : Int)) = false := decide_eq_false c13
       (try (have c13b0_hl18_1 := c13b0; simp only [hl18_1] at c13b0_hl18_1))
       clear c13
       replace H := Option.bind_eq_some_iff.mp H
       obtain ⟨t256, A190, H⟩ := H
       replace H : (if 0 < (t256.length : Int) then ((qKB.f).bind fun bt260 => (if 0 ≤ (rd t256 0) then (if (rd t256 0) < (y252.length : Int) then (if (rd t256 0) < (x18_1.length : Int) then (qJ.l1 k1 (([rd t256 0] : List Int)) 0 (x18_1.set ((rd t256 0) : Int).toNat 5) (y252.set ((rd t256 0) : Int).toNat (⟨bt260.1, bt260.2.1, bt260.2.2.1, bt260.2.2.2.1, bt260.2.2.2.2.1, bt260.2.2.2.2.2⟩ : S31)) t256 a0_0 a0_1 l0_2) else (none)) else (none)) else (none))) else (none)) = some (r1, r2) := H
       have A19 := Aside0.mk A190
       clear A190
       by_cases c20 : 0 < (t256.length : Int)
       ·rw [if_pos c20] at H
        have c20b0 : decide (0 < (t256.length : Int)) = true := decide_eq_true c20
        (try (have c20b0_hl18_1 := c20b0; simp only [hl18_1] at c20b0_hl18_1))
        have c20b1 : decide (0 < t256.length) = true := decide_eq_true (by omega)
        clear c20
        replace H := Option.bind_eq_some_iff.mp H
        obtain ⟨⟨t260, t261, t262, t263, t264, t265⟩, A210, H⟩ := H
        replace H : (if 0 ≤ (rd t256 0) then (if (rd t256 0) < (y252.length : Int) then (if (rd t256 0) < (x18_1.length : Int) then (qJ.l1 k1 (([rd t256 0] : List Int)) 0 (x18_1.set ((rd t256 0) : Int).toNat 5) (y252.set ((rd t256 0) : Int).toNat (⟨t260, t261, t262, t263, t264, t265⟩ : S31)) t256 a0_0 a0_1 l0_2) else (none)) else (none)) else (none)) = some (r1, r2) := H
        have A21 := Aside0.mk A210
        clear A210
        by_cases c22 : 0 ≤ (rd t256 0)
        ·rw [if_pos c22] at H
         have c22b0 : decide (0 ≤ (rd t256 0)) = true := decide_eq_true c22
         clear c22
         by_cases c23 : (rd t256 0) < (y252.length : Int)
         ·rw [if_pos c23] at H
          have c23b0 : decide ((rd t256 0) < (y252.length : Int)) = true := decide_eq_true c23
          (try (have c23b0_hl18_1 := c23b0; simp only [hl18_1] at c23b0_hl18_1))
          clear c23
          obtain ⟨y266, hy266⟩ : ∃ y_ : List (S31), y_ = (y252.set ((rd t256 0) : Int).toNat (⟨t260, t261, t262, t263, t264, t265⟩ : S31)) := ⟨_, rfl⟩
          replace H : (if (rd t256 0) < (x18_1.length : Int) then (qJ.l1 k1 (([rd t256 0] : List Int)) 0 (x18_1.set ((rd t256 0) : Int).toNat 5) y266 t256 a0_0 a0_1 l0_2) else (none)) = some (r1, r2) := by first | (rw [hy266]; with_reducible exact H) | (have H2_ := (Option.bind_some _ _).symm.trans H; rw [hy266]; with_reducible exact H2_) | (have H2_ := (Option.bind_some _ _).symm.trans H; with_reducible exact H2_) | with_reducible exact H | (rw [hy266]; exact H) | exact H
          have Ny266 := Aside0.mk hy266
          clear hy266
          by_cases c25 : (rd t256 0) < (x18_1.length : Int)
          ·rw [if_pos c25] at H
           have c25b0 : decide ((rd t256 0) < (x18_1.length : Int)) = true := decide_eq_true c25
           (try (have c25b0_hl18_1 := c25b0; simp only [hl18_1] at c25b0_hl18_1))
           clear c25
           obtain ⟨y268, hy268⟩ : ∃ y_ : List Int, y_ = (x18_1.set ((rd t256 0) : Int).toNat 5) := ⟨_, rfl⟩
           replace H : (qJ.l1 k1 (([rd t256 0] : List Int)) 0 y268 y266 t256 a0_0 a0_1 l0_2) = some (r1, r2) := by first | (rw [hy268]; with_reducible exact H) | (have H2_ := (Option.bind_some _ _).symm.trans H; rw [hy268]; with_reducible exact H2_) | (have H2_ := (Option.bind_some _ _).symm.trans H; with_reducible exact H2_) | with_reducible exact H | (rw [hy268]; exact H) | exact H
           have Ny268 := Aside0.mk hy268
           clear hy268
           obtain ⟨y270, hy270⟩ : ∃ y_ : List Int, y_ = (([rd t256 0] : List Int)) := ⟨_, rfl⟩
           replace H : (qJ.l1 k1 y270 0 y268 y266 t256 a0_0 a0_1 l0_2) = some (r1, r2) := by first | (rw [hy270]; with_reducible exact H) | (have H2_ := (Option.bind_some _ _).symm.trans H; rw [hy270]; with_reducible exact H2_) | (have H2_ := (Option.bind_some _ _).symm.trans H; with_reducible exact H2_) | with_reducible exact H | (rw [hy270]; exact H) | exact H
           have Ny270 := Aside0.mk hy270
           clear hy270
           have H' := Aside0.mk H
           clear H
           have hcz27_0 := bc BK248 0
           have hcz27_1 := bc BK248 1
           have hcz27_2 := bc BK248 2
           have hfz27_0 := qA BK248.out 0
           have hfz27_1 := qA BK248.out 1
           have hfz27_2 := qA BK248.out 2
           try go_wp2_with (first | ((with_reducible refine qZ (f := 36) rfl ?_); refine qPA (some 33) rfl rfl Tryd.func36 (by kernel_rfl) rfl #[.agg #[.int .i64 a0_0, .int .i64 a0_1, .slice A0_2 l0_2.length c0_2]] rfl (by (try simp only [List.map_toArray, List.map_cons, List.map_nil]); first | done | rfl | (simp only [List.length_drop, List.length_take]; rfl)) ?_; (with_reducible refine (qi.calls k1 a0_0 a0_1 _ _ l0_2 t256 _ ?side1 ?side2 A19.out).mono ?_); (case side1 => repeat (first | exact (Kd.qrA HR0_2.out HB.out) | (with_reducible refine Kd.qMA ?_ _) | (with_reducible refine Kd.qLA ?_ _) | (with_reducible refine Kd.qcA ?_))); (case side2 => exact HC0_2.out); rintro e w28 ⟨v257, rfl, ho0, hb⟩; refine ⟨_, rfl, ?_⟩; have n0_ := Aside0.mk (Kd.qkA (by (with_reducible repeat (first | apply Kd.qB | apply Kd.qC | apply Kd.qF)); exact HO_18.out) (Kd.qDB ho0) hb); have n1_ := Aside0.mk (Kd.qS (by (with_reducible repeat (first | apply Kd.qB | apply Kd.qC | apply Kd.qF)); exact HO_22.out) hb); have n2_ := Aside0.mk (Kd.qu (Kd.qCB ho0 (Kd.R_lt (by (with_reducible repeat (first | apply Kd.qB | apply Kd.qC | apply Kd.qF)); exact HO_18.out))) (qY bl)); have n3_ := Aside0.mk (bb BK248 hb); have n4_ := Aside0.mk (qK bl hb); clear HO_18; clear HO_22; clear BK248; clear HB; have HO_18 := n0_; have HO_22 := n1_; have HO258 := n2_; have BK248 := n3_; have HB := n4_; clear n0_ n1_ n2_ n3_ n4_; (try clear hb); (try clear hb2); (try clear hk); (try clear hi); (try clear ho0)))
           have n0_ := Aside0.mk (Kd.qF HO_18.out)
           have n1_ := Aside0.mk (Kd.qF HO_22.out)
           have n2_ := Aside0.mk (Kd.qF HO258.out)
           have n3_ := Aside0.mk (qG BK248.out)
           have n4_ := Aside0.mk (qg HB.out)
           clear HO_18
           clear HO_22
           clear HO258
           clear BK248
           clear HB
           have HO_18 := n0_
           have HO_22 := n1_
           have HO258 := n2_
           have BK248 := n3_
           have HB := n4_
           clear n0_ n1_ n2_ n3_ n4_
           obtain ⟨Ao30, co30, eo30⟩ := Kd.qn HO258.out
           (first | subst eo30 | (injection eo30 with f1_ f2_ f3_; have f4_ := f1_.symm; have f5_ := f3_.symm; clear f1_ f2_ f3_; subst f4_; subst f5_))
           have p259 : 0 ≤ (0 : Int) := (by omega)
           have q259 : 0 < (t256.length : Int) := of_decide_eq_true (by first | (with_reducible assumption) | assumption)
           obtain ⟨ad259, e259, hx259_0⟩ := Kd.qFA (Kd.qO HO258.out).2.2 0 p259 q259
           cases e259
           have qi259 : (0 < t256.length) = True := eq_true (by omega)
           (try rw [show ((0 : Int)).toNat = 0 from rfl] at hx259_0)
           (try rw [Addr.add_zero'] at hx259_0)
           replace p259 := eq_true p259
           replace q259 := eq_true q259
           refine qsA (n := 7) (S := fun w' => w'.cell? ad259 = some (.int .i64 (rd t256 0))) (ds := [6]) #[false, false, false, false, false, false, false] (by kernel_rfl) rfl rfl (hx259_0) (fun hHeld => ?_)
           generalize w28.drew = w29 at HO_18 HO_22 HO258 BK248 HB hx259_0 hHeld ⊢
           refine pure_ (i := 0) (N := some 34) (v := ?_) (a' := ?_) #[true, false, false, false, false, false, false] rfl rfl (by kernel_rfl) (fun _ _ _ h => h) (Or.inl ⟨by rfl, ?_⟩) ?_ ?_
           rotate_left
           ·intro w'
            go_simp
            first | (with_reducible rfl) | (rw [if_neg (by simp only [ByteArray.size_extract, ByteArray.size_append] at * <;> omega)]; try with_reducible rfl)
           rotate_left
           ·simp only [Act.put, List.setIfInBounds_toArray, List.set_cons_zero, List.set_cons_succ, i64_w, i32_w]
            rfl
           refine pure_ (i := 1) (N := some 35) (v := ?_) (a' := ?_) #[true, true, false, false, false, false, false] rfl rfl (by kernel_rfl) (fun _ _ _ h => h) (Or.inl ⟨by rfl, ?_⟩) ?_ ?_
           rotate_left
           ·intro w'
            go_simp
            first | (with_reducible rfl) | (rw [if_neg (by simp only [ByteArray.size_extract, ByteArray.size_append] at * <;> omega)]; try with_reducible rfl)
           rotate_left
           ·simp only [Act.put, List.setIfInBounds_toArray, List.set_cons_zero, List.set_cons_succ, i64_w, i32_w]
            rfl
           refine pure_ (i := 2) (N := some 36) (v := ?_) (a' := ?_) #[true, true, true, false, false, false, false] rfl rfl (by kernel_rfl) (fun _ _ _ h => h) (Or.inl ⟨by rfl, ?_⟩) ?_ ?_
           rotate_left
           ·intro w'
            go_simp
            first | (with_reducible rfl) | (rw [if_neg (by simp only [ByteArray.size_extract, ByteArray.size_append] at * <;> omega)]; try with_reducible rfl)
           rotate_left
           ·simp only [Act.put, List.setIfInBounds_toArray, List.set_cons_zero, List.set_cons_succ, i64_w, i32_w]
            rfl
           refine take_ (i := 3) (N := some 37) (v := ?_) (a' := ?_) #[true, true, true, true, false, false, false] rfl rfl (by kernel_rfl) (fun _ _ _ h => h) (Or.inl ⟨by rfl, ?_⟩) hHeld ?_ ?_
           rotate_left
           ·intro w' s0
            go_simp
            first | (with_reducible rfl) | (rw [if_neg (by simp only [ByteArray.size_extract, ByteArray.size_append] at * <;> omega)]; try with_reducible rfl)
           rotate_left
           ·simp only [Act.put, List.setIfInBounds_toArray, List.set_cons_zero, List.set_cons_succ, i64_w, i32_w]
            rfl
           refine one_ (i := 4) (N := some 38) #[true, true, true, true, true, false, false] rfl rfl (by kernel_rfl) (by decide) (fun K hK => ?_)
           refine goes_ Tryd.func72 (by kernel_rfl) rfl #[] (by rfl) rfl rfl (by (try simp only [List.map_toArray, List.map_cons, List.map_nil]); first | done | rfl | (simp only [List.length_drop, List.length_take]; rfl)) ?_
           with_reducible refine (qKB.calls  t260 t261 t262 t263 t264 t265 _ A21.out).mono ?_
           rintro e w31 ⟨rfl, hb⟩
           have HS0_ := (hb.cell (World.block_lt_of_cell? _ _ (hHeld))).trans (hHeld)
           refine ⟨_, rfl, ?_⟩
           have n0_ := Aside0.mk (Kd.qS (by (with_reducible repeat (first | apply Kd.qB | apply Kd.qC | apply Kd.qF)); exact HO_18.out) hb)
           have n1_ := Aside0.mk (Kd.qS (by (with_reducible repeat (first | apply Kd.qB | apply Kd.qC | apply Kd.qF)); exact HO_22.out) hb)
           have n2_ := Aside0.mk (Kd.qS (by (with_reducible repeat (first | apply Kd.qB | apply Kd.qC | apply Kd.qF)); exact HO258.out) hb)
           have n3_ := Aside0.mk (bb BK248 hb)
           have n4_ := Aside0.mk (qK bl hb)
           clear HO_18
           clear HO_22
           clear HO258
           clear BK248
           clear HB
           have HO_18 := n0_
           have HO_22 := n1_
           have HO258 := n2_
           have BK248 := n3_
           have HB := n4_
           clear n0_ n1_ n2_ n3_ n4_
           (try clear hb)
           (try clear hb2)
           (try clear hk)
           (try clear hi)
           have p24 : 0 ≤ ((rd t256 0) : Int) := of_decide_eq_true (by first | (with_reducible assumption) | assumption)
           have q24 : ((rd t256 0) : Int) < ((y252.length : Int) : Int) := of_decide_eq_true (by first | (with_reducible assumption) | assumption)
           obtain ⟨go24, co24, eo24, gb24, gl24, cl24, HG24⟩ := Kd.qvB HO_22.out (by omega)
           (first | cases eo24 | (injection eo24 with ea_ en_ ec_; (first | subst ea_ | (injection ea_ with ea_; subst ea_)); subst ec_; clear en_))
           have GB24 := Aside0.mk gb24
           have GG24 := Aside0.mk HG24
           clear gb24 gl24 HG24
           obtain ⟨ce24, hcl24, hM24, hcc24, hfr24⟩ := Kd.qKC HO_22.out z31 ((rd t256 0) : Int) p24 q24
           obtain rfl := qEB hM24
           have hx24_0 : World.cell? _ ⟨go24, ((rd t256 0) : Int).toNat * 6, none⟩ = some (.int .i64 ((qe y252 (rd t256 0)).f0)) := hcc24 0 _ rfl
           have hx24_1 : World.cell? _ ⟨go24, ((rd t256 0) : Int).toNat * 6 + 1, none⟩ = some (.int .i64 ((qe y252 (rd t256 0)).f1)) := hcc24 1 _ rfl
           have hx24_2 : World.cell? _ ⟨go24, ((rd t256 0) : Int).toNat * 6 + 2, none⟩ = some (.int .i64 ((qe y252 (rd t256 0)).f2)) := hcc24 2 _ rfl
           have hx24_3 : World.cell? _ ⟨go24, ((rd t256 0) : Int).toNat * 6 + 3, none⟩ = some (.int .i64 ((qe y252 (rd t256 0)).f3)) := hcc24 3 _ rfl
           have hx24_4 : World.cell? _ ⟨go24, ((rd t256 0) : Int).toNat * 6 + 4, none⟩ = some (.int .i64 ((qe y252 (rd t256 0)).f4)) := hcc24 4 _ rfl
           have hx24_5 : World.cell? _ ⟨go24, ((rd t256 0) : Int).toNat * 6 + 5, none⟩ = some (.int .i64 ((qe y252 (rd t256 0)).f5)) := hcc24 5 _ rfl
           have hf24_0 : World.frozen? _ ⟨go24, ((rd t256 0) : Int).toNat * 6, none⟩ = false := hfr24 0
           have hf24_1 : World.frozen? _ ⟨go24, ((rd t256 0) : Int).toNat * 6 + 1, none⟩ = false := hfr24 1
           have hf24_2 : World.frozen? _ ⟨go24, ((rd t256 0) : Int).toNat * 6 + 2, none⟩ = false := hfr24 2
           have hf24_3 : World.frozen? _ ⟨go24, ((rd t256 0) : Int).toNat * 6 + 3, none⟩ = false := hfr24 3
           have hf24_4 : World.frozen? _ ⟨go24, ((rd t256 0) : Int).toNat * 6 + 4, none⟩ = false := hfr24 4
           have hf24_5 : World.frozen? _ ⟨go24, ((rd t256 0) : Int).toNat * 6 + 5, none⟩ = false := hfr24 5
           clear hcl24 hcc24 hfr24 hM24
           replace p24 := eq_true p24
           replace q24 := eq_true q24
           obtain ⟨ce32, hcl32, hM32, hcc32, hfr32⟩ := Kd.qKC (Kd.qOB (Kd.qOB HO_22.out (Kd.qw HO_18.out) (by decide)) (Kd.qw HO258.out) (by decide)) z31 ((rd t256 0) : Int) (of_decide_eq_true (by first | (with_reducible assumption) | assumption)) (by have h_ : ((rd t256 0) : Int) < ((y252.length : Int) : Int) := of_decide_eq_true (by first | (with_reducible assumption) | assumption); first | exact h_ | (have e_ := (Kd.qO HO_22.out).1; omega) | simpa using h_)
           obtain rfl := qEB hM32
           have HP32 := (Kd.R_seg (Kd.qOB (Kd.qOB HO_22.out (Kd.qw HO_18.out) (by decide)) (Kd.qw HO258.out) (by decide)) ((rd t256 0) : Int) (of_decide_eq_true (by first | (with_reducible assumption) | assumption)) (by have h_ : ((rd t256 0) : Int) < ((y252.length : Int) : Int) := of_decide_eq_true (by first | (with_reducible assumption) | assumption); first | exact h_ | (have e_ := (Kd.qO HO_22.out).1; omega) | simpa using h_) (seg := [.int .i64 t260, .int .i64 t261, .int .i64 t262, .int .i64 t263, .int .i64 t264, .int .i64 t265]) (j := 0) hcl32 hcc32 (show 6 ≤ 6 from by decide) (x' := (⟨t260, t261, t262, t263, t264, t265⟩ : S31)) (qRC _ _ _ (⟨t260, t261, t262, t263, t264, t265⟩ : S31) ) (fun _ hk => hk)).1
           rw [← Ny266.out] at HP32
           have HQ32 := Aside0.mk HP32
           clear hcl32 hcc32 hfr32 hM32 HP32
           refine hK.out _ _ (HS0_) (fun hHeld => ?_)
           clear hK K
           refine norm_ (a' := ?_) ?_ ?_
           rotate_left
           ·show Act.put _ (some 38) _ = _
            simp only [Act.put, List.setIfInBounds_toArray, List.set_cons_zero, List.set_cons_succ, i64_w, i32_w]
            rfl
           refine pure_ (i := 5) (N := some 39) (v := ?_) (a' := ?_) #[true, true, true, true, true, true, false] rfl rfl (by kernel_rfl) (fun _ _ _ h => h) (Or.inl ⟨by rfl, ?_⟩) ?_ ?_
           rotate_left
           ·intro w'
            go_simp
            first | (with_reducible rfl) | (rw [if_neg (by simp only [ByteArray.size_extract, ByteArray.size_append] at * <;> omega)]; try with_reducible rfl)
           rotate_left
           ·simp only [Act.put, List.setIfInBounds_toArray, List.set_cons_zero, List.set_cons_succ, i64_w, i32_w]
            rfl
           refine last_ (i := 6) (N := none) #[true, true, true, true, true, true, true] rfl rfl (by kernel_rfl) (by decide) (fun K hK => ?_)
           refine skip_ (w1 := ?_) (by rfl) rfl ?_ ?_
           rotate_left
           ·go_simp
            rfl
           refine hK.out _ _ ?_
           clear hK K
           refine done_ (by kernel_rfl) ?_
           have n0_ : Aside0 (Kd.R (Kd.int .i64) 3 ((((((w31.setCell ⟨go24, ((rd t256 0) : Int).toNat * 6, none⟩ (.int .i64 t260)).setCell ⟨go24, ((rd t256 0) : Int).toNat * 6 + 1, none⟩ (.int .i64 t261)).setCell ⟨go24, ((rd t256 0) : Int).toNat * 6 + 2, none⟩ (.int .i64 t262)).setCell ⟨go24, ((rd t256 0) : Int).toNat * 6 + 3, none⟩ (.int .i64 t263)).setCell ⟨go24, ((rd t256 0) : Int).toNat * 6 + 4, none⟩ (.int .i64 t264)).setCell ⟨go24, ((rd t256 0) : Int).toNat * 6 + 5, none⟩ (.int .i64 t265)) w.heap.size (fun k_ => some k_ ≠ (.slice (some ad259) t256.length co30 : Value).ownBlock) (.slice Ao12 x18_1.length co12) x18_1) := ⟨by (with_reducible repeat (first | apply Kd.qB | apply Kd.qC | apply Kd.qF)); exact Kd.qX (Kd.R_far (p := ⟨go24, ((rd t256 0) : Int).toNat * 6 + 5, none⟩) (Kd.R_far (p := ⟨go24, ((rd t256 0) : Int).toNat * 6 + 4, none⟩) (Kd.R_far (p := ⟨go24, ((rd t256 0) : Int).toNat * 6 + 3, none⟩) (Kd.R_far (p := ⟨go24, ((rd t256 0) : Int).toNat * 6 + 2, none⟩) (Kd.R_far (p := ⟨go24, ((rd t256 0) : Int).toNat * 6 + 1, none⟩) (Kd.R_far (p := ⟨go24, ((rd t256 0) : Int).toNat * 6, none⟩) (Kd.qKA HO_18.out (by first | exact GG24.out | exact (Kd.qw HO_22.out go24 rfl).choose_spec) (by decide)) (fun _ hk => hk.2) (.int .i64 t260)) (fun _ hk => hk.2) (.int .i64 t261)) (fun _ hk => hk.2) (.int .i64 t262)) (fun _ hk => hk.2) (.int .i64 t263)) (fun _ hk => hk.2) (.int .i64 t264)) (fun _ hk => hk.2) (.int .i64 t265)) (fun _ hk => hk.1.2)⟩
           have n1_ : Aside0 (Kd.R k31 31 ((((((w31.setCell ⟨go24, ((rd t256 0) : Int).toNat * 6, none⟩ (.int .i64 t260)).setCell ⟨go24, ((rd t256 0) : Int).toNat * 6 + 1, none⟩ (.int .i64 t261)).setCell ⟨go24, ((rd t256 0) : Int).toNat * 6 + 2, none⟩ (.int .i64 t262)).setCell ⟨go24, ((rd t256 0) : Int).toNat * 6 + 3, none⟩ (.int .i64 t263)).setCell ⟨go24, ((rd t256 0) : Int).toNat * 6 + 4, none⟩ (.int .i64 t264)).setCell ⟨go24, ((rd t256 0) : Int).toNat * 6 + 5, none⟩ (.int .i64 t265)) w.heap.size (fun _ => True) (.slice (some ⟨go24, 0, none⟩) y252.length co24) y266) := ⟨by (with_reducible repeat (first | apply Kd.qB | apply Kd.qC | apply Kd.qF)); exact Kd.qX HQ32.out (fun _ hk => trivial)⟩
           have n2_ : Aside0 (Kd.R (Kd.int .i64) 3 ((((((w31.setCell ⟨go24, ((rd t256 0) : Int).toNat * 6, none⟩ (.int .i64 t260)).setCell ⟨go24, ((rd t256 0) : Int).toNat * 6 + 1, none⟩ (.int .i64 t261)).setCell ⟨go24, ((rd t256 0) : Int).toNat * 6 + 2, none⟩ (.int .i64 t262)).setCell ⟨go24, ((rd t256 0) : Int).toNat * 6 + 3, none⟩ (.int .i64 t263)).setCell ⟨go24, ((rd t256 0) : Int).toNat * 6 + 4, none⟩ (.int .i64 t264)).setCell ⟨go24, ((rd t256 0) : Int).toNat * 6 + 5, none⟩ (.int .i64 t265)) w.heap.size (fun k_ => some k_ ≠ (.slice Ao12 x18_1.length co12 : Value).ownBlock) (.slice (some ad259) t256.length co30) t256) := ⟨by (with_reducible repeat (first | apply Kd.qB | apply Kd.qC | apply Kd.qF)); exact Kd.qX (Kd.R_far (p := ⟨go24, ((rd t256 0) : Int).toNat * 6 + 5, none⟩) (Kd.R_far (p := ⟨go24, ((rd t256 0) : Int).toNat * 6 + 4, none⟩) (Kd.R_far (p := ⟨go24, ((rd t256 0) : Int).toNat * 6 + 3, none⟩) (Kd.R_far (p := ⟨go24, ((rd t256 0) : Int).toNat * 6 + 2, none⟩) (Kd.R_far (p := ⟨go24, ((rd t256 0) : Int).toNat * 6 + 1, none⟩) (Kd.R_far (p := ⟨go24, ((rd t256 0) : Int).toNat * 6, none⟩) (Kd.qKA HO258.out (by first | exact GG24.out | exact (Kd.qw HO_22.out go24 rfl).choose_spec) (by decide)) (fun _ hk => hk.2) (.int .i64 t260)) (fun _ hk => hk.2) (.int .i64 t261)) (fun _ hk => hk.2) (.int .i64 t262)) (fun _ hk => hk.2) (.int .i64 t263)) (fun _ hk => hk.2) (.int .i64 t264)) (fun _ hk => hk.2) (.int .i64 t265)) (fun _ hk => hk.1.2)⟩
           have n3_ : Aside0 (((((((w31.setCell ⟨go24, ((rd t256 0) : Int).toNat * 6, none⟩ (.int .i64 t260)).setCell ⟨go24, ((rd t256 0) : Int).toNat * 6 + 1, none⟩ (.int .i64 t261)).setCell ⟨go24, ((rd t256 0) : Int).toNat * 6 + 2, none⟩ (.int .i64 t262)).setCell ⟨go24, ((rd t256 0) : Int).toNat * 6 + 3, none⟩ (.int .i64 t263)).setCell ⟨go24, ((rd t256 0) : Int).toNat * 6 + 4, none⟩ (.int .i64 t264)).setCell ⟨go24, ((rd t256 0) : Int).toNat * 6 + 5, none⟩ (.int .i64 t265)).heap[gb248]? = some (.cells #[.int .i64 a0_0, .int .i64 a0_1, .slice A0_2 l0_2.length c0_2] 45 (0, 0))) := ⟨by (with_reducible repeat (first | refine qE ?_ _ | refine qG ?_ | refine qD ?_ _)); refine qIA ?_ (by have h_ := Kd.R_ne HO_22.out BK248.out (by decide); intro e_; exact h_ (by rw [e_]; rfl)) _; (with_reducible repeat (first | refine qE ?_ _ | refine qG ?_ | refine qD ?_ _)); refine qIA ?_ (by have h_ := Kd.R_ne HO_22.out BK248.out (by decide); intro e_; exact h_ (by rw [e_]; rfl)) _; (with_reducible repeat (first | refine qE ?_ _ | refine qG ?_ | refine qD ?_ _)); refine qIA ?_ (by have h_ := Kd.R_ne HO_22.out BK248.out (by decide); intro e_; exact h_ (by rw [e_]; rfl)) _; (with_reducible repeat (first | refine qE ?_ _ | refine qG ?_ | refine qD ?_ _)); refine qIA ?_ (by have h_ := Kd.R_ne HO_22.out BK248.out (by decide); intro e_; exact h_ (by rw [e_]; rfl)) _; (with_reducible repeat (first | refine qE ?_ _ | refine qG ?_ | refine qD ?_ _)); refine qIA ?_ (by have h_ := Kd.R_ne HO_22.out BK248.out (by decide); intro e_; exact h_ (by rw [e_]; rfl)) _; (with_reducible repeat (first | refine qE ?_ _ | refine qG ?_ | refine qD ?_ _)); refine qIA ?_ (by have h_ := Kd.R_ne HO_22.out BK248.out (by decide); intro e_; exact h_ (by rw [e_]; rfl)) _; (with_reducible repeat (first | refine qE ?_ _ | refine qG ?_ | refine qD ?_ _)); exact BK248.out⟩
           have n4_ : Aside0 (Below w.heap.size w ((((((w31.setCell ⟨go24, ((rd t256 0) : Int).toNat * 6, none⟩ (.int .i64 t260)).setCell ⟨go24, ((rd t256 0) : Int).toNat * 6 + 1, none⟩ (.int .i64 t261)).setCell ⟨go24, ((rd t256 0) : Int).toNat * 6 + 2, none⟩ (.int .i64 t262)).setCell ⟨go24, ((rd t256 0) : Int).toNat * 6 + 3, none⟩ (.int .i64 t263)).setCell ⟨go24, ((rd t256 0) : Int).toNat * 6 + 4, none⟩ (.int .i64 t264)).setCell ⟨go24, ((rd t256 0) : Int).toNat * 6 + 5, none⟩ (.int .i64 t265))) := ⟨by repeat (first | (with_reducible first | exact HB.out | apply qx | apply qGA | apply qg | refine qk ?_ GB24.out | refine qk ?_ GB24.out | refine qk ?_ GB24.out | refine qk ?_ GB24.out | refine qk ?_ GB24.out | refine qk ?_ GB24.out | refine qk ?_ GE248.out) | exact HB.out)⟩
           (try clear HO_18)
           (try clear HO_22)
           (try clear HO258)
           (try clear BK248)
           (try clear HB)
           generalize ((((((w31.setCell ⟨go24, ((rd t256 0) : Int).toNat * 6, none⟩ (.int .i64 t260)).setCell ⟨go24, ((rd t256 0) : Int).toNat * 6 + 1, none⟩ (.int .i64 t261)).setCell ⟨go24, ((rd t256 0) : Int).toNat * 6 + 2, none⟩ (.int .i64 t262)).setCell ⟨go24, ((rd t256 0) : Int).toNat * 6 + 3, none⟩ (.int .i64 t263)).setCell ⟨go24, ((rd t256 0) : Int).toNat * 6 + 4, none⟩ (.int .i64 t264)).setCell ⟨go24, ((rd t256 0) : Int).toNat * 6 + 5, none⟩ (.int .i64 t265)) = w33 at n0_ n1_ n2_ n3_ n4_ ⊢
           have HO_18 := n0_
           have HO_22 := n1_
           have HO258 := n2_
           have BK248 := n3_
           have HB := n4_
           clear n0_ n1_ n2_ n3_ n4_
           have p267 : 0 ≤ (0 : Int) := (by omega)
           have q267 : 0 < (t256.length : Int) := of_decide_eq_true (by first | (with_reducible assumption) | assumption)
           obtain ⟨ad267, e267, hx267_0⟩ := Kd.qFA (Kd.qO HO258.out).2.2 0 p267 q267
           obtain rfl : ad259 = ad267 := (by injection e267)
           have qi267 : (0 < t256.length) = True := eq_true (by omega)
           (try rw [show ((0 : Int)).toNat = 0 from rfl] at hx267_0)
           (try rw [Addr.add_zero'] at hx267_0)
           replace p267 := eq_true p267
           replace q267 := eq_true q267
           have p26 : 0 ≤ ((rd t256 0) : Int) := of_decide_eq_true (by first | (with_reducible assumption) | assumption)
           have q26 : ((rd t256 0) : Int) < ((x18_1.length : Int) : Int) := of_decide_eq_true (by first | (with_reducible assumption) | assumption)
           obtain ⟨go26, co26, eo26, gb26, gl26, cl26, HG26⟩ := Kd.qvB HO_18.out (by omega)
           (first | cases eo26 | (injection eo26 with ea_ en_ ec_; (first | subst ea_ | (injection ea_ with ea_; subst ea_)); subst ec_; clear en_))
           have GB26 := Aside0.mk gb26
           have GG26 := Aside0.mk HG26
           clear gb26 gl26 HG26
           obtain ⟨hx26_0, hf26_0⟩ := Kd.qnA 0 HO_18.out ((rd t256 0) : Int) p26 q26
           replace p26 := eq_true p26
           replace q26 := eq_true q26
           obtain ⟨hy34_, hz34_⟩ := Kd.qnA 0 HO_18.out ((rd t256 0) : Int) (of_decide_eq_true (by first | (with_reducible assumption) | assumption)) (of_decide_eq_true (by first | (with_reducible assumption) | assumption))
           have HP34 := Kd.qoB HO_18.out ((rd t256 0) : Int) 5
           try go_wp2_with (first | ((with_reducible refine qeA (t := 3) (p := 44) rfl ?_); refine qXA (t := 3) (p := 44) (v := ?vo_w35) (w1 := (w33.setCell ⟨go26, ((rd t256 0) : Int).toNat, none⟩ (.int .i64 5))) ?hg ?ho ?hn ?hr ?_; (case ho => rfl); (case hg => rfl); (case hn => rfl); (case hr => first | (go_simp; done) | (go_simp; rfl)); intro w35 hw; have hg : w33.grownBy w35 (some go26) := (by rw [hw]; exact HP34.2); have hp_ : Kd.R (Kd.int .i64) 3 w35 w.heap.size (fun k_ => some k_ ≠ (.slice (some ad259) t256.length co30 : Value).ownBlock) (.slice (some ⟨go26, 0, none⟩) x18_1.length co12) y268 := (by rw [hw, Ny268.out]; exact HP34.1); clear HP34; have n0_ := Aside0.mk (hp_); have n1_ := Aside0.mk (Kd.qTA (v := (.slice (some ⟨go26, 0, none⟩) x18_1.length co12)) (by (with_reducible repeat (first | apply Kd.qB | apply Kd.qC | apply Kd.qF)); exact HO_22.out) (Kd.qw HO_18.out) (by decide) hg); have n2_ := Aside0.mk (qaA (g := gb248) (o := .cells #[.int .i64 a0_0, .int .i64 a0_1, .slice A0_2 l0_2.length c0_2] 45 (0, 0)) (by (with_reducible repeat (first | refine qE ?_ _ | refine qG ?_ | refine qD ?_ _)); exact BK248.out) hg (Kd.R_ne HO_18.out BK248.out (by decide))); have n3_ := Aside0.mk (Kd.qxA (v := (.slice (some ⟨go26, 0, none⟩) x18_1.length co12)) (v1 := (.slice (some ⟨go26, 0, none⟩) x18_1.length co12)) (ok := (fun _ => True)) (by (with_reducible repeat (first | apply Kd.qB | apply Kd.qC | apply Kd.qF)); exact Kd.qX HO258.out (fun _ hk => ⟨trivial, hk⟩)) hg (.inl rfl)); have n4_ := Aside0.mk ((by rw [hw]; exact qk (HB.out) GB26.out : Below w.heap.size w w35)); clear HO_18; clear HO_22; clear BK248; clear HO258; clear HB; have HO_18 := n0_; have HO_22 := n1_; have BK248 := n2_; have HO258 := n3_; have HB := n4_; clear n0_ n1_ n2_ n3_ n4_; clear hg hw hp_; have p269 : 0 ≤ (0 : Int) := (by omega); have q269 : 0 < (t256.length : Int) := of_decide_eq_true (by first | (with_reducible assumption) | assumption); obtain ⟨ad269, e269, hx269_0⟩ := Kd.qFA (Kd.qO HO258.out).2.2 0 p269 q269; obtain rfl : ad259 = ad269 := (by injection e269); have qi269 : (0 < t256.length) = True := eq_true (by omega); (try rw [show ((0 : Int)).toNat = 0 from rfl] at hx269_0); (try rw [Addr.add_zero'] at hx269_0); replace p269 := eq_true p269; replace q269 := eq_true q269) | ((with_reducible refine qa (N := 48) rfl ?_); refine Kd.R_lit (Kd.int .i64) _ 3 ?hg (N := 48) ?hd (xs := ([rd t256 0] : List Int)) (inner := [.int .i64 (rd t256 0)]) (ok := fun _ => True) (okp := fun _ => True) ?hr ?hp (fun _ hk => hk) trivial (Below.refl _ _) (Nat.le_refl _) (by simp) ?_; (case hd => rfl); (case hg => rfl); (case hr => first | (go_simp; done) | (go_simp; rfl)); (case hp => exact (Reps.one (show Kd.M (Kd.int .i64) _ _ _ (rd t256 0) [.int .i64 (rd t256 0)] from rfl) (Reps.none _ _))); intro v271 w36 ho37 hb hg_ hnew_; clear hg_ hnew_; (first | rw [← Ny270.out] at ho37 | (simp only [Int.reduceToNat] at ho37; rw [← Ny270.out] at ho37)); have n0_ := Aside0.mk (Kd.qkA (by (with_reducible repeat (first | apply Kd.qB | apply Kd.qC | apply Kd.qF)); exact HO_18.out) (Kd.qDB ho37) hb); have n1_ := Aside0.mk (Kd.qS (by (with_reducible repeat (first | apply Kd.qB | apply Kd.qC | apply Kd.qF)); exact HO_22.out) hb); have n2_ := Aside0.mk (Kd.qkA (by (with_reducible repeat (first | apply Kd.qB | apply Kd.qC | apply Kd.qF)); exact HO258.out) (Kd.qDB ho37) hb); have n3_ := Aside0.mk (Kd.qu (Kd.qCB (Kd.qCB ho37 (Kd.R_lt (by (with_reducible repeat (first | apply Kd.qB | apply Kd.qC | apply Kd.qF)); exact HO_18.out))) (Kd.R_lt (by (with_reducible repeat (first | apply Kd.qB | apply Kd.qC | apply Kd.qF)); exact HO258.out))) (qY bl)); have n4_ := Aside0.mk (bb BK248 hb); have n5_ := Aside0.mk (qK bl hb); clear HO_18; clear HO_22; clear HO258; clear BK248; clear HB; have HO_18 := n0_; have HO_22 := n1_; have HO258 := n2_; have HO272 := n3_; have BK248 := n4_; have HB := n5_; clear n0_ n1_ n2_ n3_ n4_ n5_; clear hb ho37))
           go_loopg [8, 9] k1 (fun kq v8 v9 w' => ∃ (x8_2 : List Int) (x9_2 : Int) (x18_2 : List Int) (x22_2 : List (S31)), v9 = .int .i64 x9_2 ∧ Aside0 (qJ.l1 kq x8_2 x9_2 x18_2 x22_2 t256 a0_0 a0_1 l0_2 = some (r1, r2)) ∧ Aside0 (kq ≤ k1) ∧ Aside0 (Kd.R (Kd.int .i64) 3 w' w.heap.size (fun k_ => some k_ ≠ ((.slice (some ⟨go26, 0, none⟩) x18_1.length co12) : Value).ownBlock ∧ some k_ ≠ ((.slice (some ad259) t256.length co30) : Value).ownBlock) v8 x8_2) ∧ Aside0 (Kd.R (Kd.int .i64) 3 w' w.heap.size (fun k_ => some k_ ≠ (v8 : Value).ownBlock ∧ some k_ ≠ ((.slice (some ad259) t256.length co30) : Value).ownBlock) (.slice (some ⟨go26, 0, none⟩) x18_1.length co12) x18_2) ∧ Aside0 (Kd.R k31 31 w' w.heap.size (fun _ => True) (.slice (some ⟨go24, 0, none⟩) y252.length co24) x22_2) ∧ Aside0 (Kd.R (Kd.int .i64) 3 w' w.heap.size (fun k_ => some k_ ≠ (v8 : Value).ownBlock ∧ some k_ ≠ ((.slice (some ⟨go26, 0, none⟩) x18_1.length co12) : Value).ownBlock) (.slice (some ad259) t256.length co30) t256) ∧ Aside0 (w'.heap[gb248]? = some (.cells #[.int .i64 a0_0, .int .i64 a0_1, (.slice A0_2 l0_2.length c0_2)] 45 (0, 0))) ∧ Aside0 (Below w.heap.size w w'))
           case atStart => exact ⟨(y270), (0), (y268), (y266), (by first | rfl | (simp; done) | (simp [*]; done)), H', ⟨Nat.le_refl _⟩, ⟨by (try simp only [hl18_1]); (with_reducible repeat (first | apply Kd.qB | apply Kd.qC | apply Kd.qF)); exact Kd.qX HO272.out (fun _ hk => ⟨hk.1.2, hk.2⟩)⟩, ⟨by (try simp only [hl18_1]); (with_reducible repeat (first | apply Kd.qB | apply Kd.qC | apply Kd.qF)); exact Kd.qX HO_18.out (fun _ hk => ⟨hk.2, hk.1⟩)⟩, ⟨by (try simp only [hl18_1]); (with_reducible repeat (first | apply Kd.qB | apply Kd.qC | apply Kd.qF)); exact HO_22.out⟩, ⟨by (try simp only [hl18_1]); (with_reducible repeat (first | apply Kd.qB | apply Kd.qC | apply Kd.qF)); exact Kd.qX HO258.out (fun _ hk => ⟨hk.2, hk.1.2⟩)⟩, ⟨by (try simp only [hl18_1]); (with_reducible repeat (first | refine qE ?_ _ | refine qG ?_ | refine qD ?_ _)); exact BK248.out⟩, ⟨bl⟩⟩
           case round =>
            clear H'
            try clear c1
            try clear p1
            try clear q1
            try clear hx1
            try clear hf1
            try clear c2
            try clear c2b0
            try clear c2b1
            try clear p2
            try clear q2
            try clear hx2
            try clear qi2
            try clear hf2
            try clear c3
            try clear c3b0
            try clear c3b1
            try clear c4
            try clear c4b0
            try clear c4b1
            try clear c5
            try clear p6
            try clear c7
            try clear c13
            try clear c13b0
            try clear c14
            try clear c14b0
            try clear c15
            try clear c15b0
            try clear p16
            try clear q16
            try clear hx16
            try clear hf16
            try clear c20
            try clear c20b0
            try clear c20b1
            try clear c22
            try clear c22b0
            try clear c23
            try clear c23b0
            try clear c24
            try clear p24
            try clear q24
            try clear hx24
            try clear hf24
            try clear c25
            try clear c25b0
            try clear p25
            try clear q25
            try clear hx25
            try clear qi25
            try clear p26
            try clear q26
            try clear hx26
            try clear qi26
            try clear hf26
            try clear c32
            try clear c36
            try clear hcz27_0
            try clear hcz27_1
            try clear hcz27_2
            try clear hcz6_0
            try clear hcz6_1
            try clear hcz6_2
            try clear hcz9_0
            try clear hcz9_1
            try clear hcz9_2
            try clear hfz27_0
            try clear hfz27_1
            try clear hfz27_2
            try clear hfz6_0
            try clear hfz6_1
            try clear hfz6_2
            try clear hfz9_0
            try clear hfz9_1
            try clear hfz9_2
            try clear hx16_0
            try clear hx24_0
            try clear hx24_1
            try clear hx24_2
            try clear hx24_3
            try clear hx24_4
            try clear hx24_5
            try clear hx259_0
            try clear hx267_0
            try clear hx269_0
            try clear hx26_0
            try clear p16
            try clear p2
            try clear p24
            try clear p259
            try clear p26
            try clear p267
            try clear p269
            try clear q16
            try clear q24
            try clear q259
            try clear q26
            try clear q267
            try clear q269
            obtain ⟨x8_2, x9_2, x18_2, x22_2, rfl, HA, HK2, HO_8, HO_18, HO_22, HO_33, BK248, HB⟩ := hrel
            have hl18_2 := (Kd.qO HO_18.out).1
            rw [hl18_2] at HO_18
            (try simp only [hl18_2])
            (try simp only [hl18_2] at BK248)
            (try simp only [hl18_2] at HO_8)
            (try simp only [hl18_2] at HO_22)
            (try simp only [hl18_2] at HO_33)
            have hl22_2 := (Kd.qO HO_22.out).1
            rw [hl22_2] at HO_22
            (try simp only [hl22_2])
            (try simp only [hl22_2] at BK248)
            (try simp only [hl22_2] at HO_8)
            (try simp only [hl22_2] at HO_18)
            (try simp only [hl22_2] at HO_33)
            cases gk with
            | zero => exact absurd HA.out (by simp [qJ.l1])
            | succ k2 =>
             have H := HA.out
             clear HA
             simp only [qJ.l1] at H
             by_cases c38 : x9_2 < (x8_2.length : Int)
             ·rw [if_pos c38] at H
              have c38b0 : decide (x9_2 < (x8_2.length : Int)) = true := decide_eq_true c38
              (try (have c38b0_hl18_1 := c38b0; simp only [hl18_1] at c38b0_hl18_1))
              (try (have c38b0_hl18_2 := c38b0; simp only [hl18_2] at c38b0_hl18_2))
              (try (have c38b0_hl22_2 := c38b0; simp only [hl22_2] at c38b0_hl22_2))
              clear c38
              have H' := Aside0.mk H
              clear H
              obtain ⟨Ao39, co39, eo39⟩ := Kd.qn HO_8.out
              subst eo39
              go_wp2
              go_loopg [8, 10] k2 (fun kq v8 v10 w' => ∃ (x8_3 : List Int) (x10_3 : Int) (x18_3 : List Int) (x22_3 : List (S31)), v10 = .int .i64 x10_3 ∧ Aside0 (qJ.l2 kq x8_3 x9_2 x10_3 x18_3 x22_3 t256 a0_0 a0_1 l0_2 = some (r1, r2)) ∧ Aside0 (kq ≤ k2) ∧ Aside0 (Kd.R (Kd.int .i64) 3 w' w.heap.size (fun k_ => some k_ ≠ ((.slice (some ⟨go26, 0, none⟩) x18_2.length co12) : Value).ownBlock ∧ some k_ ≠ ((.slice (some ad259) t256.length co30) : Value).ownBlock) v8 x8_3) ∧ Aside0 (Kd.R (Kd.int .i64) 3 w' w.heap.size (fun k_ => some k_ ≠ (v8 : Value).ownBlock ∧ some k_ ≠ ((.slice (some ad259) t256.length co30) : Value).ownBlock) (.slice (some ⟨go26, 0, none⟩) x18_2.length co12) x18_3) ∧ Aside0 (Kd.R k31 31 w' w.heap.size (fun _ => True) (.slice (some ⟨go24, 0, none⟩) x22_2.length co24) x22_3) ∧ Aside0 (Kd.R (Kd.int .i64) 3 w' w.heap.size (fun k_ => some k_ ≠ (v8 : Value).ownBlock ∧ some k_ ≠ ((.slice (some ⟨go26, 0, none⟩) x18_2.length co12) : Value).ownBlock) (.slice (some ad259) t256.length co30) t256) ∧ Aside0 (w'.heap[gb248]? = some (.cells #[.int .i64 a0_0, .int .i64 a0_1, (.slice A0_2 l0_2.length c0_2)] 45 (0, 0))) ∧ Aside0 (Below w.heap.size w w'))
              case atStart => exact ⟨(x8_2), (0), (x18_2), (x22_2), (by first | rfl | (simp; done) | (simp [*]; done)), H', ⟨Nat.le_refl _⟩, ⟨by (try simp only [hl18_1]); (try simp only [hl18_2]); (try simp only [hl22_2]); (with_reducible repeat (first | apply Kd.qB | apply Kd.qC | apply Kd.qF)); exact HO_8.out⟩, ⟨by (try simp only [hl18_1]); (try simp only [hl18_2]); (try simp only [hl22_2]); (with_reducible repeat (first | apply Kd.qB | apply Kd.qC | apply Kd.qF)); exact HO_18.out⟩, ⟨by (try simp only [hl18_1]); (try simp only [hl18_2]); (try simp only [hl22_2]); (with_reducible repeat (first | apply Kd.qB | apply Kd.qC | apply Kd.qF)); exact HO_22.out⟩, ⟨by (try simp only [hl18_1]); (try simp only [hl18_2]); (try simp only [hl22_2]); (with_reducible repeat (first | apply Kd.qB | apply Kd.qC | apply Kd.qF)); exact HO_33.out⟩, ⟨by (try simp only [hl18_1]); (try simp only [hl18_2]); (try simp only [hl22_2]); (with_reducible repeat (first | refine qE ?_ _ | refine qG ?_ | refine qD ?_ _)); exact BK248.out⟩, ⟨bl⟩⟩
              case round =>
               clear H'
               try clear c1
               try clear p1
               try clear q1
               try clear hx1
               try clear hf1
               try clear c2
               try clear c2b0
               try clear c2b1
               try clear p2
               try clear q2
               try clear hx2
               try clear qi2
               try clear hf2
               try clear c3
               try clear c3b0
               try clear c3b1
               try clear c4
               try clear c4b0
               try clear c4b1
               try clear c5
               try clear p6
               try clear c7
               try clear c13
               try clear c13b0
               try clear c14
               try clear c14b0
               try clear c15
               try clear c15b0
               try clear p16
               try clear q16
               try clear hx16
               try clear hf16
               try clear c20
               try clear c20b0
               try clear c20b1
               try clear c22
               try clear c22b0
               try clear c23
               try clear c23b0
               try clear c24
               try clear p24
               try clear q24
               try clear hx24
               try clear hf24
               try clear c25
               try clear c25b0
               try clear p25
               try clear q25
               try clear hx25
               try clear qi25
               try clear p26
               try clear q26
               try clear hx26
               try clear qi26
               try clear hf26
               try clear c32
               try clear c36
               try clear c38
               try clear c38b0
               try clear hcz27_0
               try clear hcz27_1
               try clear hcz27_2
               try clear hcz6_0
               try clear hcz6_1
               try clear hcz6_2
               try clear hcz9_0
               try clear hcz9_1
               try clear hcz9_2
               try clear hfz27_0
               try clear hfz27_1
               try clear hfz27_2
               try clear hfz6_0
               try clear hfz6_1
               try clear hfz6_2
               try clear hfz9_0
               try clear hfz9_1
               try clear hfz9_2
               try clear hx16_0
               try clear hx24_0
               try clear hx24_1
               try clear hx24_2
               try clear hx24_3
               try clear hx24_4
               try clear hx24_5
               try clear hx259_0
               try clear hx267_0
               try clear hx269_0
               try clear hx26_0
               try clear p1
               try clear p16
               try clear p2
               try clear p24
               try clear p25
               try clear p259
               try clear p26
               try clear p267
               try clear p269
               try clear p6
               try clear q1
               try clear q16
               try clear q2
               try clear q24
               try clear q25
               try clear q259
               try clear q26
               try clear q267
               try clear q269
               obtain ⟨x8_3, x10_3, x18_3, x22_3, rfl, HA, HK3, HO_8, HO_18, HO_22, HO_33, BK248, HB⟩ := hrel
               have hl18_3 := (Kd.qO HO_18.out).1
               rw [hl18_3] at HO_18
               (try simp only [hl18_3])
               (try simp only [hl18_3] at BK248)
               (try simp only [hl18_3] at HO_8)
               (try simp only [hl18_3] at HO_22)
               (try simp only [hl18_3] at HO_33)
               have hl22_3 := (Kd.qO HO_22.out).1
               rw [hl22_3] at HO_22
               (try simp only [hl22_3])
               (try simp only [hl22_3] at BK248)
               (try simp only [hl22_3] at HO_8)
               (try simp only [hl22_3] at HO_18)
               (try simp only [hl22_3] at HO_33)
               cases gk with
               | zero => exact absurd HA.out (by simp [qJ.l2])
               | succ k3 =>
                have H := HA.out
                clear HA
                simp only [qJ.l2] at H
                by_cases c40 : x10_3 < 4
                ·rw [if_pos c40] at H
                 have c40b0 : decide (x10_3 < 4) = true := decide_eq_true c40
                 clear c40
                 by_cases c41 : 0 ≤ x9_2
                 ·rw [if_pos c41] at H
                  have c41b0 : decide (0 ≤ x9_2) = true := decide_eq_true c41
                  clear c41
                  by_cases c42 : x9_2 < (x8_3.length : Int)
                  ·rw [if_pos c42] at H
                   have c42b0 : decide (x9_2 < (x8_3.length : Int)) = true := decide_eq_true c42
                   (try (have c42b0_hl18_1 := c42b0; simp only [hl18_1] at c42b0_hl18_1))
                   (try (have c42b0_hl18_2 := c42b0; simp only [hl18_2] at c42b0_hl18_2))
                   (try (have c42b0_hl22_2 := c42b0; simp only [hl22_2] at c42b0_hl22_2))
                   (try (have c42b0_hl18_3 := c42b0; simp only [hl18_3] at c42b0_hl18_3))
                   (try (have c42b0_hl22_3 := c42b0; simp only [hl22_3] at c42b0_hl22_3))
                   clear c42
                   replace H := Option.bind_eq_some_iff.mp H
                   obtain ⟨t274, A430, H⟩ := H
                   replace H : (if t274 ≥ 0 then (if 0 ≤ t274 then (if t274 < (x18_3.length : Int) then (if (rd x18_3 t274) < 0 then (if 0 ≤ (rd x8_3 x9_2) then (if (rd x8_3 x9_2) < (x22_3.length : Int) then ((qAB.f ((qe x22_3 (rd x8_3 x9_2)).f0) ((qe x22_3 (rd x8_3 x9_2)).f1) ((qe x22_3 (rd x8_3 x9_2)).f2) ((qe x22_3 (rd x8_3 x9_2)).f3) ((qe x22_3 (rd x8_3 x9_2)).f4) ((qe x22_3 (rd x8_3 x9_2)).f5) x10_3).bind fun bt278 => (if t274 < (x22_3.length : Int) then ((some (x22_3.set (t274 : Int).toNat (⟨bt278.1, bt278.2.1, bt278.2.2.1, bt278.2.2.2.1, bt278.2.2.2.2.1, bt278.2.2.2.2.2⟩ : S31) : List (S31))).bind fun y284 => (if x8_3.length < 17592186044416 then (qJ.l2 k3 (x8_3 ++ [t274]) x9_2 (wrap64 (x10_3 + 1)) (x18_3.set (t274 : Int).toNat ((qe y284 t274).f5)) y284 t256 a0_0 a0_1 l0_2) else (none))) else (none))) else (none)) else (none)) else (qJ.l2 k3 x8_3 x9_2 (wrap64 (x10_3 + 1)) x18_3 x22_3 t256 a0_0 a0_1 l0_2)) else (none)) else (none)) else (qJ.l2 k3 x8_3 x9_2 (wrap64 (x10_3 + 1)) x18_3 x22_3 t256 a0_0 a0_1 l0_2)) = some (r1, r2) := H
                   have A43 := Aside0.mk A430
                   clear A430
                   by_cases c44 : t274 ≥ 0
                   ·rw [if_pos c44] at H
                    have c44b0 : decide (0 ≤ t274) = true := decide_eq_true c44
                    clear c44
                    by_cases c45 : 0 ≤ t274
                    ·rw [if_pos c45] at H
                     have c45b0 : decide (0 ≤ t274) = true := decide_eq_true c45
                     clear c45
                     by_cases c46 : t274 < (x18_3.length : Int)
                     ·rw [if_pos c46] at H
                      have c46b0 : decide (t274 < (x18_3.length : Int)) = true := decide_eq_true c46
                      (try (have c46b0_hl18_1 := c46b0; simp only [hl18_1] at c46b0_hl18_1))
                      (try (have c46b0_hl18_2 := c46b0; simp only [hl18_2] at c46b0_hl18_2))
                      (try (have c46b0_hl22_2 := c46b0; simp only [hl22_2] at c46b0_hl22_2))
                      (try (have c46b0_hl18_3 := c46b0; simp only [hl18_3] at c46b0_hl18_3))
                      (try (have c46b0_hl22_3 := c46b0; simp only [hl22_3] at c46b0_hl22_3))
                      clear c46
                      by_cases c47 : (rd x18_3 t274) < 0
                      ·rw [if_pos c47] at H
                       have c47b0 : decide ((rd x18_3 t274) < 0) = true := decide_eq_true c47
                       clear c47
                       by_cases c48 : 0 ≤ (rd x8_3 x9_2)
                       ·rw [if_pos c48] at H
                        have c48b0 : decide (0 ≤ (rd x8_3 x9_2)) = true := decide_eq_true c48
                        clear c48
                        by_cases c49 : (rd x8_3 x9_2) < (x22_3.length : Int)
                        ·rw [if_pos c49] at H
                         have c49b0 : decide ((rd x8_3 x9_2) < (x22_3.length : Int)) = true := decide_eq_true c49
                         (try (have c49b0_hl18_1 := c49b0; simp only [hl18_1] at c49b0_hl18_1))
                         (try (have c49b0_hl18_2 := c49b0; simp only [hl18_2] at c49b0_hl18_2))
                         (try (have c49b0_hl22_2 := c49b0; simp only [hl22_2] at c49b0_hl22_2))
                         (try (have c49b0_hl18_3 := c49b0; simp only [hl18_3] at c49b0_hl18_3))
                         (try (have c49b0_hl22_3 := c49b0; simp only [hl22_3] at c49b0_hl22_3))
                         clear c49
                         replace H := Option.bind_eq_some_iff.mp H
                         obtain ⟨⟨t278, t279, t280, t281, t282, t283⟩, A500, H⟩ := H
                         replace H : (if t274 < (x22_3.length : Int) then ((some (x22_3.set (t274 : Int).toNat (⟨t278, t279, t280, t281, t282, t283⟩ : S31) : List (S31))).bind fun y284 => (if x8_3.length < 17592186044416 then (qJ.l2 k3 (x8_3 ++ [t274]) x9_2 (wrap64 (x10_3 + 1)) (x18_3.set (t274 : Int).toNat ((qe y284 t274).f5)) y284 t256 a0_0 a0_1 l0_2) else (none))) else (none)) = some (r1, r2) := H
                         have A50 := Aside0.mk A500
                         clear A500
                         by_cases c51 : t274 < (x22_3.length : Int)
                         ·rw [if_pos c51] at H
                          have c51b0 : decide (t274 < (x22_3.length : Int)) = true := decide_eq_true c51
                          (try (have c51b0_hl18_1 := c51b0; simp only [hl18_1] at c51b0_hl18_1))
                          (try (have c51b0_hl18_2 := c51b0; simp only [hl18_2] at c51b0_hl18_2))
                          (try (have c51b0_hl22_2 := c51b0; simp only [hl22_2] at c51b0_hl22_2))
                          (try (have c51b0_hl18_3 := c51b0; simp only [hl18_3] at c51b0_hl18_3))
                          (try (have c51b0_hl22_3 := c51b0; simp only [hl22_3] at c51b0_hl22_3))
                          clear c51
                          obtain ⟨y284, hy284⟩ : ∃ y_ : List (S31), y_ = (x22_3.set (t274 : Int).toNat (⟨t278, t279, t280, t281, t282, t283⟩ : S31)) := ⟨_, rfl⟩
                          replace H : (if x8_3.length < 17592186044416 then (qJ.l2 k3 (x8_3 ++ [t274]) x9_2 (wrap64 (x10_3 + 1)) (x18_3.set (t274 : Int).toNat ((qe y284 t274).f5)) y284 t256 a0_0 a0_1 l0_2) else (none)) = some (r1, r2) := by first | (rw [hy284]; with_reducible exact H) | (have H2_ := (Option.bind_some _ _).symm.trans H; rw [hy284]; with_reducible exact H2_) | (have H2_ := (Option.bind_some _ _).symm.trans H; with_reducible exact H2_) | with_reducible exact H | (rw [hy284]; exact H) | exact H
                          have Ny284 := Aside0.mk hy284
                          clear hy284
                          obtain ⟨y286, hy286⟩ : ∃ y_ : List Int, y_ = (x18_3.set (t274 : Int).toNat ((qe y284 t274).f5)) := ⟨_, rfl⟩
                          replace H : (if x8_3.length < 17592186044416 then (qJ.l2 k3 (x8_3 ++ [t274]) x9_2 (wrap64 (x10_3 + 1)) y286 y284 t256 a0_0 a0_1 l0_2) else (none)) = some (r1, r2) := by first | (rw [hy286]; with_reducible exact H) | (have H2_ := (Option.bind_some _ _).symm.trans H; rw [hy286]; with_reducible exact H2_) | (have H2_ := (Option.bind_some _ _).symm.trans H; with_reducible exact H2_) | with_reducible exact H | (rw [hy286]; exact H) | exact H
                          have Ny286 := Aside0.mk hy286
                          clear hy286
                          by_cases c54 : x8_3.length < 17592186044416
                          ·rw [if_pos c54] at H
                           have LMc54 := Aside0.mk c54
                           clear c54
                           obtain ⟨y287, hy287⟩ : ∃ y_ : List Int, y_ = (x8_3 ++ [t274]) := ⟨_, rfl⟩
                           replace H : (qJ.l2 k3 y287 x9_2 (wrap64 (x10_3 + 1)) y286 y284 t256 a0_0 a0_1 l0_2) = some (r1, r2) := by first | (rw [hy287]; with_reducible exact H) | (have H2_ := (Option.bind_some _ _).symm.trans H; rw [hy287]; with_reducible exact H2_) | (have H2_ := (Option.bind_some _ _).symm.trans H; with_reducible exact H2_) | with_reducible exact H | (rw [hy287]; exact H) | exact H
                           have Ny287 := Aside0.mk hy287
                           clear hy287
                           have H' := Aside0.mk H
                           clear H
                           try go_wp2
                           have n0_ := Aside0.mk (Kd.qF HO_8.out)
                           have n1_ := Aside0.mk (Kd.qF HO_18.out)
                           have n2_ := Aside0.mk (Kd.qF HO_22.out)
                           have n3_ := Aside0.mk (Kd.qF HO_33.out)
                           have n4_ := Aside0.mk (qG BK248.out)
                           have n5_ := Aside0.mk (qg HB.out)
                           clear HO_8
                           clear HO_18
                           clear HO_22
                           clear HO_33
                           clear BK248
                           clear HB
                           have HO_8 := n0_
                           have HO_18 := n1_
                           have HO_22 := n2_
                           have HO_33 := n3_
                           have BK248 := n4_
                           have HB := n5_
                           clear n0_ n1_ n2_ n3_ n4_ n5_
                           obtain ⟨Ao56, co56, eo56⟩ := Kd.qn HO_8.out
                           (first | subst eo56 | (injection eo56 with f1_ f2_ f3_; have f4_ := f1_.symm; have f5_ := f3_.symm; clear f1_ f2_ f3_; subst f4_; subst f5_))
                           have p273 : 0 ≤ (x9_2 : Int) := of_decide_eq_true (by first | (with_reducible assumption) | assumption)
                           have q273 : x9_2 < (x8_3.length : Int) := of_decide_eq_true (by first | (with_reducible assumption) | assumption)
                           obtain ⟨ad273, e273, hx273_0⟩ := Kd.qFA (Kd.qO HO_8.out).2.2 x9_2 p273 q273
                           cases e273
                           replace p273 := eq_true p273
                           replace q273 := eq_true q273
                           refine qsA (n := 8) (S := fun w' => w'.cell? ⟨gb248, 0, none⟩ = some (.int .i64 a0_0) ∧ w'.cell? ⟨gb248, 1, none⟩ = some (.int .i64 a0_1) ∧ w'.cell? ⟨gb248, 2, none⟩ = some (.slice A0_2 l0_2.length c0_2) ∧ w'.cell? (ad273.add (x9_2).toNat) = some (.int .i64 (rd x8_3 x9_2))) (ds := []) #[false, false, false, false, false, false, false, false] (by kernel_rfl) rfl rfl ⟨(qm BK248.out 0).trans rfl, (qm BK248.out 1).trans rfl, (qm BK248.out 2).trans rfl, hx273_0⟩ (fun hHeld => ?_); refine qRA qJ.tab18 qJ.bits18 (fun HT_ HW_ => ?_)
                           generalize wr.drew = w55 at HO_8 HO_18 HO_22 HO_33 BK248 HB hx273_0 hHeld ⊢
                           refine pS (i := 1) (N := some 60) #[false, true, false, false, false, false, false, false] HT_ ?_
                           refine pS (i := 2) (N := some 61) #[false, true, true, false, false, false, false, false] HT_ ?_
                           refine pS (i := 3) (N := some 62) #[false, true, true, true, false, false, false, false] HT_ ?_
                           refine pS (i := 5) (N := some 64) #[false, true, true, true, false, true, false, false] HT_ ?_
                           refine tS (i := 0) (N := some 59) #[true, true, true, true, false, true, false, false] HT_ HW_ hHeld ?_
                           refine tS (i := 4) (N := some 63) #[true, true, true, true, true, true, false, false] HT_ HW_ hHeld ?_
                           refine one_ (i := 6) (N := some 65) #[true, true, true, true, true, true, true, false] rfl rfl (qdA HT_.out (by kernel_rfl)) (by decide) (fun K hK => ?_)
                           refine goes_ Tryd.func42 (by kernel_rfl) rfl #[.agg #[.int .i64 a0_0, .int .i64 a0_1, .slice A0_2 l0_2.length c0_2], .int .i64 (rd x8_3 x9_2), .int .i64 x10_3] (by rfl) rfl rfl (by (try simp only [List.map_toArray, List.map_cons, List.map_nil]); first | done | rfl | (simp only [List.length_drop, List.length_take]; rfl)) ?_
                           with_reducible refine (qVA.calls a0_0 a0_1 _ _ l0_2 (rd x8_3 x9_2) x10_3 t274 _ ?side1 ?side2 A43.out).mono ?_
                           (case side1 => repeat (first | exact (Kd.qrA HR0_2.out HB.out) | (with_reducible refine Kd.qMA ?_ _) | (with_reducible refine Kd.qLA ?_ _) | (with_reducible refine Kd.qcA ?_)))
                           (case side2 => exact HC0_2.out)
                           rintro e w57 ⟨rfl, hb⟩
                           have HS3_ := (hb.cell (World.block_lt_of_cell? _ _ (hHeld.2.2.2))).trans (hHeld.2.2.2)
                           refine ⟨_, rfl, ?_⟩
                           have n0_ := Aside0.mk (Kd.qS (by (with_reducible repeat (first | apply Kd.qB | apply Kd.qC | apply Kd.qF)); exact HO_8.out) hb)
                           have n1_ := Aside0.mk (Kd.qS (by (with_reducible repeat (first | apply Kd.qB | apply Kd.qC | apply Kd.qF)); exact HO_18.out) hb)
                           have n2_ := Aside0.mk (Kd.qS (by (with_reducible repeat (first | apply Kd.qB | apply Kd.qC | apply Kd.qF)); exact HO_22.out) hb)
                           have n3_ := Aside0.mk (Kd.qS (by (with_reducible repeat (first | apply Kd.qB | apply Kd.qC | apply Kd.qF)); exact HO_33.out) hb)
                           have n4_ := Aside0.mk (bb BK248 hb)
                           have n5_ := Aside0.mk (qK bl hb)
                           clear HO_8
                           clear HO_18
                           clear HO_22
                           clear HO_33
                           clear BK248
                           clear HB
                           have HO_8 := n0_
                           have HO_18 := n1_
                           have HO_22 := n2_
                           have HO_33 := n3_
                           have BK248 := n4_
                           have HB := n5_
                           clear n0_ n1_ n2_ n3_ n4_ n5_
                           (try clear hb)
                           (try clear hb2)
                           (try clear hk)
                           (try clear hi)
                           refine hK.out _ _ ⟨(qm BK248.out 0).trans rfl, (qm BK248.out 1).trans rfl, (qm BK248.out 2).trans rfl, HS3_⟩ (fun hHeld => ?_)
                           clear hK K
                           refine norm_ (a' := ?_) ?_ ?_
                           rotate_left
                           ·show Act.put _ (some 65) _ = _
                            simp only [Act.put, List.setIfInBounds_toArray, List.set_cons_zero, List.set_cons_succ, i64_w, i32_w]
                            rfl
                           refine pS (i := 7) (N := some 11) #[true, true, true, true, true, true, true, true] HT_ ?_
                           refine done_ (qwA HT_.out (by kernel_rfl)) ?_
                           have p275 : 0 ≤ (t274 : Int) := of_decide_eq_true (by first | (with_reducible assumption) | assumption)
                           have q275 : t274 < (x18_3.length : Int) := of_decide_eq_true (by first | (with_reducible assumption) | assumption)
                           obtain ⟨ad275, e275, hx275_0⟩ := Kd.qFA (Kd.qO HO_18.out).2.2 t274 p275 q275
                           obtain rfl : (⟨go26, 0, none⟩ : Addr) = ad275 := (by injection e275)
                           (first | simp only [qy] at hx275_0 | simp only [qlA] at hx275_0 | simp only [Addr.add, Nat.zero_add] at hx275_0 | skip)
                           replace p275 := eq_true p275
                           replace q275 := eq_true q275
                           have p276 : 0 ≤ (x9_2 : Int) := of_decide_eq_true (by first | (with_reducible assumption) | assumption)
                           have q276 : x9_2 < (x8_3.length : Int) := of_decide_eq_true (by first | (with_reducible assumption) | assumption)
                           obtain ⟨ad276, e276, hx276_0⟩ := Kd.qFA (Kd.qO HO_8.out).2.2 x9_2 p276 q276
                           obtain rfl : ad273 = ad276 := (by injection e276)
                           replace p276 := eq_true p276
                           replace q276 := eq_true q276
                           have p277 : 0 ≤ ((rd x8_3 x9_2) : Int) := of_decide_eq_true (by first | (with_reducible assumption) | assumption)
                           have q277 : (rd x8_3 x9_2) < (x22_3.length : Int) := of_decide_eq_true (by first | (with_reducible assumption) | assumption)
                           obtain ⟨ad277, e277, hx277_0, hx277_1, hx277_2, hx277_3, hx277_4, hx277_5⟩ := qyC (Kd.qO HO_22.out).2.2 (rd x8_3 x9_2) p277 q277
                           obtain rfl : (⟨go24, 0, none⟩ : Addr) = ad277 := (by injection e277)
                           (first | simp only [qy] at hx277_0 | simp only [qlA] at hx277_0 | simp only [Addr.add, Nat.zero_add] at hx277_0 | skip)
                           (first | simp only [qy] at hx277_1 | simp only [qlA] at hx277_1 | simp only [Addr.add, Nat.zero_add] at hx277_1 | skip)
                           (first | simp only [qy] at hx277_2 | simp only [qlA] at hx277_2 | simp only [Addr.add, Nat.zero_add] at hx277_2 | skip)
                           (first | simp only [qy] at hx277_3 | simp only [qlA] at hx277_3 | simp only [Addr.add, Nat.zero_add] at hx277_3 | skip)
                           (first | simp only [qy] at hx277_4 | simp only [qlA] at hx277_4 | simp only [Addr.add, Nat.zero_add] at hx277_4 | skip)
                           (first | simp only [qy] at hx277_5 | simp only [qlA] at hx277_5 | simp only [Addr.add, Nat.zero_add] at hx277_5 | skip)
                           replace p277 := eq_true p277
                           replace q277 := eq_true q277
                           try go_wp2_with (first | ((with_reducible refine qZ (f := 73) rfl ?_); refine qPA (some 85) rfl rfl Tryd.func73 (by kernel_rfl) rfl #[.agg #[.int .i64 ((qe x22_3 (rd x8_3 x9_2)).f0), .int .i64 ((qe x22_3 (rd x8_3 x9_2)).f1), .int .i64 ((qe x22_3 (rd x8_3 x9_2)).f2), .int .i64 ((qe x22_3 (rd x8_3 x9_2)).f3), .int .i64 ((qe x22_3 (rd x8_3 x9_2)).f4), .int .i64 ((qe x22_3 (rd x8_3 x9_2)).f5)], .int .i64 x10_3] rfl (by (try simp only [List.map_toArray, List.map_cons, List.map_nil]); first | done | rfl | (simp only [List.length_drop, List.length_take]; rfl)) ?_; (with_reducible refine (qAB.calls ((qe x22_3 (rd x8_3 x9_2)).f0) ((qe x22_3 (rd x8_3 x9_2)).f1) ((qe x22_3 (rd x8_3 x9_2)).f2) ((qe x22_3 (rd x8_3 x9_2)).f3) ((qe x22_3 (rd x8_3 x9_2)).f4) ((qe x22_3 (rd x8_3 x9_2)).f5) x10_3 t278 t279 t280 t281 t282 t283 _ A50.out).mono ?_); rintro e w58 ⟨rfl, hb⟩; refine ⟨_, rfl, ?_⟩; have n0_ := Aside0.mk (Kd.qS (by (with_reducible repeat (first | apply Kd.qB | apply Kd.qC | apply Kd.qF)); exact HO_8.out) hb); have n1_ := Aside0.mk (Kd.qS (by (with_reducible repeat (first | apply Kd.qB | apply Kd.qC | apply Kd.qF)); exact HO_18.out) hb); have n2_ := Aside0.mk (Kd.qS (by (with_reducible repeat (first | apply Kd.qB | apply Kd.qC | apply Kd.qF)); exact HO_22.out) hb); have n3_ := Aside0.mk (Kd.qS (by (with_reducible repeat (first | apply Kd.qB | apply Kd.qC | apply Kd.qF)); exact HO_33.out) hb); have n4_ := Aside0.mk (bb BK248 hb); have n5_ := Aside0.mk (qK bl hb); clear HO_8; clear HO_18; clear HO_22; clear HO_33; clear BK248; clear HB; have HO_8 := n0_; have HO_18 := n1_; have HO_22 := n2_; have HO_33 := n3_; have BK248 := n4_; have HB := n5_; clear n0_ n1_ n2_ n3_ n4_ n5_; (try clear hb); (try clear hb2); (try clear hk); (try clear hi); have p52 : 0 ≤ (t274 : Int) := of_decide_eq_true (by first | (with_reducible assumption) | assumption); have q52 : (t274 : Int) < ((x22_3.length : Int) : Int) := of_decide_eq_true (by first | (with_reducible assumption) | assumption); obtain ⟨ce52, hcl52, hM52, hcc52, hfr52⟩ := Kd.qKC HO_22.out z31 (t274 : Int) p52 q52; obtain rfl := qEB hM52; have hx52_0 : w58.cell? ⟨go24, (t274 : Int).toNat * 6, none⟩ = some (.int .i64 ((qe x22_3 t274).f0)) := hcc52 0 _ rfl; have hx52_1 : w58.cell? ⟨go24, (t274 : Int).toNat * 6 + 1, none⟩ = some (.int .i64 ((qe x22_3 t274).f1)) := hcc52 1 _ rfl; have hx52_2 : w58.cell? ⟨go24, (t274 : Int).toNat * 6 + 2, none⟩ = some (.int .i64 ((qe x22_3 t274).f2)) := hcc52 2 _ rfl; have hx52_3 : w58.cell? ⟨go24, (t274 : Int).toNat * 6 + 3, none⟩ = some (.int .i64 ((qe x22_3 t274).f3)) := hcc52 3 _ rfl; have hx52_4 : w58.cell? ⟨go24, (t274 : Int).toNat * 6 + 4, none⟩ = some (.int .i64 ((qe x22_3 t274).f4)) := hcc52 4 _ rfl; have hx52_5 : w58.cell? ⟨go24, (t274 : Int).toNat * 6 + 5, none⟩ = some (.int .i64 ((qe x22_3 t274).f5)) := hcc52 5 _ rfl; have hf52_0 : w58.frozen? ⟨go24, (t274 : Int).toNat * 6, none⟩ = false := hfr52 0; have hf52_1 : w58.frozen? ⟨go24, (t274 : Int).toNat * 6 + 1, none⟩ = false := hfr52 1; have hf52_2 : w58.frozen? ⟨go24, (t274 : Int).toNat * 6 + 2, none⟩ = false := hfr52 2; have hf52_3 : w58.frozen? ⟨go24, (t274 : Int).toNat * 6 + 3, none⟩ = false := hfr52 3; have hf52_4 : w58.frozen? ⟨go24, (t274 : Int).toNat * 6 + 4, none⟩ = false := hfr52 4; have hf52_5 : w58.frozen? ⟨go24, (t274 : Int).toNat * 6 + 5, none⟩ = false := hfr52 5; clear hcl52 hcc52 hfr52 hM52; replace p52 := eq_true p52; replace q52 := eq_true q52; have HX59 := Aside0.mk (show Kd.R k31 31 w58 w.heap.size (fun _ => True) (.slice (some ⟨go24, 0, none⟩) x22_3.length co24) x22_3 from (by (with_reducible repeat (first | apply Kd.qB | apply Kd.qC | apply Kd.qF)); exact HO_22.out)); obtain ⟨ce59, hcl59, hM59, hcc59, hfr59⟩ := Kd.qKC HX59.out z31 (t274 : Int) (of_decide_eq_true (by first | (with_reducible assumption) | assumption)) (by have h_ : (t274 : Int) < ((x22_3.length : Int) : Int) := of_decide_eq_true (by first | (with_reducible assumption) | assumption); first | exact h_ | (have e_ := (Kd.qO HO_22.out).1; omega) | simpa using h_); obtain rfl := qEB hM59; have HP59 := Kd.R_seg HX59.out (t274 : Int) (of_decide_eq_true (by first | (with_reducible assumption) | assumption)) (by have h_ : (t274 : Int) < ((x22_3.length : Int) : Int) := of_decide_eq_true (by first | (with_reducible assumption) | assumption); first | exact h_ | (have e_ := (Kd.qO HO_22.out).1; omega) | simpa using h_) (seg := [.int .i64 t278, .int .i64 t279, .int .i64 t280, .int .i64 t281, .int .i64 t282, .int .i64 t283]) (j := 0) hcl59 hcc59 (show 6 ≤ 6 from by decide) (x' := (⟨t278, t279, t280, t281, t282, t283⟩ : S31)) (qRC _ _ _ (⟨t278, t279, t280, t281, t282, t283⟩ : S31) ) (fun _ hk => hk); have hx59_0 := hcc59 0 _ rfl; (try simp only [show (k31).sz = 6 from rfl, Nat.mul_one, Nat.add_zero] at hx59_0); have hf59_0 := hfr59 0; (try simp only [show (k31).sz = 6 from rfl, Nat.mul_one, Nat.add_zero] at hf59_0); have hx59_1 := hcc59 1 _ rfl; (try simp only [show (k31).sz = 6 from rfl, Nat.mul_one, Nat.add_zero] at hx59_1); have hf59_1 := hfr59 1; (try simp only [show (k31).sz = 6 from rfl, Nat.mul_one, Nat.add_zero] at hf59_1); have hx59_2 := hcc59 2 _ rfl; (try simp only [show (k31).sz = 6 from rfl, Nat.mul_one, Nat.add_zero] at hx59_2); have hf59_2 := hfr59 2; (try simp only [show (k31).sz = 6 from rfl, Nat.mul_one, Nat.add_zero] at hf59_2); have hx59_3 := hcc59 3 _ rfl; (try simp only [show (k31).sz = 6 from rfl, Nat.mul_one, Nat.add_zero] at hx59_3); have hf59_3 := hfr59 3; (try simp only [show (k31).sz = 6 from rfl, Nat.mul_one, Nat.add_zero] at hf59_3); have hx59_4 := hcc59 4 _ rfl; (try simp only [show (k31).sz = 6 from rfl, Nat.mul_one, Nat.add_zero] at hx59_4); have hf59_4 := hfr59 4; (try simp only [show (k31).sz = 6 from rfl, Nat.mul_one, Nat.add_zero] at hf59_4); have hx59_5 := hcc59 5 _ rfl; (try simp only [show (k31).sz = 6 from rfl, Nat.mul_one, Nat.add_zero] at hx59_5); have hf59_5 := hfr59 5; (try simp only [show (k31).sz = 6 from rfl, Nat.mul_one, Nat.add_zero] at hf59_5); clear hcl59 hcc59 hfr59 hM59) | ((with_reducible refine qeA (t := 31) (p := 86) rfl ?_); refine qXA (t := 31) (p := 86) (v := ?vo_w60) (w1 := ((((((w58.setCell ⟨go24, (t274 : Int).toNat * 6, none⟩ (.int .i64 t278)).setCell ⟨go24, (t274 : Int).toNat * 6 + 1, none⟩ (.int .i64 t279)).setCell ⟨go24, (t274 : Int).toNat * 6 + 2, none⟩ (.int .i64 t280)).setCell ⟨go24, (t274 : Int).toNat * 6 + 3, none⟩ (.int .i64 t281)).setCell ⟨go24, (t274 : Int).toNat * 6 + 4, none⟩ (.int .i64 t282)).setCell ⟨go24, (t274 : Int).toNat * 6 + 5, none⟩ (.int .i64 t283))) ?hg ?ho ?hn ?hr ?_; (case ho => rfl); (case hg => rfl); (case hn => rfl); (case hr => first | (go_simp; done) | (go_simp; rfl)); intro w60 hw; have hg : w58.grownBy w60 (some go24) := (by rw [hw]; exact HP59.2); have hp_ : Kd.R k31 31 w60 w.heap.size (fun _ => True) (.slice (some ⟨go24, 0, none⟩) x22_3.length co24) y284 := (by rw [hw, Ny284.out]; exact HP59.1); clear HP59; have n0_ := Aside0.mk (Kd.qTA (v := (.slice (some ⟨go24, 0, none⟩) x22_3.length co24)) (by (with_reducible repeat (first | apply Kd.qB | apply Kd.qC | apply Kd.qF)); exact HO_8.out) (Kd.qw HO_22.out) (by decide) hg); have n1_ := Aside0.mk (Kd.qTA (v := (.slice (some ⟨go24, 0, none⟩) x22_3.length co24)) (by (with_reducible repeat (first | apply Kd.qB | apply Kd.qC | apply Kd.qF)); exact HO_18.out) (Kd.qw HO_22.out) (by decide) hg); have n2_ := Aside0.mk (hp_); have n3_ := Aside0.mk (Kd.qTA (v := (.slice (some ⟨go24, 0, none⟩) x22_3.length co24)) (by (with_reducible repeat (first | apply Kd.qB | apply Kd.qC | apply Kd.qF)); exact HO_33.out) (Kd.qw HO_22.out) (by decide) hg); have n4_ := Aside0.mk (qaA (g := gb248) (o := .cells #[.int .i64 a0_0, .int .i64 a0_1, .slice A0_2 l0_2.length c0_2] 45 (0, 0)) (by (with_reducible repeat (first | refine qE ?_ _ | refine qG ?_ | refine qD ?_ _)); exact BK248.out) hg (Kd.R_ne HO_22.out BK248.out (by decide))); have n5_ := Aside0.mk ((by rw [hw]; exact qk (qk (qk (qk (qk (qk (HB.out) GB24.out) GB24.out) GB24.out) GB24.out) GB24.out) GB24.out : Below w.heap.size w w60)); clear HO_8; clear HO_18; clear HO_22; clear HO_33; clear BK248; clear HB; have HO_8 := n0_; have HO_18 := n1_; have HO_22 := n2_; have HO_33 := n3_; have BK248 := n4_; have HB := n5_; clear n0_ n1_ n2_ n3_ n4_ n5_; clear hg hw hp_; have p285 : 0 ≤ (t274 : Int) := of_decide_eq_true (by first | (with_reducible assumption) | assumption); have q285 : t274 < (y284.length : Int) := (by have h_ : (t274 : Int) < ((x22_3.length : Int) : Int) := of_decide_eq_true (by first | (with_reducible assumption) | assumption); first | (have e_ := (Kd.qO HO_22.out).1; omega) | simpa only [Ny284.out, List.length_set] using h_); have ql285 : ((t274 : Int) < ((x22_3.length : Int) : Int)) = True := eq_true (of_decide_eq_true (by first | (with_reducible assumption) | assumption)); obtain ⟨ad285, e285, hx285_0, hx285_1, hx285_2, hx285_3, hx285_4, hx285_5⟩ := qyC (Kd.qO HO_22.out).2.2 t274 p285 q285; obtain rfl : (⟨go24, 0, none⟩ : Addr) = ad285 := (by injection e285); (first | simp only [qy] at hx285_0 | simp only [qlA] at hx285_0 | simp only [Addr.add, Nat.zero_add] at hx285_0 | skip); (first | simp only [qy] at hx285_1 | simp only [qlA] at hx285_1 | simp only [Addr.add, Nat.zero_add] at hx285_1 | skip); (first | simp only [qy] at hx285_2 | simp only [qlA] at hx285_2 | simp only [Addr.add, Nat.zero_add] at hx285_2 | skip); (first | simp only [qy] at hx285_3 | simp only [qlA] at hx285_3 | simp only [Addr.add, Nat.zero_add] at hx285_3 | skip); (first | simp only [qy] at hx285_4 | simp only [qlA] at hx285_4 | simp only [Addr.add, Nat.zero_add] at hx285_4 | skip); (first | simp only [qy] at hx285_5 | simp only [qlA] at hx285_5 | simp only [Addr.add, Nat.zero_add] at hx285_5 | skip); replace p285 := eq_true p285; replace q285 := eq_true q285; have p53 : 0 ≤ (t274 : Int) := of_decide_eq_true (by first | (with_reducible assumption) | assumption); have q53 : (t274 : Int) < ((x18_3.length : Int) : Int) := of_decide_eq_true (by first | (with_reducible assumption) | assumption); obtain ⟨hx53_0, hf53_0⟩ := Kd.qnA 0 HO_18.out (t274 : Int) p53 q53; replace p53 := eq_true p53; replace q53 := eq_true q53; obtain ⟨hy61_, hz61_⟩ := Kd.qnA 0 HO_18.out (t274 : Int) (of_decide_eq_true (by first | (with_reducible assumption) | assumption)) (of_decide_eq_true (by first | (with_reducible assumption) | assumption)); have HP61 := Kd.qoB HO_18.out (t274 : Int) ((qe y284 t274).f5)) | ((with_reducible refine qeA (t := 3) (p := 94) rfl ?_); refine qXA (t := 3) (p := 94) (v := ?vo_w62) (w1 := (w60.setCell ⟨go26, (t274 : Int).toNat, none⟩ (.int .i64 ((qe y284 t274).f5)))) ?hg ?ho ?hn ?hr ?_; (case ho => rfl); (case hg => rfl); (case hn => rfl); (case hr => first | (go_simp; done) | (go_simp; rfl)); intro w62 hw; have hg : w60.grownBy w62 (some go26) := (by rw [hw]; exact HP61.2); have hp_ : Kd.R (Kd.int .i64) 3 w62 w.heap.size (fun k_ => some k_ ≠ (.slice (some ad273) x8_3.length co56 : Value).ownBlock ∧ some k_ ≠ (.slice (some ad259) t256.length co30 : Value).ownBlock) (.slice (some ⟨go26, 0, none⟩) x18_3.length co12) y286 := (by rw [hw, Ny286.out]; exact HP61.1); clear HP61; have n0_ := Aside0.mk (Kd.qxA (v := (.slice (some ⟨go26, 0, none⟩) x18_3.length co12)) (v1 := (.slice (some ⟨go26, 0, none⟩) x18_3.length co12)) (ok := (fun k_ => some k_ ≠ (.slice (some ad259) t256.length co30 : Value).ownBlock)) (by (with_reducible repeat (first | apply Kd.qB | apply Kd.qC | apply Kd.qF)); exact Kd.qX HO_8.out (fun _ hk => ⟨hk.2, hk.1⟩)) hg (.inl rfl)); have n1_ := Aside0.mk (hp_); have n2_ := Aside0.mk (Kd.qTA (v := (.slice (some ⟨go26, 0, none⟩) x18_3.length co12)) (by (with_reducible repeat (first | apply Kd.qB | apply Kd.qC | apply Kd.qF)); exact HO_22.out) (Kd.qw HO_18.out) (by decide) hg); have n3_ := Aside0.mk (Kd.qxA (v := (.slice (some ⟨go26, 0, none⟩) x18_3.length co12)) (v1 := (.slice (some ⟨go26, 0, none⟩) x18_3.length co12)) (ok := (fun k_ => some k_ ≠ (.slice (some ad273) x8_3.length co56 : Value).ownBlock)) (by (with_reducible repeat (first | apply Kd.qB | apply Kd.qC | apply Kd.qF)); exact HO_33.out) hg (.inl rfl)); have n4_ := Aside0.mk (qaA (g := gb248) (o := .cells #[.int .i64 a0_0, .int .i64 a0_1, .slice A0_2 l0_2.length c0_2] 45 (0, 0)) (by (with_reducible repeat (first | refine qE ?_ _ | refine qG ?_ | refine qD ?_ _)); exact BK248.out) hg (Kd.R_ne HO_18.out BK248.out (by decide))); have n5_ := Aside0.mk ((by rw [hw]; exact qk (HB.out) GB26.out : Below w.heap.size w w62)); clear HO_8; clear HO_18; clear HO_22; clear HO_33; clear BK248; clear HB; have HO_8 := n0_; have HO_18 := n1_; have HO_22 := n2_; have HO_33 := n3_; have BK248 := n4_; have HB := n5_; clear n0_ n1_ n2_ n3_ n4_ n5_; clear hg hw hp_) | ((with_reducible refine qZB (b := .append) (xs := #[.tmp 95, .tmp 97]) rfl ?_); at_builtin; refine Kd.qWC (Kd.int .i64) (w0 := w) w.heap.size rfl (.tmp 95) (.tmp 97) 25 3 (.int .i64 0) 8 rfl Tryd.underlying25 info3 rfl (by decide) (by omega) (.slice (some ad273) x8_3.length co56) x8_3 t274 [.int .i64 t274] (fun k_ => some k_ ≠ (.slice (some ⟨go26, 0, none⟩) x18_3.length co12 : Value).ownBlock ∧ some k_ ≠ (.slice (some ad259) t256.length co30 : Value).ownBlock) (fun _ => False) rfl rfl ?aP (fun _ hk => hk.elim) ?aF ?aO ?aB ?aS ?aL ?_; (case aP => exact rfl); (case aB => exact bl); (case aF => exact (fun k_ hk => ⟨Kd.fresh' (Kd.R_lt (by (with_reducible repeat (first | apply Kd.qB | apply Kd.qC | apply Kd.qF)); exact HO_18.out)) k_ hk, Kd.fresh' (Kd.R_lt (by (with_reducible repeat (first | apply Kd.qB | apply Kd.qC | apply Kd.qF)); exact HO_33.out)) k_ hk⟩)); (case aO => exact (by (with_reducible repeat (first | apply Kd.qB | apply Kd.qC | apply Kd.qF)); exact Kd.qX HO_8.out (fun _ hk => ⟨hk.2, hk.1⟩))); (case aS => exact (qY bl)); (case aL => have := LMc54.out; omega); intro v288 w63 ho hb hg hat; rw [← Ny287.out] at ho; have n0_ := Aside0.mk (Kd.qxA (ok := (fun k_ => some k_ ≠ (.slice (some ad259) t256.length co30 : Value).ownBlock)) (by (with_reducible repeat (first | apply Kd.qB | apply Kd.qC | apply Kd.qF)); exact Kd.qX HO_18.out (fun _ hk => ⟨hk.2, hk.1⟩)) hg hat); have n1_ := Aside0.mk (Kd.qTA (by (with_reducible repeat (first | apply Kd.qB | apply Kd.qC | apply Kd.qF)); exact HO_22.out) (Kd.qw (by (with_reducible repeat (first | apply Kd.qB | apply Kd.qC | apply Kd.qF)); exact HO_8.out)) (by decide) hg); have n2_ := Aside0.mk (Kd.qxA (ok := (fun k_ => some k_ ≠ (.slice (some ⟨go26, 0, none⟩) x18_3.length co12 : Value).ownBlock)) (by (with_reducible repeat (first | apply Kd.qB | apply Kd.qC | apply Kd.qF)); exact Kd.qX HO_33.out (fun _ hk => ⟨hk.2, hk.1⟩)) hg hat); have n3_ := Aside0.mk (qaA (g := gb248) (o := .cells #[.int .i64 a0_0, .int .i64 a0_1, .slice A0_2 l0_2.length c0_2] 45 (0, 0)) (by (with_reducible repeat (first | refine qE ?_ _ | refine qG ?_ | refine qD ?_ _)); exact BK248.out) hg (Kd.R_ne HO_8.out BK248.out (by decide))); have n4_ := Aside0.mk (hb); have n5_ := Aside0.mk (ho); clear HO_18; clear HO_22; clear HO_33; clear BK248; clear HB; clear HO_8; have HO_18 := n0_; have HO_22 := n1_; have HO_33 := n2_; have BK248 := n3_; have HB := n4_; have HO289 := n5_; clear n0_ n1_ n2_ n3_ n4_ n5_; clear ho hb hg hat))
                           (try simp only [← hl18_3, ← hl22_3])
                           go_roundg k3
                           case measure => have := HK1.out; have := HK2.out; have := HK3.out; omega
                           case rel => exact ⟨(y287), (wrap64 (x10_3 + 1)), (y286), (y284), (by first | rfl | (simp; done) | (simp [*]; done)), H', ⟨by have := HK1.out; have := HK2.out; have := HK3.out; omega⟩, ⟨by (try simp only [hl18_1]); (try simp only [hl18_2]); (try simp only [hl22_2]); (try simp only [hl18_3]); (try simp only [hl22_3]); (with_reducible repeat (first | apply Kd.qB | apply Kd.qC | apply Kd.qF)); exact HO289.out⟩, ⟨by (try simp only [hl18_1]); (try simp only [hl18_2]); (try simp only [hl22_2]); (try simp only [hl18_3]); (try simp only [hl22_3]); (with_reducible repeat (first | apply Kd.qB | apply Kd.qC | apply Kd.qF)); exact Kd.qX HO_18.out (fun _ hk => ⟨hk.2, hk.1⟩)⟩, ⟨by (try simp only [hl18_1]); (try simp only [hl18_2]); (try simp only [hl22_2]); (try simp only [hl18_3]); (try simp only [hl22_3]); (with_reducible repeat (first | apply Kd.qB | apply Kd.qC | apply Kd.qF)); exact HO_22.out⟩, ⟨by (try simp only [hl18_1]); (try simp only [hl18_2]); (try simp only [hl22_2]); (try simp only [hl18_3]); (try simp only [hl22_3]); (with_reducible repeat (first | apply Kd.qB | apply Kd.qC | apply Kd.qF)); exact Kd.qX HO_33.out (fun _ hk => ⟨hk.2, hk.1⟩)⟩, ⟨by (try simp only [hl18_1]); (try simp only [hl18_2]); (try simp only [hl22_2]); (try simp only [hl18_3]); (try simp only [hl22_3]); (with_reducible repeat (first | refine qE ?_ _ | refine qG ?_ | refine qD ?_ _)); exact BK248.out⟩, ⟨bl⟩⟩
                          ·rw [if_neg c54] at H
                           exact absurd H (by simp)
                         ·rw [if_neg c51] at H
                          exact absurd H (by simp)
                        ·rw [if_neg c49] at H
                         exact absurd H (by simp)
                       ·rw [if_neg c48] at H
                        exact absurd H (by simp)
                      ·rw [if_neg c47] at H
                       have c47b0 : decide ((rd x18_3 t274) < 0) = false := decide_eq_false c47
                       clear c47
                       have H' := Aside0.mk H
                       clear H
                       try go_wp2
                       have n0_ := Aside0.mk (Kd.qF HO_8.out)
                       have n1_ := Aside0.mk (Kd.qF HO_18.out)
                       have n2_ := Aside0.mk (Kd.qF HO_22.out)
                       have n3_ := Aside0.mk (Kd.qF HO_33.out)
                       have n4_ := Aside0.mk (qG BK248.out)
                       have n5_ := Aside0.mk (qg HB.out)
                       clear HO_8
                       clear HO_18
                       clear HO_22
                       clear HO_33
                       clear BK248
                       clear HB
                       have HO_8 := n0_
                       have HO_18 := n1_
                       have HO_22 := n2_
                       have HO_33 := n3_
                       have BK248 := n4_
                       have HB := n5_
                       clear n0_ n1_ n2_ n3_ n4_ n5_
                       obtain ⟨Ao65, co65, eo65⟩ := Kd.qn HO_8.out
                       (first | subst eo65 | (injection eo65 with f1_ f2_ f3_; have f4_ := f1_.symm; have f5_ := f3_.symm; clear f1_ f2_ f3_; subst f4_; subst f5_))
                       have p273 : 0 ≤ (x9_2 : Int) := of_decide_eq_true (by first | (with_reducible assumption) | assumption)
                       have q273 : x9_2 < (x8_3.length : Int) := of_decide_eq_true (by first | (with_reducible assumption) | assumption)
                       obtain ⟨ad273, e273, hx273_0⟩ := Kd.qFA (Kd.qO HO_8.out).2.2 x9_2 p273 q273
                       cases e273
                       replace p273 := eq_true p273
                       replace q273 := eq_true q273
                       refine qsA (n := 8) (S := fun w' => w'.cell? ⟨gb248, 0, none⟩ = some (.int .i64 a0_0) ∧ w'.cell? ⟨gb248, 1, none⟩ = some (.int .i64 a0_1) ∧ w'.cell? ⟨gb248, 2, none⟩ = some (.slice A0_2 l0_2.length c0_2) ∧ w'.cell? (ad273.add (x9_2).toNat) = some (.int .i64 (rd x8_3 x9_2))) (ds := []) #[false, false, false, false, false, false, false, false] (by kernel_rfl) rfl rfl ⟨(qm BK248.out 0).trans rfl, (qm BK248.out 1).trans rfl, (qm BK248.out 2).trans rfl, hx273_0⟩ (fun hHeld => ?_); refine qRA qJ.tab18 qJ.bits18 (fun HT_ HW_ => ?_)
                       generalize wr.drew = w64 at HO_8 HO_18 HO_22 HO_33 BK248 HB hx273_0 hHeld ⊢
                       refine pS (i := 1) (N := some 60) #[false, true, false, false, false, false, false, false] HT_ ?_
                       refine pS (i := 2) (N := some 61) #[false, true, true, false, false, false, false, false] HT_ ?_
                       refine pS (i := 3) (N := some 62) #[false, true, true, true, false, false, false, false] HT_ ?_
                       refine pS (i := 5) (N := some 64) #[false, true, true, true, false, true, false, false] HT_ ?_
                       refine tS (i := 0) (N := some 59) #[true, true, true, true, false, true, false, false] HT_ HW_ hHeld ?_
                       refine tS (i := 4) (N := some 63) #[true, true, true, true, true, true, false, false] HT_ HW_ hHeld ?_
                       refine one_ (i := 6) (N := some 65) #[true, true, true, true, true, true, true, false] rfl rfl (qdA HT_.out (by kernel_rfl)) (by decide) (fun K hK => ?_)
                       refine goes_ Tryd.func42 (by kernel_rfl) rfl #[.agg #[.int .i64 a0_0, .int .i64 a0_1, .slice A0_2 l0_2.length c0_2], .int .i64 (rd x8_3 x9_2), .int .i64 x10_3] (by rfl) rfl rfl (by (try simp only [List.map_toArray, List.map_cons, List.map_nil]); first | done | rfl | (simp only [List.length_drop, List.length_take]; rfl)) ?_
                       with_reducible refine (qVA.calls a0_0 a0_1 _ _ l0_2 (rd x8_3 x9_2) x10_3 t274 _ ?side1 ?side2 A43.out).mono ?_
                       (case side1 => repeat (first | exact (Kd.qrA HR0_2.out HB.out) | (with_reducible refine Kd.qMA ?_ _) | (with_reducible refine Kd.qLA ?_ _) | (with_reducible refine Kd.qcA ?_)))
                       (case side2 => exact HC0_2.out)
                       rintro e w66 ⟨rfl, hb⟩
                       have HS3_ := (hb.cell (World.block_lt_of_cell? _ _ (hHeld.2.2.2))).trans (hHeld.2.2.2)
                       refine ⟨_, rfl, ?_⟩
                       have n0_ := Aside0.mk (Kd.qS (by (with_reducible repeat (first | apply Kd.qB | apply Kd.qC | apply Kd.qF)); exact HO_8.out) hb)
                       have n1_ := Aside0.mk (Kd.qS (by (with_reducible repeat (first | apply Kd.qB | apply Kd.qC | apply Kd.qF)); exact HO_18.out) hb)
                       have n2_ := Aside0.mk (Kd.qS (by (with_reducible repeat (first | apply Kd.qB | apply Kd.qC | apply Kd.qF)); exact HO_22.out) hb)
                       have n3_ := Aside0.mk (Kd.qS (by (with_reducible repeat (first | apply Kd.qB | apply Kd.qC | apply Kd.qF)); exact HO_33.out) hb)
                       have n4_ := Aside0.mk (bb BK248 hb)
                       have n5_ := Aside0.mk (qK bl hb)
                       clear HO_8
                       clear HO_18
                       clear HO_22
                       clear HO_33
                       clear BK248
                       clear HB
                       have HO_8 := n0_
                       have HO_18 := n1_
                       have HO_22 := n2_
                       have HO_33 := n3_
                       have BK248 := n4_
                       have HB := n5_
                       clear n0_ n1_ n2_ n3_ n4_ n5_
                       (try clear hb)
                       (try clear hb2)
                       (try clear hk)
                       (try clear hi)
                       refine hK.out _ _ ⟨(qm BK248.out 0).trans rfl, (qm BK248.out 1).trans rfl, (qm BK248.out 2).trans rfl, HS3_⟩ (fun hHeld => ?_)
                       clear hK K
                       refine norm_ (a' := ?_) ?_ ?_
                       rotate_left
                       ·show Act.put _ (some 65) _ = _
                        simp only [Act.put, List.setIfInBounds_toArray, List.set_cons_zero, List.set_cons_succ, i64_w, i32_w]
                        rfl
                       refine pS (i := 7) (N := some 11) #[true, true, true, true, true, true, true, true] HT_ ?_
                       refine done_ (qwA HT_.out (by kernel_rfl)) ?_
                       have p275 : 0 ≤ (t274 : Int) := of_decide_eq_true (by first | (with_reducible assumption) | assumption)
                       have q275 : t274 < (x18_3.length : Int) := of_decide_eq_true (by first | (with_reducible assumption) | assumption)
                       obtain ⟨ad275, e275, hx275_0⟩ := Kd.qFA (Kd.qO HO_18.out).2.2 t274 p275 q275
                       obtain rfl : (⟨go26, 0, none⟩ : Addr) = ad275 := (by injection e275)
                       (first | simp only [qy] at hx275_0 | simp only [qlA] at hx275_0 | simp only [Addr.add, Nat.zero_add] at hx275_0 | skip)
                       replace p275 := eq_true p275
                       replace q275 := eq_true q275
                       try go_wp2
                       (try simp only [← hl18_3, ← hl22_3])
                       go_roundg k3
                       case measure => have := HK1.out; have := HK2.out; have := HK3.out; omega
                       case rel => exact ⟨(x8_3), (wrap64 (x10_3 + 1)), (x18_3), (x22_3), (by first | rfl | (simp; done) | (simp [*]; done)), H', ⟨by have := HK1.out; have := HK2.out; have := HK3.out; omega⟩, ⟨by (try simp only [hl18_1]); (try simp only [hl18_2]); (try simp only [hl22_2]); (try simp only [hl18_3]); (try simp only [hl22_3]); (with_reducible repeat (first | apply Kd.qB | apply Kd.qC | apply Kd.qF)); exact HO_8.out⟩, ⟨by (try simp only [hl18_1]); (try simp only [hl18_2]); (try simp only [hl22_2]); (try simp only [hl18_3]); (try simp only [hl22_3]); (with_reducible repeat (first | apply Kd.qB | apply Kd.qC | apply Kd.qF)); exact HO_18.out⟩, ⟨by (try simp only [hl18_1]); (try simp only [hl18_2]); (try simp only [hl22_2]); (try simp only [hl18_3]); (try simp only [hl22_3]); (with_reducible repeat (first | apply Kd.qB | apply Kd.qC | apply Kd.qF)); exact HO_22.out⟩, ⟨by (try simp only [hl18_1]); (try simp only [hl18_2]); (try simp only [hl22_2]); (try simp only [hl18_3]); (try simp only [hl22_3]); (with_reducible repeat (first | apply Kd.qB | apply Kd.qC | apply Kd.qF)); exact HO_33.out⟩, ⟨by (try simp only [hl18_1]); (try simp only [hl18_2]); (try simp only [hl22_2]); (try simp only [hl18_3]); (try simp only [hl22_3]); (with_reducible repeat (first | refine qE ?_ _ | refine qG ?_ | refine qD ?_ _)); exact BK248.out⟩, ⟨bl⟩⟩
                     ·rw [if_neg c46] at H
                      exact absurd H (by simp)
                    ·rw [if_neg c45] at H
                     exact absurd H (by simp)
                   ·rw [if_neg c44] at H
                    have c44b0 : decide (0 ≤ t274) = false := decide_eq_false c44
                    clear c44
                    have H' := Aside0.mk H
                    clear H
                    try go_wp2
                    have n0_ := Aside0.mk (Kd.qF HO_8.out)
                    have n1_ := Aside0.mk (Kd.qF HO_18.out)
                    have n2_ := Aside0.mk (Kd.qF HO_22.out)
                    have n3_ := Aside0.mk (Kd.qF HO_33.out)
                    have n4_ := Aside0.mk (qG BK248.out)
                    have n5_ := Aside0.mk (qg HB.out)
                    clear HO_8
                    clear HO_18
                    clear HO_22
                    clear HO_33
                    clear BK248
                    clear HB
                    have HO_8 := n0_
                    have HO_18 := n1_
                    have HO_22 := n2_
                    have HO_33 := n3_
                    have BK248 := n4_
                    have HB := n5_
                    clear n0_ n1_ n2_ n3_ n4_ n5_
                    obtain ⟨Ao68, co68, eo68⟩ := Kd.qn HO_8.out
                    (first | subst eo68 | (injection eo68 with f1_ f2_ f3_; have f4_ := f1_.symm; have f5_ := f3_.symm; clear f1_ f2_ f3_; subst f4_; subst f5_))
                    have p273 : 0 ≤ (x9_2 : Int) := of_decide_eq_true (by first | (with_reducible assumption) | assumption)
                    have q273 : x9_2 < (x8_3.length : Int) := of_decide_eq_true (by first | (with_reducible assumption) | assumption)
                    obtain ⟨ad273, e273, hx273_0⟩ := Kd.qFA (Kd.qO HO_8.out).2.2 x9_2 p273 q273
                    cases e273
                    replace p273 := eq_true p273
                    replace q273 := eq_true q273
                    refine qsA (n := 8) (S := fun w' => w'.cell? ⟨gb248, 0, none⟩ = some (.int .i64 a0_0) ∧ w'.cell? ⟨gb248, 1, none⟩ = some (.int .i64 a0_1) ∧ w'.cell? ⟨gb248, 2, none⟩ = some (.slice A0_2 l0_2.length c0_2) ∧ w'.cell? (ad273.add (x9_2).toNat) = some (.int .i64 (rd x8_3 x9_2))) (ds := []) #[false, false, false, false, false, false, false, false] (by kernel_rfl) rfl rfl ⟨(qm BK248.out 0).trans rfl, (qm BK248.out 1).trans rfl, (qm BK248.out 2).trans rfl, hx273_0⟩ (fun hHeld => ?_); refine qRA qJ.tab18 qJ.bits18 (fun HT_ HW_ => ?_)
                    generalize wr.drew = w67 at HO_8 HO_18 HO_22 HO_33 BK248 HB hx273_0 hHeld ⊢
                    refine pS (i := 1) (N := some 60) #[false, true, false, false, false, false, false, false] HT_ ?_
                    refine pS (i := 2) (N := some 61) #[false, true, true, false, false, false, false, false] HT_ ?_
                    refine pS (i := 3) (N := some 62) #[false, true, true, true, false, false, false, false] HT_ ?_
                    refine pS (i := 5) (N := some 64) #[false, true, true, true, false, true, false, false] HT_ ?_
                    refine tS (i := 0) (N := some 59) #[true, true, true, true, false, true, false, false] HT_ HW_ hHeld ?_
                    refine tS (i := 4) (N := some 63) #[true, true, true, true, true, true, false, false] HT_ HW_ hHeld ?_
                    refine one_ (i := 6) (N := some 65) #[true, true, true, true, true, true, true, false] rfl rfl (qdA HT_.out (by kernel_rfl)) (by decide) (fun K hK => ?_)
                    refine goes_ Tryd.func42 (by kernel_rfl) rfl #[.agg #[.int .i64 a0_0, .int .i64 a0_1, .slice A0_2 l0_2.length c0_2], .int .i64 (rd x8_3 x9_2), .int .i64 x10_3] (by rfl) rfl rfl (by (try simp only [List.map_toArray, List.map_cons, List.map_nil]); first | done | rfl | (simp only [List.length_drop, List.length_take]; rfl)) ?_
                    with_reducible refine (qVA.calls a0_0 a0_1 _ _ l0_2 (rd x8_3 x9_2) x10_3 t274 _ ?side1 ?side2 A43.out).mono ?_
                    (case side1 => repeat (first | exact (Kd.qrA HR0_2.out HB.out) | (with_reducible refine Kd.qMA ?_ _) | (with_reducible refine Kd.qLA ?_ _) | (with_reducible refine Kd.qcA ?_)))
                    (case side2 => exact HC0_2.out)
                    rintro e w69 ⟨rfl, hb⟩
                    have HS3_ := (hb.cell (World.block_lt_of_cell? _ _ (hHeld.2.2.2))).trans (hHeld.2.2.2)
                    refine ⟨_, rfl, ?_⟩
                    have n0_ := Aside0.mk (Kd.qS (by (with_reducible repeat (first | apply Kd.qB | apply Kd.qC | apply Kd.qF)); exact HO_8.out) hb)
                    have n1_ := Aside0.mk (Kd.qS (by (with_reducible repeat (first | apply Kd.qB | apply Kd.qC | apply Kd.qF)); exact HO_18.out) hb)
                    have n2_ := Aside0.mk (Kd.qS (by (with_reducible repeat (first | apply Kd.qB | apply Kd.qC | apply Kd.qF)); exact HO_22.out) hb)
                    have n3_ := Aside0.mk (Kd.qS (by (with_reducible repeat (first | apply Kd.qB | apply Kd.qC | apply Kd.qF)); exact HO_33.out) hb)
                    have n4_ := Aside0.mk (bb BK248 hb)
                    have n5_ := Aside0.mk (qK bl hb)
                    clear HO_8
                    clear HO_18
                    clear HO_22
                    clear HO_33
                    clear BK248
                    clear HB
                    have HO_8 := n0_
                    have HO_18 := n1_
                    have HO_22 := n2_
                    have HO_33 := n3_
                    have BK248 := n4_
                    have HB := n5_
                    clear n0_ n1_ n2_ n3_ n4_ n5_
                    (try clear hb)
                    (try clear hb2)
                    (try clear hk)
                    (try clear hi)
                    refine hK.out _ _ ⟨(qm BK248.out 0).trans rfl, (qm BK248.out 1).trans rfl, (qm BK248.out 2).trans rfl, HS3_⟩ (fun hHeld => ?_)
                    clear hK K
                    refine norm_ (a' := ?_) ?_ ?_
                    rotate_left
                    ·show Act.put _ (some 65) _ = _
                     simp only [Act.put, List.setIfInBounds_toArray, List.set_cons_zero, List.set_cons_succ, i64_w, i32_w]
                     rfl
                    refine pS (i := 7) (N := some 11) #[true, true, true, true, true, true, true, true] HT_ ?_
                    refine done_ (qwA HT_.out (by kernel_rfl)) ?_
                    try go_wp2
                    (try simp only [← hl18_3, ← hl22_3])
                    go_roundg k3
                    case measure => have := HK1.out; have := HK2.out; have := HK3.out; omega
                    case rel => exact ⟨(x8_3), (wrap64 (x10_3 + 1)), (x18_3), (x22_3), (by first | rfl | (simp; done) | (simp [*]; done)), H', ⟨by have := HK1.out; have := HK2.out; have := HK3.out; omega⟩, ⟨by (try simp only [hl18_1]); (try simp only [hl18_2]); (try simp only [hl22_2]); (try simp only [hl18_3]); (try simp only [hl22_3]); (with_reducible repeat (first | apply Kd.qB | apply Kd.qC | apply Kd.qF)); exact HO_8.out⟩, ⟨by (try simp only [hl18_1]); (try simp only [hl18_2]); (try simp only [hl22_2]); (try simp only [hl18_3]); (try simp only [hl22_3]); (with_reducible repeat (first | apply Kd.qB | apply Kd.qC | apply Kd.qF)); exact HO_18.out⟩, ⟨by (try simp only [hl18_1]); (try simp only [hl18_2]); (try simp only [hl22_2]); (try simp only [hl18_3]); (try simp only [hl22_3]); (with_reducible repeat (first | apply Kd.qB | apply Kd.qC | apply Kd.qF)); exact HO_22.out⟩, ⟨by (try simp only [hl18_1]); (try simp only [hl18_2]); (try simp only [hl22_2]); (try simp only [hl18_3]); (try simp only [hl22_3]); (with_reducible repeat (first | apply Kd.qB | apply Kd.qC | apply Kd.qF)); exact HO_33.out⟩, ⟨by (try simp only [hl18_1]); (try simp only [hl18_2]); (try simp only [hl22_2]); (try simp only [hl18_3]); (try simp only [hl22_3]); (with_reducible repeat (first | refine qE ?_ _ | refine qG ?_ | refine qD ?_ _)); exact BK248.out⟩, ⟨bl⟩⟩
                  ·rw [if_neg c42] at H
                   exact absurd H (by simp)
                 ·rw [if_neg c41] at H
                  exact absurd H (by simp)
                ·rw [if_neg c40] at H
                 have c40b0 : decide (x10_3 < 4) = false := decide_eq_false c40
                 clear c40
                 have H' := Aside0.mk H
                 clear H
                 go_wp2
                 (try simp only [← hl18_2, ← hl22_2, ← hl18_3, ← hl22_3])
                 go_roundg k3
                 case measure => have := HK1.out; have := HK2.out; have := HK3.out; omega
                 case rel => exact ⟨(x8_3), (wrap64 (x9_2 + 1)), (x18_3), (x22_3), (by first | rfl | (simp; done) | (simp [*]; done)), H', ⟨by have := HK1.out; have := HK2.out; have := HK3.out; omega⟩, ⟨by (try simp only [hl18_1]); (try simp only [hl18_2]); (try simp only [hl22_2]); (try simp only [hl18_3]); (try simp only [hl22_3]); (with_reducible repeat (first | apply Kd.qB | apply Kd.qC | apply Kd.qF)); exact HO_8.out⟩, ⟨by (try simp only [hl18_1]); (try simp only [hl18_2]); (try simp only [hl22_2]); (try simp only [hl18_3]); (try simp only [hl22_3]); (with_reducible repeat (first | apply Kd.qB | apply Kd.qC | apply Kd.qF)); exact HO_18.out⟩, ⟨by (try simp only [hl18_1]); (try simp only [hl18_2]); (try simp only [hl22_2]); (try simp only [hl18_3]); (try simp only [hl22_3]); (with_reducible repeat (first | apply Kd.qB | apply Kd.qC | apply Kd.qF)); exact HO_22.out⟩, ⟨by (try simp only [hl18_1]); (try simp only [hl18_2]); (try simp only [hl22_2]); (try simp only [hl18_3]); (try simp only [hl22_3]); (with_reducible repeat (first | apply Kd.qB | apply Kd.qC | apply Kd.qF)); exact HO_33.out⟩, ⟨by (try simp only [hl18_1]); (try simp only [hl18_2]); (try simp only [hl22_2]); (try simp only [hl18_3]); (try simp only [hl22_3]); (with_reducible repeat (first | refine qE ?_ _ | refine qG ?_ | refine qD ?_ _)); exact BK248.out⟩, ⟨bl⟩⟩
             ·rw [if_neg c38] at H
              have c38b0 : decide (x9_2 < (x8_2.length : Int)) = false := decide_eq_false c38
              (try (have c38b0_hl18_1 := c38b0; simp only [hl18_1] at c38b0_hl18_1))
              (try (have c38b0_hl18_2 := c38b0; simp only [hl18_2] at c38b0_hl18_2))
              (try (have c38b0_hl22_2 := c38b0; simp only [hl22_2] at c38b0_hl22_2))
              clear c38
              have H' := Aside0.mk H
              clear H
              obtain ⟨Ao70, co70, eo70⟩ := Kd.qn HO_8.out
              subst eo70
              go_wp2
              go_loopg [12, 101] k2 (fun kq v12 v101 w' => ∃ (x12_3 : Int) (x101_3 : Int), v12 = .int .i64 x12_3 ∧ v101 = .int .i64 x101_3 ∧ Aside0 (qJ.l3 kq x12_3 x18_2 t256 (t256.length : Int) x101_3 = some (r1, r2)) ∧ Aside0 (kq ≤ k2) ∧ Aside0 (Kd.R (Kd.int .i64) 3 w' w.heap.size (fun k_ => some k_ ≠ ((.slice (some ad259) t256.length co30) : Value).ownBlock) (.slice (some ⟨go26, 0, none⟩) x18_2.length co12) x18_2) ∧ Aside0 (Kd.R (Kd.int .i64) 3 w' w.heap.size (fun k_ => some k_ ≠ ((.slice (some ⟨go26, 0, none⟩) x18_2.length co12) : Value).ownBlock) (.slice (some ad259) t256.length co30) t256) ∧ Aside0 (w'.heap[gb248]? = some (.cells #[.int .i64 a0_0, .int .i64 a0_1, (.slice A0_2 l0_2.length c0_2)] 45 (0, 0))) ∧ Aside0 (Below w.heap.size w w'))
              case atStart => exact ⟨(0), (0), (by first | rfl | (simp; done) | (simp [*]; done)), (by first | rfl | (simp; done) | (simp [*]; done)), H', ⟨Nat.le_refl _⟩, ⟨by (try simp only [hl18_1]); (try simp only [hl18_2]); (try simp only [hl22_2]); (with_reducible repeat (first | apply Kd.qB | apply Kd.qC | apply Kd.qF)); exact Kd.qX HO_18.out (fun _ hk => hk.2)⟩, ⟨by (try simp only [hl18_1]); (try simp only [hl18_2]); (try simp only [hl22_2]); (with_reducible repeat (first | apply Kd.qB | apply Kd.qC | apply Kd.qF)); exact Kd.qX HO_33.out (fun _ hk => hk.2)⟩, ⟨by (try simp only [hl18_1]); (try simp only [hl18_2]); (try simp only [hl22_2]); (with_reducible repeat (first | refine qE ?_ _ | refine qG ?_ | refine qD ?_ _)); exact BK248.out⟩, ⟨bl⟩⟩
              case round =>
               clear H'
               try clear p1
               try clear q1
               try clear hx1
               try clear p2
               try clear q2
               try clear hx2
               try clear c3
               try clear c4
               try clear c5
               try clear p5
               try clear q5
               try clear hx5
               try clear hf5
               try clear p6
               try clear c7
               try clear p16
               try clear q16
               try clear hx16
               try clear p24
               try clear q24
               try clear hx24
               try clear p25
               try clear q25
               try clear hx25
               try clear p26
               try clear q26
               try clear hx26
               try clear p27
               try clear q27
               try clear hx27
               try clear p28
               try clear q28
               try clear hx28
               try clear c38
               try clear c38b0
               try clear c40
               try clear c40b0
               try clear c41
               try clear c41b0
               try clear c42
               try clear c42b0
               try clear c44
               try clear c44b0
               try clear c45
               try clear c45b0
               try clear c46
               try clear c46b0
               try clear c47
               try clear c47b0
               try clear c48
               try clear c48b0
               try clear c49
               try clear c49b0
               try clear c51
               try clear c51b0
               try clear c52
               try clear p52
               try clear q52
               try clear hx52
               try clear hf52
               try clear p53
               try clear q53
               try clear hx53
               try clear hf53
               try clear c54
               try clear c59
               try clear hx59
               try clear hf59
               try clear p64
               try clear hcz9_1
               try clear hcz9_2
               try clear hfz27_0
               try clear hfz27_1
               try clear hfz27_2
               try clear hfz6_0
               try clear hfz6_1
               try clear hfz6_2
               try clear hfz9_0
               try clear hfz9_1
               try clear hfz9_2
               try clear hx16_0
               try clear hx24_0
               try clear hx24_1
               try clear hx24_2
               try clear hx24_3
               try clear hx24_4
               try clear hx24_5
               try clear hx259_0
               try clear hx267_0
               try clear hx269_0
               try clear hx26_0
               try clear hx273_0
               try clear hx275_0
               try clear hx276_0
               try clear hx277_0
               try clear hx277_1
               try clear hx277_2
               try clear hx277_3
               try clear hx277_4
               try clear hx277_5
               try clear hx285_0
               try clear hx285_1
               try clear hx285_2
               try clear hx285_3
               try clear hx285_4
               try clear hx285_5
               try clear hx52_0
               try clear hx52_1
               try clear hx52_2
               try clear hx52_3
               try clear hx52_4
               try clear hx52_5
               try clear hx53_0
               try clear hx59_0
               try clear hx59_1
               try clear hx59_2
               try clear hx59_3
               try clear hx59_4
               try clear hx59_5
               try clear p1
               try clear p16
               try clear p2
               try clear p24
               try clear p25
               try clear p259
               try clear p26
               try clear p267
               try clear p269
               try clear p273
               try clear p275
               try clear p276
               try clear p277
               try clear p285
               try clear p52
               try clear p53
               try clear p6
               try clear q1
               try clear q16
               try clear q2
               try clear q24
               try clear q25
               try clear q259
               try clear q26
               try clear q267
               try clear q269
               try clear q273
               try clear q275
               try clear q276
               try clear q277
               try clear q285
               try clear q52
               try clear q53
               obtain ⟨x12_3, x101_3, rfl, rfl, HA, HK3, HO_18, HO_33, BK248, HB⟩ := hrel
               cases gk with
               | zero => exact absurd HA.out (by simp [qJ.l3])
               | succ k3 =>
                have H := HA.out
                clear HA
                simp only [qJ.l3] at H
                by_cases c71 : x101_3 < (t256.length : Int)
                ·rw [if_pos c71] at H
                 have c71b0 : decide (x101_3 < (t256.length : Int)) = true := decide_eq_true c71
                 (try (have c71b0_hl18_1 := c71b0; simp only [hl18_1] at c71b0_hl18_1))
                 (try (have c71b0_hl18_2 := c71b0; simp only [hl18_2] at c71b0_hl18_2))
                 (try (have c71b0_hl22_2 := c71b0; simp only [hl22_2] at c71b0_hl22_2))
                 clear c71
                 by_cases c72 : 0 ≤ x101_3
                 ·rw [if_pos c72] at H
                  have c72b0 : decide (0 ≤ x101_3) = true := decide_eq_true c72
                  clear c72
                  by_cases c73 : x101_3 < (t256.length : Int)
                  ·rw [if_pos c73] at H
                   have c73b0 : decide (x101_3 < (t256.length : Int)) = true := decide_eq_true c73
                   (try (have c73b0_hl18_1 := c73b0; simp only [hl18_1] at c73b0_hl18_1))
                   (try (have c73b0_hl18_2 := c73b0; simp only [hl18_2] at c73b0_hl18_2))
                   (try (have c73b0_hl22_2 := c73b0; simp only [hl22_2] at c73b0_hl22_2))
                   clear c73
                   by_cases c74 : 0 ≤ (rd t256 x101_3)
                   ·rw [if_pos c74] at H
                    have c74b0 : decide (0 ≤ (rd t256 x101_3)) = true := decide_eq_true c74
                    clear c74
                    by_cases c75 : (rd t256 x101_3) < (x18_2.length : Int)
                    ·rw [if_pos c75] at H
                     have c75b0 : decide ((rd t256 x101_3) < (x18_2.length : Int)) = true := decide_eq_true c75
                     (try (have c75b0_hl18_1 := c75b0; simp only [hl18_1] at c75b0_hl18_1))
                     (try (have c75b0_hl18_2 := c75b0; simp only [hl18_2] at c75b0_hl18_2))
                     (try (have c75b0_hl22_2 := c75b0; simp only [hl22_2] at c75b0_hl22_2))
                     clear c75
                     by_cases c76 : 0 ≤ (rd x18_2 (rd t256 x101_3))
                     ·rw [if_pos c76] at H
                      have c76b0 := eq_true c76
                      have c76b1 : decide (0 ≤ (rd x18_2 (rd t256 x101_3))) = true := decide_eq_true c76
                      clear c76
                      obtain ⟨ji77, hji77⟩ : ∃ j_ : Int, (shr .i64 x12_3 (rd x18_2 (rd t256 x101_3))) = j_ := ⟨_, rfl⟩
                      replace H : (if (Int.tmod (ji77) 2) = 1 then (some (x18_2, false)) else (qJ.l3 k3 (Go.bits .or .i64 x12_3 (shl .i64 1 (rd x18_2 (rd t256 x101_3)))) x18_2 t256 (t256.length : Int) (wrap64 (x101_3 + 1)))) = some (r1, r2) := by first | (rw [hji77] at H; exact H) | (simp only [hji77] at H ⊢; exact H)
                      have hji77_ : (x12_3 / 2 ^ min (rd x18_2 (rd t256 x101_3)).toNat 64) = ji77 := hji77
                      have hji77z : (rd x18_2 (rd t256 x101_3)) ≤ 64 → (x12_3 / 2 ^ (rd x18_2 (rd t256 x101_3)).toNat) = ji77 := shr_small hji77
                      by_cases c78 : (Int.tmod (ji77) 2) = 1
                      ·rw [if_pos c78] at H
                       have c78b0 : ((Int.tmod (ji77) 2) == 1) = true := beq_iff_eq.mpr c78
                       have c78b1 : ((Int.tmod (ji77) 2) != 1) = false := bne_eq_false_iff_eq.mpr c78
                       clear c78
                       simp only [Option.some.injEq, Prod.mk.injEq] at H
                       obtain ⟨rfl, rfl⟩ := H
                       have p290 : 0 ≤ (x101_3 : Int) := of_decide_eq_true (by first | (with_reducible assumption) | assumption)
                       have q290 : x101_3 < (t256.length : Int) := of_decide_eq_true (by first | (with_reducible assumption) | assumption)
                       obtain ⟨ad290, e290, hx290_0⟩ := Kd.qFA (Kd.qO HO_33.out).2.2 x101_3 p290 q290
                       obtain rfl : ad259 = ad290 := (by injection e290)
                       replace p290 := eq_true p290
                       replace q290 := eq_true q290
                       have p291 : 0 ≤ ((rd t256 x101_3) : Int) := of_decide_eq_true (by first | (with_reducible assumption) | assumption)
                       have q291 : (rd t256 x101_3) < (x18_2.length : Int) := of_decide_eq_true (by first | (with_reducible assumption) | assumption)
                       obtain ⟨ad291, e291, hx291_0⟩ := Kd.qFA (Kd.qO HO_18.out).2.2 (rd t256 x101_3) p291 q291
                       obtain rfl : (⟨go26, 0, none⟩ : Addr) = ad291 := (by injection e291)
                       (first | simp only [qy] at hx291_0 | simp only [qlA] at hx291_0 | simp only [Addr.add, Nat.zero_add] at hx291_0 | skip)
                       replace p291 := eq_true p291
                       replace q291 := eq_true q291
                       go_wp2
                       go_ret2
                       exact ⟨_, by first | rfl | (simp [qQ, qP] <;> rfl) | (simp only [← hji77]; first | rfl | (simp [qQ, qP] <;> rfl)) | (simp [*, qQ, qP] <;> rfl), by (with_reducible repeat (first | apply Kd.qB | apply Kd.qC | apply Kd.qF)); exact Kd.qX HO_18.out (fun _ hk => trivial), bl⟩
                      ·rw [if_neg c78] at H
                       have c78b0 : ((Int.tmod (ji77) 2) == 1) = false := beq_eq_false_iff_ne.mpr c78
                       have c78b1 : ((Int.tmod (ji77) 2) != 1) = true := bne_iff_ne.mpr c78
                       have c79b0 := eq_true (of_decide_eq_true (by first | (with_reducible assumption) | assumption) : 0 ≤ (rd x18_2 (rd t256 x101_3)))
                       obtain ⟨ji80, hji80⟩ : ∃ j_ : Int, (shl .i64 1 (rd x18_2 (rd t256 x101_3))) = j_ := ⟨_, rfl⟩
                       replace H : (qJ.l3 k3 (Go.bits .or .i64 x12_3 (ji80)) x18_2 t256 (t256.length : Int) (wrap64 (x101_3 + 1))) = some (r1, r2) := by first | (rw [hji80] at H; exact H) | (simp only [hji80] at H ⊢; exact H)
                       have hji80_ : (IntKind.i64.wrap (1 * 2 ^ min (rd x18_2 (rd t256 x101_3)).toNat 64)) = ji80 := hji80
                       have hji80z : (rd x18_2 (rd t256 x101_3)) ≤ 64 → (IntKind.i64.wrap (1 * 2 ^ (rd x18_2 (rd t256 x101_3)).toNat)) = ji80 := qkB hji80
                       have hji80u : (IntKind.i64.wrap (2 ^ min (rd x18_2 (rd t256 x101_3)).toNat 64)) = ji80 := by have h_ := hji80_; rw [Int.one_mul] at h_; exact h_
                       have hji80v : (rd x18_2 (rd t256 x101_3)) ≤ 64 → (IntKind.i64.wrap (2 ^ (rd x18_2 (rd t256 x101_3)).toNat)) = ji80 := fun hle_ => by have h_ := hji80z hle_; rw [Int.one_mul] at h_; exact h_
                       have hji80y : (wrap64 (1 * 2 ^ min (rd x18_2 (rd t256 x101_3)).toNat 64)) = ji80 := (i64_w _).symm.trans hji80_
                       have hji80x : (rd x18_2 (rd t256 x101_3)) ≤ 64 → (wrap64 (1 * 2 ^ (rd x18_2 (rd t256 x101_3)).toNat)) = ji80 := fun h_ => (i64_w _).symm.trans (hji80z h_)
                       have H' := Aside0.mk H
                       clear H
                       have p290 : 0 ≤ (x101_3 : Int) := of_decide_eq_true (by first | (with_reducible assumption) | assumption)
                       have q290 : x101_3 < (t256.length : Int) := of_decide_eq_true (by first | (with_reducible assumption) | assumption)
                       obtain ⟨ad290, e290, hx290_0⟩ := Kd.qFA (Kd.qO HO_33.out).2.2 x101_3 p290 q290
                       obtain rfl : ad259 = ad290 := (by injection e290)
                       replace p290 := eq_true p290
                       replace q290 := eq_true q290
                       have p291 : 0 ≤ ((rd t256 x101_3) : Int) := of_decide_eq_true (by first | (with_reducible assumption) | assumption)
                       have q291 : (rd t256 x101_3) < (x18_2.length : Int) := of_decide_eq_true (by first | (with_reducible assumption) | assumption)
                       obtain ⟨ad291, e291, hx291_0⟩ := Kd.qFA (Kd.qO HO_18.out).2.2 (rd t256 x101_3) p291 q291
                       obtain rfl : (⟨go26, 0, none⟩ : Addr) = ad291 := (by injection e291)
                       (first | simp only [qy] at hx291_0 | simp only [qlA] at hx291_0 | simp only [Addr.add, Nat.zero_add] at hx291_0 | skip)
                       replace p291 := eq_true p291
                       replace q291 := eq_true q291
                       have p292 : 0 ≤ ((rd t256 x101_3) : Int) := of_decide_eq_true (by first | (with_reducible assumption) | assumption)
                       have q292 : (rd t256 x101_3) < (x18_2.length : Int) := of_decide_eq_true (by first | (with_reducible assumption) | assumption)
                       obtain ⟨ad292, e292, hx292_0⟩ := Kd.qFA (Kd.qO HO_18.out).2.2 (rd t256 x101_3) p292 q292
                       obtain rfl : (⟨go26, 0, none⟩ : Addr) = ad292 := (by injection e292)
                       (first | simp only [qy] at hx292_0 | simp only [qlA] at hx292_0 | simp only [Addr.add, Nat.zero_add] at hx292_0 | skip)
                       replace p292 := eq_true p292
                       replace q292 := eq_true q292
                       go_wp2
                       go_roundg k3
                       case measure => have := HK1.out; have := HK2.out; have := HK3.out; omega
                       case rel => exact ⟨(Go.bits .or .i64 x12_3 (ji80)), (wrap64 (x101_3 + 1)), (by first | rfl | (simp; done) | (simp only [← hji80] <;> (first | rfl | simp)) | (simp [*]; done)), (by first | rfl | (simp; done) | (simp [*]; done)), H', ⟨by have := HK1.out; have := HK2.out; have := HK3.out; omega⟩, ⟨by (try simp only [hl18_1]); (try simp only [hl18_2]); (try simp only [hl22_2]); (with_reducible repeat (first | apply Kd.qB | apply Kd.qC | apply Kd.qF)); exact HO_18.out⟩, ⟨by (try simp only [hl18_1]); (try simp only [hl18_2]); (try simp only [hl22_2]); (with_reducible repeat (first | apply Kd.qB | apply Kd.qC | apply Kd.qF)); exact HO_33.out⟩, ⟨by (try simp only [hl18_1]); (try simp only [hl18_2]); (try simp only [hl22_2]); (with_reducible repeat (first | refine qE ?_ _ | refine qG ?_ | refine qD ?_ _)); exact BK248.out⟩, ⟨bl⟩⟩
                     ·rw [if_neg c76] at H
                      exact absurd H (by simp)
                    ·rw [if_neg c75] at H
                     exact absurd H (by simp)
                   ·rw [if_neg c74] at H
                    exact absurd H (by simp)
                  ·rw [if_neg c73] at H
                   exact absurd H (by simp)
                 ·rw [if_neg c72] at H
                  exact absurd H (by simp)
                ·rw [if_neg c71] at H
                 have c71b0 : decide (x101_3 < (t256.length : Int)) = false := decide_eq_false c71
                 (try (have c71b0_hl18_1 := c71b0; simp only [hl18_1] at c71b0_hl18_1))
                 (try (have c71b0_hl18_2 := c71b0; simp only [hl18_2] at c71b0_hl18_2))
                 (try (have c71b0_hl22_2 := c71b0; simp only [hl22_2] at c71b0_hl22_2))
                 clear c71
                 simp only [Option.some.injEq, Prod.mk.injEq] at H
                 obtain ⟨rfl, rfl⟩ := H
                 go_wp2
                 go_ret2
                 exact ⟨_, by first | rfl | (simp [qQ, qP] <;> rfl) | (simp [*, qQ, qP] <;> rfl), by (with_reducible repeat (first | apply Kd.qB | apply Kd.qC | apply Kd.qF)); exact Kd.qX HO_18.out (fun _ hk => trivial), bl⟩
          ·rw [if_neg c25] at H
           exact absurd H (by simp)
         ·rw [if_neg c23] at H
          exact absurd H (by simp)
        ·rw [if_neg c22] at H
         exact absurd H (by simp)
       ·rw [if_neg c20] at H
        exact absurd H (by simp)
   ·rw [if_neg c4] at H
    exact absurd H (by simp)
  ·rw [if_neg c3] at H
   exact absurd H (by simp)
 ·rw [if_neg c2] at H
  exact absurd H (by simp)
def qBB.f (k : Nat) (a0 : ByteArray) : Option (Int × Int × List Int × List Int × Bool) := (qR.f k a0 false).bind fun bt294 => (if bt294.2.2.2 = true then ((qh.f k bt294.1 bt294.2.1 bt294.2.2.1).bind fun t301 => (if t301 = true then ((qJ.f k bt294.1 bt294.2.1 bt294.2.2.1).bind fun bt302 => (some (bt294.1, bt294.2.1, bt294.2.2.1, bt302.1, bt302.2))) else (some (bt294.1, bt294.2.1, bt294.2.2.1, ([] : List Int), false)))) else (some (bt294.1, bt294.2.1, bt294.2.2.1, ([] : List Int), false)))
set_option maxHeartbeats 8000000 in
set_option maxRecDepth 100000 in
theorem qBB.calls (k : Nat) (a0 : ByteArray) (r1 : Int) (r2 : Int) (r3 : List Int) (r4 : List Int) (r5 : Bool) (w : World) (h : qBB.f k a0 = some (r1, r2, r3, r4, r5)) :
  Calls Tryd.prog 34 #[.string a0] w fun e w' => ∃ v2_ v3_ : Value, e = .returned (.tuple #[.agg #[.int .i64 r1, .int .i64 r2, v2_], v3_, .bool r5]) ∧ Kd.R (Kd.int .u8) 5 w' w.heap.size (fun _ => True) v2_ r3 ∧ Kd.R (Kd.int .i64) 3 w' w.heap.size (fun _ => True) v3_ r4 ∧ Below w.heap.size w w' := by
 have hu45 := Tryd.underlying45
 have HB := Aside0.mk (Below.refl w.heap.size w)
 have H : ((qR.f k a0 false).bind fun bt294 => (if bt294.2.2.2 = true then ((qh.f k bt294.1 bt294.2.1 bt294.2.2.1).bind fun t301 => (if t301 = true then ((qJ.f k bt294.1 bt294.2.1 bt294.2.2.1).bind fun bt302 => (some (bt294.1, bt294.2.1, bt294.2.2.1, bt302.1, bt302.2))) else (some (bt294.1, bt294.2.1, bt294.2.2.1, ([] : List Int), false)))) else (some (bt294.1, bt294.2.1, bt294.2.2.1, ([] : List Int), false)))) = some (r1, r2, r3, r4, r5) := h
 clear h
 replace H := Option.bind_eq_some_iff.mp H
 obtain ⟨⟨t294, t295, t296, t299⟩, A20, H⟩ := H
 replace H : (if t299 = true then ((qh.f k t294 t295 t296).bind fun t301 => (if t301 = true then ((qJ.f k t294 t295 t296).bind fun bt302 => (some (t294, t295, t296, bt302.1, bt302.2))) else (some (t294, t295, t296, ([] : List Int), false)))) else (some (t294, t295, t296, ([] : List Int), false))) = some (r1, r2, r3, r4, r5) := H
 have A2 := Aside0.mk A20
 clear A20
 by_cases c3 : t299 = true
 ·subst c3
  have H1 : ((qh.f k t294 t295 t296).bind fun t301 => (if t301 = true then ((qJ.f k t294 t295 t296).bind fun bt302 => (some (t294, t295, t296, bt302.1, bt302.2))) else (some (t294, t295, t296, ([] : List Int), false)))) = some (r1, r2, r3, r4, r5) := by rw [if_pos rfl] at H; exact H
  clear H
  have H := H1
  clear H1
  replace H := Option.bind_eq_some_iff.mp H
  obtain ⟨t301, A40, H⟩ := H
  replace H : (if t301 = true then ((qJ.f k t294 t295 t296).bind fun bt302 => (some (t294, t295, t296, bt302.1, bt302.2))) else (some (t294, t295, t296, ([] : List Int), false))) = some (r1, r2, r3, r4, r5) := H
  have A4 := Aside0.mk A40
  clear A40
  by_cases c5 : t301 = true
  ·subst c5
   have H1 : ((qJ.f k t294 t295 t296).bind fun bt302 => (some (t294, t295, t296, bt302.1, bt302.2))) = some (r1, r2, r3, r4, r5) := by rw [if_pos rfl] at H; exact H
   clear H
   have H := H1
   clear H1
   replace H := Option.bind_eq_some_iff.mp H
   obtain ⟨⟨t302, t305⟩, A60, H⟩ := H
   replace H : (some (t294, t295, t296, t302, t305)) = some (r1, r2, r3, r4, r5) := H
   have A6 := Aside0.mk A60
   clear A60
   simp only [Option.some.injEq, Prod.mk.injEq] at H
   obtain ⟨rfl, rfl, rfl, rfl, rfl⟩ := H
   go_enter Tryd.func34, Tryd.ntmps34
   go_wp2_with (first | ((with_reducible refine qa (N := 2) rfl ?_); refine qb ?hg (N := 2) ?hd (cs := #[.int .i64 0, .int .i64 0, .slice none 0 0]) (t := 45) ?hr ?_; (case hd => rfl); (case hg => rfl); (case hr => first | (go_simp; done) | (go_simp; rfl)); intro gb293 hg w7 hbox hb; have n0_ := Aside0.mk (qK bl hb); have n1_ := Aside0.mk (hbox); have n2_ := Aside0.mk ((gg hg)); have n3_ := Aside0.mk ((gg hg)); clear HB; have HB := n0_; have BK293 := n1_; have GW293 := n2_; have GE293 := n3_; clear n0_ n1_ n2_ n3_; clear hb hbox hg) | ((with_reducible refine qZ (f := 31) rfl ?_); refine qPA (some 11) rfl rfl Tryd.func31 (by kernel_rfl) rfl #[.string a0, .bool false] rfl (by (try simp only [List.map_toArray, List.map_cons, List.map_nil]); first | done | rfl | (simp only [List.length_drop, List.length_take]; rfl)) ?_; (with_reducible refine (qR.calls k a0 false t294 t295 t296 true _ A2.out).mono ?_); rintro e w8 ⟨v297, rfl, ho0, hb⟩; refine ⟨_, rfl, ?_⟩; have n0_ := Aside0.mk (Kd.qu ho0 (qY bl)); have n1_ := Aside0.mk (bb BK293 hb); have n2_ := Aside0.mk (qK bl hb); clear BK293; clear HB; have HO298 := n0_; have BK293 := n1_; have HB := n2_; clear n0_ n1_ n2_; (try clear hb); (try clear hb2); (try clear hk); (try clear hi); (try clear ho0)) | ((with_reducible refine qa (N := 5) rfl ?_); refine qb ?hg (N := 5) ?hd (cs := #[.int .i64 0, .int .i64 0, .slice none 0 0]) (t := 45) ?hr ?_; (case hd => rfl); (case hg => rfl); (case hr => first | (go_simp; done) | (go_simp; rfl)); intro gb300 hg w9 hbox hb; have n0_ := Aside0.mk (Kd.qS (by (with_reducible repeat (first | apply Kd.qB | apply Kd.qC | apply Kd.qF)); exact HO298.out) hb); have n1_ := Aside0.mk (bb BK293 hb); have n2_ := Aside0.mk (qK bl hb); have n3_ := Aside0.mk (hbox); have n4_ := Aside0.mk ((gg hg)); have n5_ := Aside0.mk ((gg hg)); have n6_ := Aside0.mk ((nl BK293 hg)); have n7_ := Aside0.mk ((nr BK293 hg)); clear HO298; clear BK293; clear HB; have HO298 := n0_; have BK293 := n1_; have HB := n2_; have BK300 := n3_; have GW300 := n4_; have GE300 := n5_; have NB293_300 := n6_; have NB300_293 := n7_; clear n0_ n1_ n2_ n3_ n4_ n5_ n6_ n7_; clear hb hbox hg; have hnb10 := NB300_293.out; have hnc10 := NB293_300.out; have hcz11_0 := bc BK300 0; have hcz11_1 := bc BK300 1; have hcz11_2 := bc BK300 2; have hfz11_0 := qA BK300.out 0; have hfz11_1 := qA BK300.out 1; have hfz11_2 := qA BK300.out 2; obtain ⟨Ao12, co12, eo12⟩ := Kd.qn HO298.out; subst eo12) | (go_at_call 32; (with_reducible refine (qh.calls k t294 t295 _ _ t296 true _ ?side1 ?side2 A4.out).mono ?_); (case side1 => refine (Kd.qO (e := 5) (base := w.heap.size) (ok := fun k_ => True) (n := t296.length) (c := co12) ?_).2.2; exact (by (with_reducible repeat (first | apply Kd.qB | apply Kd.qC | apply Kd.qF)); exact (Kd.qX (Kd.R_far (p := ⟨gb300, 2, none⟩) (Kd.R_far (p := ⟨gb300, 1, none⟩) (Kd.R_far (p := ⟨gb300, 0, none⟩) (Kd.qKA HO298.out BK300.out (by decide)) (fun _ hk => hk.2) (.int .i64 t294)) (fun _ hk => hk.2) (.int .i64 t295)) (fun _ hk => hk.2) (.slice Ao12 t296.length co12)) (fun _ h_ => h_.1)))); (case side2 => exact (Kd.qO HO298.out).2.1); rintro e w13 ⟨rfl, hb⟩; have n0_ := Aside0.mk (Kd.qS (by (with_reducible repeat (first | apply Kd.qB | apply Kd.qC | apply Kd.qF)); exact (Kd.qX (Kd.R_far (p := ⟨gb300, 2, none⟩) (Kd.R_far (p := ⟨gb300, 1, none⟩) (Kd.R_far (p := ⟨gb300, 0, none⟩) (Kd.qKA HO298.out BK300.out (by decide)) (fun _ hk => hk.2) (.int .i64 t294)) (fun _ hk => hk.2) (.int .i64 t295)) (fun _ hk => hk.2) (.slice Ao12 t296.length co12)) (fun _ h_ => h_.1))) hb); have n1_ := Aside0.mk (qbB (g := gb293) (o := .cells #[.int .i64 0, .int .i64 0, .slice none 0 0] 45 (0, 0)) (by (with_reducible repeat (first | refine qE ?_ _ | refine qG ?_ | refine qD ?_ _)); refine qIA ?_ NB293_300.out _; (with_reducible repeat (first | refine qE ?_ _ | refine qG ?_ | refine qD ?_ _)); refine qIA ?_ NB293_300.out _; (with_reducible repeat (first | refine qE ?_ _ | refine qG ?_ | refine qD ?_ _)); refine qIA ?_ NB293_300.out _; (with_reducible repeat (first | refine qE ?_ _ | refine qG ?_ | refine qD ?_ _)); exact BK293.out) hb); have n2_ := Aside0.mk (qbB (g := gb300) (o := .cells #[.int .i64 t294, .int .i64 t295, .slice Ao12 t296.length co12] 45 (0, 0)) (by (with_reducible repeat (first | refine qE ?_ _ | refine qG ?_ | refine qD ?_ _)); refine qV (cs := #[.int .i64 t294, .int .i64 t295, .slice none 0 0]) ?_ 2 _ rfl; (with_reducible repeat (first | refine qE ?_ _ | refine qG ?_ | refine qD ?_ _)); refine qV (cs := #[.int .i64 t294, .int .i64 0, .slice none 0 0]) ?_ 1 _ rfl; (with_reducible repeat (first | refine qE ?_ _ | refine qG ?_ | refine qD ?_ _)); refine qV (cs := #[.int .i64 0, .int .i64 0, .slice none 0 0]) ?_ 0 _ rfl; (with_reducible repeat (first | refine qE ?_ _ | refine qG ?_ | refine qD ?_ _)); exact BK300.out) hb); have n3_ := Aside0.mk (qK bl hb); clear HO298; clear BK293; clear BK300; clear HB; have HO298 := n0_; have BK293 := n1_; have BK300 := n2_; have HB := n3_; clear n0_ n1_ n2_ n3_; (try clear hb); (try clear hb2); (try clear hk); (try clear hi); have hcz14_0 := bc BK300 0; have hcz14_1 := bc BK300 1; have hcz14_2 := bc BK300 2; have hfz14_0 := qA BK300.out 0; have hfz14_1 := qA BK300.out 1; have hfz14_2 := qA BK300.out 2) | ((with_reducible refine qZ (f := 50) rfl ?_); refine qPA (some 24) rfl rfl Tryd.func50 (by kernel_rfl) rfl #[.agg #[.int .i64 t294, .int .i64 t295, .slice Ao12 t296.length co12]] rfl (by (try simp only [List.map_toArray, List.map_cons, List.map_nil]); first | done | rfl | (simp only [List.length_drop, List.length_take]; rfl)) ?_; (with_reducible refine (qJ.calls k t294 t295 _ _ t296 t302 t305 _ ?side1 ?side2 A6.out).mono ?_); (case side1 => repeat (first | exact (Kd.qO HO298.out).2.2 | (with_reducible refine Kd.qMA ?_ _) | (with_reducible refine Kd.qLA ?_ _) | (with_reducible refine Kd.qcA ?_))); (case side2 => exact (Kd.qO HO298.out).2.1); rintro e w15 ⟨v303, rfl, ho0, hb⟩; refine ⟨_, rfl, ?_⟩; have n0_ := Aside0.mk (Kd.qS (by (with_reducible repeat (first | apply Kd.qB | apply Kd.qC | apply Kd.qF)); exact HO298.out) hb); have n1_ := Aside0.mk (Kd.qu ho0 (qY bl)); have n2_ := Aside0.mk (bb BK293 hb); have n3_ := Aside0.mk (bb BK300 hb); have n4_ := Aside0.mk (qK bl hb); clear HO298; clear BK293; clear BK300; clear HB; have HO298 := n0_; have HO304 := n1_; have BK293 := n2_; have BK300 := n3_; have HB := n4_; clear n0_ n1_ n2_ n3_ n4_; (try clear hb); (try clear hb2); (try clear hk); (try clear hi); (try clear ho0); have hcz16_0 := bc BK300 0; have hcz16_1 := bc BK300 1; have hcz16_2 := bc BK300 2; have hfz16_0 := qA BK300.out 0; have hfz16_1 := qA BK300.out 1; have hfz16_2 := qA BK300.out 2; have hcz17_0 := bc BK293 0; have hcz17_1 := bc BK293 1; have hcz17_2 := bc BK293 2; have hfz17_0 := qA BK293.out 0; have hfz17_1 := qA BK293.out 1; have hfz17_2 := qA BK293.out 2))
   refine bodyPost_ret (qxB rfl _ _ gb293 45 #[.int .i64 t294, .int .i64 t295, .slice Ao12 t296.length co12] (0, 0) _ rfl (by (with_reducible repeat (first | refine qE ?_ _ | refine qG ?_ | refine qD ?_ _)); refine qV (cs := #[.int .i64 t294, .int .i64 t295, .slice none 0 0]) ?_ 2 _ rfl; (with_reducible repeat (first | refine qE ?_ _ | refine qG ?_ | refine qD ?_ _)); refine qV (cs := #[.int .i64 t294, .int .i64 0, .slice none 0 0]) ?_ 1 _ rfl; (with_reducible repeat (first | refine qE ?_ _ | refine qG ?_ | refine qD ?_ _)); refine qV (cs := #[.int .i64 0, .int .i64 0, .slice none 0 0]) ?_ 0 _ rfl; (with_reducible repeat (first | refine qE ?_ _ | refine qG ?_ | refine qD ?_ _)); exact BK293.out) Tryd.underlying45 rfl (by kernel_rfl)) rfl ?_
   exact ⟨_, _, by first | rfl | (simp [qQ, qP] <;> rfl) | (simp [*, qQ, qP] <;> rfl), by (with_reducible repeat (first | apply Kd.qB | apply Kd.qC | apply Kd.qF)); exact Kd.qX (Kd.R_far (p := ⟨gb293, 2, none⟩) (Kd.R_far (p := ⟨gb293, 1, none⟩) (Kd.R_far (p := ⟨gb293, 0, none⟩) (Kd.qKA HO298.out BK293.out (by decide)) (fun _ hk => hk.2) (.int .i64 t294)) (fun _ hk => hk.2) (.int .i64 t295)) (fun _ hk => hk.2) (.slice Ao12 t296.length co12)) (fun _ hk => trivial), by (with_reducible repeat (first | apply Kd.qB | apply Kd.qC | apply Kd.qF)); exact Kd.qX (Kd.R_far (p := ⟨gb293, 2, none⟩) (Kd.R_far (p := ⟨gb293, 1, none⟩) (Kd.R_far (p := ⟨gb293, 0, none⟩) (Kd.qKA HO304.out BK293.out (by decide)) (fun _ hk => hk.2) (.int .i64 t294)) (fun _ hk => hk.2) (.int .i64 t295)) (fun _ hk => hk.2) (.slice Ao12 t296.length co12)) (fun _ hk => trivial), bl⟩
  ·replace c5 := Bool.eq_false_iff.mpr c5
   subst c5
   have H1 : (some (t294, t295, t296, ([] : List Int), false)) = some (r1, r2, r3, r4, r5) := by rw [if_neg (show ¬ (false = true) by decide)] at H; exact H
   clear H
   have H := H1
   clear H1
   simp only [Option.some.injEq, Prod.mk.injEq] at H
   obtain ⟨rfl, rfl, rfl, rfl, rfl⟩ := H
   go_enter Tryd.func34, Tryd.ntmps34
   go_wp2_with (first | ((with_reducible refine qa (N := 2) rfl ?_); refine qb ?hg (N := 2) ?hd (cs := #[.int .i64 0, .int .i64 0, .slice none 0 0]) (t := 45) ?hr ?_; (case hd => rfl); (case hg => rfl); (case hr => first | (go_simp; done) | (go_simp; rfl)); intro gb293 hg w18 hbox hb; have n0_ := Aside0.mk (qK bl hb); have n1_ := Aside0.mk (hbox); have n2_ := Aside0.mk ((gg hg)); have n3_ := Aside0.mk ((gg hg)); clear HB; have HB := n0_; have BK293 := n1_; have GW293 := n2_; have GE293 := n3_; clear n0_ n1_ n2_ n3_; clear hb hbox hg) | ((with_reducible refine qZ (f := 31) rfl ?_); refine qPA (some 11) rfl rfl Tryd.func31 (by kernel_rfl) rfl #[.string a0, .bool false] rfl (by (try simp only [List.map_toArray, List.map_cons, List.map_nil]); first | done | rfl | (simp only [List.length_drop, List.length_take]; rfl)) ?_; (with_reducible refine (qR.calls k a0 false t294 t295 t296 true _ A2.out).mono ?_); rintro e w19 ⟨v297, rfl, ho0, hb⟩; refine ⟨_, rfl, ?_⟩; have n0_ := Aside0.mk (Kd.qu ho0 (qY bl)); have n1_ := Aside0.mk (bb BK293 hb); have n2_ := Aside0.mk (qK bl hb); clear BK293; clear HB; have HO298 := n0_; have BK293 := n1_; have HB := n2_; clear n0_ n1_ n2_; (try clear hb); (try clear hb2); (try clear hk); (try clear hi); (try clear ho0)) | ((with_reducible refine qa (N := 5) rfl ?_); refine qb ?hg (N := 5) ?hd (cs := #[.int .i64 0, .int .i64 0, .slice none 0 0]) (t := 45) ?hr ?_; (case hd => rfl); (case hg => rfl); (case hr => first | (go_simp; done) | (go_simp; rfl)); intro gb300 hg w20 hbox hb; have n0_ := Aside0.mk (Kd.qS (by (with_reducible repeat (first | apply Kd.qB | apply Kd.qC | apply Kd.qF)); exact HO298.out) hb); have n1_ := Aside0.mk (bb BK293 hb); have n2_ := Aside0.mk (qK bl hb); have n3_ := Aside0.mk (hbox); have n4_ := Aside0.mk ((gg hg)); have n5_ := Aside0.mk ((gg hg)); have n6_ := Aside0.mk ((nl BK293 hg)); have n7_ := Aside0.mk ((nr BK293 hg)); clear HO298; clear BK293; clear HB; have HO298 := n0_; have BK293 := n1_; have HB := n2_; have BK300 := n3_; have GW300 := n4_; have GE300 := n5_; have NB293_300 := n6_; have NB300_293 := n7_; clear n0_ n1_ n2_ n3_ n4_ n5_ n6_ n7_; clear hb hbox hg; have hnb21 := NB300_293.out; have hnc21 := NB293_300.out; have hcz22_0 := bc BK300 0; have hcz22_1 := bc BK300 1; have hcz22_2 := bc BK300 2; have hfz22_0 := qA BK300.out 0; have hfz22_1 := qA BK300.out 1; have hfz22_2 := qA BK300.out 2; obtain ⟨Ao23, co23, eo23⟩ := Kd.qn HO298.out; subst eo23) | (go_at_call 32; (with_reducible refine (qh.calls k t294 t295 _ _ t296 false _ ?side1 ?side2 A4.out).mono ?_); (case side1 => refine (Kd.qO (e := 5) (base := w.heap.size) (ok := fun k_ => True) (n := t296.length) (c := co23) ?_).2.2; exact (by (with_reducible repeat (first | apply Kd.qB | apply Kd.qC | apply Kd.qF)); exact (Kd.qX (Kd.R_far (p := ⟨gb300, 2, none⟩) (Kd.R_far (p := ⟨gb300, 1, none⟩) (Kd.R_far (p := ⟨gb300, 0, none⟩) (Kd.qKA HO298.out BK300.out (by decide)) (fun _ hk => hk.2) (.int .i64 t294)) (fun _ hk => hk.2) (.int .i64 t295)) (fun _ hk => hk.2) (.slice Ao23 t296.length co23)) (fun _ h_ => h_.1)))); (case side2 => exact (Kd.qO HO298.out).2.1); rintro e w24 ⟨rfl, hb⟩; have n0_ := Aside0.mk (Kd.qS (by (with_reducible repeat (first | apply Kd.qB | apply Kd.qC | apply Kd.qF)); exact (Kd.qX (Kd.R_far (p := ⟨gb300, 2, none⟩) (Kd.R_far (p := ⟨gb300, 1, none⟩) (Kd.R_far (p := ⟨gb300, 0, none⟩) (Kd.qKA HO298.out BK300.out (by decide)) (fun _ hk => hk.2) (.int .i64 t294)) (fun _ hk => hk.2) (.int .i64 t295)) (fun _ hk => hk.2) (.slice Ao23 t296.length co23)) (fun _ h_ => h_.1))) hb); have n1_ := Aside0.mk (qbB (g := gb293) (o := .cells #[.int .i64 0, .int .i64 0, .slice none 0 0] 45 (0, 0)) (by (with_reducible repeat (first | refine qE ?_ _ | refine qG ?_ | refine qD ?_ _)); refine qIA ?_ NB293_300.out _; (with_reducible repeat (first | refine qE ?_ _ | refine qG ?_ | refine qD ?_ _)); refine qIA ?_ NB293_300.out _; (with_reducible repeat (first | refine qE ?_ _ | refine qG ?_ | refine qD ?_ _)); refine qIA ?_ NB293_300.out _; (with_reducible repeat (first | refine qE ?_ _ | refine qG ?_ | refine qD ?_ _)); exact BK293.out) hb); have n2_ := Aside0.mk (qbB (g := gb300) (o := .cells #[.int .i64 t294, .int .i64 t295, .slice Ao23 t296.length co23] 45 (0, 0)) (by (with_reducible repeat (first | refine qE ?_ _ | refine qG ?_ | refine qD ?_ _)); refine qV (cs := #[.int .i64 t294, .int .i64 t295, .slice none 0 0]) ?_ 2 _ rfl; (with_reducible repeat (first | refine qE ?_ _ | refine qG ?_ | refine qD ?_ _)); refine qV (cs := #[.int .i64 t294, .int .i64 0, .slice none 0 0]) ?_ 1 _ rfl; (with_reducible repeat (first | refine qE ?_ _ | refine qG ?_ | refine qD ?_ _)); refine qV (cs := #[.int .i64 0, .int .i64 0, .slice none 0 0]) ?_ 0 _ rfl; (with_reducible repeat (first | refine qE ?_ _ | refine qG ?_ | refine qD ?_ _)); exact BK300.out) hb); have n3_ := Aside0.mk (qK bl hb); clear HO298; clear BK293; clear BK300; clear HB; have HO298 := n0_; have BK293 := n1_; have BK300 := n2_; have HB := n3_; clear n0_ n1_ n2_ n3_; (try clear hb); (try clear hb2); (try clear hk); (try clear hi); have hcz25_0 := bc BK300 0; have hcz25_1 := bc BK300 1; have hcz25_2 := bc BK300 2; have hfz25_0 := qA BK300.out 0; have hfz25_1 := qA BK300.out 1; have hfz25_2 := qA BK300.out 2; have hcz26_0 := bc BK293 0; have hcz26_1 := bc BK293 1; have hcz26_2 := bc BK293 2; have hfz26_0 := qA BK293.out 0; have hfz26_1 := qA BK293.out 1; have hfz26_2 := qA BK293.out 2))
   refine bodyPost_ret (qxB rfl _ _ gb293 45 #[.int .i64 t294, .int .i64 t295, .slice Ao23 t296.length co23] (0, 0) _ rfl (by (with_reducible repeat (first | refine qE ?_ _ | refine qG ?_ | refine qD ?_ _)); refine qV (cs := #[.int .i64 t294, .int .i64 t295, .slice none 0 0]) ?_ 2 _ rfl; (with_reducible repeat (first | refine qE ?_ _ | refine qG ?_ | refine qD ?_ _)); refine qV (cs := #[.int .i64 t294, .int .i64 0, .slice none 0 0]) ?_ 1 _ rfl; (with_reducible repeat (first | refine qE ?_ _ | refine qG ?_ | refine qD ?_ _)); refine qV (cs := #[.int .i64 0, .int .i64 0, .slice none 0 0]) ?_ 0 _ rfl; (with_reducible repeat (first | refine qE ?_ _ | refine qG ?_ | refine qD ?_ _)); exact BK293.out) Tryd.underlying45 rfl (by kernel_rfl)) rfl ?_
   exact ⟨_, _, by first | rfl | (simp [qQ, qP] <;> rfl) | (simp [*, qQ, qP] <;> rfl), by (with_reducible repeat (first | apply Kd.qB | apply Kd.qC | apply Kd.qF)); exact Kd.qX (Kd.R_far (p := ⟨gb293, 2, none⟩) (Kd.R_far (p := ⟨gb293, 1, none⟩) (Kd.R_far (p := ⟨gb293, 0, none⟩) (Kd.qKA HO298.out BK293.out (by decide)) (fun _ hk => hk.2) (.int .i64 t294)) (fun _ hk => hk.2) (.int .i64 t295)) (fun _ hk => hk.2) (.slice Ao23 t296.length co23)) (fun _ hk => trivial), by first | exact Kd.R_nil _ _ _ _ _ | exact Kd.N_nil _ _ _ _ _ | exact Kd.V_nil _ _ _ _ _ | exact Kd.Q_nil _ _ _ _ _ | exact Kd.S_nil _ _ _ _ _, bl⟩
 ·replace c3 := Bool.eq_false_iff.mpr c3
  subst c3
  have H1 : (some (t294, t295, t296, ([] : List Int), false)) = some (r1, r2, r3, r4, r5) := by rw [if_neg (show ¬ (false = true) by decide)] at H; exact H
  clear H
  have H := H1
  clear H1
  simp only [Option.some.injEq, Prod.mk.injEq] at H
  obtain ⟨rfl, rfl, rfl, rfl, rfl⟩ := H
  go_enter Tryd.func34, Tryd.ntmps34
  go_wp2_with (first | ((with_reducible refine qa (N := 2) rfl ?_); refine qb ?hg (N := 2) ?hd (cs := #[.int .i64 0, .int .i64 0, .slice none 0 0]) (t := 45) ?hr ?_; (case hd => rfl); (case hg => rfl); (case hr => first | (go_simp; done) | (go_simp; rfl)); intro gb293 hg w27 hbox hb; have n0_ := Aside0.mk (qK bl hb); have n1_ := Aside0.mk (hbox); have n2_ := Aside0.mk ((gg hg)); have n3_ := Aside0.mk ((gg hg)); clear HB; have HB := n0_; have BK293 := n1_; have GW293 := n2_; have GE293 := n3_; clear n0_ n1_ n2_ n3_; clear hb hbox hg) | ((with_reducible refine qZ (f := 31) rfl ?_); refine qPA (some 11) rfl rfl Tryd.func31 (by kernel_rfl) rfl #[.string a0, .bool false] rfl (by (try simp only [List.map_toArray, List.map_cons, List.map_nil]); first | done | rfl | (simp only [List.length_drop, List.length_take]; rfl)) ?_; (with_reducible refine (qR.calls k a0 false t294 t295 t296 false _ A2.out).mono ?_); rintro e w28 ⟨v297, rfl, ho0, hb⟩; refine ⟨_, rfl, ?_⟩; have n0_ := Aside0.mk (Kd.qu ho0 (qY bl)); have n1_ := Aside0.mk (bb BK293 hb); have n2_ := Aside0.mk (qK bl hb); clear BK293; clear HB; have HO298 := n0_; have BK293 := n1_; have HB := n2_; clear n0_ n1_ n2_; (try clear hb); (try clear hb2); (try clear hk); (try clear hi); (try clear ho0)) | ((with_reducible refine qa (N := 5) rfl ?_); refine qb ?hg (N := 5) ?hd (cs := #[.int .i64 0, .int .i64 0, .slice none 0 0]) (t := 45) ?hr ?_; (case hd => rfl); (case hg => rfl); (case hr => first | (go_simp; done) | (go_simp; rfl)); intro gb300 hg w29 hbox hb; have n0_ := Aside0.mk (Kd.qS (by (with_reducible repeat (first | apply Kd.qB | apply Kd.qC | apply Kd.qF)); exact HO298.out) hb); have n1_ := Aside0.mk (bb BK293 hb); have n2_ := Aside0.mk (qK bl hb); have n3_ := Aside0.mk (hbox); have n4_ := Aside0.mk ((gg hg)); have n5_ := Aside0.mk ((gg hg)); have n6_ := Aside0.mk ((nl BK293 hg)); have n7_ := Aside0.mk ((nr BK293 hg)); clear HO298; clear BK293; clear HB; have HO298 := n0_; have BK293 := n1_; have HB := n2_; have BK300 := n3_; have GW300 := n4_; have GE300 := n5_; have NB293_300 := n6_; have NB300_293 := n7_; clear n0_ n1_ n2_ n3_ n4_ n5_ n6_ n7_; clear hb hbox hg; have hnb30 := NB300_293.out; have hnc30 := NB293_300.out; have hcz31_0 := bc BK300 0; have hcz31_1 := bc BK300 1; have hcz31_2 := bc BK300 2; have hfz31_0 := qA BK300.out 0; have hfz31_1 := qA BK300.out 1; have hfz31_2 := qA BK300.out 2; obtain ⟨Ao32, co32, eo32⟩ := Kd.qn HO298.out; subst eo32; have hcz33_0 := bc BK293 0; have hcz33_1 := bc BK293 1; have hcz33_2 := bc BK293 2; have hfz33_0 := qA BK293.out 0; have hfz33_1 := qA BK293.out 1; have hfz33_2 := qA BK293.out 2))
  refine bodyPost_ret (qxB rfl _ _ gb293 45 #[.int .i64 t294, .int .i64 t295, .slice Ao32 t296.length co32] (0, 0) _ rfl (by (with_reducible repeat (first | refine qE ?_ _ | refine qG ?_ | refine qD ?_ _)); refine qV (cs := #[.int .i64 t294, .int .i64 t295, .slice none 0 0]) ?_ 2 _ rfl; (with_reducible repeat (first | refine qE ?_ _ | refine qG ?_ | refine qD ?_ _)); refine qV (cs := #[.int .i64 t294, .int .i64 0, .slice none 0 0]) ?_ 1 _ rfl; (with_reducible repeat (first | refine qE ?_ _ | refine qG ?_ | refine qD ?_ _)); refine qV (cs := #[.int .i64 0, .int .i64 0, .slice none 0 0]) ?_ 0 _ rfl; (with_reducible repeat (first | refine qE ?_ _ | refine qG ?_ | refine qD ?_ _)); refine qIA ?_ NB293_300.out _; (with_reducible repeat (first | refine qE ?_ _ | refine qG ?_ | refine qD ?_ _)); refine qIA ?_ NB293_300.out _; (with_reducible repeat (first | refine qE ?_ _ | refine qG ?_ | refine qD ?_ _)); refine qIA ?_ NB293_300.out _; (with_reducible repeat (first | refine qE ?_ _ | refine qG ?_ | refine qD ?_ _)); exact BK293.out) Tryd.underlying45 rfl (by kernel_rfl)) rfl ?_
  exact ⟨_, _, by first | rfl | (simp [qQ, qP] <;> rfl) | (simp [*, qQ, qP] <;> rfl), by (with_reducible repeat (first | apply Kd.qB | apply Kd.qC | apply Kd.qF)); exact Kd.qX (Kd.R_far (p := ⟨gb293, 2, none⟩) (Kd.R_far (p := ⟨gb293, 1, none⟩) (Kd.R_far (p := ⟨gb293, 0, none⟩) (Kd.R_far (p := ⟨gb300, 2, none⟩) (Kd.R_far (p := ⟨gb300, 1, none⟩) (Kd.R_far (p := ⟨gb300, 0, none⟩) (Kd.qKA (Kd.qKA HO298.out BK300.out (by decide)) BK293.out (by decide)) (fun _ hk => hk.1.2) (.int .i64 t294)) (fun _ hk => hk.1.2) (.int .i64 t295)) (fun _ hk => hk.1.2) (.slice Ao32 t296.length co32)) (fun _ hk => hk.2) (.int .i64 t294)) (fun _ hk => hk.2) (.int .i64 t295)) (fun _ hk => hk.2) (.slice Ao32 t296.length co32)) (fun _ hk => trivial), by first | exact Kd.R_nil _ _ _ _ _ | exact Kd.N_nil _ _ _ _ _ | exact Kd.V_nil _ _ _ _ _ | exact Kd.Q_nil _ _ _ _ _ | exact Kd.S_nil _ _ _ _ _, bl⟩
def qYA.f (a0 : Int) : Option (ByteArray) := if 0 ≤ a0 then (if a0 ≤ (wrap64 (a0 + 1)) then (if (wrap64 (a0 + 1)) ≤ 6 then (some ((⟨#[116, 110, 101, 115, 119, 98]⟩ : ByteArray).extract (a0 : Int).toNat ((wrap64 (a0 + 1)) : Int).toNat)) else (none)) else (none)) else (none)
set_option maxHeartbeats 8000000 in
set_option maxRecDepth 100000 in
theorem qYA.calls (a0 : Int) (r : ByteArray) (w : World) (h : qYA.f a0 = some r) :
  Calls Tryd.prog 37 #[.int .i64 a0] w fun e w' => e = .returned (.string r) ∧ Drawn0 w w' := by
 have H : (if 0 ≤ a0 then (if a0 ≤ (wrap64 (a0 + 1)) then (if (wrap64 (a0 + 1)) ≤ 6 then (some ((⟨#[116, 110, 101, 115, 119, 98]⟩ : ByteArray).extract (a0 : Int).toNat ((wrap64 (a0 + 1)) : Int).toNat)) else (none)) else (none)) else (none)) = some r := h
 clear h
 by_cases c2 : 0 ≤ a0
 ·rw [if_pos c2] at H
  have c2b0 := eq_true c2
  have c2b1 : decide (0 ≤ a0) = true := decide_eq_true c2
  clear c2
  by_cases c3 : a0 ≤ (wrap64 (a0 + 1))
  ·rw [if_pos c3] at H
   have c3b0 := eq_true c3
   have c3b1 : decide (a0 ≤ (wrap64 (a0 + 1))) = true := decide_eq_true c3
   by_cases c4 : (wrap64 (a0 + 1)) ≤ 6
   ·rw [if_pos c4] at H
    have c4b0 := eq_true c4
    have c4b1 : decide ((wrap64 (a0 + 1)) ≤ 6) = true := decide_eq_true c4
    obtain rfl := Option.some.inj H
    go_enter Tryd.func37, Tryd.ntmps37
    go_wp2
    go_ret
    exact ⟨by first | rfl | (simp; done) | (simp [*]; done), by repeat (first | exact Drawn0.refl _ | apply Drawn0.step)⟩
   ·rw [if_neg c4] at H
    exact absurd H (by simp)
  ·rw [if_neg c3] at H
   exact absurd H (by simp)
 ·rw [if_neg c2] at H
  exact absurd H (by simp)
mutual
def qU.l0 : Nat → List ByteArray → List Int → List Int → Int → Int → Int → Int → List Int → Option (List ByteArray × Bool)
 | 0, _, _, _, _, _, _, _, _ => none
 | k + 1, x7, x17, x22, x23, x24, x704000, x704001, x704002 => if x24 < x23 then (if 0 ≤ x24 then (if x24 < (x22.length : Int) then ((some (([1, 2] : List Int) : List Int)).bind fun y708 => (qU.l1 k x7 (rd x22 x24) x17 x22 x23 x24 y708 (y708.length : Int) 0 x704000 x704001 x704002)) else (none)) else (none)) else (some (x7, true))
def qU.l1 : Nat → List ByteArray → Int → List Int → List Int → Int → Int → List Int → Int → Int → Int → Int → List Int → Option (List ByteArray × Bool)
 | 0, _, _, _, _, _, _, _, _, _, _, _, _ => none
 | k + 1, x7, x9, x17, x22, x23, x24, x28, x29, x30, x704000, x704001, x704002 => if x30 < x29 then (if 0 ≤ x30 then (if x30 < (x28.length : Int) then ((qVA.f x704000 x704001 x704002 x9 (rd x28 x30)).bind fun t712 => (if t712 ≥ 0 then (if 0 ≤ x9 then (if x9 < (x17.length : Int) then ((qYA.f (rd x17 x9)).bind fun t714 => (if 0 ≤ t712 then (if t712 < (x17.length : Int) then ((qYA.f (rd x17 t712)).bind fun t716 => (if t714.size + t716.size ≤ 9223372036854775807 then (if x7.length < 8796093022208 then (qU.l1 k (x7 ++ [t714 ++ t716]) x9 x17 x22 x23 x24 x28 x29 (wrap64 (x30 + 1)) x704000 x704001 x704002) else (none)) else (none))) else (none)) else (none))) else (none)) else (none)) else (qU.l1 k x7 x9 x17 x22 x23 x24 x28 x29 (wrap64 (x30 + 1)) x704000 x704001 x704002))) else (none)) else (none)) else (qU.l0 k x7 x17 x22 x23 (wrap64 (x24 + 1)) x704000 x704001 x704002)
end
def qU.f (k : Nat) (a0 : ByteArray) : Option (List ByteArray × Bool) := (qBB.f k a0).bind fun bt694 => (if bt694.2.2.2.2 = true then ((qi.f k bt694.1 bt694.2.1 bt694.2.2.1).bind fun t704 => (qU.l0 k ([] : List ByteArray) bt694.2.2.2.1 t704 (t704.length : Int) 0 bt694.1 bt694.2.1 bt694.2.2.1)) else (some (([] : List ByteArray), false)))
def qU.T13 : Bool × List (List Nat × List Nat) := (true, [([], []), ([], []), ([], []), ([1, 2], [1, 2]), ([3], [3]), ([4], [4]), ([], []), ([], []), ([6, 7], [6, 7]), ([8], [8]), ([9, 5], [9]), ([5, 10], [5, 10]), ([11], [11]), ([0, 12, 10], [0, 12]), ([13, 13, 0, 1, 2, 3, 4, 5, 6, 7, 8, 9, 10, 11, 12, 13], [0, 13])])
def qU.B13 : List Nat := [0, 0, 0, 6, 14, 30, 0, 0, 192, 448, 1022, 2046, 4094, 8191, 16383]
theorem qU.tab13 : rtab .any (opsOf Tryd.f24 13) = qU.T13 := by kernel_rfl
theorem qU.bits13 : waitsOk qU.T13.2 qU.B13 = true := by kernel_rfl
set_option maxHeartbeats 8000000 in
set_option maxRecDepth 100000 in
theorem qU.calls (k : Nat) (a0 : ByteArray) (r1 : List ByteArray) (r2 : Bool) (w : World) (h : qU.f k a0 = some (r1, r2)) :
  Calls Tryd.prog 24 #[.string a0] w fun e w' => ∃ v0_ : Value, e = .returned (.tuple #[v0_, .bool r2]) ∧ Kd.R Kd.string 9 w' w.heap.size (fun _ => True) v0_ r1 ∧ Below w.heap.size w w' := by
 have hu45 := Tryd.underlying45
 have HB := Aside0.mk (Below.refl w.heap.size w)
 have H : ((qBB.f k a0).bind fun bt694 => (if bt694.2.2.2.2 = true then ((qi.f k bt694.1 bt694.2.1 bt694.2.2.1).bind fun t704 => (qU.l0 k ([] : List ByteArray) bt694.2.2.2.1 t704 (t704.length : Int) 0 bt694.1 bt694.2.1 bt694.2.2.1)) else (some (([] : List ByteArray), false)))) = some (r1, r2) := h
 clear h
 replace H := Option.bind_eq_some_iff.mp H
 obtain ⟨⟨t694, t695, t696, t699, t702⟩, A20, H⟩ := H
 replace H : (if t702 = true then ((qi.f k t694 t695 t696).bind fun t704 => (qU.l0 k ([] : List ByteArray) t699 t704 (t704.length : Int) 0 t694 t695 t696)) else (some (([] : List ByteArray), false))) = some (r1, r2) := H
 have A2 := Aside0.mk A20
 clear A20
 by_cases c3 : t702 = true
 ·subst c3
  have H1 : ((qi.f k t694 t695 t696).bind fun t704 => (qU.l0 k ([] : List ByteArray) t699 t704 (t704.length : Int) 0 t694 t695 t696)) = some (r1, r2) := by rw [if_pos rfl] at H; exact H
  clear H
  have H := H1
  clear H1
  replace H := Option.bind_eq_some_iff.mp H
  obtain ⟨t704, A40, H⟩ := H
  replace H : (qU.l0 k ([] : List ByteArray) t699 t704 (t704.length : Int) 0 t694 t695 t696) = some (r1, r2) := H
  have A4 := Aside0.mk A40
  clear A40
  have H' := Aside0.mk H
  clear H
  go_enter Tryd.func24, Tryd.ntmps24
  go_wp2_with (first | ((with_reducible refine qZ (f := 34) rfl ?_); refine qPA (some 15) rfl rfl Tryd.func34 (by kernel_rfl) rfl #[.string a0] rfl (by (try simp only [List.map_toArray, List.map_cons, List.map_nil]); first | done | rfl | (simp only [List.length_drop, List.length_take]; rfl)) ?_; (with_reducible refine (qBB.calls k a0 t694 t695 t696 t699 true _ A2.out).mono ?_); rintro e w5 ⟨v697, v700, rfl, ho0, ho1, hb⟩; refine ⟨_, rfl, ?_⟩; have n0_ := Aside0.mk (Kd.qu ho0 (qY bl)); have n1_ := Aside0.mk (Kd.qu ho1 (qY bl)); have n2_ := Aside0.mk (qK bl hb); clear HB; have HO698 := n0_; have HO701 := n1_; have HB := n2_; clear n0_ n1_ n2_; (try clear hb); (try clear hb2); (try clear hk); (try clear hi); (try clear ho0); (try clear ho1)) | ((with_reducible refine qa (N := 4) rfl ?_); refine qb ?hg (N := 4) ?hd (cs := #[.int .i64 0, .int .i64 0, .slice none 0 0]) (t := 45) ?hr ?_; (case hd => rfl); (case hg => rfl); (case hr => first | (go_simp; done) | (go_simp; rfl)); intro gb703 hg w6 hbox hb; have n0_ := Aside0.mk (Kd.qS (by (with_reducible repeat (first | apply Kd.qB | apply Kd.qC | apply Kd.qF)); exact HO698.out) hb); have n1_ := Aside0.mk (Kd.qS (by (with_reducible repeat (first | apply Kd.qB | apply Kd.qC | apply Kd.qF)); exact HO701.out) hb); have n2_ := Aside0.mk (qK bl hb); have n3_ := Aside0.mk (hbox); have n4_ := Aside0.mk ((gg hg)); have n5_ := Aside0.mk ((gg hg)); clear HO698; clear HO701; clear HB; have HO698 := n0_; have HO701 := n1_; have HB := n2_; have BK703 := n3_; have GW703 := n4_; have GE703 := n5_; clear n0_ n1_ n2_ n3_ n4_ n5_; clear hb hbox hg; have hcz7_0 := bc BK703 0; have hcz7_1 := bc BK703 1; have hcz7_2 := bc BK703 2; have hfz7_0 := qA BK703.out 0; have hfz7_1 := qA BK703.out 1; have hfz7_2 := qA BK703.out 2; obtain ⟨Ao8, co8, eo8⟩ := Kd.qn HO698.out; subst eo8) | ((with_reducible refine qZ (f := 36) rfl ?_); refine qPA (some 22) rfl rfl Tryd.func36 (by kernel_rfl) rfl #[.agg #[.int .i64 t694, .int .i64 t695, .slice Ao8 t696.length co8]] rfl (by (try simp only [List.map_toArray, List.map_cons, List.map_nil]); first | done | rfl | (simp only [List.length_drop, List.length_take]; rfl)) ?_; (with_reducible refine (qi.calls k t694 t695 _ _ t696 t704 _ ?side1 ?side2 A4.out).mono ?_); (case side1 => refine (Kd.qO (e := 5) (base := w.heap.size) (ok := fun k_ => True) (n := t696.length) (c := co8) ?_).2.2; exact (by (with_reducible repeat (first | apply Kd.qB | apply Kd.qC | apply Kd.qF)); exact (Kd.qX (Kd.R_far (p := ⟨gb703, 2, none⟩) (Kd.R_far (p := ⟨gb703, 1, none⟩) (Kd.R_far (p := ⟨gb703, 0, none⟩) (Kd.qKA HO698.out BK703.out (by decide)) (fun _ hk => hk.2) (.int .i64 t694)) (fun _ hk => hk.2) (.int .i64 t695)) (fun _ hk => hk.2) (.slice Ao8 t696.length co8)) (fun _ h_ => h_.1)))); (case side2 => exact (Kd.qO HO698.out).2.1); rintro e w9 ⟨v705, rfl, ho0, hb⟩; refine ⟨_, rfl, ?_⟩; have n0_ := Aside0.mk (Kd.qS (by (with_reducible repeat (first | apply Kd.qB | apply Kd.qC | apply Kd.qF)); exact (Kd.qX (Kd.R_far (p := ⟨gb703, 2, none⟩) (Kd.R_far (p := ⟨gb703, 1, none⟩) (Kd.R_far (p := ⟨gb703, 0, none⟩) (Kd.qKA HO698.out BK703.out (by decide)) (fun _ hk => hk.2) (.int .i64 t694)) (fun _ hk => hk.2) (.int .i64 t695)) (fun _ hk => hk.2) (.slice Ao8 t696.length co8)) (fun _ h_ => h_.1))) hb); have n1_ := Aside0.mk (Kd.qkA (by (with_reducible repeat (first | apply Kd.qB | apply Kd.qC | apply Kd.qF)); exact (Kd.qX (Kd.R_far (p := ⟨gb703, 2, none⟩) (Kd.R_far (p := ⟨gb703, 1, none⟩) (Kd.R_far (p := ⟨gb703, 0, none⟩) (Kd.qKA HO701.out BK703.out (by decide)) (fun _ hk => hk.2) (.int .i64 t694)) (fun _ hk => hk.2) (.int .i64 t695)) (fun _ hk => hk.2) (.slice Ao8 t696.length co8)) (fun _ h_ => h_.1))) (Kd.qDB ho0) hb); have n2_ := Aside0.mk (Kd.qu (Kd.qCB ho0 (Kd.R_lt (by (with_reducible repeat (first | apply Kd.qB | apply Kd.qC | apply Kd.qF)); exact (Kd.qX (Kd.R_far (p := ⟨gb703, 2, none⟩) (Kd.R_far (p := ⟨gb703, 1, none⟩) (Kd.R_far (p := ⟨gb703, 0, none⟩) (Kd.qKA HO701.out BK703.out (by decide)) (fun _ hk => hk.2) (.int .i64 t694)) (fun _ hk => hk.2) (.int .i64 t695)) (fun _ hk => hk.2) (.slice Ao8 t696.length co8)) (fun _ h_ => h_.1))))) (qY bl)); have n3_ := Aside0.mk (qbB (g := gb703) (o := .cells #[.int .i64 t694, .int .i64 t695, .slice Ao8 t696.length co8] 45 (0, 0)) (by (with_reducible repeat (first | refine qE ?_ _ | refine qG ?_ | refine qD ?_ _)); refine qV (cs := #[.int .i64 t694, .int .i64 t695, .slice none 0 0]) ?_ 2 _ rfl; (with_reducible repeat (first | refine qE ?_ _ | refine qG ?_ | refine qD ?_ _)); refine qV (cs := #[.int .i64 t694, .int .i64 0, .slice none 0 0]) ?_ 1 _ rfl; (with_reducible repeat (first | refine qE ?_ _ | refine qG ?_ | refine qD ?_ _)); refine qV (cs := #[.int .i64 0, .int .i64 0, .slice none 0 0]) ?_ 0 _ rfl; (with_reducible repeat (first | refine qE ?_ _ | refine qG ?_ | refine qD ?_ _)); exact BK703.out) hb); have n4_ := Aside0.mk (qK bl hb); clear HO698; clear HO701; clear BK703; clear HB; have HO698 := n0_; have HO701 := n1_; have HO706 := n2_; have BK703 := n3_; have HB := n4_; clear n0_ n1_ n2_ n3_ n4_; (try clear hb); (try clear hb2); (try clear hk); (try clear hi); (try clear ho0); obtain ⟨Ao10, co10, eo10⟩ := Kd.qn HO706.out; subst eo10))
  go_loopg [7, 24] k (fun kq v7 v24 w' => ∃ (x7_1 : List ByteArray) (x24_1 : Int), v24 = .int .i64 x24_1 ∧ Aside0 (qU.l0 kq x7_1 t699 t704 (t704.length : Int) x24_1 t694 t695 t696 = some (r1, r2)) ∧ Aside0 (kq ≤ k) ∧ Aside0 (Kd.R Kd.string 9 w' w.heap.size (fun _ => True) v7 x7_1) ∧ Aside0 (Kd.R (Kd.int .i64) 3 w' w.heap.size (fun k_ => some k_ ≠ ((.slice Ao10 t704.length co10) : Value).ownBlock) v700 t699) ∧ Aside0 (Kd.R (Kd.int .i64) 3 w' w.heap.size (fun k_ => some k_ ≠ (v700 : Value).ownBlock) (.slice Ao10 t704.length co10) t704) ∧ Aside0 (Kd.R (Kd.int .u8) 5 w' w.heap.size (fun _ => True) (.slice Ao8 t696.length co8) t696) ∧ Aside0 (w'.heap[gb703]? = some (.cells #[.int .i64 t694, .int .i64 t695, (.slice Ao8 t696.length co8)] 45 (0, 0))) ∧ Aside0 (Below w.heap.size w w'))
  case atStart => exact ⟨(([] : List ByteArray)), (0), (by first | rfl | (simp; done) | (simp [*]; done)), H', ⟨Nat.le_refl _⟩, ⟨by first | exact Kd.R_nil _ _ _ _ _ | exact Kd.N_nil _ _ _ _ _ | exact Kd.V_nil _ _ _ _ _ | exact Kd.Q_nil _ _ _ _ _ | exact Kd.S_nil _ _ _ _ _⟩, ⟨by (with_reducible repeat (first | apply Kd.qB | apply Kd.qC | apply Kd.qF)); exact Kd.qX HO701.out (fun _ hk => hk.2)⟩, ⟨by (with_reducible repeat (first | apply Kd.qB | apply Kd.qC | apply Kd.qF)); exact Kd.qX HO706.out (fun _ hk => hk.2)⟩, ⟨by (with_reducible repeat (first | apply Kd.qB | apply Kd.qC | apply Kd.qF)); exact HO698.out⟩, ⟨by (with_reducible repeat (first | refine qE ?_ _ | refine qG ?_ | refine qD ?_ _)); exact BK703.out⟩, ⟨bl⟩⟩
  case round =>
   clear H'
   try clear c2
   try clear p2
   try clear c3
   try clear hcz7_0
   try clear hcz7_1
   try clear hcz7_2
   try clear hfz7_0
   try clear hfz7_1
   try clear hfz7_2
   obtain ⟨x7_1, x24_1, rfl, HA, HK1, HO_7, HO_17, HO_22, HO_704002, BK703, HB⟩ := hrel
   cases gk with
   | zero => exact absurd HA.out (by simp [qU.l0])
   | succ k1 =>
    have H := HA.out
    clear HA
    simp only [qU.l0] at H
    by_cases c11 : x24_1 < (t704.length : Int)
    ·rw [if_pos c11] at H
     have c11b0 : decide (x24_1 < (t704.length : Int)) = true := decide_eq_true c11
     clear c11
     by_cases c12 : 0 ≤ x24_1
     ·rw [if_pos c12] at H
      have c12b0 : decide (0 ≤ x24_1) = true := decide_eq_true c12
      clear c12
      by_cases c13 : x24_1 < (t704.length : Int)
      ·rw [if_pos c13] at H
       have c13b0 : decide (x24_1 < (t704.length : Int)) = true := decide_eq_true c13
       clear c13
       obtain ⟨y708, hy708⟩ : ∃ y_ : List Int, y_ = (([1, 2] : List Int)) := ⟨_, rfl⟩
       replace H : (qU.l1 k1 x7_1 (rd t704 x24_1) t699 t704 (t704.length : Int) x24_1 y708 (y708.length : Int) 0 t694 t695 t696) = some (r1, r2) := by first | (rw [hy708]; with_reducible exact H) | (have H2_ := (Option.bind_some _ _).symm.trans H; rw [hy708]; with_reducible exact H2_) | (have H2_ := (Option.bind_some _ _).symm.trans H; with_reducible exact H2_) | with_reducible exact H | (rw [hy708]; exact H) | exact H
       have Ny708 := Aside0.mk hy708
       clear hy708
       have H' := Aside0.mk H
       clear H
       have p707 : 0 ≤ (x24_1 : Int) := of_decide_eq_true (by first | (with_reducible assumption) | assumption)
       have q707 : x24_1 < (t704.length : Int) := of_decide_eq_true (by first | (with_reducible assumption) | assumption)
       obtain ⟨ad707, e707, hx707_0⟩ := Kd.qFA (Kd.qO HO_22.out).2.2 x24_1 p707 q707
       cases e707
       replace p707 := eq_true p707
       replace q707 := eq_true q707
       go_wp2_with (first | ((with_reducible refine qa (N := 28) rfl ?_); refine Kd.R_lit (Kd.int .i64) _ 3 ?hg (N := 28) ?hd (xs := ([1, 2] : List Int)) (inner := [.int .i64 1, .int .i64 2]) (ok := fun _ => True) (okp := fun _ => True) ?hr ?hp (fun _ hk => hk) trivial (Below.refl _ _) (Nat.le_refl _) (by simp) ?_; (case hd => rfl); (case hg => rfl); (case hr => first | (go_simp; done) | (go_simp; rfl)); (case hp => exact (Reps.one (show Kd.M (Kd.int .i64) _ _ _ 1 [.int .i64 1] from rfl) (Reps.one (show Kd.M (Kd.int .i64) _ _ _ 2 [.int .i64 2] from rfl) (Reps.none _ _)))); intro v709 w14 ho15 hb hg_ hnew_; clear hg_ hnew_; (first | rw [← Ny708.out] at ho15 | (simp only [Int.reduceToNat] at ho15; rw [← Ny708.out] at ho15)); have n0_ := Aside0.mk (Kd.qS (by (with_reducible repeat (first | apply Kd.qB | apply Kd.qC | apply Kd.qF)); exact HO_7.out) hb); have n1_ := Aside0.mk (Kd.qkA (by (with_reducible repeat (first | apply Kd.qB | apply Kd.qC | apply Kd.qF)); exact HO_17.out) (Kd.qDB ho15) hb); have n2_ := Aside0.mk (Kd.qkA (by (with_reducible repeat (first | apply Kd.qB | apply Kd.qC | apply Kd.qF)); exact HO_22.out) (Kd.qDB ho15) hb); have n3_ := Aside0.mk (Kd.qS (by (with_reducible repeat (first | apply Kd.qB | apply Kd.qC | apply Kd.qF)); exact HO_704002.out) hb); have n4_ := Aside0.mk (Kd.qu (Kd.qCB (Kd.qCB ho15 (Kd.R_lt (by (with_reducible repeat (first | apply Kd.qB | apply Kd.qC | apply Kd.qF)); exact HO_17.out))) (Kd.R_lt (by (with_reducible repeat (first | apply Kd.qB | apply Kd.qC | apply Kd.qF)); exact HO_22.out))) (qY bl)); have n5_ := Aside0.mk (bb BK703 hb); have n6_ := Aside0.mk (qK bl hb); clear HO_7; clear HO_17; clear HO_22; clear HO_704002; clear BK703; clear HB; have HO_7 := n0_; have HO_17 := n1_; have HO_22 := n2_; have HO_704002 := n3_; have HO710 := n4_; have BK703 := n5_; have HB := n6_; clear n0_ n1_ n2_ n3_ n4_ n5_ n6_; clear hb ho15; obtain ⟨Ao16, co16, eo16⟩ := Kd.qn HO710.out; subst eo16))
       go_loopg [7, 30] k1 (fun kq v7 v30 w' => ∃ (x7_2 : List ByteArray) (x30_2 : Int), v30 = .int .i64 x30_2 ∧ Aside0 (qU.l1 kq x7_2 (rd t704 x24_1) t699 t704 (t704.length : Int) x24_1 y708 (y708.length : Int) x30_2 t694 t695 t696 = some (r1, r2)) ∧ Aside0 (kq ≤ k1) ∧ Aside0 (Kd.R Kd.string 9 w' w.heap.size (fun _ => True) v7 x7_2) ∧ Aside0 (Kd.R (Kd.int .i64) 3 w' w.heap.size (fun k_ => some k_ ≠ ((.slice (some ad707) t704.length co10) : Value).ownBlock ∧ some k_ ≠ ((.slice Ao16 y708.length co16) : Value).ownBlock) v700 t699) ∧ Aside0 (Kd.R (Kd.int .i64) 3 w' w.heap.size (fun k_ => some k_ ≠ (v700 : Value).ownBlock ∧ some k_ ≠ ((.slice Ao16 y708.length co16) : Value).ownBlock) (.slice (some ad707) t704.length co10) t704) ∧ Aside0 (Kd.R (Kd.int .i64) 3 w' w.heap.size (fun k_ => some k_ ≠ (v700 : Value).ownBlock ∧ some k_ ≠ ((.slice (some ad707) t704.length co10) : Value).ownBlock) (.slice Ao16 y708.length co16) y708) ∧ Aside0 (Kd.R (Kd.int .u8) 5 w' w.heap.size (fun _ => True) (.slice Ao8 t696.length co8) t696) ∧ Aside0 (w'.heap[gb703]? = some (.cells #[.int .i64 t694, .int .i64 t695, (.slice Ao8 t696.length co8)] 45 (0, 0))) ∧ Aside0 (Below w.heap.size w w'))
       case atStart => exact ⟨(x7_1), (0), (by first | rfl | (simp; done) | (simp [*]; done)), H', ⟨Nat.le_refl _⟩, ⟨by (with_reducible repeat (first | apply Kd.qB | apply Kd.qC | apply Kd.qF)); exact HO_7.out⟩, ⟨by (with_reducible repeat (first | apply Kd.qB | apply Kd.qC | apply Kd.qF)); exact HO_17.out⟩, ⟨by (with_reducible repeat (first | apply Kd.qB | apply Kd.qC | apply Kd.qF)); exact HO_22.out⟩, ⟨by (with_reducible repeat (first | apply Kd.qB | apply Kd.qC | apply Kd.qF)); exact Kd.qX HO710.out (fun _ hk => ⟨hk.1.2, hk.2⟩)⟩, ⟨by (with_reducible repeat (first | apply Kd.qB | apply Kd.qC | apply Kd.qF)); exact HO_704002.out⟩, ⟨by (with_reducible repeat (first | refine qE ?_ _ | refine qG ?_ | refine qD ?_ _)); exact BK703.out⟩, ⟨bl⟩⟩
       case round =>
        clear H'
        try clear c1
        try clear c2
        try clear p2
        try clear c3
        try clear p7
        try clear q7
        try clear hx7
        try clear c11
        try clear c11b0
        try clear c12
        try clear c12b0
        try clear c13
        try clear c13b0
        try clear hcz7_0
        try clear hcz7_1
        try clear hcz7_2
        try clear hfz7_0
        try clear hfz7_1
        try clear hfz7_2
        try clear hx707_0
        try clear p2
        try clear p707
        try clear q707
        obtain ⟨x7_2, x30_2, rfl, HA, HK2, HO_7, HO_17, HO_22, HO_28, HO_704002, BK703, HB⟩ := hrel
        cases gk with
        | zero => exact absurd HA.out (by simp [qU.l1])
        | succ k2 =>
         have H := HA.out
         clear HA
         simp only [qU.l1] at H
         by_cases c17 : x30_2 < (y708.length : Int)
         ·rw [if_pos c17] at H
          have c17b0 : decide (x30_2 < (y708.length : Int)) = true := decide_eq_true c17
          clear c17
          by_cases c18 : 0 ≤ x30_2
          ·rw [if_pos c18] at H
           have c18b0 : decide (0 ≤ x30_2) = true := decide_eq_true c18
           clear c18
           by_cases c19 : x30_2 < (y708.length : Int)
           ·rw [if_pos c19] at H
            have c19b0 : decide (x30_2 < (y708.length : Int)) = true := decide_eq_true c19
            clear c19
            replace H := Option.bind_eq_some_iff.mp H
            obtain ⟨t712, A200, H⟩ := H
            replace H : (if t712 ≥ 0 then (if 0 ≤ (rd t704 x24_1) then (if (rd t704 x24_1) < (t699.length : Int) then ((qYA.f (rd t699 (rd t704 x24_1))).bind fun t714 => (if 0 ≤ t712 then (if t712 < (t699.length : Int) then ((qYA.f (rd t699 t712)).bind fun t716 => (if t714.size + t716.size ≤ 9223372036854775807 then (if x7_2.length < 8796093022208 then (qU.l1 k2 (x7_2 ++ [t714 ++ t716]) (rd t704 x24_1) t699 t704 (t704.length : Int) x24_1 y708 (y708.length : Int) (wrap64 (x30_2 + 1)) t694 t695 t696) else (none)) else (none))) else (none)) else (none))) else (none)) else (none)) else (qU.l1 k2 x7_2 (rd t704 x24_1) t699 t704 (t704.length : Int) x24_1 y708 (y708.length : Int) (wrap64 (x30_2 + 1)) t694 t695 t696)) = some (r1, r2) := H
            have A20 := Aside0.mk A200
            clear A200
            by_cases c21 : t712 ≥ 0
            ·rw [if_pos c21] at H
             have c21b0 : decide (0 ≤ t712) = true := decide_eq_true c21
             clear c21
             by_cases c22 : 0 ≤ (rd t704 x24_1)
             ·rw [if_pos c22] at H
              have c22b0 : decide (0 ≤ (rd t704 x24_1)) = true := decide_eq_true c22
              clear c22
              by_cases c23 : (rd t704 x24_1) < (t699.length : Int)
              ·rw [if_pos c23] at H
               have c23b0 : decide ((rd t704 x24_1) < (t699.length : Int)) = true := decide_eq_true c23
               clear c23
               replace H := Option.bind_eq_some_iff.mp H
               obtain ⟨t714, A240, H⟩ := H
               replace H : (if 0 ≤ t712 then (if t712 < (t699.length : Int) then ((qYA.f (rd t699 t712)).bind fun t716 => (if t714.size + t716.size ≤ 9223372036854775807 then (if x7_2.length < 8796093022208 then (qU.l1 k2 (x7_2 ++ [t714 ++ t716]) (rd t704 x24_1) t699 t704 (t704.length : Int) x24_1 y708 (y708.length : Int) (wrap64 (x30_2 + 1)) t694 t695 t696) else (none)) else (none))) else (none)) else (none)) = some (r1, r2) := H
               have A24 := Aside0.mk A240
               clear A240
               by_cases c25 : 0 ≤ t712
               ·rw [if_pos c25] at H
                have c25b0 : decide (0 ≤ t712) = true := decide_eq_true c25
                clear c25
                by_cases c26 : t712 < (t699.length : Int)
                ·rw [if_pos c26] at H
                 have c26b0 : decide (t712 < (t699.length : Int)) = true := decide_eq_true c26
                 clear c26
                 replace H := Option.bind_eq_some_iff.mp H
                 obtain ⟨t716, A270, H⟩ := H
                 replace H : (if t714.size + t716.size ≤ 9223372036854775807 then (if x7_2.length < 8796093022208 then (qU.l1 k2 (x7_2 ++ [t714 ++ t716]) (rd t704 x24_1) t699 t704 (t704.length : Int) x24_1 y708 (y708.length : Int) (wrap64 (x30_2 + 1)) t694 t695 t696) else (none)) else (none)) = some (r1, r2) := H
                 have A27 := Aside0.mk A270
                 clear A270
                 by_cases c28 : t714.size + t716.size ≤ 9223372036854775807
                 ·rw [if_pos c28] at H
                  have c28b0 := eq_true c28
                  have c28b1 : decide (t714.size + t716.size ≤ 9223372036854775807) = true := decide_eq_true c28
                  try have c28b2 : (9223372036854775807 < t714.size + t716.size) = False := eq_false (Nat.not_lt.2 c28)
                  by_cases c29 : x7_2.length < 8796093022208
                  ·rw [if_pos c29] at H
                   have LMc29 := Aside0.mk c29
                   clear c29
                   obtain ⟨y717, hy717⟩ : ∃ y_ : List ByteArray, y_ = (x7_2 ++ [t714 ++ t716]) := ⟨_, rfl⟩
                   replace H : (qU.l1 k2 y717 (rd t704 x24_1) t699 t704 (t704.length : Int) x24_1 y708 (y708.length : Int) (wrap64 (x30_2 + 1)) t694 t695 t696) = some (r1, r2) := by first | (rw [hy717]; with_reducible exact H) | (have H2_ := (Option.bind_some _ _).symm.trans H; rw [hy717]; with_reducible exact H2_) | (have H2_ := (Option.bind_some _ _).symm.trans H; with_reducible exact H2_) | with_reducible exact H | (rw [hy717]; exact H) | exact H
                   have Ny717 := Aside0.mk hy717
                   clear hy717
                   have H' := Aside0.mk H
                   clear H
                   have p711 : 0 ≤ (x30_2 : Int) := of_decide_eq_true (by first | (with_reducible assumption) | assumption)
                   have q711 : x30_2 < (y708.length : Int) := of_decide_eq_true (by first | (with_reducible assumption) | assumption)
                   obtain ⟨ad711, e711, hx711_0⟩ := Kd.qFA (Kd.qO HO_28.out).2.2 x30_2 p711 q711
                   cases e711
                   replace p711 := eq_true p711
                   replace q711 := eq_true q711
                   have hcz30_0 := bc BK703 0
                   have hcz30_1 := bc BK703 1
                   have hcz30_2 := bc BK703 2
                   have hfz30_0 := qA BK703.out 0
                   have hfz30_1 := qA BK703.out 1
                   have hfz30_2 := qA BK703.out 2
                   try go_wp2_with (first | ((with_reducible refine qZ (f := 42) rfl ?_); refine qPA (some 37) rfl rfl Tryd.func42 (by kernel_rfl) rfl #[.agg #[.int .i64 t694, .int .i64 t695, .slice Ao8 t696.length co8], .int .i64 (rd t704 x24_1), .int .i64 (rd y708 x30_2)] rfl (by (try simp only [List.map_toArray, List.map_cons, List.map_nil]); first | done | rfl | (simp only [List.length_drop, List.length_take]; rfl)) ?_; (with_reducible refine (qVA.calls t694 t695 _ _ t696 (rd t704 x24_1) (rd y708 x30_2) t712 _ ?side1 ?side2 A20.out).mono ?_); (case side1 => repeat (first | exact (Kd.qO HO_704002.out).2.2 | (with_reducible refine Kd.qMA ?_ _) | (with_reducible refine Kd.qLA ?_ _) | (with_reducible refine Kd.qcA ?_))); (case side2 => exact (Kd.qO HO_704002.out).2.1); rintro e w31 ⟨rfl, hb⟩; refine ⟨_, rfl, ?_⟩; have n0_ := Aside0.mk (Kd.qS (by (with_reducible repeat (first | apply Kd.qB | apply Kd.qC | apply Kd.qF)); exact HO_7.out) hb); have n1_ := Aside0.mk (Kd.qS (by (with_reducible repeat (first | apply Kd.qB | apply Kd.qC | apply Kd.qF)); exact HO_17.out) hb); have n2_ := Aside0.mk (Kd.qS (by (with_reducible repeat (first | apply Kd.qB | apply Kd.qC | apply Kd.qF)); exact HO_22.out) hb); have n3_ := Aside0.mk (Kd.qS (by (with_reducible repeat (first | apply Kd.qB | apply Kd.qC | apply Kd.qF)); exact HO_28.out) hb); have n4_ := Aside0.mk (Kd.qS (by (with_reducible repeat (first | apply Kd.qB | apply Kd.qC | apply Kd.qF)); exact HO_704002.out) hb); have n5_ := Aside0.mk (bb BK703 hb); have n6_ := Aside0.mk (qK bl hb); clear HO_7; clear HO_17; clear HO_22; clear HO_28; clear HO_704002; clear BK703; clear HB; have HO_7 := n0_; have HO_17 := n1_; have HO_22 := n2_; have HO_28 := n3_; have HO_704002 := n4_; have BK703 := n5_; have HB := n6_; clear n0_ n1_ n2_ n3_ n4_ n5_ n6_; (try clear hb); (try clear hb2); (try clear hk); (try clear hi)))
                   have n0_ := Aside0.mk (Kd.qF HO_7.out)
                   have n1_ := Aside0.mk (Kd.qF HO_17.out)
                   have n2_ := Aside0.mk (Kd.qF HO_22.out)
                   have n3_ := Aside0.mk (Kd.qF HO_28.out)
                   have n4_ := Aside0.mk (Kd.qF HO_704002.out)
                   have n5_ := Aside0.mk (qG BK703.out)
                   have n6_ := Aside0.mk (qg HB.out)
                   clear HO_7
                   clear HO_17
                   clear HO_22
                   clear HO_28
                   clear HO_704002
                   clear BK703
                   clear HB
                   have HO_7 := n0_
                   have HO_17 := n1_
                   have HO_22 := n2_
                   have HO_28 := n3_
                   have HO_704002 := n4_
                   have BK703 := n5_
                   have HB := n6_
                   clear n0_ n1_ n2_ n3_ n4_ n5_ n6_
                   obtain ⟨Ao33, co33, eo33⟩ := Kd.qn HO_17.out
                   (first | subst eo33 | (injection eo33 with f1_ f2_ f3_; have f4_ := f1_.symm; have f5_ := f3_.symm; clear f1_ f2_ f3_; subst f4_; subst f5_))
                   have p713 : 0 ≤ ((rd t704 x24_1) : Int) := of_decide_eq_true (by first | (with_reducible assumption) | assumption)
                   have q713 : (rd t704 x24_1) < (t699.length : Int) := of_decide_eq_true (by first | (with_reducible assumption) | assumption)
                   obtain ⟨ad713, e713, hx713_0⟩ := Kd.qFA (Kd.qO HO_17.out).2.2 (rd t704 x24_1) p713 q713
                   cases e713
                   replace p713 := eq_true p713
                   replace q713 := eq_true q713
                   have p715 : 0 ≤ (t712 : Int) := of_decide_eq_true (by first | (with_reducible assumption) | assumption)
                   have q715 : t712 < (t699.length : Int) := of_decide_eq_true (by first | (with_reducible assumption) | assumption)
                   obtain ⟨ad715, e715, hx715_0⟩ := Kd.qFA (Kd.qO HO_17.out).2.2 t712 p715 q715
                   obtain rfl : ad713 = ad715 := (by injection e715)
                   replace p715 := eq_true p715
                   replace q715 := eq_true q715
                   refine qsA (n := 15) (S := fun w' => w'.cell? (ad713.add ((rd t704 x24_1)).toNat) = some (.int .i64 (rd t699 (rd t704 x24_1))) ∧ w'.cell? (ad713.add (t712).toNat) = some (.int .i64 (rd t699 t712))) (ds := [12, 13]) #[false, false, false, false, false, false, false, false, false, false, false, false, false, false, false] (by kernel_rfl) rfl rfl ⟨hx713_0, hx715_0⟩ (fun hHeld => ?_); refine qRA qU.tab13 qU.bits13 (fun HT_ HW_ => ?_)
                   generalize w31.drew = w32 at HO_7 HO_17 HO_22 HO_28 HO_704002 BK703 HB hx713_0 hx715_0 hHeld ⊢
                   refine pS (i := 0) (N := some 40) #[true, false, false, false, false, false, false, false, false, false, false, false, false, false, false] HT_ ?_
                   refine pS (i := 1) (N := some 41) #[true, true, false, false, false, false, false, false, false, false, false, false, false, false, false] HT_ ?_
                   refine pS (i := 2) (N := some 42) #[true, true, true, false, false, false, false, false, false, false, false, false, false, false, false] HT_ ?_
                   refine pS (i := 3) (N := some 43) #[true, true, true, true, false, false, false, false, false, false, false, false, false, false, false] HT_ ?_
                   refine pS (i := 6) (N := some 46) #[true, true, true, true, false, false, true, false, false, false, false, false, false, false, false] HT_ ?_
                   refine pS (i := 7) (N := some 47) #[true, true, true, true, false, false, true, true, false, false, false, false, false, false, false] HT_ ?_
                   refine pS (i := 8) (N := some 48) #[true, true, true, true, false, false, true, true, true, false, false, false, false, false, false] HT_ ?_
                   refine tS (i := 4) (N := some 44) #[true, true, true, true, true, false, true, true, true, false, false, false, false, false, false] HT_ HW_ hHeld ?_
                   refine tS (i := 9) (N := some 49) #[true, true, true, true, true, false, true, true, true, true, false, false, false, false, false] HT_ HW_ hHeld ?_
                   refine one_ (i := 5) (N := some 45) #[true, true, true, true, true, true, true, true, true, true, false, false, false, false, false] rfl rfl (qdA HT_.out (by kernel_rfl)) (by decide) (fun K hK => ?_)
                   refine goes_ Tryd.func37 (by kernel_rfl) rfl #[.int .i64 (rd t699 (rd t704 x24_1))] (by rfl) rfl rfl (by (try simp only [List.map_toArray, List.map_cons, List.map_nil]); first | done | rfl | (simp only [List.length_drop, List.length_take]; rfl)) ?_
                   with_reducible refine (qYA.calls (rd t699 (rd t704 x24_1)) t714 _ A24.out).mono ?_
                   rintro e w' ⟨rfl, ⟨nd, rfl⟩⟩
                   refine ⟨_, rfl, ?_⟩
                   refine hK.out _ _ ⟨hHeld.1, hHeld.2⟩ (fun hHeld => ?_)
                   clear hK K
                   refine norm_ (a' := ?_) ?_ ?_
                   rotate_left
                   ·show Act.put _ (some 45) _ = _
                    simp only [Act.put, List.setIfInBounds_toArray, List.set_cons_zero, List.set_cons_succ, i64_w, i32_w]
                    rfl
                   refine one_ (i := 10) (N := some 50) #[true, true, true, true, true, true, true, true, true, true, true, false, false, false, false] rfl rfl (qdA HT_.out (by kernel_rfl)) (by decide) (fun K hK => ?_)
                   refine goes_ Tryd.func37 (by kernel_rfl) rfl #[.int .i64 (rd t699 t712)] (by rfl) rfl rfl (by (try simp only [List.map_toArray, List.map_cons, List.map_nil]); first | done | rfl | (simp only [List.length_drop, List.length_take]; rfl)) ?_
                   with_reducible refine (qYA.calls (rd t699 t712) t716 _ A27.out).mono ?_
                   rintro e w' ⟨rfl, ⟨nd, rfl⟩⟩
                   refine ⟨_, rfl, ?_⟩
                   refine hK.out _ _ ⟨hHeld.1, hHeld.2⟩ (fun hHeld => ?_)
                   clear hK K
                   refine norm_ (a' := ?_) ?_ ?_
                   rotate_left
                   ·show Act.put _ (some 50) _ = _
                    simp only [Act.put, List.setIfInBounds_toArray, List.set_cons_zero, List.set_cons_succ, i64_w, i32_w]
                    rfl
                   refine pS (i := 11) (N := some 51) #[true, true, true, true, true, true, true, true, true, true, true, true, false, false, false] HT_ ?_
                   refine last_ (i := 12) (N := some 52) #[true, true, true, true, true, true, true, true, true, true, true, true, true, false, false] rfl rfl (qdA HT_.out (by kernel_rfl)) (by decide) (fun K hK => ?_)
                   refine qmA (w1 := ?_) (v := ?_) (by rfl) rfl ?_ ?_
                   rotate_left 2
                   ·go_simp
                    constructor
                    ·rfl
                    ·rfl
                   refine hK.out _ _ ?_
                   clear hK K
                   refine norm_ (a' := ?_) ?_ ?_
                   rotate_left
                   ·show Act.put _ (some 52) _ = _
                    simp only [Act.put, List.setIfInBounds_toArray, List.set_cons_zero, List.set_cons_succ, i64_w, i32_w]
                    rfl
                   refine last_ (i := 13) (N := some 53) #[true, true, true, true, true, true, true, true, true, true, true, true, true, true, false] rfl rfl (qdA HT_.out (by kernel_rfl)) (by decide) (fun K hK => ?_)
                   refine Kd.qJB Kd.string (w0 := w) w.heap.size (by rfl) (.tmp 40) (.tmp 52) 35 9 (.string ⟨#[]⟩) 16 rfl Tryd.underlying35 info9 rfl (by decide) (by omega) u7 x7_2 (t714 ++ t716) [.string (t714 ++ t716)] (fun _ => True) (fun _ => False) rfl rfl ?aP (fun _ hk => hk.elim) ?aF ?aO ?aB ?aS ?aL ?_
                   (case aP => exact rfl)
                   (case aB => exact bl)
                   (case aF => exact (fun _ _ => trivial))
                   (case aO => exact (by (with_reducible repeat (first | apply Kd.qB | apply Kd.qC | apply Kd.qF)); exact HO_7.out))
                   (case aS => exact (qY bl))
                   (case aL => have := LMc29.out; omega)
                   intro v718 w34 ho hb hg hat
                   rw [← Ny717.out] at ho
                   have n0_ := Aside0.mk (Kd.qTA (by (with_reducible repeat (first | apply Kd.qB | apply Kd.qC | apply Kd.qF)); exact HO_17.out) (Kd.qw (by (with_reducible repeat (first | apply Kd.qB | apply Kd.qC | apply Kd.qF)); exact HO_7.out)) (by decide) hg)
                   have n1_ := Aside0.mk (Kd.qTA (by (with_reducible repeat (first | apply Kd.qB | apply Kd.qC | apply Kd.qF)); exact HO_22.out) (Kd.qw (by (with_reducible repeat (first | apply Kd.qB | apply Kd.qC | apply Kd.qF)); exact HO_7.out)) (by decide) hg)
                   have n2_ := Aside0.mk (Kd.qTA (by (with_reducible repeat (first | apply Kd.qB | apply Kd.qC | apply Kd.qF)); exact HO_28.out) (Kd.qw (by (with_reducible repeat (first | apply Kd.qB | apply Kd.qC | apply Kd.qF)); exact HO_7.out)) (by decide) hg)
                   have n3_ := Aside0.mk (Kd.qTA (by (with_reducible repeat (first | apply Kd.qB | apply Kd.qC | apply Kd.qF)); exact HO_704002.out) (Kd.qw (by (with_reducible repeat (first | apply Kd.qB | apply Kd.qC | apply Kd.qF)); exact HO_7.out)) (by decide) hg)
                   have n4_ := Aside0.mk (qaA (g := gb703) (o := .cells #[.int .i64 t694, .int .i64 t695, .slice Ao8 t696.length co8] 45 (0, 0)) (by (with_reducible repeat (first | refine qE ?_ _ | refine qG ?_ | refine qD ?_ _)); exact BK703.out) hg (Kd.R_ne HO_7.out BK703.out (by decide)))
                   have n5_ := Aside0.mk (hb)
                   have n6_ := Aside0.mk (ho)
                   clear HO_17
                   clear HO_22
                   clear HO_28
                   clear HO_704002
                   clear BK703
                   clear HB
                   clear HO_7
                   have HO_17 := n0_
                   have HO_22 := n1_
                   have HO_28 := n2_
                   have HO_704002 := n3_
                   have BK703 := n4_
                   have HB := n5_
                   have HO719 := n6_
                   clear n0_ n1_ n2_ n3_ n4_ n5_ n6_
                   clear ho hb hg hat
                   refine hK.out _ _ ?_
                   clear hK K
                   refine norm_ (a' := ?_) ?_ ?_
                   rotate_left
                   ·show Act.put _ (some 53) _ = _
                    simp only [Act.put, List.setIfInBounds_toArray, List.set_cons_zero, List.set_cons_succ, i64_w, i32_w]
                    rfl
                   refine pS (i := 14) (N := some 7) #[true, true, true, true, true, true, true, true, true, true, true, true, true, true, true] HT_ ?_
                   refine done_ (qwA HT_.out (by kernel_rfl)) ?_
                   try go_wp2
                   go_roundg k2
                   case measure => have := HK1.out; have := HK2.out; omega
                   case rel => exact ⟨(y717), (wrap64 (x30_2 + 1)), (by first | rfl | (simp; done) | (simp [*]; done)), H', ⟨by have := HK1.out; have := HK2.out; omega⟩, ⟨by (with_reducible repeat (first | apply Kd.qB | apply Kd.qC | apply Kd.qF)); exact HO719.out⟩, ⟨by (with_reducible repeat (first | apply Kd.qB | apply Kd.qC | apply Kd.qF)); exact HO_17.out⟩, ⟨by (with_reducible repeat (first | apply Kd.qB | apply Kd.qC | apply Kd.qF)); exact HO_22.out⟩, ⟨by (with_reducible repeat (first | apply Kd.qB | apply Kd.qC | apply Kd.qF)); exact HO_28.out⟩, ⟨by (with_reducible repeat (first | apply Kd.qB | apply Kd.qC | apply Kd.qF)); exact HO_704002.out⟩, ⟨by (with_reducible repeat (first | refine qE ?_ _ | refine qG ?_ | refine qD ?_ _)); exact BK703.out⟩, ⟨bl⟩⟩
                  ·rw [if_neg c29] at H
                   exact absurd H (by simp)
                 ·rw [if_neg c28] at H
                  exact absurd H (by simp)
                ·rw [if_neg c26] at H
                 exact absurd H (by simp)
               ·rw [if_neg c25] at H
                exact absurd H (by simp)
              ·rw [if_neg c23] at H
               exact absurd H (by simp)
             ·rw [if_neg c22] at H
              exact absurd H (by simp)
            ·rw [if_neg c21] at H
             have c21b0 : decide (0 ≤ t712) = false := decide_eq_false c21
             clear c21
             have H' := Aside0.mk H
             clear H
             have p711 : 0 ≤ (x30_2 : Int) := of_decide_eq_true (by first | (with_reducible assumption) | assumption)
             have q711 : x30_2 < (y708.length : Int) := of_decide_eq_true (by first | (with_reducible assumption) | assumption)
             obtain ⟨ad711, e711, hx711_0⟩ := Kd.qFA (Kd.qO HO_28.out).2.2 x30_2 p711 q711
             cases e711
             replace p711 := eq_true p711
             replace q711 := eq_true q711
             have hcz35_0 := bc BK703 0
             have hcz35_1 := bc BK703 1
             have hcz35_2 := bc BK703 2
             have hfz35_0 := qA BK703.out 0
             have hfz35_1 := qA BK703.out 1
             have hfz35_2 := qA BK703.out 2
             go_wp2_with (first | ((with_reducible refine qZ (f := 42) rfl ?_); refine qPA (some 37) rfl rfl Tryd.func42 (by kernel_rfl) rfl #[.agg #[.int .i64 t694, .int .i64 t695, .slice Ao8 t696.length co8], .int .i64 (rd t704 x24_1), .int .i64 (rd y708 x30_2)] rfl (by (try simp only [List.map_toArray, List.map_cons, List.map_nil]); first | done | rfl | (simp only [List.length_drop, List.length_take]; rfl)) ?_; (with_reducible refine (qVA.calls t694 t695 _ _ t696 (rd t704 x24_1) (rd y708 x30_2) t712 _ ?side1 ?side2 A20.out).mono ?_); (case side1 => repeat (first | exact (Kd.qO HO_704002.out).2.2 | (with_reducible refine Kd.qMA ?_ _) | (with_reducible refine Kd.qLA ?_ _) | (with_reducible refine Kd.qcA ?_))); (case side2 => exact (Kd.qO HO_704002.out).2.1); rintro e w36 ⟨rfl, hb⟩; refine ⟨_, rfl, ?_⟩; have n0_ := Aside0.mk (Kd.qS (by (with_reducible repeat (first | apply Kd.qB | apply Kd.qC | apply Kd.qF)); exact HO_7.out) hb); have n1_ := Aside0.mk (Kd.qS (by (with_reducible repeat (first | apply Kd.qB | apply Kd.qC | apply Kd.qF)); exact HO_17.out) hb); have n2_ := Aside0.mk (Kd.qS (by (with_reducible repeat (first | apply Kd.qB | apply Kd.qC | apply Kd.qF)); exact HO_22.out) hb); have n3_ := Aside0.mk (Kd.qS (by (with_reducible repeat (first | apply Kd.qB | apply Kd.qC | apply Kd.qF)); exact HO_28.out) hb); have n4_ := Aside0.mk (Kd.qS (by (with_reducible repeat (first | apply Kd.qB | apply Kd.qC | apply Kd.qF)); exact HO_704002.out) hb); have n5_ := Aside0.mk (bb BK703 hb); have n6_ := Aside0.mk (qK bl hb); clear HO_7; clear HO_17; clear HO_22; clear HO_28; clear HO_704002; clear BK703; clear HB; have HO_7 := n0_; have HO_17 := n1_; have HO_22 := n2_; have HO_28 := n3_; have HO_704002 := n4_; have BK703 := n5_; have HB := n6_; clear n0_ n1_ n2_ n3_ n4_ n5_ n6_; (try clear hb); (try clear hb2); (try clear hk); (try clear hi)))
             go_roundg k2
             case measure => have := HK1.out; have := HK2.out; omega
             case rel => exact ⟨(x7_2), (wrap64 (x30_2 + 1)), (by first | rfl | (simp; done) | (simp [*]; done)), H', ⟨by have := HK1.out; have := HK2.out; omega⟩, ⟨by (with_reducible repeat (first | apply Kd.qB | apply Kd.qC | apply Kd.qF)); exact HO_7.out⟩, ⟨by (with_reducible repeat (first | apply Kd.qB | apply Kd.qC | apply Kd.qF)); exact HO_17.out⟩, ⟨by (with_reducible repeat (first | apply Kd.qB | apply Kd.qC | apply Kd.qF)); exact HO_22.out⟩, ⟨by (with_reducible repeat (first | apply Kd.qB | apply Kd.qC | apply Kd.qF)); exact HO_28.out⟩, ⟨by (with_reducible repeat (first | apply Kd.qB | apply Kd.qC | apply Kd.qF)); exact HO_704002.out⟩, ⟨by (with_reducible repeat (first | refine qE ?_ _ | refine qG ?_ | refine qD ?_ _)); exact BK703.out⟩, ⟨bl⟩⟩
           ·rw [if_neg c19] at H
            exact absurd H (by simp)
          ·rw [if_neg c18] at H
           exact absurd H (by simp)
         ·rw [if_neg c17] at H
          have c17b0 : decide (x30_2 < (y708.length : Int)) = false := decide_eq_false c17
          clear c17
          have H' := Aside0.mk H
          clear H
          go_wp2
          go_roundg k2
          case measure => have := HK1.out; have := HK2.out; omega
          case rel => exact ⟨(x7_2), (wrap64 (x24_1 + 1)), (by first | rfl | (simp; done) | (simp [*]; done)), H', ⟨by have := HK1.out; have := HK2.out; omega⟩, ⟨by (with_reducible repeat (first | apply Kd.qB | apply Kd.qC | apply Kd.qF)); exact HO_7.out⟩, ⟨by (with_reducible repeat (first | apply Kd.qB | apply Kd.qC | apply Kd.qF)); exact Kd.qX HO_17.out (fun _ hk => hk.1)⟩, ⟨by (with_reducible repeat (first | apply Kd.qB | apply Kd.qC | apply Kd.qF)); exact Kd.qX HO_22.out (fun _ hk => hk.1)⟩, ⟨by (with_reducible repeat (first | apply Kd.qB | apply Kd.qC | apply Kd.qF)); exact HO_704002.out⟩, ⟨by (with_reducible repeat (first | refine qE ?_ _ | refine qG ?_ | refine qD ?_ _)); exact BK703.out⟩, ⟨bl⟩⟩
      ·rw [if_neg c13] at H
       exact absurd H (by simp)
     ·rw [if_neg c12] at H
      exact absurd H (by simp)
    ·rw [if_neg c11] at H
     have c11b0 : decide (x24_1 < (t704.length : Int)) = false := decide_eq_false c11
     clear c11
     simp only [Option.some.injEq, Prod.mk.injEq] at H
     obtain ⟨rfl, rfl⟩ := H
     go_wp2
     go_ret2
     exact ⟨_, by first | rfl | (simp [qQ, qP] <;> rfl) | (simp [*, qQ, qP] <;> rfl), by (with_reducible repeat (first | apply Kd.qB | apply Kd.qC | apply Kd.qF)); exact HO_7.out, bl⟩
 ·replace c3 := Bool.eq_false_iff.mpr c3
  subst c3
  have H1 : (some (([] : List ByteArray), false)) = some (r1, r2) := by rw [if_neg (show ¬ (false = true) by decide)] at H; exact H
  clear H
  have H := H1
  clear H1
  simp only [Option.some.injEq, Prod.mk.injEq] at H
  obtain ⟨rfl, rfl⟩ := H
  go_enter Tryd.func24, Tryd.ntmps24
  go_wp2_with (first | ((with_reducible refine qZ (f := 34) rfl ?_); refine qPA (some 15) rfl rfl Tryd.func34 (by kernel_rfl) rfl #[.string a0] rfl (by (try simp only [List.map_toArray, List.map_cons, List.map_nil]); first | done | rfl | (simp only [List.length_drop, List.length_take]; rfl)) ?_; (with_reducible refine (qBB.calls k a0 t694 t695 t696 t699 false _ A2.out).mono ?_); rintro e w37 ⟨v697, v700, rfl, ho0, ho1, hb⟩; refine ⟨_, rfl, ?_⟩; have n0_ := Aside0.mk (Kd.qu ho0 (qY bl)); have n1_ := Aside0.mk (Kd.qu ho1 (qY bl)); have n2_ := Aside0.mk (qK bl hb); clear HB; have HO698 := n0_; have HO701 := n1_; have HB := n2_; clear n0_ n1_ n2_; (try clear hb); (try clear hb2); (try clear hk); (try clear hi); (try clear ho0); (try clear ho1)) | ((with_reducible refine qa (N := 4) rfl ?_); refine qb ?hg (N := 4) ?hd (cs := #[.int .i64 0, .int .i64 0, .slice none 0 0]) (t := 45) ?hr ?_; (case hd => rfl); (case hg => rfl); (case hr => first | (go_simp; done) | (go_simp; rfl)); intro gb703 hg w38 hbox hb; have n0_ := Aside0.mk (Kd.qS (by (with_reducible repeat (first | apply Kd.qB | apply Kd.qC | apply Kd.qF)); exact HO698.out) hb); have n1_ := Aside0.mk (Kd.qS (by (with_reducible repeat (first | apply Kd.qB | apply Kd.qC | apply Kd.qF)); exact HO701.out) hb); have n2_ := Aside0.mk (qK bl hb); have n3_ := Aside0.mk (hbox); have n4_ := Aside0.mk ((gg hg)); have n5_ := Aside0.mk ((gg hg)); clear HO698; clear HO701; clear HB; have HO698 := n0_; have HO701 := n1_; have HB := n2_; have BK703 := n3_; have GW703 := n4_; have GE703 := n5_; clear n0_ n1_ n2_ n3_ n4_ n5_; clear hb hbox hg; have hcz39_0 := bc BK703 0; have hcz39_1 := bc BK703 1; have hcz39_2 := bc BK703 2; have hfz39_0 := qA BK703.out 0; have hfz39_1 := qA BK703.out 1; have hfz39_2 := qA BK703.out 2; obtain ⟨Ao40, co40, eo40⟩ := Kd.qn HO698.out; subst eo40))
  go_ret2
  exact ⟨_, by first | rfl | (simp [qQ, qP] <;> rfl) | (simp [*, qQ, qP] <;> rfl), by first | exact Kd.R_nil _ _ _ _ _ | exact Kd.N_nil _ _ _ _ _ | exact Kd.V_nil _ _ _ _ _ | exact Kd.Q_nil _ _ _ _ _ | exact Kd.S_nil _ _ _ _ _, bl⟩
def qSB.f  : Option (Int × Int × Int × Int × Int × Int) := some (0, 1, 2, 3, 4, 5)
set_option maxHeartbeats 8000000 in
set_option maxRecDepth 100000 in
theorem qSB.calls  (r1 : Int) (r2 : Int) (r3 : Int) (r4 : Int) (r5 : Int) (r6 : Int) (w : World) (h : qSB.f  = some (r1, r2, r3, r4, r5, r6)) :
  Calls Tryd.prog 52 #[] w fun e w' => e = .returned (.agg #[.int .i64 r1, .int .i64 r2, .int .i64 r3, .int .i64 r4, .int .i64 r5, .int .i64 r6]) ∧ Below w.heap.size w w' := by
 have hu31 := Tryd.underlying31
 have HB := Aside0.mk (Below.refl w.heap.size w)
 have H : (some (0, 1, 2, 3, 4, 5)) = some (r1, r2, r3, r4, r5, r6) := h
 clear h
 simp only [Option.some.injEq, Prod.mk.injEq] at H
 obtain ⟨rfl, rfl, rfl, rfl, rfl, rfl⟩ := H
 go_enter Tryd.func52, Tryd.ntmps52
 go_wp2_with (first | ((with_reducible refine qa (N := 0) rfl ?_); refine qb ?hg (N := 0) ?hd (cs := #[.int .i64 0, .int .i64 0, .int .i64 0, .int .i64 0, .int .i64 0, .int .i64 0]) (t := 31) ?hr ?_; (case hd => rfl); (case hg => rfl); (case hr => first | (go_simp; done) | (go_simp; rfl)); intro gb161 hg w1 hbox hb; have n0_ := Aside0.mk (qK bl hb); have n1_ := Aside0.mk (hbox); have n2_ := Aside0.mk ((gg hg)); have n3_ := Aside0.mk ((gg hg)); clear HB; have HB := n0_; have BK161 := n1_; have GW161 := n2_; have GE161 := n3_; clear n0_ n1_ n2_ n3_; clear hb hbox hg; have hcz2_0 := bc BK161 0; have hcz2_1 := bc BK161 1; have hcz2_2 := bc BK161 2; have hcz2_3 := bc BK161 3; have hcz2_4 := bc BK161 4; have hcz2_5 := bc BK161 5; have hfz2_0 := qA BK161.out 0; have hfz2_1 := qA BK161.out 1; have hfz2_2 := qA BK161.out 2; have hfz2_3 := qA BK161.out 3; have hfz2_4 := qA BK161.out 4; have hfz2_5 := qA BK161.out 5))
 refine bodyPost_ret (results_cell_row rfl _ _ gb161 31 #[.int .i64 0, .int .i64 1, .int .i64 2, .int .i64 3, .int .i64 4, .int .i64 5] (0, 0) _ rfl (by (with_reducible repeat (first | refine qE ?_ _ | refine qG ?_ | refine qD ?_ _)); refine qV (cs := #[.int .i64 0, .int .i64 1, .int .i64 2, .int .i64 3, .int .i64 4, .int .i64 0]) ?_ 5 _ rfl; (with_reducible repeat (first | refine qE ?_ _ | refine qG ?_ | refine qD ?_ _)); refine qV (cs := #[.int .i64 0, .int .i64 1, .int .i64 2, .int .i64 3, .int .i64 0, .int .i64 0]) ?_ 4 _ rfl; (with_reducible repeat (first | refine qE ?_ _ | refine qG ?_ | refine qD ?_ _)); refine qV (cs := #[.int .i64 0, .int .i64 1, .int .i64 2, .int .i64 0, .int .i64 0, .int .i64 0]) ?_ 3 _ rfl; (with_reducible repeat (first | refine qE ?_ _ | refine qG ?_ | refine qD ?_ _)); refine qV (cs := #[.int .i64 0, .int .i64 1, .int .i64 0, .int .i64 0, .int .i64 0, .int .i64 0]) ?_ 2 _ rfl; (with_reducible repeat (first | refine qE ?_ _ | refine qG ?_ | refine qD ?_ _)); refine qV (cs := #[.int .i64 0, .int .i64 0, .int .i64 0, .int .i64 0, .int .i64 0, .int .i64 0]) ?_ 1 _ rfl; (with_reducible repeat (first | refine qE ?_ _ | refine qG ?_ | refine qD ?_ _)); refine qV (cs := #[.int .i64 0, .int .i64 0, .int .i64 0, .int .i64 0, .int .i64 0, .int .i64 0]) ?_ 0 _ rfl; (with_reducible repeat (first | refine qE ?_ _ | refine qG ?_ | refine qD ?_ _)); exact BK161.out) Tryd.underlying31 rfl (by kernel_rfl)) rfl ?_
 exact ⟨by first | rfl | (simp [qQ, qP] <;> rfl) | (simp [*, qQ, qP] <;> rfl), bl⟩
theorem eqA61 (d : Nat) (w : World) (x0 y0 : Int) (x1 y1 : Int) :
  (Op.equalIn (d + 2) 61 (.agg #[.int .i64 x0, .int .i64 x1]) (.agg #[.int .i64 y0, .int .i64 y1])).run Tryd.prog w = .ok (x0 == y0 && (x1 == y1)) w := by
 have e : ∀ a b : Int, (Op.equalIn (d + 1) 3 (.int .i64 a) (.int .i64 b)).run Tryd.prog w = .ok (a == b) w := fun a b => run_equalIn_int (P := Tryd.prog) w d 3 .i64 .i64 a b Tryd.underlying3
 have p0 : ∀ a0 a1 : Int, (part 3 #[.int .i64 a0, .int .i64 a1] 0).run Tryd.prog w = .ok (.int .i64 a0) w := fun a0 a1 => by go_simp; try rfl
 have p1 : ∀ a0 a1 : Int, (part 3 #[.int .i64 a0, .int .i64 a1] 1).run Tryd.prog w = .ok (.int .i64 a1) w := fun a0 a1 => by go_simp; try rfl
 have hs : (Go.sizeOf 3).run Tryd.prog w = .ok 1 w := by go_simp; try rfl
 have hr : List.range' 0 2 = [0, 1] := by decide
 rw [Op.equalIn]
 simp only [Sem.run_bind, run_underlying Tryd.underlying61, Result.andThen_ok, hs]
 simp only [Std.Legacy.Range.forIn_eq_forIn_range', Std.Legacy.Range.size]
 simp [hr, List.forIn_cons, p0, p1, e, Sem.run_bind, Sem.run_ite]
 by_cases h0 : x0 = y0 <;> by_cases h1 : x1 = y1 <;> simp [h0, h1]
end Go.Proofs.YtdncpkppkafkpaaDoor.P
namespace Go.Proofs.YtdncpkppkafkpaaDoor.P
open Go.RowKit Go.Proofs.YtdncpkppkafkpaaDoorW.PrintWords Go.Proofs.YtdncpkppkafkpaaDoorW.PrintLast Go.Proofs.YtdncpkppkafkpaaDoorW.PrintMore
attribute [local go_sem] qCA qAA qOA qNA qq qp qBA qz
set_option linter.unusedVariables false
set_option linter.unusedSimpArgs false
attribute [local go_sem high] eqA61
def qT.l0 : Nat → List (S61) → Int → Int → Int → Int → Option (Int)
 | 0, _, _, _, _, _ => none
 | k + 1, x0, x7, x8, x163000, x163001 => if x8 < x7 then (if 0 ≤ x8 then (if x8 < (x0.length : Int) then (if (x163000 == ((qL x0 x8).f0) && (x163001 == ((qL x0 x8).f1))) = true then (some x8) else (qT.l0 k x0 x7 (wrap64 (x8 + 1)) x163000 x163001)) else (none)) else (none)) else (some (-1))
def qT.f (k : Nat) (l0 : List (S61)) (a1_0 : Int) (a1_1 : Int) : Option (Int) := qT.l0 k l0 (l0.length : Int) 0 a1_0 a1_1
set_option maxHeartbeats 8000000 in
set_option maxRecDepth 100000 in
theorem qT.calls (k : Nat) (A0 : Option Addr) (c0 : Nat) (l0 : List (S61)) (a1_0 : Int) (a1_1 : Int) (r : Int) (w : World) (hr0 : Kd.C k61 w A0 l0.length l0) (hc0 : l0.length ≤ c0) (h : qT.f k l0 a1_0 a1_1 = some r) :
  Calls Tryd.prog 77 #[.slice A0 l0.length c0, .agg #[.int .i64 a1_0, .int .i64 a1_1]] w fun e w' => e = .returned (.int .i64 r) ∧ Below w.heap.size w w' := by
 have hu61 := Tryd.underlying61
 have HR0 := Aside0.mk hr0
 have HC0 := Aside0.mk hc0
 clear hr0 hc0
 have HB := Aside0.mk (Below.refl w.heap.size w)
 have H : (qT.l0 k l0 (l0.length : Int) 0 a1_0 a1_1) = some r := h
 clear h
 have H' := Aside0.mk H
 clear H
 go_enter Tryd.func77, Tryd.ntmps77
 go_wp2_with (first | ((with_reducible refine qa (N := 3) rfl ?_); refine qb ?hg (N := 3) ?hd (cs := #[.int .i64 a1_0, .int .i64 a1_1]) (t := 61) ?hr ?_; (case hd => rfl); (case hg => rfl); (case hr => first | (go_simp; done) | (go_simp; rfl)); intro gb162 hg w3 hbox hb; have n0_ := Aside0.mk (qK bl hb); have n1_ := Aside0.mk (hbox); have n2_ := Aside0.mk ((gg hg)); have n3_ := Aside0.mk ((gg hg)); clear HB; have HB := n0_; have BK162 := n1_; have GW162 := n2_; have GE162 := n3_; clear n0_ n1_ n2_ n3_; clear hb hbox hg))
 repeat (go_quiet (first | ((with_reducible refine qa (N := 3) rfl ?_); refine qb ?hg (N := 3) ?hd (cs := #[.int .i64 a1_0, .int .i64 a1_1]) (t := 61) ?hr ?_; (case hd => rfl); (case hg => rfl); (case hr => first | (go_simp; done) | (go_simp; rfl)); intro gb162 hg w3 hbox hb; have n0_ := Aside0.mk (qK bl hb); have n1_ := Aside0.mk (hbox); have n2_ := Aside0.mk ((gg hg)); have n3_ := Aside0.mk ((gg hg)); clear HB; have HB := n0_; have BK162 := n1_; have GW162 := n2_; have GE162 := n3_; clear n0_ n1_ n2_ n3_; clear hb hbox hg)); try go_wp2_with (first | ((with_reducible refine qa (N := 3) rfl ?_); refine qb ?hg (N := 3) ?hd (cs := #[.int .i64 a1_0, .int .i64 a1_1]) (t := 61) ?hr ?_; (case hd => rfl); (case hg => rfl); (case hr => first | (go_simp; done) | (go_simp; rfl)); intro gb162 hg w3 hbox hb; have n0_ := Aside0.mk (qK bl hb); have n1_ := Aside0.mk (hbox); have n2_ := Aside0.mk ((gg hg)); have n3_ := Aside0.mk ((gg hg)); clear HB; have HB := n0_; have BK162 := n1_; have GW162 := n2_; have GE162 := n3_; clear n0_ n1_ n2_ n3_; clear hb hbox hg)))
 go_loopg [8] k (fun kq v8 w' => ∃ (x8_1 : Int), v8 = .int .i64 x8_1 ∧ Aside0 (qT.l0 kq l0 (l0.length : Int) x8_1 a1_0 a1_1 = some r) ∧ Aside0 (kq ≤ k) ∧ Aside0 (w'.heap[gb162]? = some (.cells #[.int .i64 a1_0, .int .i64 a1_1] 61 (0, 0))) ∧ Aside0 (Below w.heap.size w w'))
 case atStart => exact ⟨(0), (by first | rfl | (simp; done) | (simp [*]; done)), H', ⟨Nat.le_refl _⟩, ⟨by (with_reducible repeat (first | refine qE ?_ _ | refine qG ?_ | refine qD ?_ _)); exact BK162.out⟩, ⟨bl⟩⟩
 case round =>
  clear H'
  try clear p2
  obtain ⟨x8_1, rfl, HA, HK1, BK162, HB⟩ := hrel
  cases gk with
  | zero => exact absurd HA.out (by simp [qT.l0])
  | succ k1 =>
   have H := HA.out
   clear HA
   simp only [qT.l0] at H
   by_cases c4 : x8_1 < (l0.length : Int)
   ·rw [if_pos c4] at H
    have c4b0 : decide (x8_1 < (l0.length : Int)) = true := decide_eq_true c4
    clear c4
    by_cases c5 : 0 ≤ x8_1
    ·rw [if_pos c5] at H
     have c5b0 : decide (0 ≤ x8_1) = true := decide_eq_true c5
     clear c5
     by_cases c6 : x8_1 < (l0.length : Int)
     ·rw [if_pos c6] at H
      have c6b0 : decide (x8_1 < (l0.length : Int)) = true := decide_eq_true c6
      clear c6
      by_cases c7 : (a1_0 == ((qL l0 x8_1).f0) && (a1_1 == ((qL l0 x8_1).f1))) = true
      ·rw [if_pos c7] at H
       have c7b0 : (a1_0 == ((qL l0 x8_1).f0) && (a1_1 == ((qL l0 x8_1).f1))) = true := c7
       (try (have c7b1 : decide (a1_0 = ((qL l0 x8_1).f0) && (a1_1 == ((qL l0 x8_1).f1))) = true := by simpa using c7))
       (try (have c7b2 : (a1_0 == ((qL l0 x8_1).f0) && (a1_1 == ((qL l0 x8_1).f1))) = true := by simpa using c7))
       clear c7
       obtain rfl := Option.some.inj H
       have hcz8_0 := bc BK162 0
       have hcz8_1 := bc BK162 1
       have hfz8_0 := qA BK162.out 0
       have hfz8_1 := qA BK162.out 1
       have p163 : 0 ≤ (x8_1 : Int) := of_decide_eq_true (by first | (with_reducible assumption) | assumption)
       have q163 : x8_1 < (l0.length : Int) := of_decide_eq_true (by first | (with_reducible assumption) | assumption)
       obtain ⟨ad163, e163, hx163_0, hx163_1⟩ := qPB HR0.out x8_1 p163 q163
       cases e163
       replace hx163_0 := (HB.out.cell (World.block_lt_of_cell? w _ hx163_0)).trans hx163_0
       replace hx163_1 := (HB.out.cell (World.block_lt_of_cell? w _ hx163_1)).trans hx163_1
       replace p163 := eq_true p163
       replace q163 := eq_true q163
       go_wp2
       repeat (go_quiet (fail); try go_wp2)
       go_ret
       exact ⟨by first | rfl | (simp [qQ, qP] <;> rfl) | (simp [*, qQ, qP] <;> rfl), bl⟩
      ·rw [if_neg c7] at H
       have c7b0 : (a1_0 == ((qL l0 x8_1).f0) && (a1_1 == ((qL l0 x8_1).f1))) = false := by simpa using c7
       (try (have c7b1 : decide (a1_0 = ((qL l0 x8_1).f0) && (a1_1 == ((qL l0 x8_1).f1))) = false := by simpa using c7))
       (try (have c7b2 : (a1_0 == ((qL l0 x8_1).f0) && (a1_1 == ((qL l0 x8_1).f1))) = false := by simpa using c7))
       (try (have c7b3 : ¬ (a1_0 = ((qL l0 x8_1).f0) && (a1_1 == ((qL l0 x8_1).f1))) := by simpa using c7))
       clear c7
       have H' := Aside0.mk H
       clear H
       have hcz9_0 := bc BK162 0
       have hcz9_1 := bc BK162 1
       have hfz9_0 := qA BK162.out 0
       have hfz9_1 := qA BK162.out 1
       have p163 : 0 ≤ (x8_1 : Int) := of_decide_eq_true (by first | (with_reducible assumption) | assumption)
       have q163 : x8_1 < (l0.length : Int) := of_decide_eq_true (by first | (with_reducible assumption) | assumption)
       obtain ⟨ad163, e163, hx163_0, hx163_1⟩ := qPB HR0.out x8_1 p163 q163
       cases e163
       replace hx163_0 := (HB.out.cell (World.block_lt_of_cell? w _ hx163_0)).trans hx163_0
       replace hx163_1 := (HB.out.cell (World.block_lt_of_cell? w _ hx163_1)).trans hx163_1
       replace p163 := eq_true p163
       replace q163 := eq_true q163
       go_wp2
       repeat (go_quiet (fail); try go_wp2)
       go_roundg k1
       case measure => have := HK1.out; omega
       case rel => exact ⟨(wrap64 (x8_1 + 1)), (by first | rfl | (simp; done) | (simp [*]; done)), H', ⟨by have := HK1.out; omega⟩, ⟨by (with_reducible repeat (first | refine qE ?_ _ | refine qG ?_ | refine qD ?_ _)); exact BK162.out⟩, ⟨bl⟩⟩
     ·rw [if_neg c6] at H
      exact absurd H (by simp)
    ·rw [if_neg c5] at H
     exact absurd H (by simp)
   ·rw [if_neg c4] at H
    have c4b0 : decide (x8_1 < (l0.length : Int)) = false := decide_eq_false c4
    clear c4
    obtain rfl := Option.some.inj H
    go_wp2
    repeat (go_quiet (fail); try go_wp2)
    go_ret
    exact ⟨by first | rfl | (simp [qQ, qP] <;> rfl) | (simp [*, qQ, qP] <;> rfl), bl⟩
end Go.Proofs.YtdncpkppkafkpaaDoor.P
namespace Go.Proofs.YtdncpkppkafkpaaDoor.P
open Go.RowKit Go.Proofs.YtdncpkppkafkpaaDoorW.PrintWords Go.Proofs.YtdncpkppkafkpaaDoorW.PrintLast Go.Proofs.YtdncpkppkafkpaaDoorW.PrintMore
attribute [local go_sem] qCA qAA qOA qNA qq qp qBA qz
set_option linter.unusedVariables false
set_option linter.unusedSimpArgs false
def qUA.f (k : Nat) (l0 : List (S61)) (a1 : Int) (a2 : Int) : Option (Int) := (qT.f k l0 a1 a2).bind fun t164 => (some t164)
set_option maxHeartbeats 8000000 in
set_option maxRecDepth 100000 in
theorem qUA.calls (k : Nat) (A0 : Option Addr) (c0 : Nat) (l0 : List (S61)) (a1 : Int) (a2 : Int) (r : Int) (w : World) (hr0 : Kd.C k61 w A0 l0.length l0) (hc0 : l0.length ≤ c0) (h : qUA.f k l0 a1 a2 = some r) :
  Calls Tryd.prog 53 #[.slice A0 l0.length c0, .int .i64 a1, .int .i64 a2] w fun e w' => e = .returned (.int .i64 r) ∧ Below w.heap.size w w' := by
 have hu61 := Tryd.underlying61
 have HR0 := Aside0.mk hr0
 have HC0 := Aside0.mk hc0
 clear hr0 hc0
 have HB := Aside0.mk (Below.refl w.heap.size w)
 have H : ((qT.f k l0 a1 a2).bind fun t164 => (some t164)) = some r := h
 clear h
 replace H := Option.bind_eq_some_iff.mp H
 obtain ⟨t164, A40, H⟩ := H
 replace H : (some t164) = some r := H
 have A4 := Aside0.mk A40
 clear A40
 obtain rfl := Option.some.inj H
 go_enter Tryd.func53, Tryd.ntmps53
 go_wp2_with (first | ((with_reducible refine qZ (f := 77) rfl ?_); refine qPA (some 11) rfl rfl Tryd.func77 (by kernel_rfl) rfl #[.slice A0 l0.length c0, .agg #[.int .i64 a1, .int .i64 a2]] rfl (by (try simp only [List.map_toArray, List.map_cons, List.map_nil]); first | done | rfl | (simp only [List.length_drop, List.length_take]; rfl)) ?_; (with_reducible refine (qT.calls k _ _ l0 a1 a2 t164 _ ?side1 ?side2 A4.out).mono ?_); (case side1 => repeat (first | exact HR0.out | (with_reducible refine Kd.qMA ?_ _) | (with_reducible refine Kd.qLA ?_ _) | (with_reducible refine Kd.qcA ?_))); (case side2 => exact HC0.out); rintro e w5 ⟨rfl, hb⟩; refine ⟨_, rfl, ?_⟩; have n0_ := Aside0.mk (qK bl hb); clear HB; have HB := n0_; clear n0_; (try clear hb); (try clear hb2); (try clear hk); (try clear hi)))
 go_ret
 exact ⟨by first | rfl | (simp [qQ, qP] <;> rfl) | (simp [*, qQ, qP] <;> rfl), bl⟩
def qFB.f (a0 : Int) (a1 : Int) (a2 : Int) : Option (Int × Int) := if a2 = 110 then (some (a0, wrap64 (a1 - 1))) else (if a2 = 101 then (some (wrap64 (a0 + 1), a1)) else (if a2 = 115 then (some (a0, wrap64 (a1 + 1))) else (some (wrap64 (a0 - 1), a1))))
set_option maxHeartbeats 8000000 in
set_option maxRecDepth 100000 in
theorem qFB.calls (a0 : Int) (a1 : Int) (a2 : Int) (r1 : Int) (r2 : Int) (w : World) (h : qFB.f a0 a1 a2 = some (r1, r2)) :
  Calls Tryd.prog 54 #[.int .i64 a0, .int .i64 a1, .int .u8 a2] w fun e w' => e = .returned (.tuple #[.int .i64 r1, .int .i64 r2]) ∧ Drawn0 w w' := by
 have H : (if a2 = 110 then (some (a0, wrap64 (a1 - 1))) else (if a2 = 101 then (some (wrap64 (a0 + 1), a1)) else (if a2 = 115 then (some (a0, wrap64 (a1 + 1))) else (some (wrap64 (a0 - 1), a1))))) = some (r1, r2) := h
 clear h
 by_cases c4 : a2 = 110
 ·rw [if_pos c4] at H
  have c4b0 : (a2 == 110) = true := beq_iff_eq.mpr c4
  have c4b1 : (a2 != 110) = false := bne_eq_false_iff_eq.mpr c4
  clear c4
  simp only [Option.some.injEq, Prod.mk.injEq] at H
  obtain ⟨rfl, rfl⟩ := H
  go_enter Tryd.func54, Tryd.ntmps54
  go_wp2
  go_ret2
  exact ⟨by first | rfl | (simp; done) | (simp [*]; done), by repeat (first | exact Drawn0.refl _ | apply Drawn0.step)⟩
 ·rw [if_neg c4] at H
  have c4b0 : (a2 == 110) = false := beq_eq_false_iff_ne.mpr c4
  have c4b1 : (a2 != 110) = true := bne_iff_ne.mpr c4
  by_cases c5 : a2 = 101
  ·rw [if_pos c5] at H
   have c5b0 : (a2 == 101) = true := beq_iff_eq.mpr c5
   have c5b1 : (a2 != 101) = false := bne_eq_false_iff_eq.mpr c5
   clear c5
   simp only [Option.some.injEq, Prod.mk.injEq] at H
   obtain ⟨rfl, rfl⟩ := H
   go_enter Tryd.func54, Tryd.ntmps54
   go_wp2
   go_ret2
   exact ⟨by first | rfl | (simp; done) | (simp [*]; done), by repeat (first | exact Drawn0.refl _ | apply Drawn0.step)⟩
  ·rw [if_neg c5] at H
   have c5b0 : (a2 == 101) = false := beq_eq_false_iff_ne.mpr c5
   have c5b1 : (a2 != 101) = true := bne_iff_ne.mpr c5
   by_cases c6 : a2 = 115
   ·rw [if_pos c6] at H
    have c6b0 : (a2 == 115) = true := beq_iff_eq.mpr c6
    have c6b1 : (a2 != 115) = false := bne_eq_false_iff_eq.mpr c6
    clear c6
    simp only [Option.some.injEq, Prod.mk.injEq] at H
    obtain ⟨rfl, rfl⟩ := H
    go_enter Tryd.func54, Tryd.ntmps54
    go_wp2
    go_ret2
    exact ⟨by first | rfl | (simp; done) | (simp [*]; done), by repeat (first | exact Drawn0.refl _ | apply Drawn0.step)⟩
   ·rw [if_neg c6] at H
    have c6b0 : (a2 == 115) = false := beq_eq_false_iff_ne.mpr c6
    have c6b1 : (a2 != 115) = true := bne_iff_ne.mpr c6
    simp only [Option.some.injEq, Prod.mk.injEq] at H
    obtain ⟨rfl, rfl⟩ := H
    go_enter Tryd.func54, Tryd.ntmps54
    go_wp2
    go_ret2
    exact ⟨by first | rfl | (simp; done) | (simp [*]; done), by repeat (first | exact Drawn0.refl _ | apply Drawn0.step)⟩
def qZA.f (a0_0 : Int) (a0_1 : Int) (a0_2 : Int) (a0_3 : Int) (a0_4 : Int) (a0_5 : Int) (a1 : Int) : Option (Int × Int × Int × Int × Int × Int) := if a1 = 110 then (some (a0_3, a0_0, a0_2, a0_5, a0_4, a0_1)) else (if a1 = 101 then (some (a0_4, a0_1, a0_0, a0_3, a0_5, a0_2)) else (if a1 = 115 then (some (a0_1, a0_5, a0_2, a0_0, a0_4, a0_3)) else (some (a0_2, a0_1, a0_5, a0_3, a0_0, a0_4))))
set_option maxHeartbeats 8000000 in
set_option maxRecDepth 100000 in
theorem qZA.calls (a0_0 : Int) (a0_1 : Int) (a0_2 : Int) (a0_3 : Int) (a0_4 : Int) (a0_5 : Int) (a1 : Int) (r1 : Int) (r2 : Int) (r3 : Int) (r4 : Int) (r5 : Int) (r6 : Int) (w : World) (h : qZA.f a0_0 a0_1 a0_2 a0_3 a0_4 a0_5 a1 = some (r1, r2, r3, r4, r5, r6)) :
  Calls Tryd.prog 55 #[.agg #[.int .i64 a0_0, .int .i64 a0_1, .int .i64 a0_2, .int .i64 a0_3, .int .i64 a0_4, .int .i64 a0_5], .int .u8 a1] w fun e w' => e = .returned (.agg #[.int .i64 r1, .int .i64 r2, .int .i64 r3, .int .i64 r4, .int .i64 r5, .int .i64 r6]) ∧ Below w.heap.size w w' := by
 have hu31 := Tryd.underlying31
 have HB := Aside0.mk (Below.refl w.heap.size w)
 have H : (if a1 = 110 then (some (a0_3, a0_0, a0_2, a0_5, a0_4, a0_1)) else (if a1 = 101 then (some (a0_4, a0_1, a0_0, a0_3, a0_5, a0_2)) else (if a1 = 115 then (some (a0_1, a0_5, a0_2, a0_0, a0_4, a0_3)) else (some (a0_2, a0_1, a0_5, a0_3, a0_0, a0_4))))) = some (r1, r2, r3, r4, r5, r6) := h
 clear h
 by_cases c3 : a1 = 110
 ·rw [if_pos c3] at H
  have c3b0 : (a1 == 110) = true := beq_iff_eq.mpr c3
  have c3b1 : (a1 != 110) = false := bne_eq_false_iff_eq.mpr c3
  clear c3
  simp only [Option.some.injEq, Prod.mk.injEq] at H
  obtain ⟨rfl, rfl, rfl, rfl, rfl, rfl⟩ := H
  go_enter Tryd.func55, Tryd.ntmps55
  go_wp2_with (first | ((with_reducible refine qa (N := 2) rfl ?_); refine qb ?hg (N := 2) ?hd (cs := #[.int .i64 a0_0, .int .i64 a0_1, .int .i64 a0_2, .int .i64 a0_3, .int .i64 a0_4, .int .i64 a0_5]) (t := 31) ?hr ?_; (case hd => rfl); (case hg => rfl); (case hr => first | (go_simp; done) | (go_simp; rfl)); intro gb165 hg w4 hbox hb; have n0_ := Aside0.mk (qK bl hb); have n1_ := Aside0.mk (hbox); have n2_ := Aside0.mk ((gg hg)); have n3_ := Aside0.mk ((gg hg)); clear HB; have HB := n0_; have BK165 := n1_; have GW165 := n2_; have GE165 := n3_; clear n0_ n1_ n2_ n3_; clear hb hbox hg) | ((with_reducible refine qa (N := 4) rfl ?_); refine qb ?hg (N := 4) ?hd (cs := #[.int .i64 0, .int .i64 0, .int .i64 0, .int .i64 0, .int .i64 0, .int .i64 0]) (t := 31) ?hr ?_; (case hd => rfl); (case hg => rfl); (case hr => first | (go_simp; done) | (go_simp; rfl)); intro gb166 hg w5 hbox hb; have n0_ := Aside0.mk (bb BK165 hb); have n1_ := Aside0.mk (qK bl hb); have n2_ := Aside0.mk (hbox); have n3_ := Aside0.mk ((gg hg)); have n4_ := Aside0.mk ((gg hg)); have n5_ := Aside0.mk ((nl BK165 hg)); have n6_ := Aside0.mk ((nr BK165 hg)); clear BK165; clear HB; have BK165 := n0_; have HB := n1_; have BK166 := n2_; have GW166 := n3_; have GE166 := n4_; have NB165_166 := n5_; have NB166_165 := n6_; clear n0_ n1_ n2_ n3_ n4_ n5_ n6_; clear hb hbox hg; have hnb6 := NB165_166.out; have hnc6 := NB166_165.out; have hcz7_0 := bc BK165 0; have hcz7_1 := bc BK165 1; have hcz7_2 := bc BK165 2; have hcz7_3 := bc BK165 3; have hcz7_4 := bc BK165 4; have hcz7_5 := bc BK165 5; have hfz7_0 := qA BK165.out 0; have hfz7_1 := qA BK165.out 1; have hfz7_2 := qA BK165.out 2; have hfz7_3 := qA BK165.out 3; have hfz7_4 := qA BK165.out 4; have hfz7_5 := qA BK165.out 5; have hcz8_0 := bc BK166 0; have hcz8_1 := bc BK166 1; have hcz8_2 := bc BK166 2; have hcz8_3 := bc BK166 3; have hcz8_4 := bc BK166 4; have hcz8_5 := bc BK166 5; have hfz8_0 := qA BK166.out 0; have hfz8_1 := qA BK166.out 1; have hfz8_2 := qA BK166.out 2; have hfz8_3 := qA BK166.out 3; have hfz8_4 := qA BK166.out 4; have hfz8_5 := qA BK166.out 5))
  refine bodyPost_ret (results_cell_row rfl _ _ gb166 31 #[.int .i64 a0_3, .int .i64 a0_0, .int .i64 a0_2, .int .i64 a0_5, .int .i64 a0_4, .int .i64 a0_1] (0, 0) _ rfl (by (with_reducible repeat (first | refine qE ?_ _ | refine qG ?_ | refine qD ?_ _)); refine qV (cs := #[.int .i64 a0_3, .int .i64 a0_0, .int .i64 a0_2, .int .i64 a0_5, .int .i64 a0_4, .int .i64 0]) ?_ 5 _ rfl; (with_reducible repeat (first | refine qE ?_ _ | refine qG ?_ | refine qD ?_ _)); refine qV (cs := #[.int .i64 a0_3, .int .i64 a0_0, .int .i64 a0_2, .int .i64 a0_5, .int .i64 0, .int .i64 0]) ?_ 4 _ rfl; (with_reducible repeat (first | refine qE ?_ _ | refine qG ?_ | refine qD ?_ _)); refine qV (cs := #[.int .i64 a0_3, .int .i64 a0_0, .int .i64 a0_2, .int .i64 0, .int .i64 0, .int .i64 0]) ?_ 3 _ rfl; (with_reducible repeat (first | refine qE ?_ _ | refine qG ?_ | refine qD ?_ _)); refine qV (cs := #[.int .i64 a0_3, .int .i64 a0_0, .int .i64 0, .int .i64 0, .int .i64 0, .int .i64 0]) ?_ 2 _ rfl; (with_reducible repeat (first | refine qE ?_ _ | refine qG ?_ | refine qD ?_ _)); refine qV (cs := #[.int .i64 a0_3, .int .i64 0, .int .i64 0, .int .i64 0, .int .i64 0, .int .i64 0]) ?_ 1 _ rfl; (with_reducible repeat (first | refine qE ?_ _ | refine qG ?_ | refine qD ?_ _)); refine qV (cs := #[.int .i64 0, .int .i64 0, .int .i64 0, .int .i64 0, .int .i64 0, .int .i64 0]) ?_ 0 _ rfl; (with_reducible repeat (first | refine qE ?_ _ | refine qG ?_ | refine qD ?_ _)); exact BK166.out) Tryd.underlying31 rfl (by kernel_rfl)) rfl ?_
  exact ⟨by first | rfl | (simp [qQ, qP] <;> rfl) | (simp [*, qQ, qP] <;> rfl), bl⟩
 ·rw [if_neg c3] at H
  have c3b0 : (a1 == 110) = false := beq_eq_false_iff_ne.mpr c3
  have c3b1 : (a1 != 110) = true := bne_iff_ne.mpr c3
  by_cases c9 : a1 = 101
  ·rw [if_pos c9] at H
   have c9b0 : (a1 == 101) = true := beq_iff_eq.mpr c9
   have c9b1 : (a1 != 101) = false := bne_eq_false_iff_eq.mpr c9
   clear c9
   simp only [Option.some.injEq, Prod.mk.injEq] at H
   obtain ⟨rfl, rfl, rfl, rfl, rfl, rfl⟩ := H
   go_enter Tryd.func55, Tryd.ntmps55
   go_wp2_with (first | ((with_reducible refine qa (N := 2) rfl ?_); refine qb ?hg (N := 2) ?hd (cs := #[.int .i64 a0_0, .int .i64 a0_1, .int .i64 a0_2, .int .i64 a0_3, .int .i64 a0_4, .int .i64 a0_5]) (t := 31) ?hr ?_; (case hd => rfl); (case hg => rfl); (case hr => first | (go_simp; done) | (go_simp; rfl)); intro gb165 hg w10 hbox hb; have n0_ := Aside0.mk (qK bl hb); have n1_ := Aside0.mk (hbox); have n2_ := Aside0.mk ((gg hg)); have n3_ := Aside0.mk ((gg hg)); clear HB; have HB := n0_; have BK165 := n1_; have GW165 := n2_; have GE165 := n3_; clear n0_ n1_ n2_ n3_; clear hb hbox hg) | ((with_reducible refine qa (N := 4) rfl ?_); refine qb ?hg (N := 4) ?hd (cs := #[.int .i64 0, .int .i64 0, .int .i64 0, .int .i64 0, .int .i64 0, .int .i64 0]) (t := 31) ?hr ?_; (case hd => rfl); (case hg => rfl); (case hr => first | (go_simp; done) | (go_simp; rfl)); intro gb166 hg w11 hbox hb; have n0_ := Aside0.mk (bb BK165 hb); have n1_ := Aside0.mk (qK bl hb); have n2_ := Aside0.mk (hbox); have n3_ := Aside0.mk ((gg hg)); have n4_ := Aside0.mk ((gg hg)); have n5_ := Aside0.mk ((nl BK165 hg)); have n6_ := Aside0.mk ((nr BK165 hg)); clear BK165; clear HB; have BK165 := n0_; have HB := n1_; have BK166 := n2_; have GW166 := n3_; have GE166 := n4_; have NB165_166 := n5_; have NB166_165 := n6_; clear n0_ n1_ n2_ n3_ n4_ n5_ n6_; clear hb hbox hg; have hnb12 := NB165_166.out; have hnc12 := NB166_165.out; have hcz13_0 := bc BK165 0; have hcz13_1 := bc BK165 1; have hcz13_2 := bc BK165 2; have hcz13_3 := bc BK165 3; have hcz13_4 := bc BK165 4; have hcz13_5 := bc BK165 5; have hfz13_0 := qA BK165.out 0; have hfz13_1 := qA BK165.out 1; have hfz13_2 := qA BK165.out 2; have hfz13_3 := qA BK165.out 3; have hfz13_4 := qA BK165.out 4; have hfz13_5 := qA BK165.out 5; have hcz14_0 := bc BK166 0; have hcz14_1 := bc BK166 1; have hcz14_2 := bc BK166 2; have hcz14_3 := bc BK166 3; have hcz14_4 := bc BK166 4; have hcz14_5 := bc BK166 5; have hfz14_0 := qA BK166.out 0; have hfz14_1 := qA BK166.out 1; have hfz14_2 := qA BK166.out 2; have hfz14_3 := qA BK166.out 3; have hfz14_4 := qA BK166.out 4; have hfz14_5 := qA BK166.out 5))
   refine bodyPost_ret (results_cell_row rfl _ _ gb166 31 #[.int .i64 a0_4, .int .i64 a0_1, .int .i64 a0_0, .int .i64 a0_3, .int .i64 a0_5, .int .i64 a0_2] (0, 0) _ rfl (by (with_reducible repeat (first | refine qE ?_ _ | refine qG ?_ | refine qD ?_ _)); refine qV (cs := #[.int .i64 a0_4, .int .i64 a0_1, .int .i64 a0_0, .int .i64 a0_3, .int .i64 a0_5, .int .i64 0]) ?_ 5 _ rfl; (with_reducible repeat (first | refine qE ?_ _ | refine qG ?_ | refine qD ?_ _)); refine qV (cs := #[.int .i64 a0_4, .int .i64 a0_1, .int .i64 a0_0, .int .i64 a0_3, .int .i64 0, .int .i64 0]) ?_ 4 _ rfl; (with_reducible repeat (first | refine qE ?_ _ | refine qG ?_ | refine qD ?_ _)); refine qV (cs := #[.int .i64 a0_4, .int .i64 a0_1, .int .i64 a0_0, .int .i64 0, .int .i64 0, .int .i64 0]) ?_ 3 _ rfl; (with_reducible repeat (first | refine qE ?_ _ | refine qG ?_ | refine qD ?_ _)); refine qV (cs := #[.int .i64 a0_4, .int .i64 a0_1, .int .i64 0, .int .i64 0, .int .i64 0, .int .i64 0]) ?_ 2 _ rfl; (with_reducible repeat (first | refine qE ?_ _ | refine qG ?_ | refine qD ?_ _)); refine qV (cs := #[.int .i64 a0_4, .int .i64 0, .int .i64 0, .int .i64 0, .int .i64 0, .int .i64 0]) ?_ 1 _ rfl; (with_reducible repeat (first | refine qE ?_ _ | refine qG ?_ | refine qD ?_ _)); refine qV (cs := #[.int .i64 0, .int .i64 0, .int .i64 0, .int .i64 0, .int .i64 0, .int .i64 0]) ?_ 0 _ rfl; (with_reducible repeat (first | refine qE ?_ _ | refine qG ?_ | refine qD ?_ _)); exact BK166.out) Tryd.underlying31 rfl (by kernel_rfl)) rfl ?_
   exact ⟨by first | rfl | (simp [qQ, qP] <;> rfl) | (simp [*, qQ, qP] <;> rfl), bl⟩
  ·rw [if_neg c9] at H
   have c9b0 : (a1 == 101) = false := beq_eq_false_iff_ne.mpr c9
   have c9b1 : (a1 != 101) = true := bne_iff_ne.mpr c9
   by_cases c15 : a1 = 115
   ·rw [if_pos c15] at H
    have c15b0 : (a1 == 115) = true := beq_iff_eq.mpr c15
    have c15b1 : (a1 != 115) = false := bne_eq_false_iff_eq.mpr c15
    clear c15
    simp only [Option.some.injEq, Prod.mk.injEq] at H
    obtain ⟨rfl, rfl, rfl, rfl, rfl, rfl⟩ := H
    go_enter Tryd.func55, Tryd.ntmps55
    go_wp2_with (first | ((with_reducible refine qa (N := 2) rfl ?_); refine qb ?hg (N := 2) ?hd (cs := #[.int .i64 a0_0, .int .i64 a0_1, .int .i64 a0_2, .int .i64 a0_3, .int .i64 a0_4, .int .i64 a0_5]) (t := 31) ?hr ?_; (case hd => rfl); (case hg => rfl); (case hr => first | (go_simp; done) | (go_simp; rfl)); intro gb165 hg w16 hbox hb; have n0_ := Aside0.mk (qK bl hb); have n1_ := Aside0.mk (hbox); have n2_ := Aside0.mk ((gg hg)); have n3_ := Aside0.mk ((gg hg)); clear HB; have HB := n0_; have BK165 := n1_; have GW165 := n2_; have GE165 := n3_; clear n0_ n1_ n2_ n3_; clear hb hbox hg) | ((with_reducible refine qa (N := 4) rfl ?_); refine qb ?hg (N := 4) ?hd (cs := #[.int .i64 0, .int .i64 0, .int .i64 0, .int .i64 0, .int .i64 0, .int .i64 0]) (t := 31) ?hr ?_; (case hd => rfl); (case hg => rfl); (case hr => first | (go_simp; done) | (go_simp; rfl)); intro gb166 hg w17 hbox hb; have n0_ := Aside0.mk (bb BK165 hb); have n1_ := Aside0.mk (qK bl hb); have n2_ := Aside0.mk (hbox); have n3_ := Aside0.mk ((gg hg)); have n4_ := Aside0.mk ((gg hg)); have n5_ := Aside0.mk ((nl BK165 hg)); have n6_ := Aside0.mk ((nr BK165 hg)); clear BK165; clear HB; have BK165 := n0_; have HB := n1_; have BK166 := n2_; have GW166 := n3_; have GE166 := n4_; have NB165_166 := n5_; have NB166_165 := n6_; clear n0_ n1_ n2_ n3_ n4_ n5_ n6_; clear hb hbox hg; have hnb18 := NB165_166.out; have hnc18 := NB166_165.out; have hcz19_0 := bc BK165 0; have hcz19_1 := bc BK165 1; have hcz19_2 := bc BK165 2; have hcz19_3 := bc BK165 3; have hcz19_4 := bc BK165 4; have hcz19_5 := bc BK165 5; have hfz19_0 := qA BK165.out 0; have hfz19_1 := qA BK165.out 1; have hfz19_2 := qA BK165.out 2; have hfz19_3 := qA BK165.out 3; have hfz19_4 := qA BK165.out 4; have hfz19_5 := qA BK165.out 5; have hcz20_0 := bc BK166 0; have hcz20_1 := bc BK166 1; have hcz20_2 := bc BK166 2; have hcz20_3 := bc BK166 3; have hcz20_4 := bc BK166 4; have hcz20_5 := bc BK166 5; have hfz20_0 := qA BK166.out 0; have hfz20_1 := qA BK166.out 1; have hfz20_2 := qA BK166.out 2; have hfz20_3 := qA BK166.out 3; have hfz20_4 := qA BK166.out 4; have hfz20_5 := qA BK166.out 5))
    refine bodyPost_ret (results_cell_row rfl _ _ gb166 31 #[.int .i64 a0_1, .int .i64 a0_5, .int .i64 a0_2, .int .i64 a0_0, .int .i64 a0_4, .int .i64 a0_3] (0, 0) _ rfl (by (with_reducible repeat (first | refine qE ?_ _ | refine qG ?_ | refine qD ?_ _)); refine qV (cs := #[.int .i64 a0_1, .int .i64 a0_5, .int .i64 a0_2, .int .i64 a0_0, .int .i64 a0_4, .int .i64 0]) ?_ 5 _ rfl; (with_reducible repeat (first | refine qE ?_ _ | refine qG ?_ | refine qD ?_ _)); refine qV (cs := #[.int .i64 a0_1, .int .i64 a0_5, .int .i64 a0_2, .int .i64 a0_0, .int .i64 0, .int .i64 0]) ?_ 4 _ rfl; (with_reducible repeat (first | refine qE ?_ _ | refine qG ?_ | refine qD ?_ _)); refine qV (cs := #[.int .i64 a0_1, .int .i64 a0_5, .int .i64 a0_2, .int .i64 0, .int .i64 0, .int .i64 0]) ?_ 3 _ rfl; (with_reducible repeat (first | refine qE ?_ _ | refine qG ?_ | refine qD ?_ _)); refine qV (cs := #[.int .i64 a0_1, .int .i64 a0_5, .int .i64 0, .int .i64 0, .int .i64 0, .int .i64 0]) ?_ 2 _ rfl; (with_reducible repeat (first | refine qE ?_ _ | refine qG ?_ | refine qD ?_ _)); refine qV (cs := #[.int .i64 a0_1, .int .i64 0, .int .i64 0, .int .i64 0, .int .i64 0, .int .i64 0]) ?_ 1 _ rfl; (with_reducible repeat (first | refine qE ?_ _ | refine qG ?_ | refine qD ?_ _)); refine qV (cs := #[.int .i64 0, .int .i64 0, .int .i64 0, .int .i64 0, .int .i64 0, .int .i64 0]) ?_ 0 _ rfl; (with_reducible repeat (first | refine qE ?_ _ | refine qG ?_ | refine qD ?_ _)); exact BK166.out) Tryd.underlying31 rfl (by kernel_rfl)) rfl ?_
    exact ⟨by first | rfl | (simp [qQ, qP] <;> rfl) | (simp [*, qQ, qP] <;> rfl), bl⟩
   ·rw [if_neg c15] at H
    have c15b0 : (a1 == 115) = false := beq_eq_false_iff_ne.mpr c15
    have c15b1 : (a1 != 115) = true := bne_iff_ne.mpr c15
    simp only [Option.some.injEq, Prod.mk.injEq] at H
    obtain ⟨rfl, rfl, rfl, rfl, rfl, rfl⟩ := H
    go_enter Tryd.func55, Tryd.ntmps55
    go_wp2_with (first | ((with_reducible refine qa (N := 2) rfl ?_); refine qb ?hg (N := 2) ?hd (cs := #[.int .i64 a0_0, .int .i64 a0_1, .int .i64 a0_2, .int .i64 a0_3, .int .i64 a0_4, .int .i64 a0_5]) (t := 31) ?hr ?_; (case hd => rfl); (case hg => rfl); (case hr => first | (go_simp; done) | (go_simp; rfl)); intro gb165 hg w21 hbox hb; have n0_ := Aside0.mk (qK bl hb); have n1_ := Aside0.mk (hbox); have n2_ := Aside0.mk ((gg hg)); have n3_ := Aside0.mk ((gg hg)); clear HB; have HB := n0_; have BK165 := n1_; have GW165 := n2_; have GE165 := n3_; clear n0_ n1_ n2_ n3_; clear hb hbox hg) | ((with_reducible refine qa (N := 4) rfl ?_); refine qb ?hg (N := 4) ?hd (cs := #[.int .i64 0, .int .i64 0, .int .i64 0, .int .i64 0, .int .i64 0, .int .i64 0]) (t := 31) ?hr ?_; (case hd => rfl); (case hg => rfl); (case hr => first | (go_simp; done) | (go_simp; rfl)); intro gb166 hg w22 hbox hb; have n0_ := Aside0.mk (bb BK165 hb); have n1_ := Aside0.mk (qK bl hb); have n2_ := Aside0.mk (hbox); have n3_ := Aside0.mk ((gg hg)); have n4_ := Aside0.mk ((gg hg)); have n5_ := Aside0.mk ((nl BK165 hg)); have n6_ := Aside0.mk ((nr BK165 hg)); clear BK165; clear HB; have BK165 := n0_; have HB := n1_; have BK166 := n2_; have GW166 := n3_; have GE166 := n4_; have NB165_166 := n5_; have NB166_165 := n6_; clear n0_ n1_ n2_ n3_ n4_ n5_ n6_; clear hb hbox hg; have hnb23 := NB165_166.out; have hnc23 := NB166_165.out; have hcz24_0 := bc BK165 0; have hcz24_1 := bc BK165 1; have hcz24_2 := bc BK165 2; have hcz24_3 := bc BK165 3; have hcz24_4 := bc BK165 4; have hcz24_5 := bc BK165 5; have hfz24_0 := qA BK165.out 0; have hfz24_1 := qA BK165.out 1; have hfz24_2 := qA BK165.out 2; have hfz24_3 := qA BK165.out 3; have hfz24_4 := qA BK165.out 4; have hfz24_5 := qA BK165.out 5; have hcz25_0 := bc BK166 0; have hcz25_1 := bc BK166 1; have hcz25_2 := bc BK166 2; have hcz25_3 := bc BK166 3; have hcz25_4 := bc BK166 4; have hcz25_5 := bc BK166 5; have hfz25_0 := qA BK166.out 0; have hfz25_1 := qA BK166.out 1; have hfz25_2 := qA BK166.out 2; have hfz25_3 := qA BK166.out 3; have hfz25_4 := qA BK166.out 4; have hfz25_5 := qA BK166.out 5))
    refine bodyPost_ret (results_cell_row rfl _ _ gb166 31 #[.int .i64 a0_2, .int .i64 a0_1, .int .i64 a0_5, .int .i64 a0_3, .int .i64 a0_0, .int .i64 a0_4] (0, 0) _ rfl (by (with_reducible repeat (first | refine qE ?_ _ | refine qG ?_ | refine qD ?_ _)); refine qV (cs := #[.int .i64 a0_2, .int .i64 a0_1, .int .i64 a0_5, .int .i64 a0_3, .int .i64 a0_0, .int .i64 0]) ?_ 5 _ rfl; (with_reducible repeat (first | refine qE ?_ _ | refine qG ?_ | refine qD ?_ _)); refine qV (cs := #[.int .i64 a0_2, .int .i64 a0_1, .int .i64 a0_5, .int .i64 a0_3, .int .i64 0, .int .i64 0]) ?_ 4 _ rfl; (with_reducible repeat (first | refine qE ?_ _ | refine qG ?_ | refine qD ?_ _)); refine qV (cs := #[.int .i64 a0_2, .int .i64 a0_1, .int .i64 a0_5, .int .i64 0, .int .i64 0, .int .i64 0]) ?_ 3 _ rfl; (with_reducible repeat (first | refine qE ?_ _ | refine qG ?_ | refine qD ?_ _)); refine qV (cs := #[.int .i64 a0_2, .int .i64 a0_1, .int .i64 0, .int .i64 0, .int .i64 0, .int .i64 0]) ?_ 2 _ rfl; (with_reducible repeat (first | refine qE ?_ _ | refine qG ?_ | refine qD ?_ _)); refine qV (cs := #[.int .i64 a0_2, .int .i64 0, .int .i64 0, .int .i64 0, .int .i64 0, .int .i64 0]) ?_ 1 _ rfl; (with_reducible repeat (first | refine qE ?_ _ | refine qG ?_ | refine qD ?_ _)); refine qV (cs := #[.int .i64 0, .int .i64 0, .int .i64 0, .int .i64 0, .int .i64 0, .int .i64 0]) ?_ 0 _ rfl; (with_reducible repeat (first | refine qE ?_ _ | refine qG ?_ | refine qD ?_ _)); exact BK166.out) Tryd.underlying31 rfl (by kernel_rfl)) rfl ?_
    exact ⟨by first | rfl | (simp [qQ, qP] <;> rfl) | (simp [*, qQ, qP] <;> rfl), bl⟩
end Go.Proofs.YtdncpkppkafkpaaDoor.P
