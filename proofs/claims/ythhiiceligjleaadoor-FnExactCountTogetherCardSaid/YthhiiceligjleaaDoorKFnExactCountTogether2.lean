/- The program's CountTogether returns what the reference's returns, for all texts and dice (the law lets longer texts and lists by). No further condition. -/
import Derived.Test.YthhiiceligjleaaDoorKFnExactCountTogether1

namespace Go.Proofs.YthhiiceligjleaaDoor.P
open Go.RowKit Go.Proofs.YthhiiceligjleaaDoorW.PrintWords Go.Proofs.YthhiiceligjleaaDoorW.PrintLast Go.Proofs.YthhiiceligjleaaDoorW.PrintMore
attribute [local go_sem] qn ql qw qv qc qb qm qk
set_option linter.unusedVariables false
set_option linter.unusedSimpArgs false
def qQA.l0 : Nat → List Int → List (S39) → Int → Int → Int → Int → List Int → Option (List Int)
 | 0, _, _, _, _, _, _, _ => none
 | k + 1, x5, x10, x11, x12, x251000, x251001, x251002 => if x12 < x11 then (if 0 ≤ x12 then (if x12 < (x10.length : Int) then ((qHA.f k x251000 x251001 x251002 0 0 ((qC x10 x12).f0) ((qC x10 x12).f1) ((qC x10 x12).f2) ((qC x10 x12).f3) ((qC x10 x12).f4) ((qC x10 x12).f5)).bind fun t257 => (if x5.length < 17592186044416 then (qQA.l0 k (x5 ++ [t257]) x10 x11 (wrap64 (x12 + 1)) x251000 x251001 x251002) else (none))) else (none)) else (none)) else (some x5)
def qQA.f (k : Nat) (a0_0 : Int) (a0_1 : Int) (l0_2 : List Int) (a1_0 : Int) (a1_1 : Int) (a1_2 : Int) (a1_3 : Int) (a1_4 : Int) (a1_5 : Int) (a1_6 : Int) (a1_7 : Int) : Option (List Int) := (qR.f k a1_2 a1_3 a1_4 a1_5 a1_6 a1_7).bind fun t252 => (qQA.l0 k ([] : List Int) t252 (t252.length : Int) 0 a0_0 a0_1 l0_2)
set_option maxHeartbeats 8000000 in
set_option maxRecDepth 100000 in
theorem qQA.calls (k : Nat) (a0_0 : Int) (a0_1 : Int) (A0_2 : Option Addr) (c0_2 : Nat) (l0_2 : List Int) (a1_0 : Int) (a1_1 : Int) (a1_2 : Int) (a1_3 : Int) (a1_4 : Int) (a1_5 : Int) (a1_6 : Int) (a1_7 : Int) (r : List Int) (w : World) (hr0_2 : Kd.C (Kd.int .u8) w A0_2 l0_2.length l0_2) (hc0_2 : l0_2.length ≤ c0_2) (h : qQA.f k a0_0 a0_1 l0_2 a1_0 a1_1 a1_2 a1_3 a1_4 a1_5 a1_6 a1_7 = some r) :
  Calls Tryd.prog 16 #[.agg #[.int .i64 a0_0, .int .i64 a0_1, .slice A0_2 l0_2.length c0_2], .agg #[.int .i64 a1_0, .int .i64 a1_1, .int .i64 a1_2, .int .i64 a1_3, .int .i64 a1_4, .int .i64 a1_5, .int .i64 a1_6, .int .i64 a1_7]] w fun e w' => ∃ v0_ : Value, e = .returned (v0_) ∧ Kd.R (Kd.int .i64) 3 w' w.heap.size (fun _ => True) v0_ r ∧ Below w.heap.size w w' := by
 have hu32 := Tryd.underlying32
 have hu41 := Tryd.underlying41
 have hu39 := Tryd.underlying39
 have HR0_2 := aM hr0_2
 have HC0_2 := aM hc0_2
 clear hr0_2 hc0_2
 have HB := aM (Below.refl w.heap.size w)
 have H : ((qR.f k a1_2 a1_3 a1_4 a1_5 a1_6 a1_7).bind fun t252 => (qQA.l0 k ([] : List Int) t252 (t252.length : Int) 0 a0_0 a0_1 l0_2)) = some r := h
 clear h
 replace H := bO H
 obtain ⟨t252, A3, H⟩ := H
 have H' := aM H
 clear H
 go_enter Tryd.func16, Tryd.ntmps16
 go_wp2_with (first | ((with_reducible refine qK (N := 2) rfl ?_); refine qH ?hg (N := 2) ?hd (cs := #[.int .i64 a0_0, .int .i64 a0_1, .slice A0_2 l0_2.length c0_2]) (t := 32) ?hr ?_; (case hd => rfl); (case hg => rfl); (case hr => exact gS); intro gb250 hg w4 hbox hb; have BK250 := aM (hbox); have GW250 := aM ((gg hg)); have GE250 := aM ((gg hg)); replace HB := aM (qB bl hb); clear hb hbox hg) | ((with_reducible refine qK (N := 3) rfl ?_); refine qH ?hg (N := 3) ?hd (cs := #[.int .i64 a1_0, .int .i64 a1_1, .int .i64 a1_2, .int .i64 a1_3, .int .i64 a1_4, .int .i64 a1_5, .int .i64 a1_6, .int .i64 a1_7]) (t := 41) ?hr ?_; (case hd => rfl); (case hg => rfl); (case hr => exact gS); intro gb251 hg w5 hbox hb; have BK251 := aM (hbox); have GW251 := aM ((gg hg)); have GE251 := aM ((gg hg)); have NB250_251 := aM ((nl BK250 hg)); have NB251_250 := aM ((nr BK250 hg)); replace BK250 := aM (bb BK250 hb); replace HB := aM (qB bl hb); clear hb hbox hg; have hnb6 := NB251_250.out; have hnc6 := NB250_251.out; (refine cb8 BK251 ?_; intro hcz7_0 hcz7_1 hcz7_2 hcz7_3 hcz7_4 hcz7_5 hcz7_6 hcz7_7); (refine cz8 BK251 ?_; intro hfz7_0 hfz7_1 hfz7_2 hfz7_3 hfz7_4 hfz7_5 hfz7_6 hfz7_7)) | ((with_reducible refine qJ (f := 29) rfl ?_); refine qr (some 10) rfl rfl Tryd.func29 (by kernel_rfl) rfl #[.agg #[.int .i64 a1_2, .int .i64 a1_3, .int .i64 a1_4, .int .i64 a1_5, .int .i64 a1_6, .int .i64 a1_7]] rfl gA ?_; (with_reducible refine (qR.calls k a1_2 a1_3 a1_4 a1_5 a1_6 a1_7 t252 _ A3.out).mono ?_); rintro e w8 ⟨v253, rfl, ho0, hb⟩; refine ⟨_, rfl, ?_⟩; have HO254 := aM (Kd.qx ho0 (qL bl)); replace BK250 := aM (bb BK250 hb); replace BK251 := aM (bb BK251 hb); replace HB := aM (qB bl hb); (try clear hb); (try clear hb2); (try clear hk); (try clear hi); (try clear ho0); obtain ⟨Ao9, co9, eo9⟩ := Kd.qBA HO254.out; subst eo9))
 go_loopg [5, 12] k (fun kq v5 v12 w' => ∃ (x5_1 : List Int) (x12_1 : Int), v12 = .int .i64 x12_1 ∧ Aside0 (qQA.l0 kq x5_1 t252 (t252.length : Int) x12_1 a0_0 a0_1 l0_2 = some r) ∧ Aside0 (kq ≤ k) ∧ Aside0 (Kd.R (Kd.int .i64) 3 w' w.heap.size (fun _ => True) v5 x5_1) ∧ Aside0 (Kd.R k39 39 w' w.heap.size (fun _ => True) (.slice Ao9 t252.length co9) t252) ∧ Aside0 (w'.heap[gb250]? = some (.cells #[.int .i64 a0_0, .int .i64 a0_1, (.slice A0_2 l0_2.length c0_2)] 32 (0, 0))) ∧ Aside0 (w'.heap[gb251]? = some (.cells #[.int .i64 a1_0, .int .i64 a1_1, .int .i64 a1_2, .int .i64 a1_3, .int .i64 a1_4, .int .i64 a1_5, .int .i64 a1_6, .int .i64 a1_7] 41 (0, 0))) ∧ Aside0 (Below w.heap.size w w'))
 case atStart => exact ⟨(([] : List Int)), (0), sD, H', ⟨Nat.le_refl _⟩, ⟨nK⟩, ⟨rR HO254⟩, ⟨rB BK250⟩, ⟨rB BK251⟩, ⟨bl⟩⟩
 case round =>
  clear H'; (try clear c1); (try clear c2); (try clear p2); (try clear c6); (try clear hcz7_0); (try clear hcz7_1); (try clear hcz7_2); (try clear hcz7_3); (try clear hcz7_4); (try clear hcz7_5); (try clear hcz7_6); (try clear hcz7_7); (try clear hfz7_0); (try clear hfz7_1); (try clear hfz7_2); (try clear hfz7_3); (try clear hfz7_4); (try clear hfz7_5); (try clear hfz7_6); (try clear hfz7_7)
  obtain ⟨x5_1, x12_1, rfl, HA, HK1, HO_5, HO_10, BK250, BK251, HB⟩ := hrel
  cases gk with
  | zero => exact absurd HA.out (by simp [qQA.l0])
  | succ k1 =>
   have H := HA.out
   clear HA
   simp only [qQA.l0] at H
   by_cases c10 : x12_1 < (t252.length : Int)
   ·rw [if_pos c10] at H
    have c10b0 := decide_eq_true c10
    clear c10
    by_cases c11 : 0 ≤ x12_1
    ·rw [if_pos c11] at H
     have c11b0 := decide_eq_true c11
     clear c11
     by_cases c12 : x12_1 < (t252.length : Int)
     ·rw [if_pos c12] at H
      have c12b0 := decide_eq_true c12
      clear c12
      replace H := bO H
      obtain ⟨t257, A13, H⟩ := H
      by_cases c14 : x5_1.length < 17592186044416
      ·rw [if_pos c14] at H
       have LMc14 := aM c14
       clear c14
       obtain ⟨y258, hy258⟩ : ∃ y_ : List Int, y_ = (x5_1 ++ [t257]) := ⟨_, rfl⟩
       replace H : (qQA.l0 k1 y258 t252 (t252.length : Int) (wrap64 (x12_1 + 1)) a0_0 a0_1 l0_2) = some r := by first | (rw [hy258]; with_reducible exact H) | (have H2_ := (Option.bind_some _ _).symm.trans H; rw [hy258]; with_reducible exact H2_) | (have H2_ := (Option.bind_some _ _).symm.trans H; with_reducible exact H2_) | with_reducible exact H | (rw [hy258]; exact H) | exact H
       have Ny258 := aM hy258
       clear hy258
       have H' := aM H
       clear H
       have p255 : 0 ≤ (x12_1 : Int) := of_decide_eq_true am
       have q255 : x12_1 < (t252.length : Int) := of_decide_eq_true am
       obtain ⟨ad255, e255, hx255_0, hx255_1, hx255_2, hx255_3, hx255_4, hx255_5⟩ := qdD (Kd.qP HO_10.out).2.2 x12_1 p255 q255
       cases e255
       replace p255 := eq_true p255
       replace q255 := eq_true q255
       go_wp2_with (first | ((with_reducible refine qK (N := 7) rfl ?_); refine qH ?hg (N := 7) ?hd (cs := #[.int .i64 0, .int .i64 0, .int .i64 0, .int .i64 0, .int .i64 0, .int .i64 0]) (t := 39) ?hr ?_; (case hd => rfl); (case hg => rfl); (case hr => exact gS); intro gb256 hg w15 hbox hb; have BK256 := aM (hbox); have GW256 := aM ((gg hg)); have GE256 := aM ((gg hg)); have NB250_256 := aM ((nl BK250 hg)); have NB256_250 := aM ((nr BK250 hg)); have NB251_256 := aM ((nl BK251 hg)); have NB256_251 := aM ((nr BK251 hg)); replace HO_5 := aM (Kd.qd (rR HO_5) hb); replace HO_10 := aM (Kd.qd (Kd.qnC (rR HO_10) gb256 (Nat.le_of_eq hg.symm)) hb); replace BK250 := aM (bb BK250 hb); replace BK251 := aM (bb BK251 hb); replace HB := aM (qB bl hb); clear hb hbox hg; have hnb16 := NB256_250.out; have hnc16 := NB250_256.out; have hnb17 := NB256_251.out; have hnc17 := NB251_256.out; (refine cb6 BK256 ?_; intro _ _ _ _ _ _); (refine cz6 BK256 ?_; intro _ _ _ _ _ _); have hnb19 := NB250_251.out; have hnc19 := NB251_250.out; (refine cb3 BK250 ?_; intro _ _ _); (refine cz3 BK250 ?_; intro _ _ _)) | ((with_reducible refine qJ (f := 30) rfl ?_); refine qr (some 20) rfl rfl Tryd.func30 (by kernel_rfl) rfl #[.agg #[.int .i64 a0_0, .int .i64 a0_1, .slice A0_2 l0_2.length c0_2], .agg #[.int .i64 0, .int .i64 0, .int .i64 ((qC t252 x12_1).f0), .int .i64 ((qC t252 x12_1).f1), .int .i64 ((qC t252 x12_1).f2), .int .i64 ((qC t252 x12_1).f3), .int .i64 ((qC t252 x12_1).f4), .int .i64 ((qC t252 x12_1).f5)]] rfl gA ?_; (with_reducible refine (qHA.calls k1 a0_0 a0_1 _ _ l0_2 0 0 ((qC t252 x12_1).f0) ((qC t252 x12_1).f1) ((qC t252 x12_1).f2) ((qC t252 x12_1).f3) ((qC t252 x12_1).f4) ((qC t252 x12_1).f5) t257 _ ?side1 ?side2 A13.out).mono ?_); (case side1 => exact Kd.qg HR0_2.out bl); (case side2 => exact HC0_2.out); rintro e w21 ⟨rfl, hb⟩; refine ⟨_, rfl, ?_⟩; replace HO_5 := aM (Kd.qd (by (with_reducible repeat (first | apply Kd.qO | apply Kd.qQ | apply Kd.qS)); exact (Kd.qZ (Kd.R_far (p := ⟨gb256, 5, none⟩) (Kd.R_far (p := ⟨gb256, 4, none⟩) (Kd.R_far (p := ⟨gb256, 3, none⟩) (Kd.R_far (p := ⟨gb256, 2, none⟩) (Kd.R_far (p := ⟨gb256, 1, none⟩) (Kd.R_far (p := ⟨gb256, 0, none⟩) (Kd.qAB HO_5.out BK256.out (by decide)) (fun _ hk => hk.2) (.int .i64 ((qC t252 x12_1).f0))) (fun _ hk => hk.2) (.int .i64 ((qC t252 x12_1).f1))) (fun _ hk => hk.2) (.int .i64 ((qC t252 x12_1).f2))) (fun _ hk => hk.2) (.int .i64 ((qC t252 x12_1).f3))) (fun _ hk => hk.2) (.int .i64 ((qC t252 x12_1).f4))) (fun _ hk => hk.2) (.int .i64 ((qC t252 x12_1).f5))) (fun _ h_ => h_.1))) hb); replace HO_10 := aM (Kd.qd (by (with_reducible repeat (first | apply Kd.qO | apply Kd.qQ | apply Kd.qS)); exact (Kd.qZ (Kd.R_far (p := ⟨gb256, 5, none⟩) (Kd.R_far (p := ⟨gb256, 4, none⟩) (Kd.R_far (p := ⟨gb256, 3, none⟩) (Kd.R_far (p := ⟨gb256, 2, none⟩) (Kd.R_far (p := ⟨gb256, 1, none⟩) (Kd.R_far (p := ⟨gb256, 0, none⟩) (Kd.qZ HO_10.out (fun k_ hk => (⟨hk, hk.2⟩ : _ ∧ k_ ≠ gb256))) (fun _ hk => hk.2) (.int .i64 ((qC t252 x12_1).f0))) (fun _ hk => hk.2) (.int .i64 ((qC t252 x12_1).f1))) (fun _ hk => hk.2) (.int .i64 ((qC t252 x12_1).f2))) (fun _ hk => hk.2) (.int .i64 ((qC t252 x12_1).f3))) (fun _ hk => hk.2) (.int .i64 ((qC t252 x12_1).f4))) (fun _ hk => hk.2) (.int .i64 ((qC t252 x12_1).f5))) (fun _ h_ => h_.1))) hb); replace BK250 := aM (qPA (g := gb250) (o := .cells #[.int .i64 a0_0, .int .i64 a0_1, .slice A0_2 l0_2.length c0_2] 32 (0, 0)) (bF BK250 NB250_256) hb); replace BK251 := aM (qPA (g := gb251) (o := .cells #[.int .i64 a1_0, .int .i64 a1_1, .int .i64 a1_2, .int .i64 a1_3, .int .i64 a1_4, .int .i64 a1_5, .int .i64 a1_6, .int .i64 a1_7] 41 (0, 0)) (bF BK251 NB251_256) hb); replace BK256 := aM (qPA (g := gb256) (o := .cells #[.int .i64 ((qC t252 x12_1).f0), .int .i64 ((qC t252 x12_1).f1), .int .i64 ((qC t252 x12_1).f2), .int .i64 ((qC t252 x12_1).f3), .int .i64 ((qC t252 x12_1).f4), .int .i64 ((qC t252 x12_1).f5)] 39 (0, 0)) (by (with_reducible repeat (first | refine qG ?_ _ | refine qE ?_ | refine qF ?_ _)); exact bP6 BK256) hb); replace HB := aM (qB bl hb); (try clear hb); (try clear hb2); (try clear hk); (try clear hi)) | ((with_reducible refine qpA (b := .append) (xs := #[.tmp 16, .tmp 21]) rfl ?_); at_builtin; refine Kd.qRD (Kd.int .i64) (w0 := w) w.heap.size rfl (.tmp 16) (.tmp 21) 50 3 (.int .i64 0) 8 rfl Tryd.underlying50 info3 rfl (by decide) (by omega) u5 x5_1 t257 [.int .i64 t257] (fun _ => True) (fun _ => False) rfl rfl ?aP (fun _ hk => hk.elim) ?aF ?aO ?aB ?aS ?aL ?_; (case aP => exact rfl); (case aB => exact bl); (case aF => exact (fun _ _ => trivial)); (case aO => exact (rR HO_5)); (case aS => exact (qL bl)); (case aL => have := LMc14.out; omega); intro v259 w22 ho hb hg hat; rw [← Ny258.out] at ho; have HO260 := aM (ho); replace HO_10 := aM (Kd.qMB (rR HO_10) (Kd.qyA (rR HO_5)) (by decide) hg); replace BK250 := aM (qi (rB BK250) hg (Kd.R_ne HO_5.out BK250.out (by decide))); replace BK251 := aM (qi (rB BK251) hg (Kd.R_ne HO_5.out BK251.out (by decide))); replace BK256 := aM (qi (rB BK256) hg (Kd.R_ne HO_5.out BK256.out (by decide))); replace HB := aM (hb); clear HO_5; clear ho hb hg hat))
       go_roundg k1
       case measure => have := HK1.out; omega
       case rel => exact ⟨(y258), (wrap64 (x12_1 + 1)), sD, H', ⟨by have := HK1.out; omega⟩, ⟨rR HO260⟩, ⟨by (with_reducible repeat (first | apply Kd.qO | apply Kd.qQ | apply Kd.qS)); exact Kd.qZ HO_10.out (fun _ hk => trivial)⟩, ⟨rB BK250⟩, ⟨rB BK251⟩, ⟨bl⟩⟩
      ·rw [if_neg c14] at H
       exact absurd H (by simp)
     ·rw [if_neg c12] at H
      exact absurd H (by simp)
    ·rw [if_neg c11] at H
     exact absurd H (by simp)
   ·rw [if_neg c10] at H
    have c10b0 := decide_eq_false c10
    clear c10
    obtain rfl := Option.some.inj H
    go_wp2
    go_ret
    exact ⟨_, sR, by (with_reducible repeat (first | apply Kd.qO | apply Kd.qQ | apply Kd.qS)); exact HO_5.out, bl⟩
def qNA.l0 : Nat → Int → List Int → Int → Int → Option (Int)
 | 0, _, _, _, _ => none
 | k + 1, x1, x7, x8, x9 => if x9 < x8 then (if 0 ≤ x9 then (if x9 < (x7.length : Int) then (if (rd x7 x9) = x1 then (some x9) else (qNA.l0 k x1 x7 x8 (wrap64 (x9 + 1)))) else (none)) else (none)) else (some (-1))
def qNA.f (k : Nat) (l0 : List Int) (a1 : Int) : Option (Int) := qNA.l0 k a1 l0 (l0.length : Int) 0
set_option maxHeartbeats 8000000 in
set_option maxRecDepth 100000 in
theorem qNA.calls (k : Nat) (A0 : Option Addr) (c0 : Nat) (l0 : List Int) (a1 : Int) (r : Int) (w : World) (hr0 : Kd.C (Kd.int .i64) w A0 l0.length l0) (hc0 : l0.length ≤ c0) (h : qNA.f k l0 a1 = some r) :
  Calls Tryd.prog 31 #[.slice A0 l0.length c0, .int .i64 a1] w fun e w' => e = .returned (.int .i64 r) ∧ Drawn0 w w' := by
 have HR0 := aM hr0
 have HC0 := aM hc0
 clear hr0 hc0
 have H : (qNA.l0 k a1 l0 (l0.length : Int) 0) = some r := h
 clear h
 have H' := aM H
 clear H
 go_enter Tryd.func31, Tryd.ntmps31
 go_wp2
 go_loopg [9] k (fun kq v9 w' => ∃ (x9_1 : Int), v9 = .int .i64 x9_1 ∧ Aside0 (qNA.l0 kq a1 l0 (l0.length : Int) x9_1 = some r) ∧ Aside0 (kq ≤ k) ∧ Drawn0 w w')
 case atStart => exact ⟨(0), sD, H', ⟨Nat.le_refl _⟩, dR⟩
 case round =>
  clear H'; (try clear p2)
  obtain ⟨x9_1, rfl, HA, HK1, ⟨m1, rfl⟩⟩ := hrel
  cases gk with
  | zero => exact absurd HA.out (by simp [qNA.l0])
  | succ k1 =>
   have H := HA.out
   clear HA
   simp only [qNA.l0] at H
   by_cases c3 : x9_1 < (l0.length : Int)
   ·rw [if_pos c3] at H
    have c3b0 := decide_eq_true c3
    clear c3
    by_cases c4 : 0 ≤ x9_1
    ·rw [if_pos c4] at H
     have c4b0 := decide_eq_true c4
     clear c4
     by_cases c5 : x9_1 < (l0.length : Int)
     ·rw [if_pos c5] at H
      have c5b0 := decide_eq_true c5
      clear c5
      by_cases c6 : (rd l0 x9_1) = a1
      ·rw [if_pos c6] at H
       have c6b0 := beq_iff_eq.mpr c6
       have c6b1 := bne_eq_false_iff_eq.mpr c6
       clear c6
       obtain rfl := Option.some.inj H
       have p261 : 0 ≤ (x9_1 : Int) := of_decide_eq_true am
       have q261 : x9_1 < (l0.length : Int) := of_decide_eq_true am
       obtain ⟨ad261, e261, hx261_0⟩ := Kd.qFC HR0.out x9_1 p261 q261
       cases e261
       replace p261 := eq_true p261
       replace q261 := eq_true q261
       go_wp2
       go_ret
       exact ⟨by first | rfl | (simp; done) | (simp [*]; done), dR⟩
      ·rw [if_neg c6] at H
       have c6b0 := beq_eq_false_iff_ne.mpr c6
       have c6b1 := bne_iff_ne.mpr c6
       have H' := aM H
       clear H
       have p261 : 0 ≤ (x9_1 : Int) := of_decide_eq_true am
       have q261 : x9_1 < (l0.length : Int) := of_decide_eq_true am
       obtain ⟨ad261, e261, hx261_0⟩ := Kd.qFC HR0.out x9_1 p261 q261
       cases e261
       replace p261 := eq_true p261
       replace q261 := eq_true q261
       go_wp2
       go_roundg k1
       case measure => have := HK1.out; omega
       case rel => exact ⟨(wrap64 (x9_1 + 1)), sD, H', ⟨by have := HK1.out; omega⟩, dR⟩
     ·rw [if_neg c5] at H
      exact absurd H (by simp)
    ·rw [if_neg c4] at H
     exact absurd H (by simp)
   ·rw [if_neg c3] at H
    have c3b0 := decide_eq_false c3
    clear c3
    obtain rfl := Option.some.inj H
    go_wp2
    go_ret
    exact ⟨by first | rfl | (simp; done) | (simp [*]; done), dR⟩
def qt.l0 : Nat → List (List Int) → Int → List (S41) → Int → Int → Int → Int → List Int → Option (Int)
 | 0, _, _, _, _, _, _, _, _ => none
 | k + 1, x1, x7, x10, x11, x12, x263000, x263001, x263002 => if x12 < x11 then (if 0 ≤ x12 then (if x12 < (x10.length : Int) then (if x12 < (x1.length : Int) then ((qHA.f k x263000 x263001 x263002 0 0 ((qA x10 x12).f2.f0) ((qA x10 x12).f2.f1) ((qA x10 x12).f2.f2) ((qA x10 x12).f2.f3) ((qA x10 x12).f2.f4) ((qA x10 x12).f2.f5)).bind fun t266 => ((qNA.f k (rd_L7 x1 x12) t266).bind fun t267 => (qt.l0 k x1 (wrap64 ((wrap64 ((wrap64 ((wrap64 ((wrap64 (x7 * (x263002.length : Int))) + (wrap64 (((qA x10 x12).f1) * x263000)))) + ((qA x10 x12).f0))) * 24)) + t267)) x10 x11 (wrap64 (x12 + 1)) x263000 x263001 x263002))) else (none)) else (none)) else (none)) else (some x7)
def qt.f (k : Nat) (a0_0 : Int) (a0_1 : Int) (l0_2 : List Int) (l1 : List (List Int)) (l2 : List (S41)) : Option (Int) := qt.l0 k l1 0 l2 (l2.length : Int) 0 a0_0 a0_1 l0_2
def qt.T5 : Bool × List (List Nat × List Nat) := (true, [([], []), ([], []), ([1], [1]), ([2], [2]), ([0, 3], [0, 3]), ([], []), ([5], [5]), ([], []), ([7], [7]), ([6, 8], [6, 8]), ([4, 9], [4, 9]), ([], []), ([11], [11]), ([10, 12], [10, 12]), ([13], [13]), ([], []), ([], []), ([15, 16], [15, 16]), ([17], [17]), ([], []), ([], []), ([20], [20]), ([21], [21]), ([19, 22], [19, 22]), ([18, 23, 23], [18, 23]), ([14, 24], [14, 24]), ([25, 24, 0, 1, 2, 3, 4, 5, 6, 7, 8, 9, 10, 11, 12, 13, 14, 15, 16, 17, 18, 19, 20, 21, 22, 23, 24, 25], [0, 25])])
def qt.B5 : List Nat := [0, 0, 2, 6, 15, 0, 32, 0, 128, 480, 1023, 0, 2048, 8191, 16383, 0, 0, 98304, 229376, 0, 0, 1048576, 3145728, 7864320, 16744448, 33554431, 67108863]
theorem qt.tab5 : rtab .any (opsOf Tryd.f17 5) = qt.T5 := by kernel_rfl
theorem qt.bits5 : waitsOk qt.T5.2 qt.B5 = true := by kernel_rfl
set_option maxHeartbeats 8000000 in
set_option maxRecDepth 100000 in
theorem qt.calls (k : Nat) (a0_0 : Int) (a0_1 : Int) (A0_2 : Option Addr) (c0_2 : Nat) (l0_2 : List Int) (A1 : Option Addr) (c1 : Nat) (l1 : List (List Int)) (A2 : Option Addr) (c2 : Nat) (l2 : List (S41)) (r : Int) (w : World) (hr0_2 : Kd.C (Kd.int .u8) w A0_2 l0_2.length l0_2) (hc0_2 : l0_2.length ≤ c0_2) (hr1 : Kd.C (Kd.slice 3 (Kd.int .i64)) w A1 l1.length l1) (hc1 : l1.length ≤ c1) (hr2 : Kd.C k41 w A2 l2.length l2) (hc2 : l2.length ≤ c2) (h : qt.f k a0_0 a0_1 l0_2 l1 l2 = some r) :
  Calls Tryd.prog 17 #[.agg #[.int .i64 a0_0, .int .i64 a0_1, .slice A0_2 l0_2.length c0_2], .slice A1 l1.length c1, .slice A2 l2.length c2] w fun e w' => e = .returned (.int .i64 r) ∧ Below w.heap.size w w' := by
 have hu32 := Tryd.underlying32
 have hu41 := Tryd.underlying41
 have hu39 := Tryd.underlying39
 have HR0_2 := aM hr0_2
 have HC0_2 := aM hc0_2
 clear hr0_2 hc0_2
 have HR1 := aM hr1
 have HC1 := aM hc1
 clear hr1 hc1
 have HR2 := aM hr2
 have HC2 := aM hc2
 clear hr2 hc2
 have HB := aM (Below.refl w.heap.size w)
 have H : (qt.l0 k l1 0 l2 (l2.length : Int) 0 a0_0 a0_1 l0_2) = some r := h
 clear h
 have H' := aM H
 clear H
 go_enter Tryd.func17, Tryd.ntmps17
 go_wp2_with (first | ((with_reducible refine qK (N := 3) rfl ?_); refine qH ?hg (N := 3) ?hd (cs := #[.int .i64 a0_0, .int .i64 a0_1, .slice A0_2 l0_2.length c0_2]) (t := 32) ?hr ?_; (case hd => rfl); (case hg => rfl); (case hr => exact gS); intro gb262 hg w4 hbox hb; have BK262 := aM (hbox); have GW262 := aM ((gg hg)); have GE262 := aM ((gg hg)); replace HB := aM (qB bl hb); clear hb hbox hg))
 go_loopg [7, 12] k (fun kq v7 v12 w' => ∃ (x7_1 : Int) (x12_1 : Int), v7 = .int .i64 x7_1 ∧ v12 = .int .i64 x12_1 ∧ Aside0 (qt.l0 kq l1 x7_1 l2 (l2.length : Int) x12_1 a0_0 a0_1 l0_2 = some r) ∧ Aside0 (kq ≤ k) ∧ Aside0 (w'.heap[gb262]? = some (.cells #[.int .i64 a0_0, .int .i64 a0_1, (.slice A0_2 l0_2.length c0_2)] 32 (0, 0))) ∧ Aside0 (Below w.heap.size w w'))
 case atStart => exact ⟨(0), (0), sD, sD, H', ⟨Nat.le_refl _⟩, ⟨rB BK262⟩, ⟨bl⟩⟩
 case round =>
  clear H'; (try clear c1); (try clear c2); (try clear p2)
  obtain ⟨x7_1, x12_1, rfl, rfl, HA, HK1, BK262, HB⟩ := hrel
  cases gk with
  | zero => exact absurd HA.out (by simp [qt.l0])
  | succ k1 =>
   have H := HA.out
   clear HA
   simp only [qt.l0] at H
   by_cases c5 : x12_1 < (l2.length : Int)
   ·rw [if_pos c5] at H
    have c5b0 := decide_eq_true c5
    clear c5
    by_cases c6 : 0 ≤ x12_1
    ·rw [if_pos c6] at H
     have c6b0 := decide_eq_true c6
     clear c6
     by_cases c7 : x12_1 < (l2.length : Int)
     ·rw [if_pos c7] at H
      have c7b0 := decide_eq_true c7
      clear c7
      by_cases c8 : x12_1 < (l1.length : Int)
      ·rw [if_pos c8] at H
       have c8b0 := decide_eq_true c8
       clear c8
       replace H := bO H
       obtain ⟨t266, A9, H⟩ := H
       replace H := bO H
       obtain ⟨t267, A10, H⟩ := H
       have H' := aM H
       clear H
       have p263 : 0 ≤ (x12_1 : Int) := of_decide_eq_true am
       have q263 : x12_1 < (l2.length : Int) := of_decide_eq_true am
       obtain ⟨ad263, e263, hx263_0, hx263_1, hx263_2, hx263_3, hx263_4, hx263_5, hx263_6, hx263_7⟩ := qTB HR2.out x12_1 p263 q263
       cases e263
       replace hx263_0 := (HB.out.cell (World.block_lt_of_cell? w _ hx263_0)).trans hx263_0
       replace hx263_1 := (HB.out.cell (World.block_lt_of_cell? w _ hx263_1)).trans hx263_1
       replace hx263_2 := (HB.out.cell (World.block_lt_of_cell? w _ hx263_2)).trans hx263_2
       replace hx263_3 := (HB.out.cell (World.block_lt_of_cell? w _ hx263_3)).trans hx263_3
       replace hx263_4 := (HB.out.cell (World.block_lt_of_cell? w _ hx263_4)).trans hx263_4
       replace hx263_5 := (HB.out.cell (World.block_lt_of_cell? w _ hx263_5)).trans hx263_5
       replace hx263_6 := (HB.out.cell (World.block_lt_of_cell? w _ hx263_6)).trans hx263_6
       replace hx263_7 := (HB.out.cell (World.block_lt_of_cell? w _ hx263_7)).trans hx263_7
       replace p263 := eq_true p263
       replace q263 := eq_true q263
       try go_wp2_with (first | ((with_reducible refine qK (N := 9) rfl ?_); refine qH ?hg (N := 9) ?hd (cs := #[.int .i64 0, .int .i64 0, .int .i64 0, .int .i64 0, .int .i64 0, .int .i64 0, .int .i64 0, .int .i64 0]) (t := 41) ?hr ?_; (case hd => rfl); (case hg => rfl); (case hr => exact gS); intro gb264 hg w11 hbox hb; have BK264 := aM (hbox); have GW264 := aM ((gg hg)); have GE264 := aM ((gg hg)); have NB262_264 := aM ((nl BK262 hg)); have NB264_262 := aM ((nr BK262 hg)); replace BK262 := aM (bb BK262 hb); replace HB := aM (qB bl hb); clear hb hbox hg; have hnb12 := NB264_262.out; have hnc12 := NB262_264.out; (refine cb8 BK264 ?_; intro _ _ _ _ _ _ _ _); (refine cz8 BK264 ?_; intro _ _ _ _ _ _ _ _)))
       have n0_ : Aside0 (((((((((w11.setCell ⟨gb264, 0, none⟩ (.int .i64 ((qA l2 x12_1).f0))).setCell ⟨gb264, 1, none⟩ (.int .i64 ((qA l2 x12_1).f1))).setCell ⟨gb264, 2, none⟩ (.int .i64 ((qA l2 x12_1).f2.f0))).setCell ⟨gb264, 3, none⟩ (.int .i64 ((qA l2 x12_1).f2.f1))).setCell ⟨gb264, 4, none⟩ (.int .i64 ((qA l2 x12_1).f2.f2))).setCell ⟨gb264, 5, none⟩ (.int .i64 ((qA l2 x12_1).f2.f3))).setCell ⟨gb264, 6, none⟩ (.int .i64 ((qA l2 x12_1).f2.f4))).setCell ⟨gb264, 7, none⟩ (.int .i64 ((qA l2 x12_1).f2.f5))).heap[gb262]? = some (.cells #[.int .i64 a0_0, .int .i64 a0_1, .slice A0_2 l0_2.length c0_2] 32 (0, 0))) := ⟨bF BK262 NB262_264⟩
       have n1_ : Aside0 (((((((((w11.setCell ⟨gb264, 0, none⟩ (.int .i64 ((qA l2 x12_1).f0))).setCell ⟨gb264, 1, none⟩ (.int .i64 ((qA l2 x12_1).f1))).setCell ⟨gb264, 2, none⟩ (.int .i64 ((qA l2 x12_1).f2.f0))).setCell ⟨gb264, 3, none⟩ (.int .i64 ((qA l2 x12_1).f2.f1))).setCell ⟨gb264, 4, none⟩ (.int .i64 ((qA l2 x12_1).f2.f2))).setCell ⟨gb264, 5, none⟩ (.int .i64 ((qA l2 x12_1).f2.f3))).setCell ⟨gb264, 6, none⟩ (.int .i64 ((qA l2 x12_1).f2.f4))).setCell ⟨gb264, 7, none⟩ (.int .i64 ((qA l2 x12_1).f2.f5))).heap[gb264]? = some (.cells #[.int .i64 ((qA l2 x12_1).f0), .int .i64 ((qA l2 x12_1).f1), .int .i64 ((qA l2 x12_1).f2.f0), .int .i64 ((qA l2 x12_1).f2.f1), .int .i64 ((qA l2 x12_1).f2.f2), .int .i64 ((qA l2 x12_1).f2.f3), .int .i64 ((qA l2 x12_1).f2.f4), .int .i64 ((qA l2 x12_1).f2.f5)] 41 (0, 0))) := ⟨by (with_reducible repeat (first | refine qG ?_ _ | refine qE ?_ | refine qF ?_ _)); exact bP8 BK264⟩
       have n2_ : Aside0 (Below w.heap.size w ((((((((w11.setCell ⟨gb264, 0, none⟩ (.int .i64 ((qA l2 x12_1).f0))).setCell ⟨gb264, 1, none⟩ (.int .i64 ((qA l2 x12_1).f1))).setCell ⟨gb264, 2, none⟩ (.int .i64 ((qA l2 x12_1).f2.f0))).setCell ⟨gb264, 3, none⟩ (.int .i64 ((qA l2 x12_1).f2.f1))).setCell ⟨gb264, 4, none⟩ (.int .i64 ((qA l2 x12_1).f2.f2))).setCell ⟨gb264, 5, none⟩ (.int .i64 ((qA l2 x12_1).f2.f3))).setCell ⟨gb264, 6, none⟩ (.int .i64 ((qA l2 x12_1).f2.f4))).setCell ⟨gb264, 7, none⟩ (.int .i64 ((qA l2 x12_1).f2.f5)))) := ⟨bl⟩
       (try clear BK262); (try clear BK264); (try clear HB)
       generalize ((((((((w11.setCell ⟨gb264, 0, none⟩ (.int .i64 ((qA l2 x12_1).f0))).setCell ⟨gb264, 1, none⟩ (.int .i64 ((qA l2 x12_1).f1))).setCell ⟨gb264, 2, none⟩ (.int .i64 ((qA l2 x12_1).f2.f0))).setCell ⟨gb264, 3, none⟩ (.int .i64 ((qA l2 x12_1).f2.f1))).setCell ⟨gb264, 4, none⟩ (.int .i64 ((qA l2 x12_1).f2.f2))).setCell ⟨gb264, 5, none⟩ (.int .i64 ((qA l2 x12_1).f2.f3))).setCell ⟨gb264, 6, none⟩ (.int .i64 ((qA l2 x12_1).f2.f4))).setCell ⟨gb264, 7, none⟩ (.int .i64 ((qA l2 x12_1).f2.f5))) = w14 at n0_ n1_ n2_ ⊢
       have BK262 := n0_
       have BK264 := n1_
       have HB := n2_
       clear n0_ n1_ n2_
       replace BK262 := aM (qE BK262.out)
       replace BK264 := aM (qE BK264.out)
       replace HB := aM (qu HB.out)
       have p265 : 0 ≤ (x12_1 : Int) := of_decide_eq_true am
       have q265 : x12_1 < (l1.length : Int) := of_decide_eq_true am
       obtain ⟨ad265, A265_0, c265_0, e265, hx265_0, hl265_0, hi265_0⟩ := at_L7 HR1.out x12_1 p265 q265
       have hw265_0 := hx265_0
       cases e265
       replace hx265_0 := (HB.out.cell (World.block_lt_of_cell? w _ hx265_0)).trans hx265_0
       have HR265_0 := aM hi265_0
       have HC265_0 := aM hl265_0
       clear hi265_0 hl265_0
       replace p265 := eq_true p265
       replace q265 := eq_true q265
       refine qCB (n := 27) (S := fun w' => w'.cell? ⟨gb262, 0, none⟩ = some (.int .i64 a0_0) ∧ w'.cell? ⟨gb262, 1, none⟩ = some (.int .i64 a0_1) ∧ w'.cell? ⟨gb262, 2, none⟩ = some (.slice A0_2 l0_2.length c0_2) ∧ w'.cell? ⟨gb264, 0, none⟩ = some (.int .i64 ((qA l2 x12_1).f0)) ∧ w'.cell? ⟨gb264, 1, none⟩ = some (.int .i64 ((qA l2 x12_1).f1)) ∧ w'.cell? ⟨gb264, 2, none⟩ = some (.int .i64 ((qA l2 x12_1).f2.f0)) ∧ w'.cell? ⟨gb264, 3, none⟩ = some (.int .i64 ((qA l2 x12_1).f2.f1)) ∧ w'.cell? ⟨gb264, 4, none⟩ = some (.int .i64 ((qA l2 x12_1).f2.f2)) ∧ w'.cell? ⟨gb264, 5, none⟩ = some (.int .i64 ((qA l2 x12_1).f2.f3)) ∧ w'.cell? ⟨gb264, 6, none⟩ = some (.int .i64 ((qA l2 x12_1).f2.f4)) ∧ w'.cell? ⟨gb264, 7, none⟩ = some (.int .i64 ((qA l2 x12_1).f2.f5)) ∧ w'.cell? (ad265.add (x12_1).toNat) = some (.slice A265_0 (rd_L7 l1 x12_1).length c265_0)) (ds := []) #[false, false, false, false, false, false, false, false, false, false, false, false, false, false, false, false, false, false, false, false, false, false, false, false, false, false, false] (by kernel_rfl) rfl rfl ⟨bc BK262 0, bc BK262 1, bc BK262 2, bc BK264 0, bc BK264 1, bc BK264 2, bc BK264 3, bc BK264 4, bc BK264 5, bc BK264 6, bc BK264 7, (hB HB hw265_0 :)⟩ (fun hHeld => ?_); refine qKA qt.tab5 qt.bits5 (fun HT_ HW_ => ?_)
       generalize w14.drew = w15 at BK262 BK264 HB HR265_0 hx265_0 hHeld ⊢
       refine pS (i := 0) (N := some 17) #[true, false, false, false, false, false, false, false, false, false, false, false, false, false, false, false, false, false, false, false, false, false, false, false, false, false, false] HT_ ?_
       refine pS (i := 1) (N := some 18) #[true, true, false, false, false, false, false, false, false, false, false, false, false, false, false, false, false, false, false, false, false, false, false, false, false, false, false] HT_ ?_
       refine pS (i := 5) (N := some 22) #[true, true, false, false, false, true, false, false, false, false, false, false, false, false, false, false, false, false, false, false, false, false, false, false, false, false, false] HT_ ?_
       refine pS (i := 7) (N := some 24) #[true, true, false, false, false, true, false, true, false, false, false, false, false, false, false, false, false, false, false, false, false, false, false, false, false, false, false] HT_ ?_
       refine pS (i := 11) (N := some 28) #[true, true, false, false, false, true, false, true, false, false, false, true, false, false, false, false, false, false, false, false, false, false, false, false, false, false, false] HT_ ?_
       refine pS (i := 15) (N := some 32) #[true, true, false, false, false, true, false, true, false, false, false, true, false, false, false, true, false, false, false, false, false, false, false, false, false, false, false] HT_ ?_
       refine pS (i := 16) (N := some 33) #[true, true, false, false, false, true, false, true, false, false, false, true, false, false, false, true, true, false, false, false, false, false, false, false, false, false, false] HT_ ?_
       refine pS (i := 17) (N := some 34) #[true, true, false, false, false, true, false, true, false, false, false, true, false, false, false, true, true, true, false, false, false, false, false, false, false, false, false] HT_ ?_
       refine pS (i := 20) (N := some 37) #[true, true, false, false, false, true, false, true, false, false, false, true, false, false, false, true, true, true, false, false, true, false, false, false, false, false, false] HT_ ?_
       refine tS (i := 2) (N := some 19) #[true, true, true, false, false, true, false, true, false, false, false, true, false, false, false, true, true, true, false, false, true, false, false, false, false, false, false] HT_ HW_ hHeld ?_
       refine pS (i := 3) (N := some 20) #[true, true, true, true, false, true, false, true, false, false, false, true, false, false, false, true, true, true, false, false, true, false, false, false, false, false, false] HT_ ?_
       refine pS (i := 4) (N := some 21) #[true, true, true, true, true, true, false, true, false, false, false, true, false, false, false, true, true, true, false, false, true, false, false, false, false, false, false] HT_ ?_
       refine tS (i := 6) (N := some 23) #[true, true, true, true, true, true, true, true, false, false, false, true, false, false, false, true, true, true, false, false, true, false, false, false, false, false, false] HT_ HW_ hHeld ?_
       refine tS (i := 8) (N := some 25) #[true, true, true, true, true, true, true, true, true, false, false, true, false, false, false, true, true, true, false, false, true, false, false, false, false, false, false] HT_ HW_ hHeld ?_
       refine pS (i := 9) (N := some 26) #[true, true, true, true, true, true, true, true, true, true, false, true, false, false, false, true, true, true, false, false, true, false, false, false, false, false, false] HT_ ?_
       refine pS (i := 10) (N := some 27) #[true, true, true, true, true, true, true, true, true, true, true, true, false, false, false, true, true, true, false, false, true, false, false, false, false, false, false] HT_ ?_
       refine tS (i := 12) (N := some 29) #[true, true, true, true, true, true, true, true, true, true, true, true, true, false, false, true, true, true, false, false, true, false, false, false, false, false, false] HT_ HW_ hHeld ?_
       refine pS (i := 13) (N := some 30) #[true, true, true, true, true, true, true, true, true, true, true, true, true, true, false, true, true, true, false, false, true, false, false, false, false, false, false] HT_ ?_
       refine pS (i := 14) (N := some 31) #[true, true, true, true, true, true, true, true, true, true, true, true, true, true, true, true, true, true, false, false, true, false, false, false, false, false, false] HT_ ?_
       refine tS (i := 18) (N := some 35) #[true, true, true, true, true, true, true, true, true, true, true, true, true, true, true, true, true, true, true, false, true, false, false, false, false, false, false] HT_ HW_ hHeld ?_
       refine tS (i := 19) (N := some 36) #[true, true, true, true, true, true, true, true, true, true, true, true, true, true, true, true, true, true, true, true, true, false, false, false, false, false, false] HT_ HW_ hHeld ?_
       refine tS (i := 21) (N := some 38) #[true, true, true, true, true, true, true, true, true, true, true, true, true, true, true, true, true, true, true, true, true, true, false, false, false, false, false] HT_ HW_ hHeld ?_
       refine pS (i := 22) (N := some 39) #[true, true, true, true, true, true, true, true, true, true, true, true, true, true, true, true, true, true, true, true, true, true, true, false, false, false, false] HT_ ?_
       refine one_ (i := 23) (N := some 40) #[true, true, true, true, true, true, true, true, true, true, true, true, true, true, true, true, true, true, true, true, true, true, true, true, false, false, false] rfl rfl (qUA HT_.out (by kernel_rfl)) (by decide) (fun K hK => ?_)
       refine goes_ Tryd.func30 (by kernel_rfl) rfl #[.agg #[.int .i64 a0_0, .int .i64 a0_1, .slice A0_2 l0_2.length c0_2], .agg #[.int .i64 0, .int .i64 0, .int .i64 ((qA l2 x12_1).f2.f0), .int .i64 ((qA l2 x12_1).f2.f1), .int .i64 ((qA l2 x12_1).f2.f2), .int .i64 ((qA l2 x12_1).f2.f3), .int .i64 ((qA l2 x12_1).f2.f4), .int .i64 ((qA l2 x12_1).f2.f5)]] (by rfl) rfl rfl gA ?_
       with_reducible refine (qHA.calls k1 a0_0 a0_1 _ _ l0_2 0 0 ((qA l2 x12_1).f2.f0) ((qA l2 x12_1).f2.f1) ((qA l2 x12_1).f2.f2) ((qA l2 x12_1).f2.f3) ((qA l2 x12_1).f2.f4) ((qA l2 x12_1).f2.f5) t266 _ ?side1 ?side2 A9.out).mono ?_
       (case side1 => repeat (first | exact (Kd.qg HR0_2.out HB.out) | (with_reducible refine Kd.qW ?_ _) | (with_reducible refine Kd.qV ?_ _) | (with_reducible refine Kd.qe ?_)))
       (case side2 => exact HC0_2.out)
       rintro e w16 ⟨rfl, hb⟩
       refine ⟨_, rfl, ?_⟩
       replace BK262 := aM (bb BK262 hb)
       replace BK264 := aM (bb BK264 hb)
       replace HB := aM (qB bl hb); (try clear hb); (try clear hb2); (try clear hk); (try clear hi)
       refine hK.out _ _ ⟨bc BK262 0, bc BK262 1, bc BK262 2, bc BK264 0, bc BK264 1, bc BK264 2, bc BK264 3, bc BK264 4, bc BK264 5, bc BK264 6, bc BK264 7, (hB HB hw265_0 :)⟩ (fun hHeld => ?_)
       clear hK K
       refine norm_ (a' := ?_) ?_ ?_
       rotate_left
       ·show Act.put _ (some 40) _ = _
        simp only [Act.put, List.setIfInBounds_toArray, List.set_cons_zero, List.set_cons_succ, i64_w, i32_w]
        rfl
       refine one_ (i := 24) (N := some 41) #[true, true, true, true, true, true, true, true, true, true, true, true, true, true, true, true, true, true, true, true, true, true, true, true, true, false, false] rfl rfl (qUA HT_.out (by kernel_rfl)) (by decide) (fun K hK => ?_)
       refine goes_ Tryd.func31 (by kernel_rfl) rfl #[.slice A265_0 (rd_L7 l1 x12_1).length c265_0, .int .i64 t266] (by rfl) rfl rfl gA ?_
       with_reducible refine (qNA.calls k1 _ _ (rd_L7 l1 x12_1) t266 t267 _ ?side1 ?side2 A10.out).mono ?_
       (case side1 => repeat (first | exact (Kd.qg HR265_0.out HB.out) | (with_reducible refine Kd.qW ?_ _) | (with_reducible refine Kd.qV ?_ _) | (with_reducible refine Kd.qe ?_)))
       (case side2 => exact HC265_0.out)
       rintro e w' ⟨rfl, ⟨nd, rfl⟩⟩
       refine ⟨_, rfl, ?_⟩
       refine hK.out _ _ ⟨bc BK262 0, bc BK262 1, bc BK262 2, bc BK264 0, bc BK264 1, bc BK264 2, bc BK264 3, bc BK264 4, bc BK264 5, bc BK264 6, bc BK264 7, (hB HB hw265_0 :)⟩ (fun hHeld => ?_)
       clear hK K
       refine norm_ (a' := ?_) ?_ ?_
       rotate_left
       ·show Act.put _ (some 41) _ = _
        simp only [Act.put, List.setIfInBounds_toArray, List.set_cons_zero, List.set_cons_succ, i64_w, i32_w]
        rfl
       refine pS (i := 25) (N := some 42) #[true, true, true, true, true, true, true, true, true, true, true, true, true, true, true, true, true, true, true, true, true, true, true, true, true, true, false] HT_ ?_
       refine pS (i := 26) (N := some 7) #[true, true, true, true, true, true, true, true, true, true, true, true, true, true, true, true, true, true, true, true, true, true, true, true, true, true, true] HT_ ?_
       refine done_ (qrA HT_.out (by kernel_rfl)) ?_
       try go_wp2
       go_roundg k1
       case measure => have := HK1.out; omega
       case rel => exact ⟨(wrap64 ((wrap64 ((wrap64 ((wrap64 ((wrap64 (x7_1 * (l0_2.length : Int))) + (wrap64 (((qA l2 x12_1).f1) * a0_0)))) + ((qA l2 x12_1).f0))) * 24)) + t267)), (wrap64 (x12_1 + 1)), sD, sD, H', ⟨by have := HK1.out; omega⟩, ⟨rB BK262⟩, ⟨bl⟩⟩
      ·rw [if_neg c8] at H
       exact absurd H (by simp)
     ·rw [if_neg c7] at H
      exact absurd H (by simp)
    ·rw [if_neg c6] at H
     exact absurd H (by simp)
   ·rw [if_neg c5] at H
    have c5b0 := decide_eq_false c5
    clear c5
    obtain rfl := Option.some.inj H
    go_wp2
    go_ret
    exact ⟨sR, bl⟩
def qOB.f (a0 : Int) (a1 : Int) (a2 : Int) : Option (Int × Int) := if a2 = 0 then (some (a0, wrap64 (a1 - 1))) else (if a2 = 1 then (some (wrap64 (a0 + 1), a1)) else (if a2 = 2 then (some (a0, wrap64 (a1 + 1))) else (some (wrap64 (a0 - 1), a1))))
set_option maxHeartbeats 8000000 in
set_option maxRecDepth 100000 in
theorem qOB.calls (a0 : Int) (a1 : Int) (a2 : Int) (r1 : Int) (r2 : Int) (w : World) (h : qOB.f a0 a1 a2 = some (r1, r2)) :
  Calls Tryd.prog 48 #[.int .i64 a0, .int .i64 a1, .int .i64 a2] w fun e w' => e = .returned (.tuple #[.int .i64 r1, .int .i64 r2]) ∧ Drawn0 w w' := by
 have H : (if a2 = 0 then (some (a0, wrap64 (a1 - 1))) else (if a2 = 1 then (some (wrap64 (a0 + 1), a1)) else (if a2 = 2 then (some (a0, wrap64 (a1 + 1))) else (some (wrap64 (a0 - 1), a1))))) = some (r1, r2) := h
 clear h
 by_cases c4 : a2 = 0
 ·rw [if_pos c4] at H
  have c4b0 := beq_iff_eq.mpr c4
  have c4b1 := bne_eq_false_iff_eq.mpr c4
  clear c4
  simp only [Option.some.injEq, Prod.mk.injEq] at H
  obtain ⟨rfl, rfl⟩ := H
  go_enter Tryd.func48, Tryd.ntmps48
  go_wp2
  go_ret2
  exact ⟨by first | rfl | (simp; done) | (simp [*]; done), dR⟩
 ·rw [if_neg c4] at H
  have c4b0 := beq_eq_false_iff_ne.mpr c4
  have c4b1 := bne_iff_ne.mpr c4
  by_cases c5 : a2 = 1
  ·rw [if_pos c5] at H
   have c5b0 := beq_iff_eq.mpr c5
   have c5b1 := bne_eq_false_iff_eq.mpr c5
   clear c5
   simp only [Option.some.injEq, Prod.mk.injEq] at H
   obtain ⟨rfl, rfl⟩ := H
   go_enter Tryd.func48, Tryd.ntmps48
   go_wp2
   go_ret2
   exact ⟨by first | rfl | (simp; done) | (simp [*]; done), dR⟩
  ·rw [if_neg c5] at H
   have c5b0 := beq_eq_false_iff_ne.mpr c5
   have c5b1 := bne_iff_ne.mpr c5
   by_cases c6 : a2 = 2
   ·rw [if_pos c6] at H
    have c6b0 := beq_iff_eq.mpr c6
    have c6b1 := bne_eq_false_iff_eq.mpr c6
    clear c6
    simp only [Option.some.injEq, Prod.mk.injEq] at H
    obtain ⟨rfl, rfl⟩ := H
    go_enter Tryd.func48, Tryd.ntmps48
    go_wp2
    go_ret2
    exact ⟨by first | rfl | (simp; done) | (simp [*]; done), dR⟩
   ·rw [if_neg c6] at H
    have c6b0 := beq_eq_false_iff_ne.mpr c6
    have c6b1 := bne_iff_ne.mpr c6
    simp only [Option.some.injEq, Prod.mk.injEq] at H
    obtain ⟨rfl, rfl⟩ := H
    go_enter Tryd.func48, Tryd.ntmps48
    go_wp2
    go_ret2
    exact ⟨by first | rfl | (simp; done) | (simp [*]; done), dR⟩
def qoA.f (a0_0 : Int) (a0_1 : Int) (l0_2 : List Int) (a1_0 : Int) (a1_1 : Int) (a1_2 : Int) (a1_3 : Int) (a1_4 : Int) (a1_5 : Int) (a1_6 : Int) (a1_7 : Int) (a2 : Int) : Option (Int × Int × Int × Int × Int × Int × Int × Int × Bool) := (qOB.f a1_0 a1_1 a2).bind fun bt271 => ((qcA.f a0_0 a0_1 l0_2 bt271.1 bt271.2).bind fun t273 => (if t273 = true then ((qqA.f a1_2 a1_3 a1_4 a1_5 a1_6 a1_7 a2).bind fun bt274 => (some (bt271.1, bt271.2, bt274.1, bt274.2.1, bt274.2.2.1, bt274.2.2.2.1, bt274.2.2.2.2.1, bt274.2.2.2.2.2, true))) else (some (0, 0, 0, 0, 0, 0, 0, 0, false))))
set_option maxHeartbeats 8000000 in
set_option maxRecDepth 100000 in
theorem qoA.calls (a0_0 : Int) (a0_1 : Int) (A0_2 : Option Addr) (c0_2 : Nat) (l0_2 : List Int) (a1_0 : Int) (a1_1 : Int) (a1_2 : Int) (a1_3 : Int) (a1_4 : Int) (a1_5 : Int) (a1_6 : Int) (a1_7 : Int) (a2 : Int) (r1 : Int) (r2 : Int) (r3 : Int) (r4 : Int) (r5 : Int) (r6 : Int) (r7 : Int) (r8 : Int) (r9 : Bool) (w : World) (hr0_2 : Kd.C (Kd.int .u8) w A0_2 l0_2.length l0_2) (hc0_2 : l0_2.length ≤ c0_2) (h : qoA.f a0_0 a0_1 l0_2 a1_0 a1_1 a1_2 a1_3 a1_4 a1_5 a1_6 a1_7 a2 = some (r1, r2, r3, r4, r5, r6, r7, r8, r9)) :
  Calls Tryd.prog 32 #[.agg #[.int .i64 a0_0, .int .i64 a0_1, .slice A0_2 l0_2.length c0_2], .agg #[.int .i64 a1_0, .int .i64 a1_1, .int .i64 a1_2, .int .i64 a1_3, .int .i64 a1_4, .int .i64 a1_5, .int .i64 a1_6, .int .i64 a1_7], .int .i64 a2] w fun e w' => e = .returned (.tuple #[.agg #[.int .i64 r1, .int .i64 r2, .int .i64 r3, .int .i64 r4, .int .i64 r5, .int .i64 r6, .int .i64 r7, .int .i64 r8], .bool r9]) ∧ Below w.heap.size w w' := by
 have hu32 := Tryd.underlying32
 have hu41 := Tryd.underlying41
 have hu39 := Tryd.underlying39
 have HR0_2 := aM hr0_2
 have HC0_2 := aM hc0_2
 clear hr0_2 hc0_2
 have HB := aM (Below.refl w.heap.size w)
 have H : ((qOB.f a1_0 a1_1 a2).bind fun bt271 => ((qcA.f a0_0 a0_1 l0_2 bt271.1 bt271.2).bind fun t273 => (if t273 = true then ((qqA.f a1_2 a1_3 a1_4 a1_5 a1_6 a1_7 a2).bind fun bt274 => (some (bt271.1, bt271.2, bt274.1, bt274.2.1, bt274.2.2.1, bt274.2.2.2.1, bt274.2.2.2.2.1, bt274.2.2.2.2.2, true))) else (some (0, 0, 0, 0, 0, 0, 0, 0, false))))) = some (r1, r2, r3, r4, r5, r6, r7, r8, r9) := h
 clear h
 replace H := bO H
 obtain ⟨⟨t271, t272⟩, A4, H⟩ := H
 dsimp only at H A4
 replace H := bO H
 obtain ⟨t273, A5, H⟩ := H
 by_cases c6 : t273 = true
 ·subst c6
  replace H := iT H
  replace H := bO H
  obtain ⟨⟨t274, t275, t276, t277, t278, t279⟩, A7, H⟩ := H
  dsimp only at H A7
  simp only [Option.some.injEq, Prod.mk.injEq] at H
  obtain ⟨rfl, rfl, rfl, rfl, rfl, rfl, rfl, rfl, rfl⟩ := H
  go_enter Tryd.func32, Tryd.ntmps32
  go_wp2_with (first | ((with_reducible refine qK (N := 3) rfl ?_); refine qH ?hg (N := 3) ?hd (cs := #[.int .i64 a0_0, .int .i64 a0_1, .slice A0_2 l0_2.length c0_2]) (t := 32) ?hr ?_; (case hd => rfl); (case hg => rfl); (case hr => exact gS); intro gb268 hg w8 hbox hb; have BK268 := aM (hbox); have GW268 := aM ((gg hg)); have GE268 := aM ((gg hg)); replace HB := aM (qB bl hb); clear hb hbox hg) | ((with_reducible refine qK (N := 4) rfl ?_); refine qH ?hg (N := 4) ?hd (cs := #[.int .i64 a1_0, .int .i64 a1_1, .int .i64 a1_2, .int .i64 a1_3, .int .i64 a1_4, .int .i64 a1_5, .int .i64 a1_6, .int .i64 a1_7]) (t := 41) ?hr ?_; (case hd => rfl); (case hg => rfl); (case hr => exact gS); intro gb269 hg w9 hbox hb; have BK269 := aM (hbox); have GW269 := aM ((gg hg)); have GE269 := aM ((gg hg)); have NB268_269 := aM ((nl BK268 hg)); have NB269_268 := aM ((nr BK268 hg)); replace BK268 := aM (bb BK268 hb); replace HB := aM (qB bl hb); clear hb hbox hg) | ((with_reducible refine qK (N := 6) rfl ?_); refine qH ?hg (N := 6) ?hd (cs := #[.int .i64 0, .int .i64 0, .int .i64 0, .int .i64 0, .int .i64 0, .int .i64 0, .int .i64 0, .int .i64 0]) (t := 41) ?hr ?_; (case hd => rfl); (case hg => rfl); (case hr => exact gS); intro gb270 hg w10 hbox hb; have BK270 := aM (hbox); have GW270 := aM ((gg hg)); have GE270 := aM ((gg hg)); have NB268_270 := aM ((nl BK268 hg)); have NB270_268 := aM ((nr BK268 hg)); have NB269_270 := aM ((nl BK269 hg)); have NB270_269 := aM ((nr BK269 hg)); replace BK268 := aM (bb BK268 hb); replace BK269 := aM (bb BK269 hb); replace HB := aM (qB bl hb); clear hb hbox hg; have hnb11 := NB269_268.out; have hnc11 := NB268_269.out; have hnb12 := NB269_270.out; have hnc12 := NB270_269.out; (refine cb8 BK269 ?_; intro _ _ _ _ _ _ _ _); (refine cz8 BK269 ?_; intro _ _ _ _ _ _ _ _)) | ((with_reducible refine qJ (f := 48) rfl ?_); refine qr (some 16) rfl rfl Tryd.func48 (by kernel_rfl) rfl #[.int .i64 a1_0, .int .i64 a1_1, .int .i64 a2] rfl gA ?_; (with_reducible refine (qOB.calls a1_0 a1_1 a2 t271 t272 _ A4.out).mono ?_); rintro e w' ⟨rfl, ⟨nd, rfl⟩⟩; refine ⟨_, rfl, ?_⟩; (try (rw [qjC w10]; generalize hq_ : World.drewN w10 _ = w10; have n0_ : Aside0 (w10.heap[gb268]? = some (.cells #[.int .i64 a0_0, .int .i64 a0_1, .slice A0_2 l0_2.length c0_2] 32 (0, 0))) := ⟨by rw [← hq_]; exact (rB BK268)⟩; have n1_ : Aside0 (w10.heap[gb269]? = some (.cells #[.int .i64 a1_0, .int .i64 a1_1, .int .i64 a1_2, .int .i64 a1_3, .int .i64 a1_4, .int .i64 a1_5, .int .i64 a1_6, .int .i64 a1_7] 41 (0, 0))) := ⟨by rw [← hq_]; exact (rB BK269)⟩; have n2_ : Aside0 (w10.heap[gb270]? = some (.cells #[.int .i64 0, .int .i64 0, .int .i64 0, .int .i64 0, .int .i64 0, .int .i64 0, .int .i64 0, .int .i64 0] 41 (0, 0))) := ⟨by rw [← hq_]; exact (rB BK270)⟩; have n3_ : Aside0 (Below w.heap.size w w10) := ⟨by rw [← hq_]; exact bl⟩; clear BK268 BK269 BK270 HB hq_; have BK268 := n0_; have BK269 := n1_; have BK270 := n2_; have HB := n3_; clear n0_ n1_ n2_ n3_)); have hnb14 := NB268_270.out; have hnc14 := NB270_268.out; (refine cb3 BK268 ?_; intro _ _ _); (refine cz3 BK268 ?_; intro _ _ _)) | ((with_reducible refine qJ (f := 43) rfl ?_); refine qr (some 22) rfl rfl Tryd.func43 (by kernel_rfl) rfl #[.agg #[.int .i64 a0_0, .int .i64 a0_1, .slice A0_2 l0_2.length c0_2], .int .i64 t271, .int .i64 t272] rfl gA ?_; (with_reducible refine (qcA.calls a0_0 a0_1 _ _ l0_2 t271 t272 true _ ?side1 ?side2 A5.out).mono ?_); (case side1 => repeat (first | exact (Kd.qg HR0_2.out HB.out) | (with_reducible refine Kd.qW ?_ _) | (with_reducible refine Kd.qV ?_ _) | (with_reducible refine Kd.qe ?_))); (case side2 => exact HC0_2.out); rintro e w16 ⟨rfl, hb⟩; refine ⟨_, rfl, ?_⟩; replace BK268 := aM (bb BK268 hb); replace BK269 := aM (bb BK269 hb); replace BK270 := aM (bb BK270 hb); replace HB := aM (qB bl hb); (try clear hb); (try clear hb2); (try clear hk); (try clear hi); (refine cb8 BK269 ?_; intro _ _ _ _ _ _ _ _); (refine cz8 BK269 ?_; intro _ _ _ _ _ _ _ _)) | ((with_reducible refine qJ (f := 49) rfl ?_); refine qr (some 30) rfl rfl Tryd.func49 (by kernel_rfl) rfl #[.agg #[.int .i64 a1_2, .int .i64 a1_3, .int .i64 a1_4, .int .i64 a1_5, .int .i64 a1_6, .int .i64 a1_7], .int .i64 a2] rfl gA ?_; (with_reducible refine (qqA.calls a1_2 a1_3 a1_4 a1_5 a1_6 a1_7 a2 t274 t275 t276 t277 t278 t279 _ A7.out).mono ?_); rintro e w18 ⟨rfl, hb⟩; refine ⟨_, rfl, ?_⟩; replace BK268 := aM (bb BK268 hb); replace BK269 := aM (bb BK269 hb); replace BK270 := aM (bb BK270 hb); replace HB := aM (qB bl hb); (try clear hb); (try clear hb2); (try clear hk); (try clear hi); (refine cb8 BK270 ?_; intro _ _ _ _ _ _ _ _); (refine cz8 BK270 ?_; intro _ _ _ _ _ _ _ _)))
  refine bodyPost_ret (qmA rfl _ _ gb270 41 #[.int .i64 t271, .int .i64 t272, .int .i64 t274, .int .i64 t275, .int .i64 t276, .int .i64 t277, .int .i64 t278, .int .i64 t279] (0, 0) _ rfl (by (with_reducible repeat (first | refine qG ?_ _ | refine qE ?_ | refine qF ?_ _)); exact bP8 BK270) Tryd.underlying41 rfl (by kernel_rfl)) rfl ?_
  exact ⟨sR, bl⟩
 ·replace c6 := Bool.eq_false_iff.mpr c6
  subst c6
  replace H := iF H
  simp only [Option.some.injEq, Prod.mk.injEq] at H
  obtain ⟨rfl, rfl, rfl, rfl, rfl, rfl, rfl, rfl, rfl⟩ := H
  go_enter Tryd.func32, Tryd.ntmps32
  go_wp2_with (first | ((with_reducible refine qK (N := 3) rfl ?_); refine qH ?hg (N := 3) ?hd (cs := #[.int .i64 a0_0, .int .i64 a0_1, .slice A0_2 l0_2.length c0_2]) (t := 32) ?hr ?_; (case hd => rfl); (case hg => rfl); (case hr => exact gS); intro gb268 hg w20 hbox hb; have BK268 := aM (hbox); have GW268 := aM ((gg hg)); have GE268 := aM ((gg hg)); replace HB := aM (qB bl hb); clear hb hbox hg) | ((with_reducible refine qK (N := 4) rfl ?_); refine qH ?hg (N := 4) ?hd (cs := #[.int .i64 a1_0, .int .i64 a1_1, .int .i64 a1_2, .int .i64 a1_3, .int .i64 a1_4, .int .i64 a1_5, .int .i64 a1_6, .int .i64 a1_7]) (t := 41) ?hr ?_; (case hd => rfl); (case hg => rfl); (case hr => exact gS); intro gb269 hg w21 hbox hb; have BK269 := aM (hbox); have GW269 := aM ((gg hg)); have GE269 := aM ((gg hg)); have NB268_269 := aM ((nl BK268 hg)); have NB269_268 := aM ((nr BK268 hg)); replace BK268 := aM (bb BK268 hb); replace HB := aM (qB bl hb); clear hb hbox hg) | ((with_reducible refine qK (N := 6) rfl ?_); refine qH ?hg (N := 6) ?hd (cs := #[.int .i64 0, .int .i64 0, .int .i64 0, .int .i64 0, .int .i64 0, .int .i64 0, .int .i64 0, .int .i64 0]) (t := 41) ?hr ?_; (case hd => rfl); (case hg => rfl); (case hr => exact gS); intro gb270 hg w22 hbox hb; have BK270 := aM (hbox); have GW270 := aM ((gg hg)); have GE270 := aM ((gg hg)); have NB268_270 := aM ((nl BK268 hg)); have NB270_268 := aM ((nr BK268 hg)); have NB269_270 := aM ((nl BK269 hg)); have NB270_269 := aM ((nr BK269 hg)); replace BK268 := aM (bb BK268 hb); replace BK269 := aM (bb BK269 hb); replace HB := aM (qB bl hb); clear hb hbox hg; have hnb23 := NB269_268.out; have hnc23 := NB268_269.out; have hnb24 := NB269_270.out; have hnc24 := NB270_269.out; (refine cb8 BK269 ?_; intro _ _ _ _ _ _ _ _); (refine cz8 BK269 ?_; intro _ _ _ _ _ _ _ _)) | ((with_reducible refine qJ (f := 48) rfl ?_); refine qr (some 16) rfl rfl Tryd.func48 (by kernel_rfl) rfl #[.int .i64 a1_0, .int .i64 a1_1, .int .i64 a2] rfl gA ?_; (with_reducible refine (qOB.calls a1_0 a1_1 a2 t271 t272 _ A4.out).mono ?_); rintro e w' ⟨rfl, ⟨nd, rfl⟩⟩; refine ⟨_, rfl, ?_⟩; (try (rw [qjC w22]; generalize hq_ : World.drewN w22 _ = w22; have n0_ : Aside0 (w22.heap[gb268]? = some (.cells #[.int .i64 a0_0, .int .i64 a0_1, .slice A0_2 l0_2.length c0_2] 32 (0, 0))) := ⟨by rw [← hq_]; exact (rB BK268)⟩; have n1_ : Aside0 (w22.heap[gb269]? = some (.cells #[.int .i64 a1_0, .int .i64 a1_1, .int .i64 a1_2, .int .i64 a1_3, .int .i64 a1_4, .int .i64 a1_5, .int .i64 a1_6, .int .i64 a1_7] 41 (0, 0))) := ⟨by rw [← hq_]; exact (rB BK269)⟩; have n2_ : Aside0 (w22.heap[gb270]? = some (.cells #[.int .i64 0, .int .i64 0, .int .i64 0, .int .i64 0, .int .i64 0, .int .i64 0, .int .i64 0, .int .i64 0] 41 (0, 0))) := ⟨by rw [← hq_]; exact (rB BK270)⟩; have n3_ : Aside0 (Below w.heap.size w w22) := ⟨by rw [← hq_]; exact bl⟩; clear BK268 BK269 BK270 HB hq_; have BK268 := n0_; have BK269 := n1_; have BK270 := n2_; have HB := n3_; clear n0_ n1_ n2_ n3_)); have hnb26 := NB268_270.out; have hnc26 := NB270_268.out; (refine cb3 BK268 ?_; intro _ _ _); (refine cz3 BK268 ?_; intro _ _ _)) | ((with_reducible refine qJ (f := 43) rfl ?_); refine qr (some 22) rfl rfl Tryd.func43 (by kernel_rfl) rfl #[.agg #[.int .i64 a0_0, .int .i64 a0_1, .slice A0_2 l0_2.length c0_2], .int .i64 t271, .int .i64 t272] rfl gA ?_; (with_reducible refine (qcA.calls a0_0 a0_1 _ _ l0_2 t271 t272 false _ ?side1 ?side2 A5.out).mono ?_); (case side1 => repeat (first | exact (Kd.qg HR0_2.out HB.out) | (with_reducible refine Kd.qW ?_ _) | (with_reducible refine Kd.qV ?_ _) | (with_reducible refine Kd.qe ?_))); (case side2 => exact HC0_2.out); rintro e w28 ⟨rfl, hb⟩; refine ⟨_, rfl, ?_⟩; replace BK268 := aM (bb BK268 hb); replace BK269 := aM (bb BK269 hb); replace BK270 := aM (bb BK270 hb); replace HB := aM (qB bl hb); (try clear hb); (try clear hb2); (try clear hk); (try clear hi); (refine cb8 BK270 ?_; intro _ _ _ _ _ _ _ _); (refine cz8 BK270 ?_; intro _ _ _ _ _ _ _ _)))
  refine bodyPost_ret (qmA rfl _ _ gb270 41 #[.int .i64 0, .int .i64 0, .int .i64 0, .int .i64 0, .int .i64 0, .int .i64 0, .int .i64 0, .int .i64 0] (0, 0) _ rfl (by (with_reducible repeat (first | refine qG ?_ _ | refine qE ?_ | refine qF ?_ _)); exact bP8 BK270) Tryd.underlying41 rfl (by kernel_rfl)) rfl ?_
  exact ⟨sR, bl⟩
def qIA.f (k : Nat) (a0_0 : Int) (a0_1 : Int) (l0_2 : List Int) (l1 : List (S41)) (a2 : Int) (a3 : Int) : Option ((List (S41)) × Bool) := if 0 ≤ a2 then (if a2 < (l1.length : Int) then ((qoA.f a0_0 a0_1 l0_2 ((qA l1 a2).f0) ((qA l1 a2).f1) ((qA l1 a2).f2.f0) ((qA l1 a2).f2.f1) ((qA l1 a2).f2.f2) ((qA l1 a2).f2.f3) ((qA l1 a2).f2.f4) ((qA l1 a2).f2.f5) a3).bind fun bt282 => (if bt282.2.2.2.2.2.2.2.2 = true then ((qLA.f k l1 bt282.1 bt282.2.1).bind fun t292 => (if t292 ≥ 0 then (some (([] : List (S41)), false)) else ((some (([] : List (S41)) : List (S41))).bind fun y293 => (if y293.length + l1.length < 2199023255552 then ((some (y293 ++ l1 : List (S41))).bind fun y296 => (if a2 < (y296.length : Int) then (some ((y296.set (a2 : Int).toNat (⟨bt282.1, bt282.2.1, (⟨bt282.2.2.1, bt282.2.2.2.1, bt282.2.2.2.2.1, bt282.2.2.2.2.2.1, bt282.2.2.2.2.2.2.1, bt282.2.2.2.2.2.2.2.1⟩ : S39)⟩ : S41)), true)) else (none))) else (none))))) else (some (([] : List (S41)), false)))) else (none)) else (none)
def qIA.T1 : Bool × List (List Nat × List Nat) := (true, [([], []), ([], []), ([], []), ([1, 2], [1, 2]), ([3], [3]), ([], []), ([0, 4, 5], [0, 4, 5]), ([6], [6]), ([7], [7]), ([7], [7]), ([], []), ([10, 8, 6, 0, 1, 2, 3, 4, 5, 6, 7, 8, 10], [8, 10]), ([9, 11, 0, 1, 2, 3, 4, 5, 6, 7, 8, 9, 10, 11], [9])])
def qIA.B1 : List Nat := [0, 0, 0, 6, 14, 0, 63, 127, 255, 255, 0, 1535, 4095]
theorem qIA.tab1 : rtab .any (opsOf Tryd.f18 1) = qIA.T1 := by kernel_rfl
theorem qIA.bits1 : waitsOk qIA.T1.2 qIA.B1 = true := by kernel_rfl
set_option maxHeartbeats 8000000 in
set_option maxRecDepth 100000 in
theorem qIA.calls (k : Nat) (a0_0 : Int) (a0_1 : Int) (A0_2 : Option Addr) (c0_2 : Nat) (l0_2 : List Int) (A1 : Option Addr) (c1 : Nat) (l1 : List (S41)) (a2 : Int) (a3 : Int) (r1 : List (S41)) (r2 : Bool) (w : World) (hr0_2 : Kd.C (Kd.int .u8) w A0_2 l0_2.length l0_2) (hc0_2 : l0_2.length ≤ c0_2) (hr1 : Kd.C k41 w A1 l1.length l1) (hc1 : l1.length ≤ c1) (h : qIA.f k a0_0 a0_1 l0_2 l1 a2 a3 = some (r1, r2)) :
  Calls Tryd.prog 18 #[.agg #[.int .i64 a0_0, .int .i64 a0_1, .slice A0_2 l0_2.length c0_2], .slice A1 l1.length c1, .int .i64 a2, .int .i64 a3] w fun e w' => ∃ v0_ : Value, e = .returned (.tuple #[v0_, .bool r2]) ∧ Kd.R k41 41 w' w.heap.size (fun _ => True) v0_ r1 ∧ Below w.heap.size w w' := by
 have hu32 := Tryd.underlying32
 have hu41 := Tryd.underlying41
 have HR0_2 := aM hr0_2
 have HC0_2 := aM hc0_2
 clear hr0_2 hc0_2
 have HR1 := aM hr1
 have HC1 := aM hc1
 clear hr1 hc1
 have HB := aM (Below.refl w.heap.size w)
 have H : (if 0 ≤ a2 then (if a2 < (l1.length : Int) then ((qoA.f a0_0 a0_1 l0_2 ((qA l1 a2).f0) ((qA l1 a2).f1) ((qA l1 a2).f2.f0) ((qA l1 a2).f2.f1) ((qA l1 a2).f2.f2) ((qA l1 a2).f2.f3) ((qA l1 a2).f2.f4) ((qA l1 a2).f2.f5) a3).bind fun bt282 => (if bt282.2.2.2.2.2.2.2.2 = true then ((qLA.f k l1 bt282.1 bt282.2.1).bind fun t292 => (if t292 ≥ 0 then (some (([] : List (S41)), false)) else ((some (([] : List (S41)) : List (S41))).bind fun y293 => (if y293.length + l1.length < 2199023255552 then ((some (y293 ++ l1 : List (S41))).bind fun y296 => (if a2 < (y296.length : Int) then (some ((y296.set (a2 : Int).toNat (⟨bt282.1, bt282.2.1, (⟨bt282.2.2.1, bt282.2.2.2.1, bt282.2.2.2.2.1, bt282.2.2.2.2.2.1, bt282.2.2.2.2.2.2.1, bt282.2.2.2.2.2.2.2.1⟩ : S39)⟩ : S41)), true)) else (none))) else (none))))) else (some (([] : List (S41)), false)))) else (none)) else (none)) = some (r1, r2) := h
 clear h
 by_cases c5 : 0 ≤ a2
 ·rw [if_pos c5] at H
  have c5b0 := decide_eq_true c5
  clear c5
  by_cases c6 : a2 < (l1.length : Int)
  ·rw [if_pos c6] at H
   have c6b0 := decide_eq_true c6
   clear c6
   replace H := bO H
   obtain ⟨⟨t282, t283, t284, t285, t286, t287, t288, t289, t290⟩, A7, H⟩ := H
   dsimp only at H A7
   by_cases c8 : t290 = true
   ·subst c8
    replace H := iT H
    replace H := bO H
    obtain ⟨t292, A9, H⟩ := H
    by_cases c10 : t292 ≥ 0
    ·rw [if_pos c10] at H
     have c10b0 := decide_eq_true c10
     clear c10
     simp only [Option.some.injEq, Prod.mk.injEq] at H
     obtain ⟨rfl, rfl⟩ := H
     go_enter Tryd.func18, Tryd.ntmps18
     try go_wp2_with (first | ((with_reducible refine qK (N := 4) rfl ?_); refine qH ?hg (N := 4) ?hd (cs := #[.int .i64 a0_0, .int .i64 a0_1, .slice A0_2 l0_2.length c0_2]) (t := 32) ?hr ?_; (case hd => rfl); (case hg => rfl); (case hr => exact gS); intro gb280 hg w11 hbox hb; have BK280 := aM (hbox); have GW280 := aM ((gg hg)); have GE280 := aM ((gg hg)); replace HB := aM (qB bl hb); clear hb hbox hg))
     replace BK280 := aM (qE BK280.out)
     replace HB := aM (qu HB.out)
     have p281 : 0 ≤ (a2 : Int) := of_decide_eq_true am
     have q281 : a2 < (l1.length : Int) := of_decide_eq_true am
     obtain ⟨ad281, e281, hx281_0, hx281_1, hx281_2, hx281_3, hx281_4, hx281_5, hx281_6, hx281_7⟩ := qTB HR1.out a2 p281 q281
     have hw281_7 := hx281_7
     have hw281_6 := hx281_6
     have hw281_5 := hx281_5
     have hw281_4 := hx281_4
     have hw281_3 := hx281_3
     have hw281_2 := hx281_2
     have hw281_1 := hx281_1
     have hw281_0 := hx281_0
     cases e281
     replace hx281_0 := (HB.out.cell (World.block_lt_of_cell? w _ hx281_0)).trans hx281_0
     replace hx281_1 := (HB.out.cell (World.block_lt_of_cell? w _ hx281_1)).trans hx281_1
     replace hx281_2 := (HB.out.cell (World.block_lt_of_cell? w _ hx281_2)).trans hx281_2
     replace hx281_3 := (HB.out.cell (World.block_lt_of_cell? w _ hx281_3)).trans hx281_3
     replace hx281_4 := (HB.out.cell (World.block_lt_of_cell? w _ hx281_4)).trans hx281_4
     replace hx281_5 := (HB.out.cell (World.block_lt_of_cell? w _ hx281_5)).trans hx281_5
     replace hx281_6 := (HB.out.cell (World.block_lt_of_cell? w _ hx281_6)).trans hx281_6
     replace hx281_7 := (HB.out.cell (World.block_lt_of_cell? w _ hx281_7)).trans hx281_7
     replace p281 := eq_true p281
     replace q281 := eq_true q281
     refine qCB (n := 13) (S := fun w' => w'.cell? ⟨gb280, 0, none⟩ = some (.int .i64 a0_0) ∧ w'.cell? ⟨gb280, 1, none⟩ = some (.int .i64 a0_1) ∧ w'.cell? ⟨gb280, 2, none⟩ = some (.slice A0_2 l0_2.length c0_2) ∧ w'.cell? (ad281.add ((a2).toNat * 8)) = some (.int .i64 ((qA l1 a2).f0)) ∧ w'.cell? ⟨(ad281.add ((a2).toNat * 8)).block, (ad281.add ((a2).toNat * 8)).off + 1, none⟩ = some (.int .i64 ((qA l1 a2).f1)) ∧ w'.cell? ⟨(ad281.add ((a2).toNat * 8)).block, (ad281.add ((a2).toNat * 8)).off + 2, none⟩ = some (.int .i64 ((qA l1 a2).f2.f0)) ∧ w'.cell? ⟨(ad281.add ((a2).toNat * 8)).block, (ad281.add ((a2).toNat * 8)).off + 3, none⟩ = some (.int .i64 ((qA l1 a2).f2.f1)) ∧ w'.cell? ⟨(ad281.add ((a2).toNat * 8)).block, (ad281.add ((a2).toNat * 8)).off + 4, none⟩ = some (.int .i64 ((qA l1 a2).f2.f2)) ∧ w'.cell? ⟨(ad281.add ((a2).toNat * 8)).block, (ad281.add ((a2).toNat * 8)).off + 5, none⟩ = some (.int .i64 ((qA l1 a2).f2.f3)) ∧ w'.cell? ⟨(ad281.add ((a2).toNat * 8)).block, (ad281.add ((a2).toNat * 8)).off + 6, none⟩ = some (.int .i64 ((qA l1 a2).f2.f4)) ∧ w'.cell? ⟨(ad281.add ((a2).toNat * 8)).block, (ad281.add ((a2).toNat * 8)).off + 7, none⟩ = some (.int .i64 ((qA l1 a2).f2.f5))) (ds := []) #[false, false, false, false, false, false, false, false, false, false, false, false, false] (by kernel_rfl) rfl rfl ⟨bc BK280 0, bc BK280 1, bc BK280 2, (hB HB hw281_0 :), (hB HB hw281_1 :), (hB HB hw281_2 :), (hB HB hw281_3 :), (hB HB hw281_4 :), (hB HB hw281_5 :), (hB HB hw281_6 :), (hB HB hw281_7 :)⟩ (fun hHeld => ?_); refine qKA qIA.tab1 qIA.bits1 (fun HT_ HW_ => ?_)
     generalize w11.drew = w12 at BK280 HB hx281_0 hx281_1 hx281_2 hx281_3 hx281_4 hx281_5 hx281_6 hx281_7 hHeld ⊢
     refine pS (i := 1) (N := some 15) #[false, true, false, false, false, false, false, false, false, false, false, false, false] HT_ ?_
     refine pS (i := 2) (N := some 16) #[false, true, true, false, false, false, false, false, false, false, false, false, false] HT_ ?_
     refine pS (i := 3) (N := some 17) #[false, true, true, true, false, false, false, false, false, false, false, false, false] HT_ ?_
     refine pS (i := 5) (N := some 19) #[false, true, true, true, false, true, false, false, false, false, false, false, false] HT_ ?_
     refine tS (i := 0) (N := some 14) #[true, true, true, true, false, true, false, false, false, false, false, false, false] HT_ HW_ hHeld ?_
     refine tS (i := 4) (N := some 18) #[true, true, true, true, true, true, false, false, false, false, false, false, false] HT_ HW_ hHeld ?_
     refine join_ (σ := Nat) 2 #[true, true, true, true, true, true, true, true, true, true, true, false, false] (fun s_ => [(20, .tuple #[.agg #[.int .i64 t282, .int .i64 t283, .int .i64 t284, .int .i64 t285, .int .i64 t286, .int .i64 t287, .int .i64 t288, .int .i64 t289], .bool true]), (10, .pointer (some ⟨s_, 0, none⟩)), (13, .tuple #[.agg #[.int .i64 t282, .int .i64 t283, .int .i64 t284, .int .i64 t285, .int .i64 t286, .int .i64 t287, .int .i64 t288, .int .i64 t289], .bool true]), (21, .agg #[.int .i64 t282, .int .i64 t283, .int .i64 t284, .int .i64 t285, .int .i64 t286, .int .i64 t287, .int .i64 t288, .int .i64 t289]), (22, .bool true)]) (fun s_ w' => (w'.cell? ⟨gb280, 0, none⟩ = some (.int .i64 a0_0) ∧ w'.cell? ⟨gb280, 1, none⟩ = some (.int .i64 a0_1) ∧ w'.cell? ⟨gb280, 2, none⟩ = some (.slice A0_2 l0_2.length c0_2) ∧ w'.cell? (ad281.add ((a2).toNat * 8)) = some (.int .i64 ((qA l1 a2).f0)) ∧ w'.cell? ⟨(ad281.add ((a2).toNat * 8)).block, (ad281.add ((a2).toNat * 8)).off + 1, none⟩ = some (.int .i64 ((qA l1 a2).f1)) ∧ w'.cell? ⟨(ad281.add ((a2).toNat * 8)).block, (ad281.add ((a2).toNat * 8)).off + 2, none⟩ = some (.int .i64 ((qA l1 a2).f2.f0)) ∧ w'.cell? ⟨(ad281.add ((a2).toNat * 8)).block, (ad281.add ((a2).toNat * 8)).off + 3, none⟩ = some (.int .i64 ((qA l1 a2).f2.f1)) ∧ w'.cell? ⟨(ad281.add ((a2).toNat * 8)).block, (ad281.add ((a2).toNat * 8)).off + 4, none⟩ = some (.int .i64 ((qA l1 a2).f2.f2)) ∧ w'.cell? ⟨(ad281.add ((a2).toNat * 8)).block, (ad281.add ((a2).toNat * 8)).off + 5, none⟩ = some (.int .i64 ((qA l1 a2).f2.f3)) ∧ w'.cell? ⟨(ad281.add ((a2).toNat * 8)).block, (ad281.add ((a2).toNat * 8)).off + 6, none⟩ = some (.int .i64 ((qA l1 a2).f2.f4)) ∧ w'.cell? ⟨(ad281.add ((a2).toNat * 8)).block, (ad281.add ((a2).toNat * 8)).off + 7, none⟩ = some (.int .i64 ((qA l1 a2).f2.f5))) ∧ (w'.heap[gb280]? = some (.cells #[.int .i64 a0_0, .int .i64 a0_1, .slice A0_2 l0_2.length c0_2] 32 (0, 0))) ∧ (w'.heap[s_]? = some (.cells #[.int .i64 0, .int .i64 0, .int .i64 0, .int .i64 0, .int .i64 0, .int .i64 0, .int .i64 0, .int .i64 0] 41 (0, 0))) ∧ (w.heap.size ≤ s_) ∧ (w.heap.size ≤ s_) ∧ (gb280 ≠ s_) ∧ (s_ ≠ gb280) ∧ (Below w.heap.size w w')) ?_ ?_
     rotate_left
     ·intro hCont
      refine two_ (i := 6) (j := 10) (Ni := some 20) (Nj := some 10) #[true, true, true, true, true, true, true, false, false, false, false, false, false] #[true, true, true, true, true, true, false, false, false, false, true, false, false] rfl rfl rfl rfl (qvC HT_.out (by kernel_rfl)) (by decide) (by decide) (fun K hK => ?_) (fun K hK => ?_)
      ·skip
       refine goes_ Tryd.func32 (by kernel_rfl) rfl #[.agg #[.int .i64 a0_0, .int .i64 a0_1, .slice A0_2 l0_2.length c0_2], .agg #[.int .i64 ((qA l1 a2).f0), .int .i64 ((qA l1 a2).f1), .int .i64 ((qA l1 a2).f2.f0), .int .i64 ((qA l1 a2).f2.f1), .int .i64 ((qA l1 a2).f2.f2), .int .i64 ((qA l1 a2).f2.f3), .int .i64 ((qA l1 a2).f2.f4), .int .i64 ((qA l1 a2).f2.f5)], .int .i64 a3] (by rfl) rfl rfl gA ?_
       with_reducible refine (qoA.calls a0_0 a0_1 _ _ l0_2 ((qA l1 a2).f0) ((qA l1 a2).f1) ((qA l1 a2).f2.f0) ((qA l1 a2).f2.f1) ((qA l1 a2).f2.f2) ((qA l1 a2).f2.f3) ((qA l1 a2).f2.f4) ((qA l1 a2).f2.f5) a3 t282 t283 t284 t285 t286 t287 t288 t289 true _ ?side1 ?side2 A7.out).mono ?_
       (case side1 => repeat (first | exact (Kd.qg HR0_2.out HB.out) | (with_reducible refine Kd.qW ?_ _) | (with_reducible refine Kd.qV ?_ _) | (with_reducible refine Kd.qe ?_)))
       (case side2 => exact HC0_2.out)
       rintro e w13 ⟨rfl, hb⟩
       refine ⟨_, rfl, ?_⟩
       replace BK280 := aM (bb BK280 hb)
       replace HB := aM (qB bl hb); (try clear hb); (try clear hb2); (try clear hk); (try clear hi)
       refine hK.out _ _ ⟨bc BK280 0, bc BK280 1, bc BK280 2, (hB HB hw281_0 :), (hB HB hw281_1 :), (hB HB hw281_2 :), (hB HB hw281_3 :), (hB HB hw281_4 :), (hB HB hw281_5 :), (hB HB hw281_6 :), (hB HB hw281_7 :)⟩ (fun hHeld => ?_)
       clear hK K
       refine norm_ (a' := ?_) ?_ ?_
       rotate_left
       ·show Act.put _ (some 20) _ = _
        simp only [Act.put, List.setIfInBounds_toArray, List.set_cons_zero, List.set_cons_succ, i64_w, i32_w]
        rfl
       refine pS (i := 7) (N := some 13) #[true, true, true, true, true, true, true, true, false, false, false, false, false] HT_ ?_
       refine pS (i := 8) (N := some 21) #[true, true, true, true, true, true, true, true, true, false, false, false, false] HT_ ?_
       refine pS (i := 9) (N := some 22) #[true, true, true, true, true, true, true, true, true, true, false, false, false] HT_ ?_
       refine one_ (i := 10) (N := some 10) #[true, true, true, true, true, true, true, true, true, true, true, false, false] rfl rfl (qUA HT_.out (by kernel_rfl)) (by decide) (fun K hK => ?_)
       refine qlC ?hg (N := 10) ?hd (cs := #[.int .i64 0, .int .i64 0, .int .i64 0, .int .i64 0, .int .i64 0, .int .i64 0, .int .i64 0, .int .i64 0]) (t := 41) ?hr ?_; (case hd => rfl); (case hg => rfl); (case hr => exact gS)
       intro gb291 hg w14 hbox hb
       have BK291 := aM (hbox)
       have GW291 := aM ((gg hg))
       have GE291 := aM ((gg hg))
       have NB280_291 := aM ((nl BK280 hg))
       have NB291_280 := aM ((nr BK280 hg))
       replace BK280 := aM (bb BK280 hb)
       replace HB := aM (qB bl hb)
       clear hb hbox hg
       refine hK.out _ _ ⟨bc BK280 0, bc BK280 1, bc BK280 2, (hB HB hw281_0 :), (hB HB hw281_1 :), (hB HB hw281_2 :), (hB HB hw281_3 :), (hB HB hw281_4 :), (hB HB hw281_5 :), (hB HB hw281_6 :), (hB HB hw281_7 :)⟩ (fun hHeld => ?_)
       clear hK K
       refine norm_ (a' := ?_) ?_ ?_
       rotate_left
       ·show Act.put _ (some 10) _ = _
        simp only [Act.put, List.setIfInBounds_toArray, List.set_cons_zero, List.set_cons_succ, i64_w, i32_w]
        rfl
       exact norm_ (by simp only [putAll, Act.put, List.setIfInBounds_toArray, List.set_cons_zero, List.set_cons_succ]) (hCont (gb291) _ ⟨hHeld, (rB BK280), (rB BK291), GW291.out, GE291.out, NB280_291.out, NB291_280.out, bl⟩)
      ·skip
       refine qlC ?hg (N := 10) ?hd (cs := #[.int .i64 0, .int .i64 0, .int .i64 0, .int .i64 0, .int .i64 0, .int .i64 0, .int .i64 0, .int .i64 0]) (t := 41) ?hr ?_; (case hd => rfl); (case hg => rfl); (case hr => exact gS)
       intro gb291 hg w13 hbox hb
       have BK291 := aM (hbox)
       have GW291 := aM ((gg hg))
       have GE291 := aM ((gg hg))
       have NB280_291 := aM ((nl BK280 hg))
       have NB291_280 := aM ((nr BK280 hg))
       replace BK280 := aM (bb BK280 hb)
       replace HB := aM (qB bl hb)
       clear hb hbox hg
       refine hK.out _ _ ⟨bc BK280 0, bc BK280 1, bc BK280 2, (hB HB hw281_0 :), (hB HB hw281_1 :), (hB HB hw281_2 :), (hB HB hw281_3 :), (hB HB hw281_4 :), (hB HB hw281_5 :), (hB HB hw281_6 :), (hB HB hw281_7 :)⟩ (fun hHeld => ?_)
       clear hK K
       refine norm_ (a' := ?_) ?_ ?_
       rotate_left
       ·show Act.put _ (some 10) _ = _
        simp only [Act.put, List.setIfInBounds_toArray, List.set_cons_zero, List.set_cons_succ, i64_w, i32_w]
        rfl
       refine one_ (i := 6) (N := some 20) #[true, true, true, true, true, true, true, false, false, false, true, false, false] rfl rfl (qUA HT_.out (by kernel_rfl)) (by decide) (fun K hK => ?_)
       refine goes_ Tryd.func32 (by kernel_rfl) rfl #[.agg #[.int .i64 a0_0, .int .i64 a0_1, .slice A0_2 l0_2.length c0_2], .agg #[.int .i64 ((qA l1 a2).f0), .int .i64 ((qA l1 a2).f1), .int .i64 ((qA l1 a2).f2.f0), .int .i64 ((qA l1 a2).f2.f1), .int .i64 ((qA l1 a2).f2.f2), .int .i64 ((qA l1 a2).f2.f3), .int .i64 ((qA l1 a2).f2.f4), .int .i64 ((qA l1 a2).f2.f5)], .int .i64 a3] (by rfl) rfl rfl gA ?_
       with_reducible refine (qoA.calls a0_0 a0_1 _ _ l0_2 ((qA l1 a2).f0) ((qA l1 a2).f1) ((qA l1 a2).f2.f0) ((qA l1 a2).f2.f1) ((qA l1 a2).f2.f2) ((qA l1 a2).f2.f3) ((qA l1 a2).f2.f4) ((qA l1 a2).f2.f5) a3 t282 t283 t284 t285 t286 t287 t288 t289 true _ ?side1 ?side2 A7.out).mono ?_
       (case side1 => repeat (first | exact (Kd.qg HR0_2.out HB.out) | (with_reducible refine Kd.qW ?_ _) | (with_reducible refine Kd.qV ?_ _) | (with_reducible refine Kd.qe ?_)))
       (case side2 => exact HC0_2.out)
       rintro e w14 ⟨rfl, hb⟩
       refine ⟨_, rfl, ?_⟩
       replace BK280 := aM (bb BK280 hb)
       replace BK291 := aM (bb BK291 hb)
       replace HB := aM (qB bl hb); (try clear hb); (try clear hb2); (try clear hk); (try clear hi)
       refine hK.out _ _ ⟨bc BK280 0, bc BK280 1, bc BK280 2, (hB HB hw281_0 :), (hB HB hw281_1 :), (hB HB hw281_2 :), (hB HB hw281_3 :), (hB HB hw281_4 :), (hB HB hw281_5 :), (hB HB hw281_6 :), (hB HB hw281_7 :)⟩ (fun hHeld => ?_)
       clear hK K
       refine norm_ (a' := ?_) ?_ ?_
       rotate_left
       ·show Act.put _ (some 20) _ = _
        simp only [Act.put, List.setIfInBounds_toArray, List.set_cons_zero, List.set_cons_succ, i64_w, i32_w]
        rfl
       refine pS (i := 7) (N := some 13) #[true, true, true, true, true, true, true, true, false, false, true, false, false] HT_ ?_
       refine pS (i := 8) (N := some 21) #[true, true, true, true, true, true, true, true, true, false, true, false, false] HT_ ?_
       refine pS (i := 9) (N := some 22) #[true, true, true, true, true, true, true, true, true, true, true, false, false] HT_ ?_
       exact norm_ (by simp only [putAll, Act.put, List.setIfInBounds_toArray, List.set_cons_zero, List.set_cons_succ]) (hCont (gb291) _ ⟨hHeld, (rB BK280), (rB BK291), GW291.out, GE291.out, NB280_291.out, NB291_280.out, bl⟩)
     rintro gb291 w15 ⟨hS_, h0_, h1_, h2_, h3_, h4_, h5_, h6_⟩
     have n0_ : Aside0 (w15.heap[gb280]? = some (.cells #[.int .i64 a0_0, .int .i64 a0_1, .slice A0_2 l0_2.length c0_2] 32 (0, 0))) := ⟨h0_⟩
     have n1_ : Aside0 (w15.heap[gb291]? = some (.cells #[.int .i64 0, .int .i64 0, .int .i64 0, .int .i64 0, .int .i64 0, .int .i64 0, .int .i64 0, .int .i64 0] 41 (0, 0))) := ⟨h1_⟩
     have n2_ : Aside0 (w.heap.size ≤ gb291) := ⟨h2_⟩
     have n3_ : Aside0 (w.heap.size ≤ gb291) := ⟨h3_⟩
     have n4_ : Aside0 (gb280 ≠ gb291) := ⟨h4_⟩
     have n5_ : Aside0 (gb291 ≠ gb280) := ⟨h5_⟩
     have n6_ : Aside0 (Below w.heap.size w w15) := ⟨h6_⟩
     clear BK280 HB h0_ h1_ h2_ h3_ h4_ h5_ h6_
     have BK280 := n0_
     have BK291 := n1_
     have GW291 := n2_
     have GE291 := n3_
     have NB280_291 := n4_
     have NB291_280 := n5_
     have HB := n6_
     clear n0_ n1_ n2_ n3_ n4_ n5_ n6_
     have hHeld : w15.cell? ⟨gb280, 0, none⟩ = some (.int .i64 a0_0) ∧ w15.cell? ⟨gb280, 1, none⟩ = some (.int .i64 a0_1) ∧ w15.cell? ⟨gb280, 2, none⟩ = some (.slice A0_2 l0_2.length c0_2) ∧ w15.cell? (ad281.add ((a2).toNat * 8)) = some (.int .i64 ((qA l1 a2).f0)) ∧ w15.cell? ⟨(ad281.add ((a2).toNat * 8)).block, (ad281.add ((a2).toNat * 8)).off + 1, none⟩ = some (.int .i64 ((qA l1 a2).f1)) ∧ w15.cell? ⟨(ad281.add ((a2).toNat * 8)).block, (ad281.add ((a2).toNat * 8)).off + 2, none⟩ = some (.int .i64 ((qA l1 a2).f2.f0)) ∧ w15.cell? ⟨(ad281.add ((a2).toNat * 8)).block, (ad281.add ((a2).toNat * 8)).off + 3, none⟩ = some (.int .i64 ((qA l1 a2).f2.f1)) ∧ w15.cell? ⟨(ad281.add ((a2).toNat * 8)).block, (ad281.add ((a2).toNat * 8)).off + 4, none⟩ = some (.int .i64 ((qA l1 a2).f2.f2)) ∧ w15.cell? ⟨(ad281.add ((a2).toNat * 8)).block, (ad281.add ((a2).toNat * 8)).off + 5, none⟩ = some (.int .i64 ((qA l1 a2).f2.f3)) ∧ w15.cell? ⟨(ad281.add ((a2).toNat * 8)).block, (ad281.add ((a2).toNat * 8)).off + 6, none⟩ = some (.int .i64 ((qA l1 a2).f2.f4)) ∧ w15.cell? ⟨(ad281.add ((a2).toNat * 8)).block, (ad281.add ((a2).toNat * 8)).off + 7, none⟩ = some (.int .i64 ((qA l1 a2).f2.f5)) := hS_
     refine norm_ (a' := ?_) ?_ ?_
     rotate_left
     ·simp only [putAll, Act.put, List.setIfInBounds_toArray, List.set_cons_zero, List.set_cons_succ]
      rfl
     refine one_ (i := 11) (N := none) #[true, true, true, true, true, true, true, true, true, true, true, true, false] rfl rfl (qUA HT_.out (by kernel_rfl)) (by decide) (fun K hK => ?_)
     have hs16 : w15.cell? ⟨gb291, 0, none⟩ = some (.int .i64 0) := bc BK291 0
     have hfs16 := qX BK291.out 0
     have hns16_0 := NB280_291.out
     have hms16_0 := NB291_280.out
     have hs17 : w15.cell? ⟨gb291, 1, none⟩ = some (.int .i64 0) := bc BK291 1
     have hfs17 := qX BK291.out 1
     have hns17_0 := NB280_291.out
     have hms17_0 := NB291_280.out
     have hs18 : w15.cell? ⟨gb291, 2, none⟩ = some (.int .i64 0) := bc BK291 2
     have hfs18 := qX BK291.out 2
     have hns18_0 := NB280_291.out
     have hms18_0 := NB291_280.out
     have hs19 : w15.cell? ⟨gb291, 3, none⟩ = some (.int .i64 0) := bc BK291 3
     have hfs19 := qX BK291.out 3
     have hns19_0 := NB280_291.out
     have hms19_0 := NB291_280.out
     have hs20 : w15.cell? ⟨gb291, 4, none⟩ = some (.int .i64 0) := bc BK291 4
     have hfs20 := qX BK291.out 4
     have hns20_0 := NB280_291.out
     have hms20_0 := NB291_280.out
     have hs21 : w15.cell? ⟨gb291, 5, none⟩ = some (.int .i64 0) := bc BK291 5
     have hfs21 := qX BK291.out 5
     have hns21_0 := NB280_291.out
     have hms21_0 := NB291_280.out
     have hs22 : w15.cell? ⟨gb291, 6, none⟩ = some (.int .i64 0) := bc BK291 6
     have hfs22 := qX BK291.out 6
     have hns22_0 := NB280_291.out
     have hms22_0 := NB291_280.out
     have hs23 : w15.cell? ⟨gb291, 7, none⟩ = some (.int .i64 0) := bc BK291 7
     have hfs23 := qX BK291.out 7
     have hns23_0 := NB280_291.out
     have hms23_0 := NB291_280.out
     refine skip_ (w1 := ?_) (by rfl) rfl ?_ ?_
     rotate_left
     ·go_simp
      rfl
     refine hK.out _ _ ⟨(cf8 NB280_291.out (hHeld.1)), (cf8 NB280_291.out (hHeld.2.1)), (cf8 NB280_291.out (hHeld.2.2.1)), (cf8 (by first | exact Nat.ne_of_lt (Nat.lt_of_lt_of_le (by have := World.block_lt_of_cell? _ _ hw281_0; first | rwa [qD] at this | exact this) GW291.out) | (rw [qD]; exact Nat.ne_of_lt (Nat.lt_of_lt_of_le (by have := World.block_lt_of_cell? _ _ hw281_0; first | rwa [qD] at this | exact this) GW291.out)) | (show (Addr.add _ _).block ≠ _; rw [qD]; exact Nat.ne_of_lt (Nat.lt_of_lt_of_le (by have := World.block_lt_of_cell? _ _ hw281_0; first | rwa [qD] at this | exact this) GW291.out)) | (dsimp only; exact Nat.ne_of_lt (Nat.lt_of_lt_of_le (by have := World.block_lt_of_cell? _ _ hw281_0; first | rwa [qD] at this | exact this) GW291.out))) (hHeld.2.2.2.1)), (cf8 (by first | exact Nat.ne_of_lt (Nat.lt_of_lt_of_le (by have := World.block_lt_of_cell? _ _ hw281_1; first | rwa [qD] at this | exact this) GW291.out) | (rw [qD]; exact Nat.ne_of_lt (Nat.lt_of_lt_of_le (by have := World.block_lt_of_cell? _ _ hw281_1; first | rwa [qD] at this | exact this) GW291.out)) | (show (Addr.add _ _).block ≠ _; rw [qD]; exact Nat.ne_of_lt (Nat.lt_of_lt_of_le (by have := World.block_lt_of_cell? _ _ hw281_1; first | rwa [qD] at this | exact this) GW291.out)) | (dsimp only; exact Nat.ne_of_lt (Nat.lt_of_lt_of_le (by have := World.block_lt_of_cell? _ _ hw281_1; first | rwa [qD] at this | exact this) GW291.out))) (hHeld.2.2.2.2.1)), (cf8 (by first | exact Nat.ne_of_lt (Nat.lt_of_lt_of_le (by have := World.block_lt_of_cell? _ _ hw281_2; first | rwa [qD] at this | exact this) GW291.out) | (rw [qD]; exact Nat.ne_of_lt (Nat.lt_of_lt_of_le (by have := World.block_lt_of_cell? _ _ hw281_2; first | rwa [qD] at this | exact this) GW291.out)) | (show (Addr.add _ _).block ≠ _; rw [qD]; exact Nat.ne_of_lt (Nat.lt_of_lt_of_le (by have := World.block_lt_of_cell? _ _ hw281_2; first | rwa [qD] at this | exact this) GW291.out)) | (dsimp only; exact Nat.ne_of_lt (Nat.lt_of_lt_of_le (by have := World.block_lt_of_cell? _ _ hw281_2; first | rwa [qD] at this | exact this) GW291.out))) (hHeld.2.2.2.2.2.1)), (cf8 (by first | exact Nat.ne_of_lt (Nat.lt_of_lt_of_le (by have := World.block_lt_of_cell? _ _ hw281_3; first | rwa [qD] at this | exact this) GW291.out) | (rw [qD]; exact Nat.ne_of_lt (Nat.lt_of_lt_of_le (by have := World.block_lt_of_cell? _ _ hw281_3; first | rwa [qD] at this | exact this) GW291.out)) | (show (Addr.add _ _).block ≠ _; rw [qD]; exact Nat.ne_of_lt (Nat.lt_of_lt_of_le (by have := World.block_lt_of_cell? _ _ hw281_3; first | rwa [qD] at this | exact this) GW291.out)) | (dsimp only; exact Nat.ne_of_lt (Nat.lt_of_lt_of_le (by have := World.block_lt_of_cell? _ _ hw281_3; first | rwa [qD] at this | exact this) GW291.out))) (hHeld.2.2.2.2.2.2.1)), (cf8 (by first | exact Nat.ne_of_lt (Nat.lt_of_lt_of_le (by have := World.block_lt_of_cell? _ _ hw281_4; first | rwa [qD] at this | exact this) GW291.out) | (rw [qD]; exact Nat.ne_of_lt (Nat.lt_of_lt_of_le (by have := World.block_lt_of_cell? _ _ hw281_4; first | rwa [qD] at this | exact this) GW291.out)) | (show (Addr.add _ _).block ≠ _; rw [qD]; exact Nat.ne_of_lt (Nat.lt_of_lt_of_le (by have := World.block_lt_of_cell? _ _ hw281_4; first | rwa [qD] at this | exact this) GW291.out)) | (dsimp only; exact Nat.ne_of_lt (Nat.lt_of_lt_of_le (by have := World.block_lt_of_cell? _ _ hw281_4; first | rwa [qD] at this | exact this) GW291.out))) (hHeld.2.2.2.2.2.2.2.1)), (cf8 (by first | exact Nat.ne_of_lt (Nat.lt_of_lt_of_le (by have := World.block_lt_of_cell? _ _ hw281_5; first | rwa [qD] at this | exact this) GW291.out) | (rw [qD]; exact Nat.ne_of_lt (Nat.lt_of_lt_of_le (by have := World.block_lt_of_cell? _ _ hw281_5; first | rwa [qD] at this | exact this) GW291.out)) | (show (Addr.add _ _).block ≠ _; rw [qD]; exact Nat.ne_of_lt (Nat.lt_of_lt_of_le (by have := World.block_lt_of_cell? _ _ hw281_5; first | rwa [qD] at this | exact this) GW291.out)) | (dsimp only; exact Nat.ne_of_lt (Nat.lt_of_lt_of_le (by have := World.block_lt_of_cell? _ _ hw281_5; first | rwa [qD] at this | exact this) GW291.out))) (hHeld.2.2.2.2.2.2.2.2.1)), (cf8 (by first | exact Nat.ne_of_lt (Nat.lt_of_lt_of_le (by have := World.block_lt_of_cell? _ _ hw281_6; first | rwa [qD] at this | exact this) GW291.out) | (rw [qD]; exact Nat.ne_of_lt (Nat.lt_of_lt_of_le (by have := World.block_lt_of_cell? _ _ hw281_6; first | rwa [qD] at this | exact this) GW291.out)) | (show (Addr.add _ _).block ≠ _; rw [qD]; exact Nat.ne_of_lt (Nat.lt_of_lt_of_le (by have := World.block_lt_of_cell? _ _ hw281_6; first | rwa [qD] at this | exact this) GW291.out)) | (dsimp only; exact Nat.ne_of_lt (Nat.lt_of_lt_of_le (by have := World.block_lt_of_cell? _ _ hw281_6; first | rwa [qD] at this | exact this) GW291.out))) (hHeld.2.2.2.2.2.2.2.2.2.1)), (cf8 (by first | exact Nat.ne_of_lt (Nat.lt_of_lt_of_le (by have := World.block_lt_of_cell? _ _ hw281_7; first | rwa [qD] at this | exact this) GW291.out) | (rw [qD]; exact Nat.ne_of_lt (Nat.lt_of_lt_of_le (by have := World.block_lt_of_cell? _ _ hw281_7; first | rwa [qD] at this | exact this) GW291.out)) | (show (Addr.add _ _).block ≠ _; rw [qD]; exact Nat.ne_of_lt (Nat.lt_of_lt_of_le (by have := World.block_lt_of_cell? _ _ hw281_7; first | rwa [qD] at this | exact this) GW291.out)) | (dsimp only; exact Nat.ne_of_lt (Nat.lt_of_lt_of_le (by have := World.block_lt_of_cell? _ _ hw281_7; first | rwa [qD] at this | exact this) GW291.out))) (hHeld.2.2.2.2.2.2.2.2.2.2))⟩ (fun hHeld => ?_)
     clear hK K
     refine pS (i := 12) (N := some 11) #[true, true, true, true, true, true, true, true, true, true, true, true, true] HT_ ?_
     refine done_ (qrA HT_.out (by kernel_rfl)) ?_
     have hnb24 := NB291_280.out
     have hnc24 := NB280_291.out
     (refine cb8 BK291 ?_; intro _ _ _ _ _ _ _ _)
     (refine cz8 BK291 ?_; intro _ _ _ _ _ _ _ _)
     try go_wp2_with (first | (go_at_call 28; (with_reducible refine (qLA.calls k _ _ l1 t282 t283 t292 _ ?side1 ?side2 A9.out).mono ?_); (case side1 => exact Kd.qg HR1.out bl); (case side2 => exact HC1.out); rintro e w26 ⟨rfl, hb⟩; replace BK280 := aM (qPA (g := gb280) (o := .cells #[.int .i64 a0_0, .int .i64 a0_1, .slice A0_2 l0_2.length c0_2] 32 (0, 0)) (bF BK280 NB280_291) hb); replace BK291 := aM (qPA (g := gb291) (o := .cells #[.int .i64 t282, .int .i64 t283, .int .i64 t284, .int .i64 t285, .int .i64 t286, .int .i64 t287, .int .i64 t288, .int .i64 t289] 41 (0, 0)) (by (with_reducible repeat (first | refine qG ?_ _ | refine qE ?_ | refine qF ?_ _)); exact bP8 BK291) hb); replace HB := aM (qB bl hb); (try clear hb); (try clear hb2); (try clear hk); (try clear hi)))
     go_ret2
     exact ⟨_, sR, nK, bl⟩
    ·rw [if_neg c10] at H
     have c10b0 := decide_eq_false c10
     clear c10
     replace H := bS H
     obtain ⟨y293, Ny293, H⟩ := H
     by_cases c27 : y293.length + l1.length < 2199023255552
     ·rw [if_pos c27] at H
      have LMc27 := aM c27
      clear c27
      replace H := bS H
      obtain ⟨y296, Ny296, H⟩ := H
      by_cases c28 : a2 < (y296.length : Int)
      ·rw [if_pos c28] at H
       have c28b0 := decide_eq_true c28
       clear c28
       obtain ⟨y299, hy299⟩ : ∃ y_ : List (S41), y_ = (y296.set (a2 : Int).toNat (⟨t282, t283, (⟨t284, t285, t286, t287, t288, t289⟩ : S39)⟩ : S41)) := ⟨_, rfl⟩
       replace H : (some (y299, true)) = some (r1, r2) := by first | (rw [hy299]; with_reducible exact H) | (have H2_ := (Option.bind_some _ _).symm.trans H; rw [hy299]; with_reducible exact H2_) | (have H2_ := (Option.bind_some _ _).symm.trans H; with_reducible exact H2_) | with_reducible exact H | (rw [hy299]; exact H) | exact H
       have Ny299 := aM hy299
       clear hy299
       simp only [Option.some.injEq, Prod.mk.injEq] at H
       obtain ⟨rfl, rfl⟩ := H
       go_enter Tryd.func18, Tryd.ntmps18
       try go_wp2_with (first | ((with_reducible refine qK (N := 4) rfl ?_); refine qH ?hg (N := 4) ?hd (cs := #[.int .i64 a0_0, .int .i64 a0_1, .slice A0_2 l0_2.length c0_2]) (t := 32) ?hr ?_; (case hd => rfl); (case hg => rfl); (case hr => exact gS); intro gb280 hg w30 hbox hb; have BK280 := aM (hbox); have GW280 := aM ((gg hg)); have GE280 := aM ((gg hg)); replace HB := aM (qB bl hb); clear hb hbox hg))
       replace BK280 := aM (qE BK280.out)
       replace HB := aM (qu HB.out)
       have p281 : 0 ≤ (a2 : Int) := of_decide_eq_true am
       have q281 : a2 < (l1.length : Int) := of_decide_eq_true am
       obtain ⟨ad281, e281, hx281_0, hx281_1, hx281_2, hx281_3, hx281_4, hx281_5, hx281_6, hx281_7⟩ := qTB HR1.out a2 p281 q281
       have hw281_7 := hx281_7
       have hw281_6 := hx281_6
       have hw281_5 := hx281_5
       have hw281_4 := hx281_4
       have hw281_3 := hx281_3
       have hw281_2 := hx281_2
       have hw281_1 := hx281_1
       have hw281_0 := hx281_0
       cases e281
       replace hx281_0 := (HB.out.cell (World.block_lt_of_cell? w _ hx281_0)).trans hx281_0
       replace hx281_1 := (HB.out.cell (World.block_lt_of_cell? w _ hx281_1)).trans hx281_1
       replace hx281_2 := (HB.out.cell (World.block_lt_of_cell? w _ hx281_2)).trans hx281_2
       replace hx281_3 := (HB.out.cell (World.block_lt_of_cell? w _ hx281_3)).trans hx281_3
       replace hx281_4 := (HB.out.cell (World.block_lt_of_cell? w _ hx281_4)).trans hx281_4
       replace hx281_5 := (HB.out.cell (World.block_lt_of_cell? w _ hx281_5)).trans hx281_5
       replace hx281_6 := (HB.out.cell (World.block_lt_of_cell? w _ hx281_6)).trans hx281_6
       replace hx281_7 := (HB.out.cell (World.block_lt_of_cell? w _ hx281_7)).trans hx281_7
       replace p281 := eq_true p281
       replace q281 := eq_true q281
       refine qCB (n := 13) (S := fun w' => w'.cell? ⟨gb280, 0, none⟩ = some (.int .i64 a0_0) ∧ w'.cell? ⟨gb280, 1, none⟩ = some (.int .i64 a0_1) ∧ w'.cell? ⟨gb280, 2, none⟩ = some (.slice A0_2 l0_2.length c0_2) ∧ w'.cell? (ad281.add ((a2).toNat * 8)) = some (.int .i64 ((qA l1 a2).f0)) ∧ w'.cell? ⟨(ad281.add ((a2).toNat * 8)).block, (ad281.add ((a2).toNat * 8)).off + 1, none⟩ = some (.int .i64 ((qA l1 a2).f1)) ∧ w'.cell? ⟨(ad281.add ((a2).toNat * 8)).block, (ad281.add ((a2).toNat * 8)).off + 2, none⟩ = some (.int .i64 ((qA l1 a2).f2.f0)) ∧ w'.cell? ⟨(ad281.add ((a2).toNat * 8)).block, (ad281.add ((a2).toNat * 8)).off + 3, none⟩ = some (.int .i64 ((qA l1 a2).f2.f1)) ∧ w'.cell? ⟨(ad281.add ((a2).toNat * 8)).block, (ad281.add ((a2).toNat * 8)).off + 4, none⟩ = some (.int .i64 ((qA l1 a2).f2.f2)) ∧ w'.cell? ⟨(ad281.add ((a2).toNat * 8)).block, (ad281.add ((a2).toNat * 8)).off + 5, none⟩ = some (.int .i64 ((qA l1 a2).f2.f3)) ∧ w'.cell? ⟨(ad281.add ((a2).toNat * 8)).block, (ad281.add ((a2).toNat * 8)).off + 6, none⟩ = some (.int .i64 ((qA l1 a2).f2.f4)) ∧ w'.cell? ⟨(ad281.add ((a2).toNat * 8)).block, (ad281.add ((a2).toNat * 8)).off + 7, none⟩ = some (.int .i64 ((qA l1 a2).f2.f5))) (ds := []) #[false, false, false, false, false, false, false, false, false, false, false, false, false] (by kernel_rfl) rfl rfl ⟨bc BK280 0, bc BK280 1, bc BK280 2, (hB HB hw281_0 :), (hB HB hw281_1 :), (hB HB hw281_2 :), (hB HB hw281_3 :), (hB HB hw281_4 :), (hB HB hw281_5 :), (hB HB hw281_6 :), (hB HB hw281_7 :)⟩ (fun hHeld => ?_); refine qKA qIA.tab1 qIA.bits1 (fun HT_ HW_ => ?_)
       generalize w30.drew = w31 at BK280 HB hx281_0 hx281_1 hx281_2 hx281_3 hx281_4 hx281_5 hx281_6 hx281_7 hHeld ⊢
       refine pS (i := 1) (N := some 15) #[false, true, false, false, false, false, false, false, false, false, false, false, false] HT_ ?_
       refine pS (i := 2) (N := some 16) #[false, true, true, false, false, false, false, false, false, false, false, false, false] HT_ ?_
       refine pS (i := 3) (N := some 17) #[false, true, true, true, false, false, false, false, false, false, false, false, false] HT_ ?_
       refine pS (i := 5) (N := some 19) #[false, true, true, true, false, true, false, false, false, false, false, false, false] HT_ ?_
       refine tS (i := 0) (N := some 14) #[true, true, true, true, false, true, false, false, false, false, false, false, false] HT_ HW_ hHeld ?_
       refine tS (i := 4) (N := some 18) #[true, true, true, true, true, true, false, false, false, false, false, false, false] HT_ HW_ hHeld ?_
       refine join_ (σ := Nat) 2 #[true, true, true, true, true, true, true, true, true, true, true, false, false] (fun s_ => [(20, .tuple #[.agg #[.int .i64 t282, .int .i64 t283, .int .i64 t284, .int .i64 t285, .int .i64 t286, .int .i64 t287, .int .i64 t288, .int .i64 t289], .bool true]), (10, .pointer (some ⟨s_, 0, none⟩)), (13, .tuple #[.agg #[.int .i64 t282, .int .i64 t283, .int .i64 t284, .int .i64 t285, .int .i64 t286, .int .i64 t287, .int .i64 t288, .int .i64 t289], .bool true]), (21, .agg #[.int .i64 t282, .int .i64 t283, .int .i64 t284, .int .i64 t285, .int .i64 t286, .int .i64 t287, .int .i64 t288, .int .i64 t289]), (22, .bool true)]) (fun s_ w' => (w'.cell? ⟨gb280, 0, none⟩ = some (.int .i64 a0_0) ∧ w'.cell? ⟨gb280, 1, none⟩ = some (.int .i64 a0_1) ∧ w'.cell? ⟨gb280, 2, none⟩ = some (.slice A0_2 l0_2.length c0_2) ∧ w'.cell? (ad281.add ((a2).toNat * 8)) = some (.int .i64 ((qA l1 a2).f0)) ∧ w'.cell? ⟨(ad281.add ((a2).toNat * 8)).block, (ad281.add ((a2).toNat * 8)).off + 1, none⟩ = some (.int .i64 ((qA l1 a2).f1)) ∧ w'.cell? ⟨(ad281.add ((a2).toNat * 8)).block, (ad281.add ((a2).toNat * 8)).off + 2, none⟩ = some (.int .i64 ((qA l1 a2).f2.f0)) ∧ w'.cell? ⟨(ad281.add ((a2).toNat * 8)).block, (ad281.add ((a2).toNat * 8)).off + 3, none⟩ = some (.int .i64 ((qA l1 a2).f2.f1)) ∧ w'.cell? ⟨(ad281.add ((a2).toNat * 8)).block, (ad281.add ((a2).toNat * 8)).off + 4, none⟩ = some (.int .i64 ((qA l1 a2).f2.f2)) ∧ w'.cell? ⟨(ad281.add ((a2).toNat * 8)).block, (ad281.add ((a2).toNat * 8)).off + 5, none⟩ = some (.int .i64 ((qA l1 a2).f2.f3)) ∧ w'.cell? ⟨(ad281.add ((a2).toNat * 8)).block, (ad281.add ((a2).toNat * 8)).off + 6, none⟩ = some (.int .i64 ((qA l1 a2).f2.f4)) ∧ w'.cell? ⟨(ad281.add ((a2).toNat * 8)).block, (ad281.add ((a2).toNat * 8)).off + 7, none⟩ = some (.int .i64 ((qA l1 a2).f2.f5))) ∧ (w'.heap[gb280]? = some (.cells #[.int .i64 a0_0, .int .i64 a0_1, .slice A0_2 l0_2.length c0_2] 32 (0, 0))) ∧ (w'.heap[s_]? = some (.cells #[.int .i64 0, .int .i64 0, .int .i64 0, .int .i64 0, .int .i64 0, .int .i64 0, .int .i64 0, .int .i64 0] 41 (0, 0))) ∧ (w.heap.size ≤ s_) ∧ (w.heap.size ≤ s_) ∧ (gb280 ≠ s_) ∧ (s_ ≠ gb280) ∧ (Below w.heap.size w w')) ?_ ?_
       rotate_left
       ·intro hCont
        refine two_ (i := 6) (j := 10) (Ni := some 20) (Nj := some 10) #[true, true, true, true, true, true, true, false, false, false, false, false, false] #[true, true, true, true, true, true, false, false, false, false, true, false, false] rfl rfl rfl rfl (qvC HT_.out (by kernel_rfl)) (by decide) (by decide) (fun K hK => ?_) (fun K hK => ?_)
        ·skip
         refine goes_ Tryd.func32 (by kernel_rfl) rfl #[.agg #[.int .i64 a0_0, .int .i64 a0_1, .slice A0_2 l0_2.length c0_2], .agg #[.int .i64 ((qA l1 a2).f0), .int .i64 ((qA l1 a2).f1), .int .i64 ((qA l1 a2).f2.f0), .int .i64 ((qA l1 a2).f2.f1), .int .i64 ((qA l1 a2).f2.f2), .int .i64 ((qA l1 a2).f2.f3), .int .i64 ((qA l1 a2).f2.f4), .int .i64 ((qA l1 a2).f2.f5)], .int .i64 a3] (by rfl) rfl rfl gA ?_
         with_reducible refine (qoA.calls a0_0 a0_1 _ _ l0_2 ((qA l1 a2).f0) ((qA l1 a2).f1) ((qA l1 a2).f2.f0) ((qA l1 a2).f2.f1) ((qA l1 a2).f2.f2) ((qA l1 a2).f2.f3) ((qA l1 a2).f2.f4) ((qA l1 a2).f2.f5) a3 t282 t283 t284 t285 t286 t287 t288 t289 true _ ?side1 ?side2 A7.out).mono ?_
         (case side1 => repeat (first | exact (Kd.qg HR0_2.out HB.out) | (with_reducible refine Kd.qW ?_ _) | (with_reducible refine Kd.qV ?_ _) | (with_reducible refine Kd.qe ?_)))
         (case side2 => exact HC0_2.out)
         rintro e w32 ⟨rfl, hb⟩
         refine ⟨_, rfl, ?_⟩
         replace BK280 := aM (bb BK280 hb)
         replace HB := aM (qB bl hb); (try clear hb); (try clear hb2); (try clear hk); (try clear hi)
         refine hK.out _ _ ⟨bc BK280 0, bc BK280 1, bc BK280 2, (hB HB hw281_0 :), (hB HB hw281_1 :), (hB HB hw281_2 :), (hB HB hw281_3 :), (hB HB hw281_4 :), (hB HB hw281_5 :), (hB HB hw281_6 :), (hB HB hw281_7 :)⟩ (fun hHeld => ?_)
         clear hK K
         refine norm_ (a' := ?_) ?_ ?_
         rotate_left
         ·show Act.put _ (some 20) _ = _
          simp only [Act.put, List.setIfInBounds_toArray, List.set_cons_zero, List.set_cons_succ, i64_w, i32_w]
          rfl
         refine pS (i := 7) (N := some 13) #[true, true, true, true, true, true, true, true, false, false, false, false, false] HT_ ?_
         refine pS (i := 8) (N := some 21) #[true, true, true, true, true, true, true, true, true, false, false, false, false] HT_ ?_
         refine pS (i := 9) (N := some 22) #[true, true, true, true, true, true, true, true, true, true, false, false, false] HT_ ?_
         refine one_ (i := 10) (N := some 10) #[true, true, true, true, true, true, true, true, true, true, true, false, false] rfl rfl (qUA HT_.out (by kernel_rfl)) (by decide) (fun K hK => ?_)
         refine qlC ?hg (N := 10) ?hd (cs := #[.int .i64 0, .int .i64 0, .int .i64 0, .int .i64 0, .int .i64 0, .int .i64 0, .int .i64 0, .int .i64 0]) (t := 41) ?hr ?_; (case hd => rfl); (case hg => rfl); (case hr => exact gS)
         intro gb291 hg w33 hbox hb
         have BK291 := aM (hbox)
         have GW291 := aM ((gg hg))
         have GE291 := aM ((gg hg))
         have NB280_291 := aM ((nl BK280 hg))
         have NB291_280 := aM ((nr BK280 hg))
         replace BK280 := aM (bb BK280 hb)
         replace HB := aM (qB bl hb)
         clear hb hbox hg
         refine hK.out _ _ ⟨bc BK280 0, bc BK280 1, bc BK280 2, (hB HB hw281_0 :), (hB HB hw281_1 :), (hB HB hw281_2 :), (hB HB hw281_3 :), (hB HB hw281_4 :), (hB HB hw281_5 :), (hB HB hw281_6 :), (hB HB hw281_7 :)⟩ (fun hHeld => ?_)
         clear hK K
         refine norm_ (a' := ?_) ?_ ?_
         rotate_left
         ·show Act.put _ (some 10) _ = _
          simp only [Act.put, List.setIfInBounds_toArray, List.set_cons_zero, List.set_cons_succ, i64_w, i32_w]
          rfl
         exact norm_ (by simp only [putAll, Act.put, List.setIfInBounds_toArray, List.set_cons_zero, List.set_cons_succ]) (hCont (gb291) _ ⟨hHeld, (rB BK280), (rB BK291), GW291.out, GE291.out, NB280_291.out, NB291_280.out, bl⟩)
        ·skip
         refine qlC ?hg (N := 10) ?hd (cs := #[.int .i64 0, .int .i64 0, .int .i64 0, .int .i64 0, .int .i64 0, .int .i64 0, .int .i64 0, .int .i64 0]) (t := 41) ?hr ?_; (case hd => rfl); (case hg => rfl); (case hr => exact gS)
         intro gb291 hg w32 hbox hb
         have BK291 := aM (hbox)
         have GW291 := aM ((gg hg))
         have GE291 := aM ((gg hg))
         have NB280_291 := aM ((nl BK280 hg))
         have NB291_280 := aM ((nr BK280 hg))
         replace BK280 := aM (bb BK280 hb)
         replace HB := aM (qB bl hb)
         clear hb hbox hg
         refine hK.out _ _ ⟨bc BK280 0, bc BK280 1, bc BK280 2, (hB HB hw281_0 :), (hB HB hw281_1 :), (hB HB hw281_2 :), (hB HB hw281_3 :), (hB HB hw281_4 :), (hB HB hw281_5 :), (hB HB hw281_6 :), (hB HB hw281_7 :)⟩ (fun hHeld => ?_)
         clear hK K
         refine norm_ (a' := ?_) ?_ ?_
         rotate_left
         ·show Act.put _ (some 10) _ = _
          simp only [Act.put, List.setIfInBounds_toArray, List.set_cons_zero, List.set_cons_succ, i64_w, i32_w]
          rfl
         refine one_ (i := 6) (N := some 20) #[true, true, true, true, true, true, true, false, false, false, true, false, false] rfl rfl (qUA HT_.out (by kernel_rfl)) (by decide) (fun K hK => ?_)
         refine goes_ Tryd.func32 (by kernel_rfl) rfl #[.agg #[.int .i64 a0_0, .int .i64 a0_1, .slice A0_2 l0_2.length c0_2], .agg #[.int .i64 ((qA l1 a2).f0), .int .i64 ((qA l1 a2).f1), .int .i64 ((qA l1 a2).f2.f0), .int .i64 ((qA l1 a2).f2.f1), .int .i64 ((qA l1 a2).f2.f2), .int .i64 ((qA l1 a2).f2.f3), .int .i64 ((qA l1 a2).f2.f4), .int .i64 ((qA l1 a2).f2.f5)], .int .i64 a3] (by rfl) rfl rfl gA ?_
         with_reducible refine (qoA.calls a0_0 a0_1 _ _ l0_2 ((qA l1 a2).f0) ((qA l1 a2).f1) ((qA l1 a2).f2.f0) ((qA l1 a2).f2.f1) ((qA l1 a2).f2.f2) ((qA l1 a2).f2.f3) ((qA l1 a2).f2.f4) ((qA l1 a2).f2.f5) a3 t282 t283 t284 t285 t286 t287 t288 t289 true _ ?side1 ?side2 A7.out).mono ?_
         (case side1 => repeat (first | exact (Kd.qg HR0_2.out HB.out) | (with_reducible refine Kd.qW ?_ _) | (with_reducible refine Kd.qV ?_ _) | (with_reducible refine Kd.qe ?_)))
         (case side2 => exact HC0_2.out)
         rintro e w33 ⟨rfl, hb⟩
         refine ⟨_, rfl, ?_⟩
         replace BK280 := aM (bb BK280 hb)
         replace BK291 := aM (bb BK291 hb)
         replace HB := aM (qB bl hb); (try clear hb); (try clear hb2); (try clear hk); (try clear hi)
         refine hK.out _ _ ⟨bc BK280 0, bc BK280 1, bc BK280 2, (hB HB hw281_0 :), (hB HB hw281_1 :), (hB HB hw281_2 :), (hB HB hw281_3 :), (hB HB hw281_4 :), (hB HB hw281_5 :), (hB HB hw281_6 :), (hB HB hw281_7 :)⟩ (fun hHeld => ?_)
         clear hK K
         refine norm_ (a' := ?_) ?_ ?_
         rotate_left
         ·show Act.put _ (some 20) _ = _
          simp only [Act.put, List.setIfInBounds_toArray, List.set_cons_zero, List.set_cons_succ, i64_w, i32_w]
          rfl
         refine pS (i := 7) (N := some 13) #[true, true, true, true, true, true, true, true, false, false, true, false, false] HT_ ?_
         refine pS (i := 8) (N := some 21) #[true, true, true, true, true, true, true, true, true, false, true, false, false] HT_ ?_
         refine pS (i := 9) (N := some 22) #[true, true, true, true, true, true, true, true, true, true, true, false, false] HT_ ?_
         exact norm_ (by simp only [putAll, Act.put, List.setIfInBounds_toArray, List.set_cons_zero, List.set_cons_succ]) (hCont (gb291) _ ⟨hHeld, (rB BK280), (rB BK291), GW291.out, GE291.out, NB280_291.out, NB291_280.out, bl⟩)
       rintro gb291 w34 ⟨hS_, h0_, h1_, h2_, h3_, h4_, h5_, h6_⟩
       have n0_ : Aside0 (w34.heap[gb280]? = some (.cells #[.int .i64 a0_0, .int .i64 a0_1, .slice A0_2 l0_2.length c0_2] 32 (0, 0))) := ⟨h0_⟩
       have n1_ : Aside0 (w34.heap[gb291]? = some (.cells #[.int .i64 0, .int .i64 0, .int .i64 0, .int .i64 0, .int .i64 0, .int .i64 0, .int .i64 0, .int .i64 0] 41 (0, 0))) := ⟨h1_⟩
       have n2_ : Aside0 (w.heap.size ≤ gb291) := ⟨h2_⟩
       have n3_ : Aside0 (w.heap.size ≤ gb291) := ⟨h3_⟩
       have n4_ : Aside0 (gb280 ≠ gb291) := ⟨h4_⟩
       have n5_ : Aside0 (gb291 ≠ gb280) := ⟨h5_⟩
       have n6_ : Aside0 (Below w.heap.size w w34) := ⟨h6_⟩
       clear BK280 HB h0_ h1_ h2_ h3_ h4_ h5_ h6_
       have BK280 := n0_
       have BK291 := n1_
       have GW291 := n2_
       have GE291 := n3_
       have NB280_291 := n4_
       have NB291_280 := n5_
       have HB := n6_
       clear n0_ n1_ n2_ n3_ n4_ n5_ n6_
       have hHeld : w34.cell? ⟨gb280, 0, none⟩ = some (.int .i64 a0_0) ∧ w34.cell? ⟨gb280, 1, none⟩ = some (.int .i64 a0_1) ∧ w34.cell? ⟨gb280, 2, none⟩ = some (.slice A0_2 l0_2.length c0_2) ∧ w34.cell? (ad281.add ((a2).toNat * 8)) = some (.int .i64 ((qA l1 a2).f0)) ∧ w34.cell? ⟨(ad281.add ((a2).toNat * 8)).block, (ad281.add ((a2).toNat * 8)).off + 1, none⟩ = some (.int .i64 ((qA l1 a2).f1)) ∧ w34.cell? ⟨(ad281.add ((a2).toNat * 8)).block, (ad281.add ((a2).toNat * 8)).off + 2, none⟩ = some (.int .i64 ((qA l1 a2).f2.f0)) ∧ w34.cell? ⟨(ad281.add ((a2).toNat * 8)).block, (ad281.add ((a2).toNat * 8)).off + 3, none⟩ = some (.int .i64 ((qA l1 a2).f2.f1)) ∧ w34.cell? ⟨(ad281.add ((a2).toNat * 8)).block, (ad281.add ((a2).toNat * 8)).off + 4, none⟩ = some (.int .i64 ((qA l1 a2).f2.f2)) ∧ w34.cell? ⟨(ad281.add ((a2).toNat * 8)).block, (ad281.add ((a2).toNat * 8)).off + 5, none⟩ = some (.int .i64 ((qA l1 a2).f2.f3)) ∧ w34.cell? ⟨(ad281.add ((a2).toNat * 8)).block, (ad281.add ((a2).toNat * 8)).off + 6, none⟩ = some (.int .i64 ((qA l1 a2).f2.f4)) ∧ w34.cell? ⟨(ad281.add ((a2).toNat * 8)).block, (ad281.add ((a2).toNat * 8)).off + 7, none⟩ = some (.int .i64 ((qA l1 a2).f2.f5)) := hS_
       refine norm_ (a' := ?_) ?_ ?_
       rotate_left
       ·simp only [putAll, Act.put, List.setIfInBounds_toArray, List.set_cons_zero, List.set_cons_succ]
        rfl
       refine one_ (i := 11) (N := none) #[true, true, true, true, true, true, true, true, true, true, true, true, false] rfl rfl (qUA HT_.out (by kernel_rfl)) (by decide) (fun K hK => ?_)
       have hs35 : w34.cell? ⟨gb291, 0, none⟩ = some (.int .i64 0) := bc BK291 0
       have hfs35 := qX BK291.out 0
       have hns35_0 := NB280_291.out
       have hms35_0 := NB291_280.out
       have hs36 : w34.cell? ⟨gb291, 1, none⟩ = some (.int .i64 0) := bc BK291 1
       have hfs36 := qX BK291.out 1
       have hns36_0 := NB280_291.out
       have hms36_0 := NB291_280.out
       have hs37 : w34.cell? ⟨gb291, 2, none⟩ = some (.int .i64 0) := bc BK291 2
       have hfs37 := qX BK291.out 2
       have hns37_0 := NB280_291.out
       have hms37_0 := NB291_280.out
       have hs38 : w34.cell? ⟨gb291, 3, none⟩ = some (.int .i64 0) := bc BK291 3
       have hfs38 := qX BK291.out 3
       have hns38_0 := NB280_291.out
       have hms38_0 := NB291_280.out
       have hs39 : w34.cell? ⟨gb291, 4, none⟩ = some (.int .i64 0) := bc BK291 4
       have hfs39 := qX BK291.out 4
       have hns39_0 := NB280_291.out
       have hms39_0 := NB291_280.out
       have hs40 : w34.cell? ⟨gb291, 5, none⟩ = some (.int .i64 0) := bc BK291 5
       have hfs40 := qX BK291.out 5
       have hns40_0 := NB280_291.out
       have hms40_0 := NB291_280.out
       have hs41 : w34.cell? ⟨gb291, 6, none⟩ = some (.int .i64 0) := bc BK291 6
       have hfs41 := qX BK291.out 6
       have hns41_0 := NB280_291.out
       have hms41_0 := NB291_280.out
       have hs42 : w34.cell? ⟨gb291, 7, none⟩ = some (.int .i64 0) := bc BK291 7
       have hfs42 := qX BK291.out 7
       have hns42_0 := NB280_291.out
       have hms42_0 := NB291_280.out
       refine skip_ (w1 := ?_) (by rfl) rfl ?_ ?_
       rotate_left
       ·go_simp
        rfl
       refine hK.out _ _ ⟨(cf8 NB280_291.out (hHeld.1)), (cf8 NB280_291.out (hHeld.2.1)), (cf8 NB280_291.out (hHeld.2.2.1)), (cf8 (by first | exact Nat.ne_of_lt (Nat.lt_of_lt_of_le (by have := World.block_lt_of_cell? _ _ hw281_0; first | rwa [qD] at this | exact this) GW291.out) | (rw [qD]; exact Nat.ne_of_lt (Nat.lt_of_lt_of_le (by have := World.block_lt_of_cell? _ _ hw281_0; first | rwa [qD] at this | exact this) GW291.out)) | (show (Addr.add _ _).block ≠ _; rw [qD]; exact Nat.ne_of_lt (Nat.lt_of_lt_of_le (by have := World.block_lt_of_cell? _ _ hw281_0; first | rwa [qD] at this | exact this) GW291.out)) | (dsimp only; exact Nat.ne_of_lt (Nat.lt_of_lt_of_le (by have := World.block_lt_of_cell? _ _ hw281_0; first | rwa [qD] at this | exact this) GW291.out))) (hHeld.2.2.2.1)), (cf8 (by first | exact Nat.ne_of_lt (Nat.lt_of_lt_of_le (by have := World.block_lt_of_cell? _ _ hw281_1; first | rwa [qD] at this | exact this) GW291.out) | (rw [qD]; exact Nat.ne_of_lt (Nat.lt_of_lt_of_le (by have := World.block_lt_of_cell? _ _ hw281_1; first | rwa [qD] at this | exact this) GW291.out)) | (show (Addr.add _ _).block ≠ _; rw [qD]; exact Nat.ne_of_lt (Nat.lt_of_lt_of_le (by have := World.block_lt_of_cell? _ _ hw281_1; first | rwa [qD] at this | exact this) GW291.out)) | (dsimp only; exact Nat.ne_of_lt (Nat.lt_of_lt_of_le (by have := World.block_lt_of_cell? _ _ hw281_1; first | rwa [qD] at this | exact this) GW291.out))) (hHeld.2.2.2.2.1)), (cf8 (by first | exact Nat.ne_of_lt (Nat.lt_of_lt_of_le (by have := World.block_lt_of_cell? _ _ hw281_2; first | rwa [qD] at this | exact this) GW291.out) | (rw [qD]; exact Nat.ne_of_lt (Nat.lt_of_lt_of_le (by have := World.block_lt_of_cell? _ _ hw281_2; first | rwa [qD] at this | exact this) GW291.out)) | (show (Addr.add _ _).block ≠ _; rw [qD]; exact Nat.ne_of_lt (Nat.lt_of_lt_of_le (by have := World.block_lt_of_cell? _ _ hw281_2; first | rwa [qD] at this | exact this) GW291.out)) | (dsimp only; exact Nat.ne_of_lt (Nat.lt_of_lt_of_le (by have := World.block_lt_of_cell? _ _ hw281_2; first | rwa [qD] at this | exact this) GW291.out))) (hHeld.2.2.2.2.2.1)), (cf8 (by first | exact Nat.ne_of_lt (Nat.lt_of_lt_of_le (by have := World.block_lt_of_cell? _ _ hw281_3; first | rwa [qD] at this | exact this) GW291.out) | (rw [qD]; exact Nat.ne_of_lt (Nat.lt_of_lt_of_le (by have := World.block_lt_of_cell? _ _ hw281_3; first | rwa [qD] at this | exact this) GW291.out)) | (show (Addr.add _ _).block ≠ _; rw [qD]; exact Nat.ne_of_lt (Nat.lt_of_lt_of_le (by have := World.block_lt_of_cell? _ _ hw281_3; first | rwa [qD] at this | exact this) GW291.out)) | (dsimp only; exact Nat.ne_of_lt (Nat.lt_of_lt_of_le (by have := World.block_lt_of_cell? _ _ hw281_3; first | rwa [qD] at this | exact this) GW291.out))) (hHeld.2.2.2.2.2.2.1)), (cf8 (by first | exact Nat.ne_of_lt (Nat.lt_of_lt_of_le (by have := World.block_lt_of_cell? _ _ hw281_4; first | rwa [qD] at this | exact this) GW291.out) | (rw [qD]; exact Nat.ne_of_lt (Nat.lt_of_lt_of_le (by have := World.block_lt_of_cell? _ _ hw281_4; first | rwa [qD] at this | exact this) GW291.out)) | (show (Addr.add _ _).block ≠ _; rw [qD]; exact Nat.ne_of_lt (Nat.lt_of_lt_of_le (by have := World.block_lt_of_cell? _ _ hw281_4; first | rwa [qD] at this | exact this) GW291.out)) | (dsimp only; exact Nat.ne_of_lt (Nat.lt_of_lt_of_le (by have := World.block_lt_of_cell? _ _ hw281_4; first | rwa [qD] at this | exact this) GW291.out))) (hHeld.2.2.2.2.2.2.2.1)), (cf8 (by first | exact Nat.ne_of_lt (Nat.lt_of_lt_of_le (by have := World.block_lt_of_cell? _ _ hw281_5; first | rwa [qD] at this | exact this) GW291.out) | (rw [qD]; exact Nat.ne_of_lt (Nat.lt_of_lt_of_le (by have := World.block_lt_of_cell? _ _ hw281_5; first | rwa [qD] at this | exact this) GW291.out)) | (show (Addr.add _ _).block ≠ _; rw [qD]; exact Nat.ne_of_lt (Nat.lt_of_lt_of_le (by have := World.block_lt_of_cell? _ _ hw281_5; first | rwa [qD] at this | exact this) GW291.out)) | (dsimp only; exact Nat.ne_of_lt (Nat.lt_of_lt_of_le (by have := World.block_lt_of_cell? _ _ hw281_5; first | rwa [qD] at this | exact this) GW291.out))) (hHeld.2.2.2.2.2.2.2.2.1)), (cf8 (by first | exact Nat.ne_of_lt (Nat.lt_of_lt_of_le (by have := World.block_lt_of_cell? _ _ hw281_6; first | rwa [qD] at this | exact this) GW291.out) | (rw [qD]; exact Nat.ne_of_lt (Nat.lt_of_lt_of_le (by have := World.block_lt_of_cell? _ _ hw281_6; first | rwa [qD] at this | exact this) GW291.out)) | (show (Addr.add _ _).block ≠ _; rw [qD]; exact Nat.ne_of_lt (Nat.lt_of_lt_of_le (by have := World.block_lt_of_cell? _ _ hw281_6; first | rwa [qD] at this | exact this) GW291.out)) | (dsimp only; exact Nat.ne_of_lt (Nat.lt_of_lt_of_le (by have := World.block_lt_of_cell? _ _ hw281_6; first | rwa [qD] at this | exact this) GW291.out))) (hHeld.2.2.2.2.2.2.2.2.2.1)), (cf8 (by first | exact Nat.ne_of_lt (Nat.lt_of_lt_of_le (by have := World.block_lt_of_cell? _ _ hw281_7; first | rwa [qD] at this | exact this) GW291.out) | (rw [qD]; exact Nat.ne_of_lt (Nat.lt_of_lt_of_le (by have := World.block_lt_of_cell? _ _ hw281_7; first | rwa [qD] at this | exact this) GW291.out)) | (show (Addr.add _ _).block ≠ _; rw [qD]; exact Nat.ne_of_lt (Nat.lt_of_lt_of_le (by have := World.block_lt_of_cell? _ _ hw281_7; first | rwa [qD] at this | exact this) GW291.out)) | (dsimp only; exact Nat.ne_of_lt (Nat.lt_of_lt_of_le (by have := World.block_lt_of_cell? _ _ hw281_7; first | rwa [qD] at this | exact this) GW291.out))) (hHeld.2.2.2.2.2.2.2.2.2.2))⟩ (fun hHeld => ?_)
       clear hK K
       refine pS (i := 12) (N := some 11) #[true, true, true, true, true, true, true, true, true, true, true, true, true] HT_ ?_
       refine done_ (qrA HT_.out (by kernel_rfl)) ?_
       have hnb43 := NB291_280.out
       have hnc43 := NB280_291.out
       (refine cb8 BK291 ?_; intro _ _ _ _ _ _ _ _)
       (refine cz8 BK291 ?_; intro _ _ _ _ _ _ _ _)
       try go_wp2_with (first | (go_at_call 28; (with_reducible refine (qLA.calls k _ _ l1 t282 t283 t292 _ ?side1 ?side2 A9.out).mono ?_); (case side1 => exact Kd.qg HR1.out bl); (case side2 => exact HC1.out); rintro e w45 ⟨rfl, hb⟩; replace BK280 := aM (qPA (g := gb280) (o := .cells #[.int .i64 a0_0, .int .i64 a0_1, .slice A0_2 l0_2.length c0_2] 32 (0, 0)) (bF BK280 NB280_291) hb); replace BK291 := aM (qPA (g := gb291) (o := .cells #[.int .i64 t282, .int .i64 t283, .int .i64 t284, .int .i64 t285, .int .i64 t286, .int .i64 t287, .int .i64 t288, .int .i64 t289] 41 (0, 0)) (by (with_reducible repeat (first | refine qG ?_ _ | refine qE ?_ | refine qF ?_ _)); exact bP8 BK291) hb); replace HB := aM (qB bl hb); (try clear hb); (try clear hb2); (try clear hk); (try clear hi)) | ((with_reducible refine qK (N := 34) rfl ?_); refine Kd.R_lit k41 _ 41 ?hg (N := 34) ?hd (xs := ([] : List (S41))) (inner := []) (ok := fun _ => True) (okp := fun _ => True) ?hr ?hp (fun _ hk => hk) trivial (Below.refl _ _) (Nat.le_refl _) (by simp) ?_; (case hd => rfl); (case hg => rfl); (case hr => exact gS); (case hp => exact (Reps.none _ _)); intro v294 w46 ho47 hb hg_ hnew_; clear hg_ hnew_; (first | rw [← Ny293.out] at ho47 | (simp only [Int.reduceToNat] at ho47; rw [← Ny293.out] at ho47)); have HO295 := aM (Kd.qx (Kd.qNB ho47 (rB BK291)) (qL bl)); replace BK280 := aM (bb BK280 hb); replace BK291 := aM (bb BK291 hb); replace HB := aM (qB bl hb); clear hb ho47) | ((with_reducible refine qpA (b := .append) (xs := #[.tmp 34, .tmp 35]) rfl ?_); at_builtin; refine Kd.qtB k41 (w0 := w) w.heap.size rfl (.tmp 34) (.tmp 35) 26 41 (.agg #[(.int .i64 0), (.int .i64 0), (.int .i64 0), (.int .i64 0), (.int .i64 0), (.int .i64 0), (.int .i64 0), (.int .i64 0)]) 64 rfl Tryd.underlying26 info41 rfl (by decide) (by omega) v294 y293 l1 _ _ _ (fun k_ => k_ ≠ gb291) (fun _ => False) rfl rfl ?aO ?aR (fun _ _ h => h) (fun _ h => h.elim) ?aF ?aB ?aS ?aL ?_; (case aR => repeat (first | exact (Kd.qg HR1.out HB.out) | (with_reducible refine Kd.qW ?_ _) | (with_reducible refine Kd.qV ?_ _) | (with_reducible refine Kd.qe ?_))); (case aB => exact bl); (case aF => exact (fun k_ hk => Kd.freshB (rB BK291) k_ hk)); (case aO => exact (by (with_reducible repeat (first | apply Kd.qO | apply Kd.qQ | apply Kd.qS)); exact Kd.qZ HO295.out (fun _ hk => hk.2))); (case aS => exact (qL bl)); (case aL => have := LMc27.out; omega); intro v297 w48 ho hb hg hat; rw [← Ny296.out] at ho; have HO298 := aM (ho); replace BK280 := aM (qi (rB BK280) hg (Kd.R_ne HO295.out BK280.out (by decide))); replace BK291 := aM (qi (rB BK291) hg (Kd.qJB HO295.out (fun _ hk => hk.2))); replace HB := aM (hb); clear HO295; clear ho hb hg hat; (refine cb8 BK291 ?_; intro _ _ _ _ _ _ _ _); (refine cz8 BK291 ?_; intro _ _ _ _ _ _ _ _); have p29 : 0 ≤ (a2 : Int) := of_decide_eq_true am; have q29 : (a2 : Int) < ((y296.length : Int) : Int) := of_decide_eq_true am; obtain ⟨go29, co29, eo29, gb29, gl29, cl29, HG29⟩ := Kd.qNE HO298.out (by omega); (first | cases eo29 | (injection eo29 with ea_ en_ ec_; (first | subst ea_ | (injection ea_ with ea_; subst ea_)); subst ec_; clear en_)); have GB29 := aM gb29; have GG29 := aM HG29; clear gb29 gl29 HG29; obtain ⟨ce29, hcl29, hM29, hcc29, hfr29⟩ := Kd.qfD HO298.out z41 (a2 : Int) p29 q29; obtain rfl := qMC hM29; have hx29_0 : w48.cell? ⟨go29, (a2 : Int).toNat * 8, none⟩ = some (.int .i64 ((qA y296 a2).f0)) := hcc29 0 _ rfl; have hx29_1 : w48.cell? ⟨go29, (a2 : Int).toNat * 8 + 1, none⟩ = some (.int .i64 ((qA y296 a2).f1)) := hcc29 1 _ rfl; have hx29_2 : w48.cell? ⟨go29, (a2 : Int).toNat * 8 + 2, none⟩ = some (.int .i64 ((qA y296 a2).f2.f0)) := hcc29 2 _ rfl; have hx29_3 : w48.cell? ⟨go29, (a2 : Int).toNat * 8 + 3, none⟩ = some (.int .i64 ((qA y296 a2).f2.f1)) := hcc29 3 _ rfl; have hx29_4 : w48.cell? ⟨go29, (a2 : Int).toNat * 8 + 4, none⟩ = some (.int .i64 ((qA y296 a2).f2.f2)) := hcc29 4 _ rfl; have hx29_5 : w48.cell? ⟨go29, (a2 : Int).toNat * 8 + 5, none⟩ = some (.int .i64 ((qA y296 a2).f2.f3)) := hcc29 5 _ rfl; have hx29_6 : w48.cell? ⟨go29, (a2 : Int).toNat * 8 + 6, none⟩ = some (.int .i64 ((qA y296 a2).f2.f4)) := hcc29 6 _ rfl; have hx29_7 : w48.cell? ⟨go29, (a2 : Int).toNat * 8 + 7, none⟩ = some (.int .i64 ((qA y296 a2).f2.f5)) := hcc29 7 _ rfl; have hf29_0 : w48.frozen? ⟨go29, (a2 : Int).toNat * 8, none⟩ = false := hfr29 0; have hf29_1 : w48.frozen? ⟨go29, (a2 : Int).toNat * 8 + 1, none⟩ = false := hfr29 1; have hf29_2 : w48.frozen? ⟨go29, (a2 : Int).toNat * 8 + 2, none⟩ = false := hfr29 2; have hf29_3 : w48.frozen? ⟨go29, (a2 : Int).toNat * 8 + 3, none⟩ = false := hfr29 3; have hf29_4 : w48.frozen? ⟨go29, (a2 : Int).toNat * 8 + 4, none⟩ = false := hfr29 4; have hf29_5 : w48.frozen? ⟨go29, (a2 : Int).toNat * 8 + 5, none⟩ = false := hfr29 5; have hf29_6 : w48.frozen? ⟨go29, (a2 : Int).toNat * 8 + 6, none⟩ = false := hfr29 6; have hf29_7 : w48.frozen? ⟨go29, (a2 : Int).toNat * 8 + 7, none⟩ = false := hfr29 7; clear hcl29 hcc29 hfr29 hM29; replace p29 := eq_true p29; replace q29 := eq_true q29; have HX50 := aM (show Kd.R k41 41 w48 w.heap.size (fun k_ => k_ ≠ gb291) (.slice (some ⟨go29, 0, none⟩) y296.length co29) y296 from (rR HO298)); obtain ⟨ce50, hcl50, hM50, hcc50, hfr50⟩ := Kd.qfD HX50.out z41 (a2 : Int) (of_decide_eq_true am) (by have h_ : (a2 : Int) < ((y296.length : Int) : Int) := of_decide_eq_true am; first | exact h_ | (have e_ := (Kd.qP HO298.out).1; omega) | simpa using h_); obtain rfl := qMC hM50; have HP50 := Kd.R_seg HX50.out (a2 : Int) (of_decide_eq_true am) (by have h_ : (a2 : Int) < ((y296.length : Int) : Int) := of_decide_eq_true am; first | exact h_ | (have e_ := (Kd.qP HO298.out).1; omega) | simpa using h_) (seg := [.int .i64 t282, .int .i64 t283, .int .i64 t284, .int .i64 t285, .int .i64 t286, .int .i64 t287, .int .i64 t288, .int .i64 t289]) (j := 0) hcl50 hcc50 (show 8 ≤ 8 from by decide) (x' := (⟨t282, t283, (⟨t284, t285, t286, t287, t288, t289⟩ : S39)⟩ : S41)) (quD _ _ _ (⟨t282, t283, (⟨t284, t285, t286, t287, t288, t289⟩ : S39)⟩ : S41) ) (fun _ hk => hk); have hx50_0 := hcc50 0 _ rfl; (try simp only [show (k41).sz = 8 from rfl, Nat.mul_one, Nat.add_zero] at hx50_0); have hf50_0 := hfr50 0; (try simp only [show (k41).sz = 8 from rfl, Nat.mul_one, Nat.add_zero] at hf50_0); have hx50_1 := hcc50 1 _ rfl; (try simp only [show (k41).sz = 8 from rfl, Nat.mul_one, Nat.add_zero] at hx50_1); have hf50_1 := hfr50 1; (try simp only [show (k41).sz = 8 from rfl, Nat.mul_one, Nat.add_zero] at hf50_1); have hx50_2 := hcc50 2 _ rfl; (try simp only [show (k41).sz = 8 from rfl, Nat.mul_one, Nat.add_zero] at hx50_2); have hf50_2 := hfr50 2; (try simp only [show (k41).sz = 8 from rfl, Nat.mul_one, Nat.add_zero] at hf50_2); have hx50_3 := hcc50 3 _ rfl; (try simp only [show (k41).sz = 8 from rfl, Nat.mul_one, Nat.add_zero] at hx50_3); have hf50_3 := hfr50 3; (try simp only [show (k41).sz = 8 from rfl, Nat.mul_one, Nat.add_zero] at hf50_3); have hx50_4 := hcc50 4 _ rfl; (try simp only [show (k41).sz = 8 from rfl, Nat.mul_one, Nat.add_zero] at hx50_4); have hf50_4 := hfr50 4; (try simp only [show (k41).sz = 8 from rfl, Nat.mul_one, Nat.add_zero] at hf50_4); have hx50_5 := hcc50 5 _ rfl; (try simp only [show (k41).sz = 8 from rfl, Nat.mul_one, Nat.add_zero] at hx50_5); have hf50_5 := hfr50 5; (try simp only [show (k41).sz = 8 from rfl, Nat.mul_one, Nat.add_zero] at hf50_5); have hx50_6 := hcc50 6 _ rfl; (try simp only [show (k41).sz = 8 from rfl, Nat.mul_one, Nat.add_zero] at hx50_6); have hf50_6 := hfr50 6; (try simp only [show (k41).sz = 8 from rfl, Nat.mul_one, Nat.add_zero] at hf50_6); have hx50_7 := hcc50 7 _ rfl; (try simp only [show (k41).sz = 8 from rfl, Nat.mul_one, Nat.add_zero] at hx50_7); have hf50_7 := hfr50 7; (try simp only [show (k41).sz = 8 from rfl, Nat.mul_one, Nat.add_zero] at hf50_7); clear hcl50 hcc50 hfr50 hM50) | ((with_reducible refine qlB (t := 41) (p := 40) rfl ?_); refine qiB (t := 41) (p := 40) (v := ?vo_w51) (w1 := ((((((((w48.setCell ⟨go29, (a2 : Int).toNat * 8, none⟩ (.int .i64 t282)).setCell ⟨go29, (a2 : Int).toNat * 8 + 1, none⟩ (.int .i64 t283)).setCell ⟨go29, (a2 : Int).toNat * 8 + 2, none⟩ (.int .i64 t284)).setCell ⟨go29, (a2 : Int).toNat * 8 + 3, none⟩ (.int .i64 t285)).setCell ⟨go29, (a2 : Int).toNat * 8 + 4, none⟩ (.int .i64 t286)).setCell ⟨go29, (a2 : Int).toNat * 8 + 5, none⟩ (.int .i64 t287)).setCell ⟨go29, (a2 : Int).toNat * 8 + 6, none⟩ (.int .i64 t288)).setCell ⟨go29, (a2 : Int).toNat * 8 + 7, none⟩ (.int .i64 t289))) ?hg ?ho ?hn ?hr ?_; (case ho => rfl); (case hg => rfl); (case hn => rfl); (case hr => exact gS); intro w51 hw; have hg : w48.grownBy w51 (some go29) := (by rw [hw]; exact HP50.2); have hp_ : Kd.R k41 41 w51 w.heap.size (fun k_ => k_ ≠ gb291) (.slice (some ⟨go29, 0, none⟩) y296.length co29) y299 := (by rw [hw, Ny299.out]; exact HP50.1); clear HP50; replace BK280 := aM (qi (rB BK280) hg (Kd.R_ne HO298.out BK280.out (by decide))); replace BK291 := aM (qi (rB BK291) hg (Kd.qJB HO298.out (fun _ hk => hk))); replace HO298 := aM (hp_); replace HB := aM ((by rw [hw]; exact qy (qy (qy (qy (qy (qy (qy (qy (HB.out) GB29.out) GB29.out) GB29.out) GB29.out) GB29.out) GB29.out) GB29.out) GB29.out : Below w.heap.size w w51)); clear hg hw hp_))
       go_ret2
       exact ⟨_, sR, by (with_reducible repeat (first | apply Kd.qO | apply Kd.qQ | apply Kd.qS)); exact Kd.qZ HO298.out (fun _ hk => trivial), bl⟩
      ·rw [if_neg c28] at H
       exact absurd H (by simp)
     ·rw [if_neg c27] at H
      exact absurd H (by simp)
   ·replace c8 := Bool.eq_false_iff.mpr c8
    subst c8
    replace H := iF H
    simp only [Option.some.injEq, Prod.mk.injEq] at H
    obtain ⟨rfl, rfl⟩ := H
    go_enter Tryd.func18, Tryd.ntmps18
    try go_wp2_with (first | ((with_reducible refine qK (N := 4) rfl ?_); refine qH ?hg (N := 4) ?hd (cs := #[.int .i64 a0_0, .int .i64 a0_1, .slice A0_2 l0_2.length c0_2]) (t := 32) ?hr ?_; (case hd => rfl); (case hg => rfl); (case hr => exact gS); intro gb280 hg w52 hbox hb; have BK280 := aM (hbox); have GW280 := aM ((gg hg)); have GE280 := aM ((gg hg)); replace HB := aM (qB bl hb); clear hb hbox hg))
    replace BK280 := aM (qE BK280.out)
    replace HB := aM (qu HB.out)
    have p281 : 0 ≤ (a2 : Int) := of_decide_eq_true am
    have q281 : a2 < (l1.length : Int) := of_decide_eq_true am
    obtain ⟨ad281, e281, hx281_0, hx281_1, hx281_2, hx281_3, hx281_4, hx281_5, hx281_6, hx281_7⟩ := qTB HR1.out a2 p281 q281
    have hw281_7 := hx281_7
    have hw281_6 := hx281_6
    have hw281_5 := hx281_5
    have hw281_4 := hx281_4
    have hw281_3 := hx281_3
    have hw281_2 := hx281_2
    have hw281_1 := hx281_1
    have hw281_0 := hx281_0
    cases e281
    replace hx281_0 := (HB.out.cell (World.block_lt_of_cell? w _ hx281_0)).trans hx281_0
    replace hx281_1 := (HB.out.cell (World.block_lt_of_cell? w _ hx281_1)).trans hx281_1
    replace hx281_2 := (HB.out.cell (World.block_lt_of_cell? w _ hx281_2)).trans hx281_2
    replace hx281_3 := (HB.out.cell (World.block_lt_of_cell? w _ hx281_3)).trans hx281_3
    replace hx281_4 := (HB.out.cell (World.block_lt_of_cell? w _ hx281_4)).trans hx281_4
    replace hx281_5 := (HB.out.cell (World.block_lt_of_cell? w _ hx281_5)).trans hx281_5
    replace hx281_6 := (HB.out.cell (World.block_lt_of_cell? w _ hx281_6)).trans hx281_6
    replace hx281_7 := (HB.out.cell (World.block_lt_of_cell? w _ hx281_7)).trans hx281_7
    replace p281 := eq_true p281
    replace q281 := eq_true q281
    refine qCB (n := 13) (S := fun w' => w'.cell? ⟨gb280, 0, none⟩ = some (.int .i64 a0_0) ∧ w'.cell? ⟨gb280, 1, none⟩ = some (.int .i64 a0_1) ∧ w'.cell? ⟨gb280, 2, none⟩ = some (.slice A0_2 l0_2.length c0_2) ∧ w'.cell? (ad281.add ((a2).toNat * 8)) = some (.int .i64 ((qA l1 a2).f0)) ∧ w'.cell? ⟨(ad281.add ((a2).toNat * 8)).block, (ad281.add ((a2).toNat * 8)).off + 1, none⟩ = some (.int .i64 ((qA l1 a2).f1)) ∧ w'.cell? ⟨(ad281.add ((a2).toNat * 8)).block, (ad281.add ((a2).toNat * 8)).off + 2, none⟩ = some (.int .i64 ((qA l1 a2).f2.f0)) ∧ w'.cell? ⟨(ad281.add ((a2).toNat * 8)).block, (ad281.add ((a2).toNat * 8)).off + 3, none⟩ = some (.int .i64 ((qA l1 a2).f2.f1)) ∧ w'.cell? ⟨(ad281.add ((a2).toNat * 8)).block, (ad281.add ((a2).toNat * 8)).off + 4, none⟩ = some (.int .i64 ((qA l1 a2).f2.f2)) ∧ w'.cell? ⟨(ad281.add ((a2).toNat * 8)).block, (ad281.add ((a2).toNat * 8)).off + 5, none⟩ = some (.int .i64 ((qA l1 a2).f2.f3)) ∧ w'.cell? ⟨(ad281.add ((a2).toNat * 8)).block, (ad281.add ((a2).toNat * 8)).off + 6, none⟩ = some (.int .i64 ((qA l1 a2).f2.f4)) ∧ w'.cell? ⟨(ad281.add ((a2).toNat * 8)).block, (ad281.add ((a2).toNat * 8)).off + 7, none⟩ = some (.int .i64 ((qA l1 a2).f2.f5))) (ds := []) #[false, false, false, false, false, false, false, false, false, false, false, false, false] (by kernel_rfl) rfl rfl ⟨bc BK280 0, bc BK280 1, bc BK280 2, (hB HB hw281_0 :), (hB HB hw281_1 :), (hB HB hw281_2 :), (hB HB hw281_3 :), (hB HB hw281_4 :), (hB HB hw281_5 :), (hB HB hw281_6 :), (hB HB hw281_7 :)⟩ (fun hHeld => ?_); refine qKA qIA.tab1 qIA.bits1 (fun HT_ HW_ => ?_)
    generalize w52.drew = w53 at BK280 HB hx281_0 hx281_1 hx281_2 hx281_3 hx281_4 hx281_5 hx281_6 hx281_7 hHeld ⊢
    refine pS (i := 1) (N := some 15) #[false, true, false, false, false, false, false, false, false, false, false, false, false] HT_ ?_
    refine pS (i := 2) (N := some 16) #[false, true, true, false, false, false, false, false, false, false, false, false, false] HT_ ?_
    refine pS (i := 3) (N := some 17) #[false, true, true, true, false, false, false, false, false, false, false, false, false] HT_ ?_
    refine pS (i := 5) (N := some 19) #[false, true, true, true, false, true, false, false, false, false, false, false, false] HT_ ?_
    refine tS (i := 0) (N := some 14) #[true, true, true, true, false, true, false, false, false, false, false, false, false] HT_ HW_ hHeld ?_
    refine tS (i := 4) (N := some 18) #[true, true, true, true, true, true, false, false, false, false, false, false, false] HT_ HW_ hHeld ?_
    refine join_ (σ := Nat) 2 #[true, true, true, true, true, true, true, true, true, true, true, false, false] (fun s_ => [(20, .tuple #[.agg #[.int .i64 t282, .int .i64 t283, .int .i64 t284, .int .i64 t285, .int .i64 t286, .int .i64 t287, .int .i64 t288, .int .i64 t289], .bool false]), (10, .pointer (some ⟨s_, 0, none⟩)), (13, .tuple #[.agg #[.int .i64 t282, .int .i64 t283, .int .i64 t284, .int .i64 t285, .int .i64 t286, .int .i64 t287, .int .i64 t288, .int .i64 t289], .bool false]), (21, .agg #[.int .i64 t282, .int .i64 t283, .int .i64 t284, .int .i64 t285, .int .i64 t286, .int .i64 t287, .int .i64 t288, .int .i64 t289]), (22, .bool false)]) (fun s_ w' => (w'.cell? ⟨gb280, 0, none⟩ = some (.int .i64 a0_0) ∧ w'.cell? ⟨gb280, 1, none⟩ = some (.int .i64 a0_1) ∧ w'.cell? ⟨gb280, 2, none⟩ = some (.slice A0_2 l0_2.length c0_2) ∧ w'.cell? (ad281.add ((a2).toNat * 8)) = some (.int .i64 ((qA l1 a2).f0)) ∧ w'.cell? ⟨(ad281.add ((a2).toNat * 8)).block, (ad281.add ((a2).toNat * 8)).off + 1, none⟩ = some (.int .i64 ((qA l1 a2).f1)) ∧ w'.cell? ⟨(ad281.add ((a2).toNat * 8)).block, (ad281.add ((a2).toNat * 8)).off + 2, none⟩ = some (.int .i64 ((qA l1 a2).f2.f0)) ∧ w'.cell? ⟨(ad281.add ((a2).toNat * 8)).block, (ad281.add ((a2).toNat * 8)).off + 3, none⟩ = some (.int .i64 ((qA l1 a2).f2.f1)) ∧ w'.cell? ⟨(ad281.add ((a2).toNat * 8)).block, (ad281.add ((a2).toNat * 8)).off + 4, none⟩ = some (.int .i64 ((qA l1 a2).f2.f2)) ∧ w'.cell? ⟨(ad281.add ((a2).toNat * 8)).block, (ad281.add ((a2).toNat * 8)).off + 5, none⟩ = some (.int .i64 ((qA l1 a2).f2.f3)) ∧ w'.cell? ⟨(ad281.add ((a2).toNat * 8)).block, (ad281.add ((a2).toNat * 8)).off + 6, none⟩ = some (.int .i64 ((qA l1 a2).f2.f4)) ∧ w'.cell? ⟨(ad281.add ((a2).toNat * 8)).block, (ad281.add ((a2).toNat * 8)).off + 7, none⟩ = some (.int .i64 ((qA l1 a2).f2.f5))) ∧ (w'.heap[gb280]? = some (.cells #[.int .i64 a0_0, .int .i64 a0_1, .slice A0_2 l0_2.length c0_2] 32 (0, 0))) ∧ (w'.heap[s_]? = some (.cells #[.int .i64 0, .int .i64 0, .int .i64 0, .int .i64 0, .int .i64 0, .int .i64 0, .int .i64 0, .int .i64 0] 41 (0, 0))) ∧ (w.heap.size ≤ s_) ∧ (w.heap.size ≤ s_) ∧ (gb280 ≠ s_) ∧ (s_ ≠ gb280) ∧ (Below w.heap.size w w')) ?_ ?_
    rotate_left
    ·intro hCont
     refine two_ (i := 6) (j := 10) (Ni := some 20) (Nj := some 10) #[true, true, true, true, true, true, true, false, false, false, false, false, false] #[true, true, true, true, true, true, false, false, false, false, true, false, false] rfl rfl rfl rfl (qvC HT_.out (by kernel_rfl)) (by decide) (by decide) (fun K hK => ?_) (fun K hK => ?_)
     ·skip
      refine goes_ Tryd.func32 (by kernel_rfl) rfl #[.agg #[.int .i64 a0_0, .int .i64 a0_1, .slice A0_2 l0_2.length c0_2], .agg #[.int .i64 ((qA l1 a2).f0), .int .i64 ((qA l1 a2).f1), .int .i64 ((qA l1 a2).f2.f0), .int .i64 ((qA l1 a2).f2.f1), .int .i64 ((qA l1 a2).f2.f2), .int .i64 ((qA l1 a2).f2.f3), .int .i64 ((qA l1 a2).f2.f4), .int .i64 ((qA l1 a2).f2.f5)], .int .i64 a3] (by rfl) rfl rfl gA ?_
      with_reducible refine (qoA.calls a0_0 a0_1 _ _ l0_2 ((qA l1 a2).f0) ((qA l1 a2).f1) ((qA l1 a2).f2.f0) ((qA l1 a2).f2.f1) ((qA l1 a2).f2.f2) ((qA l1 a2).f2.f3) ((qA l1 a2).f2.f4) ((qA l1 a2).f2.f5) a3 t282 t283 t284 t285 t286 t287 t288 t289 false _ ?side1 ?side2 A7.out).mono ?_
      (case side1 => repeat (first | exact (Kd.qg HR0_2.out HB.out) | (with_reducible refine Kd.qW ?_ _) | (with_reducible refine Kd.qV ?_ _) | (with_reducible refine Kd.qe ?_)))
      (case side2 => exact HC0_2.out)
      rintro e w54 ⟨rfl, hb⟩
      refine ⟨_, rfl, ?_⟩
      replace BK280 := aM (bb BK280 hb)
      replace HB := aM (qB bl hb); (try clear hb); (try clear hb2); (try clear hk); (try clear hi)
      refine hK.out _ _ ⟨bc BK280 0, bc BK280 1, bc BK280 2, (hB HB hw281_0 :), (hB HB hw281_1 :), (hB HB hw281_2 :), (hB HB hw281_3 :), (hB HB hw281_4 :), (hB HB hw281_5 :), (hB HB hw281_6 :), (hB HB hw281_7 :)⟩ (fun hHeld => ?_)
      clear hK K
      refine norm_ (a' := ?_) ?_ ?_
      rotate_left
      ·show Act.put _ (some 20) _ = _
       simp only [Act.put, List.setIfInBounds_toArray, List.set_cons_zero, List.set_cons_succ, i64_w, i32_w]
       rfl
      refine pS (i := 7) (N := some 13) #[true, true, true, true, true, true, true, true, false, false, false, false, false] HT_ ?_
      refine pS (i := 8) (N := some 21) #[true, true, true, true, true, true, true, true, true, false, false, false, false] HT_ ?_
      refine pS (i := 9) (N := some 22) #[true, true, true, true, true, true, true, true, true, true, false, false, false] HT_ ?_
      refine one_ (i := 10) (N := some 10) #[true, true, true, true, true, true, true, true, true, true, true, false, false] rfl rfl (qUA HT_.out (by kernel_rfl)) (by decide) (fun K hK => ?_)
      refine qlC ?hg (N := 10) ?hd (cs := #[.int .i64 0, .int .i64 0, .int .i64 0, .int .i64 0, .int .i64 0, .int .i64 0, .int .i64 0, .int .i64 0]) (t := 41) ?hr ?_; (case hd => rfl); (case hg => rfl); (case hr => exact gS)
      intro gb291 hg w55 hbox hb
      have BK291 := aM (hbox)
      have GW291 := aM ((gg hg))
      have GE291 := aM ((gg hg))
      have NB280_291 := aM ((nl BK280 hg))
      have NB291_280 := aM ((nr BK280 hg))
      replace BK280 := aM (bb BK280 hb)
      replace HB := aM (qB bl hb)
      clear hb hbox hg
      refine hK.out _ _ ⟨bc BK280 0, bc BK280 1, bc BK280 2, (hB HB hw281_0 :), (hB HB hw281_1 :), (hB HB hw281_2 :), (hB HB hw281_3 :), (hB HB hw281_4 :), (hB HB hw281_5 :), (hB HB hw281_6 :), (hB HB hw281_7 :)⟩ (fun hHeld => ?_)
      clear hK K
      refine norm_ (a' := ?_) ?_ ?_
      rotate_left
      ·show Act.put _ (some 10) _ = _
       simp only [Act.put, List.setIfInBounds_toArray, List.set_cons_zero, List.set_cons_succ, i64_w, i32_w]
       rfl
      exact norm_ (by simp only [putAll, Act.put, List.setIfInBounds_toArray, List.set_cons_zero, List.set_cons_succ]) (hCont (gb291) _ ⟨hHeld, (rB BK280), (rB BK291), GW291.out, GE291.out, NB280_291.out, NB291_280.out, bl⟩)
     ·skip
      refine qlC ?hg (N := 10) ?hd (cs := #[.int .i64 0, .int .i64 0, .int .i64 0, .int .i64 0, .int .i64 0, .int .i64 0, .int .i64 0, .int .i64 0]) (t := 41) ?hr ?_; (case hd => rfl); (case hg => rfl); (case hr => exact gS)
      intro gb291 hg w54 hbox hb
      have BK291 := aM (hbox)
      have GW291 := aM ((gg hg))
      have GE291 := aM ((gg hg))
      have NB280_291 := aM ((nl BK280 hg))
      have NB291_280 := aM ((nr BK280 hg))
      replace BK280 := aM (bb BK280 hb)
      replace HB := aM (qB bl hb)
      clear hb hbox hg
      refine hK.out _ _ ⟨bc BK280 0, bc BK280 1, bc BK280 2, (hB HB hw281_0 :), (hB HB hw281_1 :), (hB HB hw281_2 :), (hB HB hw281_3 :), (hB HB hw281_4 :), (hB HB hw281_5 :), (hB HB hw281_6 :), (hB HB hw281_7 :)⟩ (fun hHeld => ?_)
      clear hK K
      refine norm_ (a' := ?_) ?_ ?_
      rotate_left
      ·show Act.put _ (some 10) _ = _
       simp only [Act.put, List.setIfInBounds_toArray, List.set_cons_zero, List.set_cons_succ, i64_w, i32_w]
       rfl
      refine one_ (i := 6) (N := some 20) #[true, true, true, true, true, true, true, false, false, false, true, false, false] rfl rfl (qUA HT_.out (by kernel_rfl)) (by decide) (fun K hK => ?_)
      refine goes_ Tryd.func32 (by kernel_rfl) rfl #[.agg #[.int .i64 a0_0, .int .i64 a0_1, .slice A0_2 l0_2.length c0_2], .agg #[.int .i64 ((qA l1 a2).f0), .int .i64 ((qA l1 a2).f1), .int .i64 ((qA l1 a2).f2.f0), .int .i64 ((qA l1 a2).f2.f1), .int .i64 ((qA l1 a2).f2.f2), .int .i64 ((qA l1 a2).f2.f3), .int .i64 ((qA l1 a2).f2.f4), .int .i64 ((qA l1 a2).f2.f5)], .int .i64 a3] (by rfl) rfl rfl gA ?_
      with_reducible refine (qoA.calls a0_0 a0_1 _ _ l0_2 ((qA l1 a2).f0) ((qA l1 a2).f1) ((qA l1 a2).f2.f0) ((qA l1 a2).f2.f1) ((qA l1 a2).f2.f2) ((qA l1 a2).f2.f3) ((qA l1 a2).f2.f4) ((qA l1 a2).f2.f5) a3 t282 t283 t284 t285 t286 t287 t288 t289 false _ ?side1 ?side2 A7.out).mono ?_
      (case side1 => repeat (first | exact (Kd.qg HR0_2.out HB.out) | (with_reducible refine Kd.qW ?_ _) | (with_reducible refine Kd.qV ?_ _) | (with_reducible refine Kd.qe ?_)))
      (case side2 => exact HC0_2.out)
      rintro e w55 ⟨rfl, hb⟩
      refine ⟨_, rfl, ?_⟩
      replace BK280 := aM (bb BK280 hb)
      replace BK291 := aM (bb BK291 hb)
      replace HB := aM (qB bl hb); (try clear hb); (try clear hb2); (try clear hk); (try clear hi)
      refine hK.out _ _ ⟨bc BK280 0, bc BK280 1, bc BK280 2, (hB HB hw281_0 :), (hB HB hw281_1 :), (hB HB hw281_2 :), (hB HB hw281_3 :), (hB HB hw281_4 :), (hB HB hw281_5 :), (hB HB hw281_6 :), (hB HB hw281_7 :)⟩ (fun hHeld => ?_)
      clear hK K
      refine norm_ (a' := ?_) ?_ ?_
      rotate_left
      ·show Act.put _ (some 20) _ = _
       simp only [Act.put, List.setIfInBounds_toArray, List.set_cons_zero, List.set_cons_succ, i64_w, i32_w]
       rfl
      refine pS (i := 7) (N := some 13) #[true, true, true, true, true, true, true, true, false, false, true, false, false] HT_ ?_
      refine pS (i := 8) (N := some 21) #[true, true, true, true, true, true, true, true, true, false, true, false, false] HT_ ?_
      refine pS (i := 9) (N := some 22) #[true, true, true, true, true, true, true, true, true, true, true, false, false] HT_ ?_
      exact norm_ (by simp only [putAll, Act.put, List.setIfInBounds_toArray, List.set_cons_zero, List.set_cons_succ]) (hCont (gb291) _ ⟨hHeld, (rB BK280), (rB BK291), GW291.out, GE291.out, NB280_291.out, NB291_280.out, bl⟩)
    rintro gb291 w56 ⟨hS_, h0_, h1_, h2_, h3_, h4_, h5_, h6_⟩
    have n0_ : Aside0 (w56.heap[gb280]? = some (.cells #[.int .i64 a0_0, .int .i64 a0_1, .slice A0_2 l0_2.length c0_2] 32 (0, 0))) := ⟨h0_⟩
    have n1_ : Aside0 (w56.heap[gb291]? = some (.cells #[.int .i64 0, .int .i64 0, .int .i64 0, .int .i64 0, .int .i64 0, .int .i64 0, .int .i64 0, .int .i64 0] 41 (0, 0))) := ⟨h1_⟩
    have n2_ : Aside0 (w.heap.size ≤ gb291) := ⟨h2_⟩
    have n3_ : Aside0 (w.heap.size ≤ gb291) := ⟨h3_⟩
    have n4_ : Aside0 (gb280 ≠ gb291) := ⟨h4_⟩
    have n5_ : Aside0 (gb291 ≠ gb280) := ⟨h5_⟩
    have n6_ : Aside0 (Below w.heap.size w w56) := ⟨h6_⟩
    clear BK280 HB h0_ h1_ h2_ h3_ h4_ h5_ h6_
    have BK280 := n0_
    have BK291 := n1_
    have GW291 := n2_
    have GE291 := n3_
    have NB280_291 := n4_
    have NB291_280 := n5_
    have HB := n6_
    clear n0_ n1_ n2_ n3_ n4_ n5_ n6_
    have hHeld : w56.cell? ⟨gb280, 0, none⟩ = some (.int .i64 a0_0) ∧ w56.cell? ⟨gb280, 1, none⟩ = some (.int .i64 a0_1) ∧ w56.cell? ⟨gb280, 2, none⟩ = some (.slice A0_2 l0_2.length c0_2) ∧ w56.cell? (ad281.add ((a2).toNat * 8)) = some (.int .i64 ((qA l1 a2).f0)) ∧ w56.cell? ⟨(ad281.add ((a2).toNat * 8)).block, (ad281.add ((a2).toNat * 8)).off + 1, none⟩ = some (.int .i64 ((qA l1 a2).f1)) ∧ w56.cell? ⟨(ad281.add ((a2).toNat * 8)).block, (ad281.add ((a2).toNat * 8)).off + 2, none⟩ = some (.int .i64 ((qA l1 a2).f2.f0)) ∧ w56.cell? ⟨(ad281.add ((a2).toNat * 8)).block, (ad281.add ((a2).toNat * 8)).off + 3, none⟩ = some (.int .i64 ((qA l1 a2).f2.f1)) ∧ w56.cell? ⟨(ad281.add ((a2).toNat * 8)).block, (ad281.add ((a2).toNat * 8)).off + 4, none⟩ = some (.int .i64 ((qA l1 a2).f2.f2)) ∧ w56.cell? ⟨(ad281.add ((a2).toNat * 8)).block, (ad281.add ((a2).toNat * 8)).off + 5, none⟩ = some (.int .i64 ((qA l1 a2).f2.f3)) ∧ w56.cell? ⟨(ad281.add ((a2).toNat * 8)).block, (ad281.add ((a2).toNat * 8)).off + 6, none⟩ = some (.int .i64 ((qA l1 a2).f2.f4)) ∧ w56.cell? ⟨(ad281.add ((a2).toNat * 8)).block, (ad281.add ((a2).toNat * 8)).off + 7, none⟩ = some (.int .i64 ((qA l1 a2).f2.f5)) := hS_
    refine norm_ (a' := ?_) ?_ ?_
    rotate_left
    ·simp only [putAll, Act.put, List.setIfInBounds_toArray, List.set_cons_zero, List.set_cons_succ]
     rfl
    refine one_ (i := 11) (N := none) #[true, true, true, true, true, true, true, true, true, true, true, true, false] rfl rfl (qUA HT_.out (by kernel_rfl)) (by decide) (fun K hK => ?_)
    have hs57 : w56.cell? ⟨gb291, 0, none⟩ = some (.int .i64 0) := bc BK291 0
    have hfs57 := qX BK291.out 0
    have hns57_0 := NB280_291.out
    have hms57_0 := NB291_280.out
    have hs58 : w56.cell? ⟨gb291, 1, none⟩ = some (.int .i64 0) := bc BK291 1
    have hfs58 := qX BK291.out 1
    have hns58_0 := NB280_291.out
    have hms58_0 := NB291_280.out
    have hs59 : w56.cell? ⟨gb291, 2, none⟩ = some (.int .i64 0) := bc BK291 2
    have hfs59 := qX BK291.out 2
    have hns59_0 := NB280_291.out
    have hms59_0 := NB291_280.out
    have hs60 : w56.cell? ⟨gb291, 3, none⟩ = some (.int .i64 0) := bc BK291 3
    have hfs60 := qX BK291.out 3
    have hns60_0 := NB280_291.out
    have hms60_0 := NB291_280.out
    have hs61 : w56.cell? ⟨gb291, 4, none⟩ = some (.int .i64 0) := bc BK291 4
    have hfs61 := qX BK291.out 4
    have hns61_0 := NB280_291.out
    have hms61_0 := NB291_280.out
    have hs62 : w56.cell? ⟨gb291, 5, none⟩ = some (.int .i64 0) := bc BK291 5
    have hfs62 := qX BK291.out 5
    have hns62_0 := NB280_291.out
    have hms62_0 := NB291_280.out
    have hs63 : w56.cell? ⟨gb291, 6, none⟩ = some (.int .i64 0) := bc BK291 6
    have hfs63 := qX BK291.out 6
    have hns63_0 := NB280_291.out
    have hms63_0 := NB291_280.out
    have hs64 : w56.cell? ⟨gb291, 7, none⟩ = some (.int .i64 0) := bc BK291 7
    have hfs64 := qX BK291.out 7
    have hns64_0 := NB280_291.out
    have hms64_0 := NB291_280.out
    refine skip_ (w1 := ?_) (by rfl) rfl ?_ ?_
    rotate_left
    ·go_simp
     rfl
    refine hK.out _ _ ⟨(cf8 NB280_291.out (hHeld.1)), (cf8 NB280_291.out (hHeld.2.1)), (cf8 NB280_291.out (hHeld.2.2.1)), (cf8 (by first | exact Nat.ne_of_lt (Nat.lt_of_lt_of_le (by have := World.block_lt_of_cell? _ _ hw281_0; first | rwa [qD] at this | exact this) GW291.out) | (rw [qD]; exact Nat.ne_of_lt (Nat.lt_of_lt_of_le (by have := World.block_lt_of_cell? _ _ hw281_0; first | rwa [qD] at this | exact this) GW291.out)) | (show (Addr.add _ _).block ≠ _; rw [qD]; exact Nat.ne_of_lt (Nat.lt_of_lt_of_le (by have := World.block_lt_of_cell? _ _ hw281_0; first | rwa [qD] at this | exact this) GW291.out)) | (dsimp only; exact Nat.ne_of_lt (Nat.lt_of_lt_of_le (by have := World.block_lt_of_cell? _ _ hw281_0; first | rwa [qD] at this | exact this) GW291.out))) (hHeld.2.2.2.1)), (cf8 (by first | exact Nat.ne_of_lt (Nat.lt_of_lt_of_le (by have := World.block_lt_of_cell? _ _ hw281_1; first | rwa [qD] at this | exact this) GW291.out) | (rw [qD]; exact Nat.ne_of_lt (Nat.lt_of_lt_of_le (by have := World.block_lt_of_cell? _ _ hw281_1; first | rwa [qD] at this | exact this) GW291.out)) | (show (Addr.add _ _).block ≠ _; rw [qD]; exact Nat.ne_of_lt (Nat.lt_of_lt_of_le (by have := World.block_lt_of_cell? _ _ hw281_1; first | rwa [qD] at this | exact this) GW291.out)) | (dsimp only; exact Nat.ne_of_lt (Nat.lt_of_lt_of_le (by have := World.block_lt_of_cell? _ _ hw281_1; first | rwa [qD] at this | exact this) GW291.out))) (hHeld.2.2.2.2.1)), (cf8 (by first | exact Nat.ne_of_lt (Nat.lt_of_lt_of_le (by have := World.block_lt_of_cell? _ _ hw281_2; first | rwa [qD] at this | exact this) GW291.out) | (rw [qD]; exact Nat.ne_of_lt (Nat.lt_of_lt_of_le (by have := World.block_lt_of_cell? _ _ hw281_2; first | rwa [qD] at this | exact this) GW291.out)) | (show (Addr.add _ _).block ≠ _; rw [qD]; exact Nat.ne_of_lt (Nat.lt_of_lt_of_le (by have := World.block_lt_of_cell? _ _ hw281_2; first | rwa [qD] at this | exact this) GW291.out)) | (dsimp only; exact Nat.ne_of_lt (Nat.lt_of_lt_of_le (by have := World.block_lt_of_cell? _ _ hw281_2; first | rwa [qD] at this | exact this) GW291.out))) (hHeld.2.2.2.2.2.1)), (cf8 (by first | exact Nat.ne_of_lt (Nat.lt_of_lt_of_le (by have := World.block_lt_of_cell? _ _ hw281_3; first | rwa [qD] at this | exact this) GW291.out) | (rw [qD]; exact Nat.ne_of_lt (Nat.lt_of_lt_of_le (by have := World.block_lt_of_cell? _ _ hw281_3; first | rwa [qD] at this | exact this) GW291.out)) | (show (Addr.add _ _).block ≠ _; rw [qD]; exact Nat.ne_of_lt (Nat.lt_of_lt_of_le (by have := World.block_lt_of_cell? _ _ hw281_3; first | rwa [qD] at this | exact this) GW291.out)) | (dsimp only; exact Nat.ne_of_lt (Nat.lt_of_lt_of_le (by have := World.block_lt_of_cell? _ _ hw281_3; first | rwa [qD] at this | exact this) GW291.out))) (hHeld.2.2.2.2.2.2.1)), (cf8 (by first | exact Nat.ne_of_lt (Nat.lt_of_lt_of_le (by have := World.block_lt_of_cell? _ _ hw281_4; first | rwa [qD] at this | exact this) GW291.out) | (rw [qD]; exact Nat.ne_of_lt (Nat.lt_of_lt_of_le (by have := World.block_lt_of_cell? _ _ hw281_4; first | rwa [qD] at this | exact this) GW291.out)) | (show (Addr.add _ _).block ≠ _; rw [qD]; exact Nat.ne_of_lt (Nat.lt_of_lt_of_le (by have := World.block_lt_of_cell? _ _ hw281_4; first | rwa [qD] at this | exact this) GW291.out)) | (dsimp only; exact Nat.ne_of_lt (Nat.lt_of_lt_of_le (by have := World.block_lt_of_cell? _ _ hw281_4; first | rwa [qD] at this | exact this) GW291.out))) (hHeld.2.2.2.2.2.2.2.1)), (cf8 (by first | exact Nat.ne_of_lt (Nat.lt_of_lt_of_le (by have := World.block_lt_of_cell? _ _ hw281_5; first | rwa [qD] at this | exact this) GW291.out) | (rw [qD]; exact Nat.ne_of_lt (Nat.lt_of_lt_of_le (by have := World.block_lt_of_cell? _ _ hw281_5; first | rwa [qD] at this | exact this) GW291.out)) | (show (Addr.add _ _).block ≠ _; rw [qD]; exact Nat.ne_of_lt (Nat.lt_of_lt_of_le (by have := World.block_lt_of_cell? _ _ hw281_5; first | rwa [qD] at this | exact this) GW291.out)) | (dsimp only; exact Nat.ne_of_lt (Nat.lt_of_lt_of_le (by have := World.block_lt_of_cell? _ _ hw281_5; first | rwa [qD] at this | exact this) GW291.out))) (hHeld.2.2.2.2.2.2.2.2.1)), (cf8 (by first | exact Nat.ne_of_lt (Nat.lt_of_lt_of_le (by have := World.block_lt_of_cell? _ _ hw281_6; first | rwa [qD] at this | exact this) GW291.out) | (rw [qD]; exact Nat.ne_of_lt (Nat.lt_of_lt_of_le (by have := World.block_lt_of_cell? _ _ hw281_6; first | rwa [qD] at this | exact this) GW291.out)) | (show (Addr.add _ _).block ≠ _; rw [qD]; exact Nat.ne_of_lt (Nat.lt_of_lt_of_le (by have := World.block_lt_of_cell? _ _ hw281_6; first | rwa [qD] at this | exact this) GW291.out)) | (dsimp only; exact Nat.ne_of_lt (Nat.lt_of_lt_of_le (by have := World.block_lt_of_cell? _ _ hw281_6; first | rwa [qD] at this | exact this) GW291.out))) (hHeld.2.2.2.2.2.2.2.2.2.1)), (cf8 (by first | exact Nat.ne_of_lt (Nat.lt_of_lt_of_le (by have := World.block_lt_of_cell? _ _ hw281_7; first | rwa [qD] at this | exact this) GW291.out) | (rw [qD]; exact Nat.ne_of_lt (Nat.lt_of_lt_of_le (by have := World.block_lt_of_cell? _ _ hw281_7; first | rwa [qD] at this | exact this) GW291.out)) | (show (Addr.add _ _).block ≠ _; rw [qD]; exact Nat.ne_of_lt (Nat.lt_of_lt_of_le (by have := World.block_lt_of_cell? _ _ hw281_7; first | rwa [qD] at this | exact this) GW291.out)) | (dsimp only; exact Nat.ne_of_lt (Nat.lt_of_lt_of_le (by have := World.block_lt_of_cell? _ _ hw281_7; first | rwa [qD] at this | exact this) GW291.out))) (hHeld.2.2.2.2.2.2.2.2.2.2))⟩ (fun hHeld => ?_)
    clear hK K
    refine pS (i := 12) (N := some 11) #[true, true, true, true, true, true, true, true, true, true, true, true, true] HT_ ?_
    refine done_ (qrA HT_.out (by kernel_rfl)) ?_
    try go_wp2
    go_ret2
    exact ⟨_, sR, nK, bl⟩
  ·rw [if_neg c6] at H
   exact absurd H (by simp)
 ·rw [if_neg c5] at H
  exact absurd H (by simp)
def qSA.f : Nat → Int → Option (ByteArray)
 | 0, _ => none
 | k + 1, a0 => if a0 < 10 then (some (strOfNums (([(wrap64 (48 + a0)) % 256] : List Int)))) else ((qSA.f k (wrap64 (Int.tdiv a0 10))).bind fun t303 => ((some (([(wrap64 (48 + (Int.tmod a0 10))) % 256] : List Int) : List Int)).bind fun y304 => (if t303.size + (strOfNums y304).size ≤ 9223372036854775807 then (some (t303 ++ (strOfNums y304))) else (none))))
def qSA.T3 : Bool × List (List Nat × List Nat) := (true, [([], []), ([0], [0]), ([1], [1]), ([], []), ([3], [3]), ([4], [4]), ([5], [5]), ([6], [6]), ([7], [7]), ([2, 8], [2, 8]), ([9, 2, 0, 1, 2, 3, 4, 5, 6, 7, 8, 9], [9])])
def qSA.B3 : List Nat := [0, 1, 3, 0, 8, 24, 56, 120, 248, 511, 1023]
theorem qSA.tab3 : rtab .any (opsOf Tryd.f33 3) = qSA.T3 := by kernel_rfl
theorem qSA.bits3 : waitsOk qSA.T3.2 qSA.B3 = true := by kernel_rfl
set_option maxHeartbeats 8000000 in
set_option maxRecDepth 100000 in
theorem qSA.calls (k : Nat) : ∀ (a0 : Int) (r : ByteArray) (w : World) (h : qSA.f k a0 = some r),
  Calls Tryd.prog 33 #[.int .i64 a0] w fun e w' => e = .returned (.string r) ∧ Below w.heap.size w w' := by
 induction k using Nat.strongRecOn with
 | _ k ih =>
 intro a0 r w h
 cases k with
 | zero => exact absurd h (by simp [qSA.f])
 | succ k =>
 simp only [qSA.f] at h
 have HB := aM (Below.refl w.heap.size w)
 have H : (if a0 < 10 then (some (strOfNums (([(wrap64 (48 + a0)) % 256] : List Int)))) else ((qSA.f k (wrap64 (Int.tdiv a0 10))).bind fun t303 => ((some (([(wrap64 (48 + (Int.tmod a0 10))) % 256] : List Int) : List Int)).bind fun y304 => (if t303.size + (strOfNums y304).size ≤ 9223372036854775807 then (some (t303 ++ (strOfNums y304))) else (none))))) = some r := h
 clear h
 by_cases c2 : a0 < 10
 ·rw [if_pos c2] at H
  have c2b0 := decide_eq_true c2
  clear c2
  obtain ⟨y300, hy300⟩ : ∃ y_ : List Int, y_ = (([(wrap64 (48 + a0)) % 256] : List Int)) := ⟨_, rfl⟩
  replace H : (some (strOfNums y300)) = some r := by first | (rw [hy300]; with_reducible exact H) | (have H2_ := (Option.bind_some _ _).symm.trans H; rw [hy300]; with_reducible exact H2_) | (have H2_ := (Option.bind_some _ _).symm.trans H; with_reducible exact H2_) | with_reducible exact H | (rw [hy300]; exact H) | exact H
  have Ny300 := aM hy300
  clear hy300
  obtain rfl := Option.some.inj H
  go_enter Tryd.func33, Tryd.ntmps33
  go_wp2_with (first | ((with_reducible refine qK (N := 8) rfl ?_); refine Kd.R_lit (Kd.int .u8) _ 5 ?hg (N := 8) ?hd (xs := ([(wrap64 (48 + a0)) % 256] : List Int)) (inner := [.int .u8 ((wrap64 (48 + a0)) % 256)]) (ok := fun _ => True) (okp := fun _ => True) ?hr ?hp (fun _ hk => hk) trivial (Below.refl _ _) (Nat.le_refl _) (by simp) ?_; (case hd => rfl); (case hg => rfl); (case hr => exact gS); (case hp => exact (Reps.one (show Kd.M (Kd.int .u8) _ _ _ ((wrap64 (48 + a0)) % 256) [.int .u8 ((wrap64 (48 + a0)) % 256)] from rfl) (Reps.none _ _))); intro v301 w3 ho4 hb hg_ hnew_; clear hg_ hnew_; (first | rw [← Ny300.out] at ho4 | (simp only [Int.reduceToNat] at ho4; rw [← Ny300.out] at ho4)); have HO302 := aM (Kd.qx ho4 (qL bl)); replace HB := aM (qB bl hb); clear hb ho4; have hcv5 := qJC (P := Tryd.prog) Tryd.underlying30 Tryd.underlying5 Tryd.underlying9 (Kd.qRC HO302.out)))
  go_ret
  exact ⟨sR, bl⟩
 ·rw [if_neg c2] at H
  have c2b0 := decide_eq_false c2
  clear c2
  replace H := bO H
  obtain ⟨t303, A6, H⟩ := H
  replace H := bS H
  obtain ⟨y304, Ny304, H⟩ := H
  by_cases c7 : t303.size + (strOfNums y304).size ≤ 9223372036854775807
  ·rw [if_pos c7] at H
   have c7b0 := eq_true c7
   have c7b1 := decide_eq_true c7
   try have c7b2 : (9223372036854775807 < t303.size + (strOfNums y304).size) = False := eq_false (Nat.not_lt.2 c7)
   obtain rfl := Option.some.inj H
   go_enter Tryd.func33, Tryd.ntmps33
   try go_wp2
   replace HB := aM (qu HB.out)
   refine qCB (n := 11) (S := fun w' => True) (ds := []) #[false, false, false, false, false, false, false, false, false, false, false] (by kernel_rfl) rfl rfl trivial (fun hHeld => ?_); refine qKA qSA.tab3 qSA.bits3 (fun HT_ HW_ => ?_)
   generalize w.drew = w8 at HB hHeld ⊢
   refine pS (i := 0) (N := some 10) #[true, false, false, false, false, false, false, false, false, false, false] HT_ ?_
   refine pS (i := 1) (N := some 11) #[true, true, false, false, false, false, false, false, false, false, false] HT_ ?_
   refine pS (i := 3) (N := some 13) #[true, true, false, true, false, false, false, false, false, false, false] HT_ ?_
   refine pS (i := 4) (N := some 14) #[true, true, false, true, true, false, false, false, false, false, false] HT_ ?_
   refine pS (i := 5) (N := some 15) #[true, true, false, true, true, true, false, false, false, false, false] HT_ ?_
   refine pS (i := 6) (N := some 16) #[true, true, false, true, true, true, true, false, false, false, false] HT_ ?_
   refine join_ (σ := Value) 2 #[true, true, true, true, true, true, true, true, true, false, false] (fun s_ => [(12, .string t303), (17, s_), (18, .string (strOfNums y304))]) (fun s_ w' => (Kd.R (Kd.int .u8) 5 w' w.heap.size (fun _ => True) s_ y304) ∧ (Below w.heap.size w w')) ?_ ?_
   rotate_left
   ·intro hCont
    refine two_ (i := 2) (j := 7) (Ni := some 12) (Nj := some 17) #[true, true, true, true, true, true, true, false, false, false, false] #[true, true, false, true, true, true, true, true, false, false, false] rfl rfl rfl rfl (qvC HT_.out (by kernel_rfl)) (by decide) (by decide) (fun K hK => ?_) (fun K hK => ?_)
    ·skip
     refine goes_ Tryd.func33 (by kernel_rfl) rfl #[.int .i64 (wrap64 (Int.tdiv a0 10))] (by rfl) rfl rfl gA ?_
     with_reducible refine (ih k (by omega) (wrap64 (Int.tdiv a0 10)) t303 _ A6.out).mono ?_
     rintro e w9 ⟨rfl, hb⟩
     refine ⟨_, rfl, ?_⟩
     replace HB := aM (qB bl hb); (try clear hb); (try clear hb2); (try clear hk); (try clear hi)
     refine hK.out _ _ trivial (fun hHeld => ?_)
     clear hK K
     refine norm_ (a' := ?_) ?_ ?_
     rotate_left
     ·show Act.put _ (some 12) _ = _
      simp only [Act.put, List.setIfInBounds_toArray, List.set_cons_zero, List.set_cons_succ, i64_w, i32_w]
      rfl
     refine one_ (i := 7) (N := some 17) #[true, true, true, true, true, true, true, true, false, false, false] rfl rfl (qUA HT_.out (by kernel_rfl)) (by decide) (fun K hK => ?_)
     refine Kd.qhA (Kd.int .u8) _ 5 ?hg (N := 17) ?hd (xs := ([(wrap64 (48 + (Int.tmod a0 10))) % 256] : List Int)) (inner := [.int .u8 ((wrap64 (48 + (Int.tmod a0 10))) % 256)]) (ok := fun _ => True) (okp := fun _ => True) ?hr ?hp (fun _ hk => hk) trivial (Below.refl _ _) (Nat.le_refl _) (by simp) ?_; (case hd => rfl); (case hg => rfl); (case hr => exact gS); (case hp => exact (Reps.one (show Kd.M (Kd.int .u8) _ _ _ ((wrap64 (48 + (Int.tmod a0 10))) % 256) [.int .u8 ((wrap64 (48 + (Int.tmod a0 10))) % 256)] from rfl) (Reps.none _ _)))
     intro v305 w10 ho11 hb hg_ hnew_
     clear hg_ hnew_
     (first | rw [← Ny304.out] at ho11 | (simp only [Int.reduceToNat] at ho11; rw [← Ny304.out] at ho11))
     have HO306 := aM (Kd.qx ho11 (qL bl))
     replace HB := aM (qB bl hb)
     clear hb ho11
     refine hK.out _ _ trivial (fun hHeld => ?_)
     clear hK K
     refine norm_ (a' := ?_) ?_ ?_
     rotate_left
     ·show Act.put _ (some 17) _ = _
      simp only [Act.put, List.setIfInBounds_toArray, List.set_cons_zero, List.set_cons_succ, i64_w, i32_w]
      rfl
     refine one_ (i := 8) (N := some 18) #[true, true, true, true, true, true, true, true, true, false, false] rfl rfl (qUA HT_.out (by kernel_rfl)) (by decide) (fun K hK => ?_)
     have hcv12 := qJC (P := Tryd.prog) Tryd.underlying30 Tryd.underlying5 Tryd.underlying9 (Kd.qRC HO306.out)
     refine qSB (w1 := ?_) (v := ?_) (by rfl) rfl ?_ ?_
     rotate_left 2
     ·go_simp
      constructor
      ·rfl
      ·rfl
     clear hcv12
     refine hK.out _ _ trivial (fun hHeld => ?_)
     clear hK K
     refine norm_ (a' := ?_) ?_ ?_
     rotate_left
     ·show Act.put _ (some 18) _ = _
      simp only [Act.put, List.setIfInBounds_toArray, List.set_cons_zero, List.set_cons_succ, i64_w, i32_w]
      rfl
     exact norm_ (by simp only [putAll, Act.put, List.setIfInBounds_toArray, List.set_cons_zero, List.set_cons_succ]) (hCont (v305) _ ⟨(rR HO306), bl⟩)
    ·skip
     refine Kd.qhA (Kd.int .u8) _ 5 ?hg (N := 17) ?hd (xs := ([(wrap64 (48 + (Int.tmod a0 10))) % 256] : List Int)) (inner := [.int .u8 ((wrap64 (48 + (Int.tmod a0 10))) % 256)]) (ok := fun _ => True) (okp := fun _ => True) ?hr ?hp (fun _ hk => hk) trivial (Below.refl _ _) (Nat.le_refl _) (by simp) ?_; (case hd => rfl); (case hg => rfl); (case hr => exact gS); (case hp => exact (Reps.one (show Kd.M (Kd.int .u8) _ _ _ ((wrap64 (48 + (Int.tmod a0 10))) % 256) [.int .u8 ((wrap64 (48 + (Int.tmod a0 10))) % 256)] from rfl) (Reps.none _ _)))
     intro v305 w9 ho10 hb hg_ hnew_
     clear hg_ hnew_
     (first | rw [← Ny304.out] at ho10 | (simp only [Int.reduceToNat] at ho10; rw [← Ny304.out] at ho10))
     have HO306 := aM (Kd.qx ho10 (qL bl))
     replace HB := aM (qB bl hb)
     clear hb ho10
     refine hK.out _ _ trivial (fun hHeld => ?_)
     clear hK K
     refine norm_ (a' := ?_) ?_ ?_
     rotate_left
     ·show Act.put _ (some 17) _ = _
      simp only [Act.put, List.setIfInBounds_toArray, List.set_cons_zero, List.set_cons_succ, i64_w, i32_w]
      rfl
     refine two_ (i := 2) (j := 8) (Ni := some 12) (Nj := some 18) #[true, true, true, true, true, true, true, true, false, false, false] #[true, true, false, true, true, true, true, true, true, false, false] rfl rfl rfl rfl (qvC HT_.out (by kernel_rfl)) (by decide) (by decide) (fun K hK => ?_) (fun K hK => ?_)
     ·skip
      refine goes_ Tryd.func33 (by kernel_rfl) rfl #[.int .i64 (wrap64 (Int.tdiv a0 10))] (by rfl) rfl rfl gA ?_
      with_reducible refine (ih k (by omega) (wrap64 (Int.tdiv a0 10)) t303 _ A6.out).mono ?_
      rintro e w11 ⟨rfl, hb⟩
      refine ⟨_, rfl, ?_⟩
      replace HO306 := aM (Kd.qd (rR HO306) hb)
      replace HB := aM (qB bl hb); (try clear hb); (try clear hb2); (try clear hk); (try clear hi)
      refine hK.out _ _ trivial (fun hHeld => ?_)
      clear hK K
      refine norm_ (a' := ?_) ?_ ?_
      rotate_left
      ·show Act.put _ (some 12) _ = _
       simp only [Act.put, List.setIfInBounds_toArray, List.set_cons_zero, List.set_cons_succ, i64_w, i32_w]
       rfl
      refine one_ (i := 8) (N := some 18) #[true, true, true, true, true, true, true, true, true, false, false] rfl rfl (qUA HT_.out (by kernel_rfl)) (by decide) (fun K hK => ?_)
      have hcv12 := qJC (P := Tryd.prog) Tryd.underlying30 Tryd.underlying5 Tryd.underlying9 (Kd.qRC HO306.out)
      refine qSB (w1 := ?_) (v := ?_) (by rfl) rfl ?_ ?_
      rotate_left 2
      ·go_simp
       constructor
       ·rfl
       ·rfl
      clear hcv12
      refine hK.out _ _ trivial (fun hHeld => ?_)
      clear hK K
      refine norm_ (a' := ?_) ?_ ?_
      rotate_left
      ·show Act.put _ (some 18) _ = _
       simp only [Act.put, List.setIfInBounds_toArray, List.set_cons_zero, List.set_cons_succ, i64_w, i32_w]
       rfl
      exact norm_ (by simp only [putAll, Act.put, List.setIfInBounds_toArray, List.set_cons_zero, List.set_cons_succ]) (hCont (v305) _ ⟨(rR HO306), bl⟩)
     ·skip
      have hcv11 := qJC (P := Tryd.prog) Tryd.underlying30 Tryd.underlying5 Tryd.underlying9 (Kd.qRC HO306.out)
      refine qSB (w1 := ?_) (v := ?_) (by rfl) rfl ?_ ?_
      rotate_left 2
      ·go_simp
       constructor
       ·rfl
       ·rfl
      clear hcv11
      refine hK.out _ _ trivial (fun hHeld => ?_)
      clear hK K
      refine norm_ (a' := ?_) ?_ ?_
      rotate_left
      ·show Act.put _ (some 18) _ = _
       simp only [Act.put, List.setIfInBounds_toArray, List.set_cons_zero, List.set_cons_succ, i64_w, i32_w]
       rfl
      refine one_ (i := 2) (N := some 12) #[true, true, true, true, true, true, true, true, true, false, false] rfl rfl (qUA HT_.out (by kernel_rfl)) (by decide) (fun K hK => ?_)
      refine goes_ Tryd.func33 (by kernel_rfl) rfl #[.int .i64 (wrap64 (Int.tdiv a0 10))] (by rfl) rfl rfl gA ?_
      with_reducible refine (ih k (by omega) (wrap64 (Int.tdiv a0 10)) t303 _ A6.out).mono ?_
      rintro e w12 ⟨rfl, hb⟩
      refine ⟨_, rfl, ?_⟩
      replace HO306 := aM (Kd.qd (rR HO306) hb)
      replace HB := aM (qB bl hb); (try clear hb); (try clear hb2); (try clear hk); (try clear hi)
      refine hK.out _ _ trivial (fun hHeld => ?_)
      clear hK K
      refine norm_ (a' := ?_) ?_ ?_
      rotate_left
      ·show Act.put _ (some 12) _ = _
       simp only [Act.put, List.setIfInBounds_toArray, List.set_cons_zero, List.set_cons_succ, i64_w, i32_w]
       rfl
      exact norm_ (by simp only [putAll, Act.put, List.setIfInBounds_toArray, List.set_cons_zero, List.set_cons_succ]) (hCont (v305) _ ⟨(rR HO306), bl⟩)
   rintro v305 w13 ⟨h0_, h1_⟩
   have n0_ : Aside0 (Kd.R (Kd.int .u8) 5 w13 w.heap.size (fun _ => True) v305 y304) := ⟨h0_⟩
   have n1_ : Aside0 (Below w.heap.size w w13) := ⟨h1_⟩
   clear HB h0_ h1_
   have HO306 := n0_
   have HB := n1_
   clear n0_ n1_
   have hHeld := trivial
   refine norm_ (a' := ?_) ?_ ?_
   rotate_left
   ·simp only [putAll, Act.put, List.setIfInBounds_toArray, List.set_cons_zero, List.set_cons_succ]
    rfl
   refine pS (i := 9) (N := some 19) #[true, true, true, true, true, true, true, true, true, true, false] HT_ ?_
   refine pS (i := 10) (N := some 2) #[true, true, true, true, true, true, true, true, true, true, true] HT_ ?_
   refine done_ (qrA HT_.out (by kernel_rfl)) ?_
   try go_wp2
   go_ret
   exact ⟨sR, bl⟩
  ·rw [if_neg c7] at H
   exact absurd H (by simp)
def qaB.f (k : Nat) (a0 : Int) (a1 : Int) : Option (ByteArray) := (qSA.f k a0).bind fun t307 => ((qEB.f).bind fun t308 => (if 0 ≤ a1 then (if a1 ≤ (wrap64 (a1 + 1)) then (if (wrap64 (a1 + 1)) ≤ (t308.size : Int) then (if t307.size + (t308.extract (a1 : Int).toNat ((wrap64 (a1 + 1)) : Int).toNat).size ≤ 9223372036854775807 then (some (t307 ++ (t308.extract (a1 : Int).toNat ((wrap64 (a1 + 1)) : Int).toNat))) else (none)) else (none)) else (none)) else (none)))
set_option maxHeartbeats 8000000 in
set_option maxRecDepth 100000 in
theorem qaB.calls (k : Nat) (a0 : Int) (a1 : Int) (r : ByteArray) (w : World) (h : qaB.f k a0 a1 = some r) :
  Calls Tryd.prog 19 #[.int .i64 a0, .int .i64 a1] w fun e w' => e = .returned (.string r) ∧ Below w.heap.size w w' := by
 have HB := aM (Below.refl w.heap.size w)
 have H : ((qSA.f k a0).bind fun t307 => ((qEB.f).bind fun t308 => (if 0 ≤ a1 then (if a1 ≤ (wrap64 (a1 + 1)) then (if (wrap64 (a1 + 1)) ≤ (t308.size : Int) then (if t307.size + (t308.extract (a1 : Int).toNat ((wrap64 (a1 + 1)) : Int).toNat).size ≤ 9223372036854775807 then (some (t307 ++ (t308.extract (a1 : Int).toNat ((wrap64 (a1 + 1)) : Int).toNat))) else (none)) else (none)) else (none)) else (none)))) = some r := h
 clear h
 replace H := bO H
 obtain ⟨t307, A3, H⟩ := H
 replace H := bO H
 obtain ⟨t308, A4, H⟩ := H
 by_cases c5 : 0 ≤ a1
 ·rw [if_pos c5] at H
  have c5b0 := eq_true c5
  have c5b1 := decide_eq_true c5
  clear c5
  by_cases c6 : a1 ≤ (wrap64 (a1 + 1))
  ·rw [if_pos c6] at H
   have c6b0 := eq_true c6
   have c6b1 := decide_eq_true c6
   by_cases c7 : (wrap64 (a1 + 1)) ≤ (t308.size : Int)
   ·rw [if_pos c7] at H
    have c7b0 := eq_true c7
    have c7b1 := decide_eq_true c7
    by_cases c8 : t307.size + (t308.extract (a1 : Int).toNat ((wrap64 (a1 + 1)) : Int).toNat).size ≤ 9223372036854775807
    ·rw [if_pos c8] at H
     have c8b0 := eq_true c8
     have c8b1 := decide_eq_true c8
     try have c8b2 : (9223372036854775807 < t307.size + (t308.extract (a1 : Int).toNat ((wrap64 (a1 + 1)) : Int).toNat).size) = False := eq_false (Nat.not_lt.2 c8)
     obtain rfl := Option.some.inj H
     go_enter Tryd.func19, Tryd.ntmps19
     go_wp2_with (first | ((with_reducible refine qJ (f := 33) rfl ?_); refine qr (some 6) rfl rfl Tryd.func33 (by kernel_rfl) rfl #[.int .i64 a0] rfl gA ?_; (with_reducible refine (qSA.calls k a0 t307 _ A3.out).mono ?_); rintro e w9 ⟨rfl, hb⟩; refine ⟨_, rfl, ?_⟩; replace HB := aM (qB bl hb); (try clear hb); (try clear hb2); (try clear hk); (try clear hi)) | ((with_reducible refine qJ (f := 34) rfl ?_); refine qr (some 7) rfl rfl Tryd.func34 (by kernel_rfl) rfl #[] rfl gA ?_; (with_reducible refine (qEB.calls  t308 _ A4.out).mono ?_); rintro e w' ⟨rfl, ⟨nd, rfl⟩⟩; refine ⟨_, rfl, ?_⟩))
     go_ret
     exact ⟨sR, bl⟩
    ·rw [if_neg c8] at H
     exact absurd H (by simp)
   ·rw [if_neg c7] at H
    exact absurd H (by simp)
  ·rw [if_neg c6] at H
   exact absurd H (by simp)
 ·rw [if_neg c5] at H
  exact absurd H (by simp)
mutual
def qN.l0 : Nat → List (S41) → List (List Int) → Int → Int → Int → Int → Int → List Int → Option ((List (S62)) × Bool)
 | 0, _, _, _, _, _, _, _, _ => none
 | k + 1, x1, x6, x7, x21, x22, x310000, x310001, x310002 => if x22 < x21 then (if 0 ≤ x22 then (if x22 < (x1.length : Int) then ((qQA.f k x310000 x310001 x310002 ((qA x1 x22).f0) ((qA x1 x22).f1) ((qA x1 x22).f2.f0) ((qA x1 x22).f2.f1) ((qA x1 x22).f2.f2) ((qA x1 x22).f2.f3) ((qA x1 x22).f2.f4) ((qA x1 x22).f2.f5)).bind fun t312 => (if x6.length < 5864062014805 then (qN.l0 k x1 (x6 ++ [t312]) (wrap64 (x7 * (wrap64 ((x310002.length : Int) * 24)))) x21 (wrap64 (x22 + 1)) x310000 x310001 x310002) else (none))) else (none)) else (none)) else (if 0 ≤ x7 then (if (x7 : Int).toNat ≤ 281474976710656 then ((some (List.replicate (x7 : Int).toNat false : List Bool)).bind fun y318 => ((qt.f k x310000 x310001 x310002 x6 x1).bind fun t321 => (if 0 ≤ t321 then (if t321 < (y318.length : Int) then (qN.l1 k x1 x6 (([(⟨x1, (-1), (⟨#[]⟩ : ByteArray)⟩ : S62)] : List (S62))) 0 (y318.set (t321 : Int).toNat true) x310000 x310001 x310002) else (none)) else (none)))) else (none)) else (none))
def qN.l1 : Nat → List (S41) → List (List Int) → List (S62) → Int → List Bool → Int → Int → List Int → Option ((List (S62)) × Bool)
 | 0, _, _, _, _, _, _, _, _ => none
 | k + 1, x1, x6, x11, x12, x40, x310000, x310001, x310002 => if x12 < (x11.length : Int) then (qN.l2 k x1 x6 x11 x12 x40 (x1.length : Int) 0 x310000 x310001 x310002) else (some (x11, true))
def qN.l2 : Nat → List (S41) → List (List Int) → List (S62) → Int → List Bool → Int → Int → Int → Int → List Int → Option ((List (S62)) × Bool)
 | 0, _, _, _, _, _, _, _, _, _, _ => none
 | k + 1, x1, x6, x11, x12, x40, x57, x58, x310000, x310001, x310002 => if x58 < x57 then (qN.l3 k x1 x6 x11 x12 x58 0 x40 x57 x58 x310000 x310001 x310002) else (qN.l1 k x1 x6 x11 (wrap64 (x12 + 1)) x40 x310000 x310001 x310002)
def qN.l3 : Nat → List (S41) → List (List Int) → List (S62) → Int → Int → Int → List Bool → Int → Int → Int → Int → List Int → Option ((List (S62)) × Bool)
 | 0, _, _, _, _, _, _, _, _, _, _, _, _ => none
 | k + 1, x1, x6, x11, x12, x13, x14, x40, x57, x58, x310000, x310001, x310002 => if x14 < 4 then (if 0 ≤ x12 then (if x12 < (x11.length : Int) then ((qIA.f k x310000 x310001 x310002 ((qmB x11 x12).f0) x13 x14).bind fun bt327 => (if bt327.2 = true then ((qt.f k x310000 x310001 x310002 x6 bt327.1).bind fun t331 => (if 0 ≤ t331 then (if t331 < (x40.length : Int) then (qN.j4 k x1 x6 x40 x11 x12 x13 x14 bt327.1 x57 x58 (rdOf false x40 t331) x310000 x310001 x310002) else (none)) else (none))) else (qN.j4 k x1 x6 x40 x11 x12 x13 x14 bt327.1 x57 x58 true x310000 x310001 x310002))) else (none)) else (none)) else (qN.l2 k x1 x6 x11 x12 x40 x57 (wrap64 (x58 + 1)) x310000 x310001 x310002)
def qN.j4 : Nat → List (S41) → List (List Int) → List Bool → List (S62) → Int → Int → Int → List (S41) → Int → Int → Bool → Int → Int → List Int → Option ((List (S62)) × Bool)
 | 0, _, _, _, _, _, _, _, _, _, _, _, _, _, _ => none
 | k + 1, x1, x6, x10, x11, x12, x13, x14, x15, x57, x58, x87, x310000, x310001, x310002 => if x87 = true then (qN.l3 k x1 x6 x11 x12 x13 (wrap64 (x14 + 1)) x10 x57 x58 x310000 x310001 x310002) else (if (x11.length : Int) = 6000 then (some (([] : List (S62)), false)) else ((qt.f k x310000 x310001 x310002 x6 x15).bind fun t333 => (if 0 ≤ t333 then (if t333 < (x10.length : Int) then ((qaB.f k x13 x14).bind fun t335 => (if x11.length < 2932031007402 then (qN.l3 k x1 x6 (x11 ++ [(⟨x15, x12, t335⟩ : S62)]) x12 x13 (wrap64 (x14 + 1)) (x10.set (t333 : Int).toNat true) x57 x58 x310000 x310001 x310002) else (none))) else (none)) else (none))))
end
def qN.f (k : Nat) (a0_0 : Int) (a0_1 : Int) (l0_2 : List Int) (l1 : List (S41)) : Option ((List (S62)) × Bool) := if (l1.length : Int) > 2 then (some (([] : List (S62)), false)) else (qN.l0 k l1 ([] : List (List Int)) 1 (l1.length : Int) 0 a0_0 a0_1 l0_2)
def qN.T23 : Bool × List (List Nat × List Nat) := (true, [([], []), ([], []), ([], []), ([1, 2], [1, 2]), ([3], [3]), ([4], [4]), ([], []), ([], []), ([0, 5, 6, 7], [0, 5, 6, 7]), ([8], [8]), ([9], [9]), ([9], [9]), ([10, 8, 0, 1, 2, 3, 4, 5, 6, 7, 8, 9, 10], [10]), ([11, 12, 0, 1, 2, 3, 4, 5, 6, 7, 8, 9, 10, 11, 12], [11])])
def qN.B23 : List Nat := [0, 0, 0, 6, 14, 30, 0, 0, 255, 511, 1023, 1023, 2047, 8191]
theorem qN.tab23 : rtab .any (opsOf Tryd.f10 23) = qN.T23 := by kernel_rfl
theorem qN.bits23 : waitsOk qN.T23.2 qN.B23 = true := by kernel_rfl
set_option maxHeartbeats 8000000 in
set_option maxRecDepth 100000 in
theorem qN.calls (k : Nat) (a0_0 : Int) (a0_1 : Int) (A0_2 : Option Addr) (c0_2 : Nat) (l0_2 : List Int) (P1_ : Nat → Prop) (A1 : Option Addr) (c1 : Nat) (l1 : List (S41)) (r1 : List (S62)) (r2 : Bool) (w : World) (hr0_2 : Kd.C (Kd.int .u8) w A0_2 l0_2.length l0_2) (hc0_2 : l0_2.length ≤ c0_2) (hs1 : Kd.V k41 41 w w.heap.size (fun k_ => P1_ k_) (.slice A1 l1.length c1) l1) (h : qN.f k a0_0 a0_1 l0_2 l1 = some (r1, r2)) :
  Calls Tryd.prog 10 #[.agg #[.int .i64 a0_0, .int .i64 a0_1, .slice A0_2 l0_2.length c0_2], .slice A1 l1.length c1] w fun e w' => ∃ v0_ : Value, e = .returned (.tuple #[v0_, .bool r2]) ∧ Kd.N k62 62 w' w.heap.size (fun k_ => (P1_ k_ ∨ w.heap.size ≤ k_)) v0_ r1 ∧ Below w.heap.size w w' := by
 have hu32 := Tryd.underlying32
 have hu41 := Tryd.underlying41
 have hu62 := Tryd.underlying62
 have HR0_2 := aM hr0_2
 have HC0_2 := aM hc0_2
 clear hr0_2 hc0_2
 have HO1 := aM (show Kd.V k41 41 w w.heap.size (fun k_ => (P1_ k_ ∨ w.heap.size ≤ k_)) (.slice A1 l1.length c1) l1 from Kd.qBC hs1 (fun k_ hk => .inl hk))
 have HB := aM (Below.refl w.heap.size w)
 have H : (if (l1.length : Int) > 2 then (some (([] : List (S62)), false)) else (qN.l0 k l1 ([] : List (List Int)) 1 (l1.length : Int) 0 a0_0 a0_1 l0_2)) = some (r1, r2) := h
 clear h
 by_cases c3 : (l1.length : Int) > 2
 ·rw [if_pos c3] at H
  have c3b0 := decide_eq_true c3
  have c3b1 : decide (2 < l1.length) = true := decide_eq_true (by omega)
  clear c3
  simp only [Option.some.injEq, Prod.mk.injEq] at H
  obtain ⟨rfl, rfl⟩ := H
  go_enter Tryd.func10, Tryd.ntmps10
  go_wp2_with (first | ((with_reducible refine qK (N := 2) rfl ?_); refine qH ?hg (N := 2) ?hd (cs := #[.int .i64 a0_0, .int .i64 a0_1, .slice A0_2 l0_2.length c0_2]) (t := 32) ?hr ?_; (case hd => rfl); (case hg => rfl); (case hr => exact gS); intro gb309 hg w4 hbox hb; have BK309 := aM (hbox); have GW309 := aM ((gg hg)); have GE309 := aM ((gg hg)); replace HO1 := aM (Kd.qbC (Kd.qyD (rV HO1) gb309 (Nat.le_of_eq hg.symm)) hb); replace HB := aM (qB bl hb); clear hb hbox hg))
  go_ret2
  exact ⟨_, sR, nK, bl⟩
 ·rw [if_neg c3] at H
  have c3b0 := decide_eq_false c3
  have c3b1 : decide (2 < l1.length) = false := decide_eq_false (by omega)
  clear c3
  have H' := aM H
  clear H
  go_enter Tryd.func10, Tryd.ntmps10
  go_wp2_with (first | ((with_reducible refine qK (N := 2) rfl ?_); refine qH ?hg (N := 2) ?hd (cs := #[.int .i64 a0_0, .int .i64 a0_1, .slice A0_2 l0_2.length c0_2]) (t := 32) ?hr ?_; (case hd => rfl); (case hg => rfl); (case hr => exact gS); intro gb309 hg w5 hbox hb; have BK309 := aM (hbox); have GW309 := aM ((gg hg)); have GE309 := aM ((gg hg)); replace HO1 := aM (Kd.qbC (Kd.qyD (rV HO1) gb309 (Nat.le_of_eq hg.symm)) hb); replace HB := aM (qB bl hb); clear hb hbox hg))
  go_loopg [6, 7, 22] k (fun kq v6 v7 v22 w' => ∃ (x6_1 : List (List Int)) (x7_1 : Int) (x22_1 : Int), v7 = .int .i64 x7_1 ∧ v22 = .int .i64 x22_1 ∧ Aside0 (qN.l0 kq l1 x6_1 x7_1 (l1.length : Int) x22_1 a0_0 a0_1 l0_2 = some (r1, r2)) ∧ Aside0 (kq ≤ k) ∧ Aside0 (Kd.V k41 41 w' w.heap.size (fun k_ => (P1_ k_ ∨ w.heap.size ≤ k_) ∧ some k_ ≠ (v6 : Value).ownBlock ∧ k_ ≠ gb309) (.slice A1 l1.length c1) l1) ∧ Aside0 (Kd.N (Kd.slice 3 (Kd.int .i64)) 50 w' w.heap.size (fun k_ => (P1_ k_ ∨ w.heap.size ≤ k_) ∧ k_ ≠ gb309) v6 x6_1) ∧ Aside0 (w'.heap[gb309]? = some (.cells #[.int .i64 a0_0, .int .i64 a0_1, (.slice A0_2 l0_2.length c0_2)] 32 (0, 0))) ∧ Aside0 (Below w.heap.size w w'))
  case atStart => exact ⟨(([] : List (List Int))), (1), (0), sD, sD, H', ⟨Nat.le_refl _⟩, ⟨by (with_reducible repeat (first | apply Kd.qVB | apply Kd.qUB | apply Kd.qqB)); exact Kd.qBC HO1.out (fun _ hk => ⟨hk.1, ⟨(by simp [Value.ownBlock]), hk.2⟩⟩)⟩, ⟨nK⟩, ⟨rB BK309⟩, ⟨bl⟩⟩
  case round =>
   clear H'; (try clear c1); (try clear p2); (try clear c3); (try clear c3b0); (try clear c3b1)
   obtain ⟨x6_1, x7_1, x22_1, rfl, rfl, HA, HK1, HO_1, HO_6, BK309, HB⟩ := hrel
   cases gk with
   | zero => exact absurd HA.out (by simp [qN.l0])
   | succ k1 =>
    have H := HA.out
    clear HA
    simp only [qN.l0] at H
    by_cases c6 : x22_1 < (l1.length : Int)
    ·rw [if_pos c6] at H
     have c6b0 := decide_eq_true c6
     clear c6
     by_cases c7 : 0 ≤ x22_1
     ·rw [if_pos c7] at H
      have c7b0 := decide_eq_true c7
      clear c7
      by_cases c8 : x22_1 < (l1.length : Int)
      ·rw [if_pos c8] at H
       have c8b0 := decide_eq_true c8
       clear c8
       replace H := bO H
       obtain ⟨t312, A9, H⟩ := H
       by_cases c10 : x6_1.length < 5864062014805
       ·rw [if_pos c10] at H
        have LMc10 := aM c10
        clear c10
        obtain ⟨y315, hy315⟩ : ∃ y_ : List (List Int), y_ = (x6_1 ++ [t312]) := ⟨_, rfl⟩
        replace H : (qN.l0 k1 l1 y315 (wrap64 (x7_1 * (wrap64 ((l0_2.length : Int) * 24)))) (l1.length : Int) (wrap64 (x22_1 + 1)) a0_0 a0_1 l0_2) = some (r1, r2) := by first | (rw [hy315]; with_reducible exact H) | (have H2_ := (Option.bind_some _ _).symm.trans H; rw [hy315]; with_reducible exact H2_) | (have H2_ := (Option.bind_some _ _).symm.trans H; with_reducible exact H2_) | with_reducible exact H | (rw [hy315]; exact H) | exact H
        have Ny315 := aM hy315
        clear hy315
        have H' := aM H
        clear H
        have p310 : 0 ≤ (x22_1 : Int) := of_decide_eq_true am
        have q310 : x22_1 < (l1.length : Int) := of_decide_eq_true am
        obtain ⟨ad310, e310, hx310_0, hx310_1, hx310_2, hx310_3, hx310_4, hx310_5, hx310_6, hx310_7⟩ := qTB (Kd.qPD HO_1.out).2.2 x22_1 p310 q310
        cases e310
        replace p310 := eq_true p310
        replace q310 := eq_true q310
        go_wp2_with (first | ((with_reducible refine qK (N := 9) rfl ?_); refine qH ?hg (N := 9) ?hd (cs := #[.int .i64 0, .int .i64 0, .int .i64 0, .int .i64 0, .int .i64 0, .int .i64 0, .int .i64 0, .int .i64 0]) (t := 41) ?hr ?_; (case hd => rfl); (case hg => rfl); (case hr => exact gS); intro gb311 hg w11 hbox hb; have BK311 := aM (hbox); have GW311 := aM ((gg hg)); have GE311 := aM ((gg hg)); have NB309_311 := aM ((nl BK309 hg)); have NB311_309 := aM ((nr BK309 hg)); replace HO_1 := aM (Kd.qbC (Kd.qyD (rV HO_1) gb311 (Nat.le_of_eq hg.symm)) hb); replace HO_6 := aM (Kd.qrB (Kd.N_elderB (rN HO_6) gb311 (Nat.le_of_eq hg.symm)) hb); replace BK309 := aM (bb BK309 hb); replace HB := aM (qB bl hb); clear hb hbox hg; have hnb12 := NB311_309.out; have hnc12 := NB309_311.out; (refine cb8 BK311 ?_; intro hcz13_0 hcz13_1 hcz13_2 hcz13_3 hcz13_4 hcz13_5 hcz13_6 hcz13_7); (refine cz8 BK311 ?_; intro hfz13_0 hfz13_1 hfz13_2 hfz13_3 hfz13_4 hfz13_5 hfz13_6 hfz13_7); (refine cb3 BK309 ?_; intro hcz14_0 hcz14_1 hcz14_2); (refine cz3 BK309 ?_; intro hfz14_0 hfz14_1 hfz14_2)) | ((with_reducible refine qJ (f := 16) rfl ?_); refine qr (some 29) rfl rfl Tryd.func16 (by kernel_rfl) rfl #[.agg #[.int .i64 a0_0, .int .i64 a0_1, .slice A0_2 l0_2.length c0_2], .agg #[.int .i64 ((qA l1 x22_1).f0), .int .i64 ((qA l1 x22_1).f1), .int .i64 ((qA l1 x22_1).f2.f0), .int .i64 ((qA l1 x22_1).f2.f1), .int .i64 ((qA l1 x22_1).f2.f2), .int .i64 ((qA l1 x22_1).f2.f3), .int .i64 ((qA l1 x22_1).f2.f4), .int .i64 ((qA l1 x22_1).f2.f5)]] rfl gA ?_; (with_reducible refine (qQA.calls k1 a0_0 a0_1 _ _ l0_2 ((qA l1 x22_1).f0) ((qA l1 x22_1).f1) ((qA l1 x22_1).f2.f0) ((qA l1 x22_1).f2.f1) ((qA l1 x22_1).f2.f2) ((qA l1 x22_1).f2.f3) ((qA l1 x22_1).f2.f4) ((qA l1 x22_1).f2.f5) t312 _ ?side1 ?side2 A9.out).mono ?_); (case side1 => exact Kd.qg HR0_2.out bl); (case side2 => exact HC0_2.out); rintro e w15 ⟨v313, rfl, ho0, hb⟩; refine ⟨_, rfl, ?_⟩; have HO314 := aM (Kd.qx (Kd.qSE (M := fun k_ => (w.heap.size ≤ k_)) ho0 (qL bl) (fun k_ h_ => h_)) (qL bl)); replace HO_1 := aM (Kd.qDD (by (with_reducible repeat (first | apply Kd.qVB | apply Kd.qUB | apply Kd.qqB)); exact (Kd.qBC (Kd.V_far (p := ⟨gb311, 7, none⟩) (Kd.V_far (p := ⟨gb311, 6, none⟩) (Kd.V_far (p := ⟨gb311, 5, none⟩) (Kd.V_far (p := ⟨gb311, 4, none⟩) (Kd.V_far (p := ⟨gb311, 3, none⟩) (Kd.V_far (p := ⟨gb311, 2, none⟩) (Kd.V_far (p := ⟨gb311, 1, none⟩) (Kd.V_far (p := ⟨gb311, 0, none⟩) (Kd.qBC HO_1.out (fun k_ hk => (⟨hk, hk.2⟩ : _ ∧ k_ ≠ gb311))) (fun _ hk => hk.2) (.int .i64 ((qA l1 x22_1).f0))) (fun _ hk => hk.2) (.int .i64 ((qA l1 x22_1).f1))) (fun _ hk => hk.2) (.int .i64 ((qA l1 x22_1).f2.f0))) (fun _ hk => hk.2) (.int .i64 ((qA l1 x22_1).f2.f1))) (fun _ hk => hk.2) (.int .i64 ((qA l1 x22_1).f2.f2))) (fun _ hk => hk.2) (.int .i64 ((qA l1 x22_1).f2.f3))) (fun _ hk => hk.2) (.int .i64 ((qA l1 x22_1).f2.f4))) (fun _ hk => hk.2) (.int .i64 ((qA l1 x22_1).f2.f5))) (fun _ h_ => h_.1))) (Kd.qfA ho0) hb); replace HO_6 := aM (Kd.qED (by (with_reducible repeat (first | apply Kd.qlA | apply Kd.qkA | apply Kd.qzA)); exact (Kd.qYB (Kd.N_far (p := ⟨gb311, 7, none⟩) (Kd.N_far (p := ⟨gb311, 6, none⟩) (Kd.N_far (p := ⟨gb311, 5, none⟩) (Kd.N_far (p := ⟨gb311, 4, none⟩) (Kd.N_far (p := ⟨gb311, 3, none⟩) (Kd.N_far (p := ⟨gb311, 2, none⟩) (Kd.N_far (p := ⟨gb311, 1, none⟩) (Kd.N_far (p := ⟨gb311, 0, none⟩) (Kd.qYB HO_6.out (fun k_ hk => (⟨hk, hk.2⟩ : _ ∧ k_ ≠ gb311))) (fun _ hk => hk.2) (.int .i64 ((qA l1 x22_1).f0))) (fun _ hk => hk.2) (.int .i64 ((qA l1 x22_1).f1))) (fun _ hk => hk.2) (.int .i64 ((qA l1 x22_1).f2.f0))) (fun _ hk => hk.2) (.int .i64 ((qA l1 x22_1).f2.f1))) (fun _ hk => hk.2) (.int .i64 ((qA l1 x22_1).f2.f2))) (fun _ hk => hk.2) (.int .i64 ((qA l1 x22_1).f2.f3))) (fun _ hk => hk.2) (.int .i64 ((qA l1 x22_1).f2.f4))) (fun _ hk => hk.2) (.int .i64 ((qA l1 x22_1).f2.f5))) (fun _ h_ => h_.1))) (Kd.qfA ho0) hb); replace BK309 := aM (qPA (g := gb309) (o := .cells #[.int .i64 a0_0, .int .i64 a0_1, .slice A0_2 l0_2.length c0_2] 32 (0, 0)) (bF BK309 NB309_311) hb); replace BK311 := aM (qPA (g := gb311) (o := .cells #[.int .i64 ((qA l1 x22_1).f0), .int .i64 ((qA l1 x22_1).f1), .int .i64 ((qA l1 x22_1).f2.f0), .int .i64 ((qA l1 x22_1).f2.f1), .int .i64 ((qA l1 x22_1).f2.f2), .int .i64 ((qA l1 x22_1).f2.f3), .int .i64 ((qA l1 x22_1).f2.f4), .int .i64 ((qA l1 x22_1).f2.f5)] 41 (0, 0)) (by (with_reducible repeat (first | refine qG ?_ _ | refine qE ?_ | refine qF ?_ _)); exact bP8 BK311) hb); replace HB := aM (qB bl hb); (try clear hb); (try clear hb2); (try clear hk); (try clear hi); (try clear ho0); obtain ⟨Ao17, co17, eo17⟩ := Kd.qBA HO314.out; subst eo17) | ((with_reducible refine qpA (b := .append) (xs := #[.tmp 26, .tmp 30]) rfl ?_); at_builtin; refine Kd.N_append (Kd.slice 3 (Kd.int .i64)) (w0 := w) w.heap.size rfl (.tmp 26) (.tmp 30) 57 50 (.slice none 0 0) 24 rfl Tryd.underlying57 info50 rfl (by decide) (by omega) u6 x6_1 t312 [.slice Ao17 t312.length co17] (fun k_ => (P1_ k_ ∨ w.heap.size ≤ k_) ∧ k_ ≠ gb309 ∧ k_ ≠ gb311) (fun k_ => ((fun k_ => (P1_ k_ ∨ w.heap.size ≤ k_) ∧ k_ ≠ gb309 ∧ k_ ≠ gb311)) k_ ∧ some k_ ≠ (u6 : Value).ownBlock) rfl rfl ?aP (fun _ hk => hk) ?aF ?aO ?aB ?aS ?aL ?_; (case aP => exact (Kd.FK_slice_mk (Kd.qP (Kd.qZ (ok' := (fun k_ => ((fun k_ => (P1_ k_ ∨ w.heap.size ≤ k_) ∧ k_ ≠ gb309 ∧ k_ ≠ gb311)) k_ ∧ some k_ ≠ (u6 : Value).ownBlock)) (Kd.qAB (Kd.qAB (Kd.quB (HO314.out) (Kd.quC HO_6.out) (by decide)) BK309.out (by decide)) BK311.out (by decide)) (fun k_ hk => ⟨⟨(.inr (hk.1.1.1.1)), ⟨hk.1.2, hk.2⟩⟩, hk.1.1.2⟩))).2.1 (Kd.R_F (Kd.qZ (ok' := (fun k_ => ((fun k_ => (P1_ k_ ∨ w.heap.size ≤ k_) ∧ k_ ≠ gb309 ∧ k_ ≠ gb311)) k_ ∧ some k_ ≠ (u6 : Value).ownBlock)) (Kd.qAB (Kd.qAB (Kd.quB (HO314.out) (Kd.quC HO_6.out) (by decide)) BK309.out (by decide)) BK311.out (by decide)) (fun k_ hk => ⟨⟨(.inr (hk.1.1.1.1)), ⟨hk.1.2, hk.2⟩⟩, hk.1.1.2⟩))))); (case aB => exact bl); (case aF => exact (fun k_ hk => ⟨(.inr (Nat.le_trans (qL bl) hk)), Kd.freshB (rB BK309) k_ hk, Kd.freshB (rB BK311) k_ hk⟩)); (case aO => exact (by (with_reducible repeat (first | apply Kd.qlA | apply Kd.qkA | apply Kd.qzA)); exact Kd.qYB HO_6.out (fun _ hk => ⟨hk.1.1.1, ⟨hk.1.1.2, hk.1.2⟩⟩))); (case aS => exact (qL bl)); (case aL => have := LMc10.out; omega); intro v316 w16 ho hb hg hat; rw [← Ny315.out] at ho; have HO317 := aM (ho); replace HO_1 := aM (Kd.qQD (ok := (fun k_ => (P1_ k_ ∨ w.heap.size ≤ k_) ∧ some k_ ≠ (.slice Ao17 t312.length co17 : Value).ownBlock ∧ k_ ≠ gb309 ∧ k_ ≠ gb311)) (by (with_reducible repeat (first | apply Kd.qVB | apply Kd.qUB | apply Kd.qqB)); exact Kd.qBC HO_1.out (fun _ hk => ⟨⟨hk.1.1.1, ⟨hk.2, ⟨hk.1.1.2.2, hk.1.2⟩⟩⟩, hk.1.1.2.1⟩)) hg hat); replace BK309 := aM (qi (rB BK309) hg (Kd.N_ne HO_6.out BK309.out (by decide))); replace BK311 := aM (qi (rB BK311) hg (Kd.N_ne HO_6.out BK311.out (by decide))); replace HB := aM (hb); clear HO_6; clear HO314; clear ho hb hg hat; (refine cb3 BK309 ?_; intro hcz18_0 hcz18_1 hcz18_2); (refine cz3 BK309 ?_; intro hfz18_0 hfz18_1 hfz18_2)))
        go_roundg k1
        case measure => have := HK1.out; omega
        case rel => exact ⟨(y315), (wrap64 (x7_1 * (wrap64 ((l0_2.length : Int) * 24)))), (wrap64 (x22_1 + 1)), sD, sD, H', ⟨by have := HK1.out; omega⟩, ⟨by (with_reducible repeat (first | apply Kd.qVB | apply Kd.qUB | apply Kd.qqB)); exact Kd.qBC HO_1.out (fun _ hk => ⟨hk.1.1, ⟨hk.2, hk.1.2.2.1⟩⟩)⟩, ⟨by (with_reducible repeat (first | apply Kd.qlA | apply Kd.qkA | apply Kd.qzA)); exact Kd.qYB HO317.out (fun _ hk => ⟨hk.1, hk.2.1⟩)⟩, ⟨rB BK309⟩, ⟨bl⟩⟩
       ·rw [if_neg c10] at H
        exact absurd H (by simp)
      ·rw [if_neg c8] at H
       exact absurd H (by simp)
     ·rw [if_neg c7] at H
      exact absurd H (by simp)
    ·rw [if_neg c6] at H
     have c6b0 := decide_eq_false c6
     clear c6
     by_cases c19 : 0 ≤ x7_1
     ·rw [if_pos c19] at H
      have c19b0 := eq_true c19
      have c19b1 := decide_eq_true c19
      clear c19
      by_cases c20 : (x7_1 : Int).toNat ≤ 281474976710656
      ·rw [if_pos c20] at H
       have c20b0 := eq_true c20
       have c20b1 := decide_eq_true c20
       clear c20
       replace H := bS H
       obtain ⟨y318, Ny318, H⟩ := H
       replace H := bO H
       obtain ⟨t321, A21, H⟩ := H
       by_cases c22 : 0 ≤ t321
       ·rw [if_pos c22] at H
        have c22b0 := decide_eq_true c22
        clear c22
        by_cases c23 : t321 < (y318.length : Int)
        ·rw [if_pos c23] at H
         have c23b0 := decide_eq_true c23
         clear c23
         obtain ⟨y322, hy322⟩ : ∃ y_ : List Bool, y_ = (y318.set (t321 : Int).toNat true) := ⟨_, rfl⟩
         replace H : (qN.l1 k1 l1 x6_1 (([(⟨l1, (-1), (⟨#[]⟩ : ByteArray)⟩ : S62)] : List (S62))) 0 y322 a0_0 a0_1 l0_2) = some (r1, r2) := by first | (rw [hy322]; with_reducible exact H) | (have H2_ := (Option.bind_some _ _).symm.trans H; rw [hy322]; with_reducible exact H2_) | (have H2_ := (Option.bind_some _ _).symm.trans H; with_reducible exact H2_) | with_reducible exact H | (rw [hy322]; exact H) | exact H
         have Ny322 := aM hy322
         clear hy322
         obtain ⟨y323, hy323⟩ : ∃ y_ : List (S62), y_ = (([(⟨l1, (-1), (⟨#[]⟩ : ByteArray)⟩ : S62)] : List (S62))) := ⟨_, rfl⟩
         replace H : (qN.l1 k1 l1 x6_1 y323 0 y322 a0_0 a0_1 l0_2) = some (r1, r2) := by first | (rw [hy323]; with_reducible exact H) | (have H2_ := (Option.bind_some _ _).symm.trans H; rw [hy323]; with_reducible exact H2_) | (have H2_ := (Option.bind_some _ _).symm.trans H; with_reducible exact H2_) | with_reducible exact H | (rw [hy323]; exact H) | exact H
         have Ny323 := aM hy323
         clear hy323
         have H' := aM H
         clear H
         go_wp2_with (first | ((with_reducible refine qK (N := 40) rfl ?_); refine Kd.R_make Kd.bool _ 4 rfl (N := 40) rfl 59 _ _ rfl x7_1 rfl rfl Tryd.underlying59 (.bool false) 1 info4 rfl (by decide) (by omega) false (ok := fun _ => True) (okp := fun _ => True) rfl (fun _ hk => hk) trivial (of_decide_eq_true am) (Nat.le_trans (Nat.mul_le_mul_right _ (of_decide_eq_true am : x7_1.toNat ≤ 281474976710656)) (by omega)) (Below.refl _ _) (Nat.le_refl _) ?_; intro v319 w25 ho26 hb hg_ hnew_; clear hg_ hnew_; (first | rw [← Ny318.out] at ho26 | (simp only [Int.reduceToNat] at ho26; rw [← Ny318.out] at ho26)); have HO320 := aM (Kd.qx (Kd.qSE (M := fun k_ => (w.heap.size ≤ k_)) ho26 (qL bl) (fun k_ h_ => h_)) (qL bl)); replace HO_1 := aM (Kd.qDD (rV HO_1) (Kd.qfA ho26) hb); replace HO_6 := aM (Kd.qED (rN HO_6) (Kd.qfA ho26) hb); replace BK309 := aM (bb BK309 hb); replace HB := aM (qB bl hb); clear hb ho26; (refine cb3 BK309 ?_; intro hcz27_0 hcz27_1 hcz27_2); (refine cz3 BK309 ?_; intro hfz27_0 hfz27_1 hfz27_2); obtain ⟨Ao28, co28, eo28⟩ := Kd.qgD HO_6.out; subst eo28) | ((with_reducible refine qJ (f := 17) rfl ?_); refine qr (some 45) rfl rfl Tryd.func17 (by kernel_rfl) rfl #[.agg #[.int .i64 a0_0, .int .i64 a0_1, .slice A0_2 l0_2.length c0_2], .slice Ao28 x6_1.length co28, .slice A1 l1.length c1] rfl gA ?_; (with_reducible refine (qt.calls k1 a0_0 a0_1 _ _ l0_2 _ _ x6_1 _ _ l1 t321 _ ?side1 ?side2 ?side3 ?side4 ?side5 ?side6 A21.out).mono ?_); (case side1 => repeat (first | exact (Kd.qg HR0_2.out HB.out) | (with_reducible refine Kd.qW ?_ _) | (with_reducible refine Kd.qV ?_ _) | (with_reducible refine Kd.qe ?_))); (case side2 => exact HC0_2.out); (case side3 => repeat (first | exact (Kd.qGC HO_6.out).2.2 | (with_reducible refine Kd.qW ?_ _) | (with_reducible refine Kd.qV ?_ _) | (with_reducible refine Kd.qe ?_))); (case side4 => exact (Kd.qGC HO_6.out).2.1); (case side5 => repeat (first | exact (Kd.qPD HO_1.out).2.2 | (with_reducible refine Kd.qW ?_ _) | (with_reducible refine Kd.qV ?_ _) | (with_reducible refine Kd.qe ?_))); (case side6 => exact (Kd.qPD HO_1.out).2.1); rintro e w29 ⟨rfl, hb⟩; refine ⟨_, rfl, ?_⟩; replace HO_1 := aM (Kd.qbC (rV HO_1) hb); replace HO_6 := aM (Kd.qrB (rN HO_6) hb); replace HO320 := aM (Kd.qd (rR HO320) hb); replace BK309 := aM (bb BK309 hb); replace HB := aM (qB bl hb); (try clear hb); (try clear hb2); (try clear hk); (try clear hi); have p24 : 0 ≤ (t321 : Int) := of_decide_eq_true am; have q24 : (t321 : Int) < ((y318.length : Int) : Int) := of_decide_eq_true am; obtain ⟨go24, co24, eo24, gb24, gl24, cl24, HG24⟩ := Kd.qNE HO320.out (by omega); (first | cases eo24 | (injection eo24 with ea_ en_ ec_; (first | subst ea_ | (injection ea_ with ea_; subst ea_)); subst ec_; clear en_)); have GB24 := aM gb24; have GG24 := aM HG24; clear gb24 gl24 HG24; obtain ⟨hx24_0, hf24_0⟩ := Kd.qAE false HO320.out (t321 : Int) p24 q24; replace p24 := eq_true p24; replace q24 := eq_true q24; have n_ := aM (Kd.qZ (ok' := (fun k_ => (w.heap.size ≤ k_))) HO320.out (fun k_ hk => hk.1)); clear HO320; have HO320 := n_; clear n_; obtain ⟨hy30_, hz30_⟩ := Kd.qAE false HO320.out (t321 : Int) (of_decide_eq_true am) (of_decide_eq_true am); have HP30 := Kd.R_putg HO320.out (t321 : Int) true) | ((with_reducible refine qlB (t := 4) (p := 46) rfl ?_); refine qiB (t := 4) (p := 46) (v := ?vo_w31) (w1 := (w29.setCell ⟨go24, (t321 : Int).toNat, none⟩ (.bool true))) ?hg ?ho ?hn ?hr ?_; (case ho => rfl); (case hg => rfl); (case hn => rfl); (case hr => exact gS); intro w31 hw; have hg : w29.grownBy w31 (some go24) := (by rw [hw]; exact HP30.2); have hp_ : Kd.R Kd.bool 4 w31 w.heap.size (fun k_ => (w.heap.size ≤ k_)) (.slice (some ⟨go24, 0, none⟩) y318.length co24) y322 := (by rw [hw, Ny322.out]; exact HP30.1); clear HP30; replace HO_1 := aM (Kd.qQD (v := (.slice (some ⟨go24, 0, none⟩) y318.length co24)) (v1 := (.slice (some ⟨go24, 0, none⟩) y318.length co24)) (ok := (fun k_ => (P1_ k_ ∨ w.heap.size ≤ k_) ∧ some k_ ≠ (.slice Ao28 x6_1.length co28 : Value).ownBlock ∧ k_ ≠ gb309)) (rV HO_1) hg (.inl rfl)); replace HO_6 := aM (Kd.qSD (v := (.slice (some ⟨go24, 0, none⟩) y318.length co24)) (v1 := (.slice (some ⟨go24, 0, none⟩) y318.length co24)) (ok := (fun k_ => (P1_ k_ ∨ w.heap.size ≤ k_) ∧ k_ ≠ gb309)) (rN HO_6) hg (.inl rfl)); replace BK309 := aM (qi (rB BK309) hg (Kd.R_ne HO320.out BK309.out (by decide))); replace HO320 := aM (hp_); replace HB := aM ((by rw [hw]; exact qy (HB.out) GB24.out : Below w.heap.size w w31)); clear hg hw hp_) | ((with_reducible refine qK (N := 49) rfl ?_); refine Kd.N_lit k62 _ 62 ?hg (N' := 49) ?hd (xs := ([(⟨l1, (-1), (⟨#[]⟩ : ByteArray)⟩ : S62)] : List (S62))) (inner := [.slice A1 l1.length c1, .int .i64 (-1), .string (⟨#[]⟩ : ByteArray)]) (ok := (fun k_ => (P1_ k_ ∨ w.heap.size ≤ k_) ∧ some k_ ≠ (.slice Ao28 x6_1.length co28 : Value).ownBlock ∧ some k_ ≠ (.slice (some ⟨go24, 0, none⟩) y318.length co24 : Value).ownBlock ∧ k_ ≠ gb309)) (okp := (fun k_ => (P1_ k_ ∨ w.heap.size ≤ k_) ∧ some k_ ≠ (.slice Ao28 x6_1.length co28 : Value).ownBlock ∧ some k_ ≠ (.slice (some ⟨go24, 0, none⟩) y318.length co24 : Value).ownBlock ∧ k_ ≠ gb309)) ?hr ?hp (fun _ hk => hk) ((show ∀ k_, w31.heap.size ≤ k_ → (fun k_ => (P1_ k_ ∨ w.heap.size ≤ k_) ∧ some k_ ≠ (.slice Ao28 x6_1.length co28 : Value).ownBlock ∧ some k_ ≠ (.slice (some ⟨go24, 0, none⟩) y318.length co24 : Value).ownBlock ∧ k_ ≠ gb309) k_ from fun k_ hk => ⟨(.inr (Nat.le_trans (qL bl) hk)), Kd.fresh' (Kd.N_lt (rN HO_6)) k_ hk, Kd.fresh' (Kd.R_lt (rR HO320)) k_ hk, Kd.freshB (rB BK309) k_ hk⟩) _ (Nat.le_refl _)) (Below.refl _ _) (Nat.le_refl _) (by simp) ?_; (case hd => rfl); (case hg => rfl); (case hr => exact gS); (case hp => exact (Reps.c3 (show Kd.FK k62 _ _ (⟨l1, (-1), (⟨#[]⟩ : ByteArray)⟩ : S62) [.slice A1 l1.length c1, .int .i64 (-1), .string (⟨#[]⟩ : ByteArray)] from (k62_mkF _ _ (⟨l1, (-1), (⟨#[]⟩ : ByteArray)⟩ : S62) (Kd.qPD (Kd.qBC (ok' := (fun k_ => (P1_ k_ ∨ w.heap.size ≤ k_) ∧ some k_ ≠ (.slice Ao28 x6_1.length co28 : Value).ownBlock ∧ some k_ ≠ (.slice (some ⟨go24, 0, none⟩) y318.length co24 : Value).ownBlock ∧ k_ ≠ gb309)) (HO_1.out) (fun k_ hk => ⟨hk.1.1, ⟨hk.1.2.1, ⟨hk.2, hk.1.2.2⟩⟩⟩))).2.1 (Kd.V_F (Kd.qBC (ok' := (fun k_ => (P1_ k_ ∨ w.heap.size ≤ k_) ∧ some k_ ≠ (.slice Ao28 x6_1.length co28 : Value).ownBlock ∧ some k_ ≠ (.slice (some ⟨go24, 0, none⟩) y318.length co24 : Value).ownBlock ∧ k_ ≠ gb309)) (HO_1.out) (fun k_ hk => ⟨hk.1.1, ⟨hk.1.2.1, ⟨hk.2, hk.1.2.2⟩⟩⟩))))) (Reps.none _ _))); intro v324 w32 ho33 hb hg_ hnew_; clear hg_ hnew_; (first | rw [← Ny323.out] at ho33 | (simp only [Int.reduceToNat] at ho33; rw [← Ny323.out] at ho33)); have HO325 := aM (Kd.N_lower ho33 (qL bl)); replace HO_1 := aM (Kd.qDD (rV HO_1) (Kd.N_base ho33) hb); replace HO_6 := aM (Kd.qED (rN HO_6) (Kd.N_base ho33) hb); replace HO320 := aM (Kd.qd (rR HO320) hb); replace BK309 := aM (bb BK309 hb); replace HB := aM (qB bl hb); clear hb ho33))
         go_loopg [11, 12] k1 (fun kq v11 v12 w' => ∃ (x11_2 : List (S62)) (x12_2 : Int) (x40_2 : List Bool), v12 = .int .i64 x12_2 ∧ Aside0 (qN.l1 kq l1 x6_1 x11_2 x12_2 x40_2 a0_0 a0_1 l0_2 = some (r1, r2)) ∧ Aside0 (kq ≤ k1) ∧ Aside0 (Kd.V k41 41 w' w.heap.size (fun k_ => (P1_ k_ ∨ w.heap.size ≤ k_) ∧ some k_ ≠ ((.slice Ao28 x6_1.length co28) : Value).ownBlock ∧ some k_ ≠ (v11 : Value).ownBlock ∧ some k_ ≠ ((.slice (some ⟨go24, 0, none⟩) y318.length co24) : Value).ownBlock ∧ k_ ≠ gb309) (.slice A1 l1.length c1) l1) ∧ Aside0 (Kd.N (Kd.slice 3 (Kd.int .i64)) 50 w' w.heap.size (fun k_ => (P1_ k_ ∨ w.heap.size ≤ k_) ∧ some k_ ≠ (v11 : Value).ownBlock ∧ some k_ ≠ ((.slice (some ⟨go24, 0, none⟩) y318.length co24) : Value).ownBlock ∧ k_ ≠ gb309) (.slice Ao28 x6_1.length co28) x6_1) ∧ Aside0 (Kd.N k62 62 w' w.heap.size (fun k_ => (P1_ k_ ∨ w.heap.size ≤ k_) ∧ some k_ ≠ ((.slice Ao28 x6_1.length co28) : Value).ownBlock ∧ some k_ ≠ ((.slice (some ⟨go24, 0, none⟩) y318.length co24) : Value).ownBlock ∧ k_ ≠ gb309) v11 x11_2) ∧ Aside0 (Kd.R Kd.bool 4 w' w.heap.size (fun k_ => (w.heap.size ≤ k_)) (.slice (some ⟨go24, 0, none⟩) y318.length co24) x40_2) ∧ Aside0 (w'.heap[gb309]? = some (.cells #[.int .i64 a0_0, .int .i64 a0_1, (.slice A0_2 l0_2.length c0_2)] 32 (0, 0))) ∧ Aside0 (Below w.heap.size w w'))
         case atStart => exact ⟨(y323), (0), (y322), sD, H', ⟨Nat.le_refl _⟩, ⟨by (with_reducible repeat (first | apply Kd.qVB | apply Kd.qUB | apply Kd.qqB)); exact Kd.qBC HO_1.out (fun _ hk => ⟨hk.1.1.1, ⟨hk.1.1.2.1, ⟨hk.2, ⟨hk.1.2, hk.1.1.2.2⟩⟩⟩⟩)⟩, ⟨by (with_reducible repeat (first | apply Kd.qlA | apply Kd.qkA | apply Kd.qzA)); exact Kd.qYB HO_6.out (fun _ hk => ⟨hk.1.1.1, ⟨hk.2, ⟨hk.1.2, hk.1.1.2⟩⟩⟩)⟩, ⟨rN HO325⟩, ⟨rR HO320⟩, ⟨rB BK309⟩, ⟨bl⟩⟩
         case round =>
          clear H'; (try clear c1); (try clear c2); (try clear p2); (try clear q2); (try clear hx2); (try clear hf2); (try clear c3); (try clear c3b0); (try clear c3b1); (try clear p3); (try clear q3); (try clear hx3); (try clear c6); (try clear c6b0); (try clear p6); (try clear c7); (try clear c7b0); (try clear c8); (try clear c8b0); (try clear c10); (try clear c12); (try clear c16); (try clear c17); (try clear c19); (try clear c19b0); (try clear c19b1); (try clear c20); (try clear c20b0); (try clear c20b1); (try clear c22); (try clear c22b0); (try clear c23); (try clear c23b0); (try clear p24); (try clear q24); (try clear hx24); (try clear hf24); (try clear p31); (try clear q31); (try clear hx31); (try clear hcz13_0); (try clear hcz13_1); (try clear hcz13_2); (try clear hcz13_3); (try clear hcz13_4); (try clear hcz13_5); (try clear hcz13_6); (try clear hcz13_7); (try clear hcz14_0); (try clear hcz14_1); (try clear hcz14_2); (try clear hcz18_0); (try clear hcz18_1); (try clear hcz18_2); (try clear hcz27_0); (try clear hcz27_1); (try clear hcz27_2); (try clear hfz13_0); (try clear hfz13_1); (try clear hfz13_2); (try clear hfz13_3); (try clear hfz13_4); (try clear hfz13_5); (try clear hfz13_6); (try clear hfz13_7); (try clear hfz14_0); (try clear hfz14_1); (try clear hfz14_2); (try clear hfz18_0); (try clear hfz18_1); (try clear hfz18_2); (try clear hfz27_0); (try clear hfz27_1); (try clear hfz27_2); (try clear hx24_0); (try clear hx310_0); (try clear hx310_1); (try clear hx310_2); (try clear hx310_3); (try clear hx310_4); (try clear hx310_5); (try clear hx310_6); (try clear hx310_7); (try clear p2); (try clear p24); (try clear p310); (try clear q24); (try clear q310)
          obtain ⟨x11_2, x12_2, x40_2, rfl, HA, HK2, HO_1, HO_6, HO_11, HO_40, BK309, HB⟩ := hrel
          have hl40_2 := (Kd.qP HO_40.out).1
          rw [hl40_2] at HO_40
          (try simp only [hl40_2])
          (try simp only [hl40_2] at BK309)
          (try simp only [hl40_2] at HO_1)
          (try simp only [hl40_2] at HO_6)
          (try simp only [hl40_2] at HO_11)
          cases gk with
          | zero => exact absurd HA.out (by simp [qN.l1])
          | succ k2 =>
           have H := HA.out
           clear HA
           simp only [qN.l1] at H
           by_cases c34 : x12_2 < (x11_2.length : Int)
           ·rw [if_pos c34] at H
            have c34b0 := decide_eq_true c34
            (try (have c34b0_hl40_2 := c34b0; simp only [hl40_2] at c34b0_hl40_2))
            clear c34
            have H' := aM H
            clear H
            obtain ⟨Ao35, co35, eo35⟩ := Kd.qgD HO_11.out
            subst eo35
            go_wp2
            go_loopg [11, 58] k2 (fun kq v11 v58 w' => ∃ (x11_3 : List (S62)) (x40_3 : List Bool) (x58_3 : Int), v58 = .int .i64 x58_3 ∧ Aside0 (qN.l2 kq l1 x6_1 x11_3 x12_2 x40_3 (l1.length : Int) x58_3 a0_0 a0_1 l0_2 = some (r1, r2)) ∧ Aside0 (kq ≤ k2) ∧ Aside0 (Kd.V k41 41 w' w.heap.size (fun k_ => (P1_ k_ ∨ w.heap.size ≤ k_) ∧ some k_ ≠ ((.slice Ao28 x6_1.length co28) : Value).ownBlock ∧ some k_ ≠ (v11 : Value).ownBlock ∧ some k_ ≠ ((.slice (some ⟨go24, 0, none⟩) x40_2.length co24) : Value).ownBlock ∧ k_ ≠ gb309) (.slice A1 l1.length c1) l1) ∧ Aside0 (Kd.N (Kd.slice 3 (Kd.int .i64)) 50 w' w.heap.size (fun k_ => (P1_ k_ ∨ w.heap.size ≤ k_) ∧ some k_ ≠ (v11 : Value).ownBlock ∧ some k_ ≠ ((.slice (some ⟨go24, 0, none⟩) x40_2.length co24) : Value).ownBlock ∧ k_ ≠ gb309) (.slice Ao28 x6_1.length co28) x6_1) ∧ Aside0 (Kd.N k62 62 w' w.heap.size (fun k_ => (P1_ k_ ∨ w.heap.size ≤ k_) ∧ some k_ ≠ ((.slice Ao28 x6_1.length co28) : Value).ownBlock ∧ some k_ ≠ ((.slice (some ⟨go24, 0, none⟩) x40_2.length co24) : Value).ownBlock ∧ k_ ≠ gb309) v11 x11_3) ∧ Aside0 (Kd.R Kd.bool 4 w' w.heap.size (fun k_ => (w.heap.size ≤ k_)) (.slice (some ⟨go24, 0, none⟩) x40_2.length co24) x40_3) ∧ Aside0 (w'.heap[gb309]? = some (.cells #[.int .i64 a0_0, .int .i64 a0_1, (.slice A0_2 l0_2.length c0_2)] 32 (0, 0))) ∧ Aside0 (Below w.heap.size w w'))
            case atStart => exact ⟨(x11_2), (x40_2), (0), sD, H', ⟨Nat.le_refl _⟩, ⟨by (try simp only [hl40_2]); (with_reducible repeat (first | apply Kd.qVB | apply Kd.qUB | apply Kd.qqB)); exact HO_1.out⟩, ⟨by (try simp only [hl40_2]); (with_reducible repeat (first | apply Kd.qlA | apply Kd.qkA | apply Kd.qzA)); exact HO_6.out⟩, ⟨by (try simp only [hl40_2]); (with_reducible repeat (first | apply Kd.qlA | apply Kd.qkA | apply Kd.qzA)); exact HO_11.out⟩, ⟨by (try simp only [hl40_2]); (with_reducible repeat (first | apply Kd.qO | apply Kd.qQ | apply Kd.qS)); exact HO_40.out⟩, ⟨by (try simp only [hl40_2]); (with_reducible repeat (first | refine qG ?_ _ | refine qE ?_ | refine qF ?_ _)); exact BK309.out⟩, ⟨bl⟩⟩
            case round =>
             clear H'; (try clear c1); (try clear c2); (try clear p2); (try clear q2); (try clear hx2); (try clear hf2); (try clear c3); (try clear c3b0); (try clear c3b1); (try clear p3); (try clear q3); (try clear hx3); (try clear c6); (try clear c6b0); (try clear p6); (try clear c7); (try clear c7b0); (try clear c8); (try clear c8b0); (try clear c10); (try clear c12); (try clear c16); (try clear c17); (try clear c19); (try clear c19b0); (try clear c19b1); (try clear c20); (try clear c20b0); (try clear c20b1); (try clear c22); (try clear c22b0); (try clear c23); (try clear c23b0); (try clear p24); (try clear q24); (try clear hx24); (try clear hf24); (try clear p31); (try clear q31); (try clear hx31); (try clear c34); (try clear c34b0); (try clear hcz13_0); (try clear hcz13_1); (try clear hcz13_2); (try clear hcz13_3); (try clear hcz13_4); (try clear hcz13_5); (try clear hcz13_6); (try clear hcz13_7); (try clear hcz14_0); (try clear hcz14_1); (try clear hcz14_2); (try clear hcz18_0); (try clear hcz18_1); (try clear hcz18_2); (try clear hcz27_0); (try clear hcz27_1); (try clear hcz27_2); (try clear hfz13_0); (try clear hfz13_1); (try clear hfz13_2); (try clear hfz13_3); (try clear hfz13_4); (try clear hfz13_5); (try clear hfz13_6); (try clear hfz13_7); (try clear hfz14_0); (try clear hfz14_1); (try clear hfz14_2); (try clear hfz18_0); (try clear hfz18_1); (try clear hfz18_2); (try clear hfz27_0); (try clear hfz27_1); (try clear hfz27_2); (try clear hx24_0); (try clear hx310_0); (try clear hx310_1); (try clear hx310_2); (try clear hx310_3); (try clear hx310_4); (try clear hx310_5); (try clear hx310_6); (try clear hx310_7); (try clear p2); (try clear p24); (try clear p3); (try clear p31); (try clear p310); (try clear p6); (try clear q2); (try clear q24); (try clear q3); (try clear q31); (try clear q310)
             obtain ⟨x11_3, x40_3, x58_3, rfl, HA, HK3, HO_1, HO_6, HO_11, HO_40, BK309, HB⟩ := hrel
             have hl40_3 := (Kd.qP HO_40.out).1
             rw [hl40_3] at HO_40
             (try simp only [hl40_3])
             (try simp only [hl40_3] at BK309)
             (try simp only [hl40_3] at HO_1)
             (try simp only [hl40_3] at HO_6)
             (try simp only [hl40_3] at HO_11)
             cases gk with
             | zero => exact absurd HA.out (by simp [qN.l2])
             | succ k3 =>
              have H := HA.out
              clear HA
              simp only [qN.l2] at H
              by_cases c36 : x58_3 < (l1.length : Int)
              ·rw [if_pos c36] at H
               have c36b0 := decide_eq_true c36
               (try (have c36b0_hl40_2 := c36b0; simp only [hl40_2] at c36b0_hl40_2))
               (try (have c36b0_hl40_3 := c36b0; simp only [hl40_3] at c36b0_hl40_3))
               clear c36
               have H' := aM H
               clear H
               go_wp2
               go_loopg [11, 14] k3 (fun kq v11 v14 w' => ∃ (x11_4 : List (S62)) (x14_4 : Int) (x40_4 : List Bool), v14 = .int .i64 x14_4 ∧ Aside0 (qN.l3 kq l1 x6_1 x11_4 x12_2 x58_3 x14_4 x40_4 (l1.length : Int) x58_3 a0_0 a0_1 l0_2 = some (r1, r2)) ∧ Aside0 (kq ≤ k3) ∧ Aside0 (Kd.V k41 41 w' w.heap.size (fun k_ => (P1_ k_ ∨ w.heap.size ≤ k_) ∧ some k_ ≠ ((.slice Ao28 x6_1.length co28) : Value).ownBlock ∧ some k_ ≠ (v11 : Value).ownBlock ∧ some k_ ≠ ((.slice (some ⟨go24, 0, none⟩) x40_3.length co24) : Value).ownBlock ∧ k_ ≠ gb309) (.slice A1 l1.length c1) l1) ∧ Aside0 (Kd.N (Kd.slice 3 (Kd.int .i64)) 50 w' w.heap.size (fun k_ => (P1_ k_ ∨ w.heap.size ≤ k_) ∧ some k_ ≠ (v11 : Value).ownBlock ∧ some k_ ≠ ((.slice (some ⟨go24, 0, none⟩) x40_3.length co24) : Value).ownBlock ∧ k_ ≠ gb309) (.slice Ao28 x6_1.length co28) x6_1) ∧ Aside0 (Kd.N k62 62 w' w.heap.size (fun k_ => (P1_ k_ ∨ w.heap.size ≤ k_) ∧ some k_ ≠ ((.slice Ao28 x6_1.length co28) : Value).ownBlock ∧ some k_ ≠ ((.slice (some ⟨go24, 0, none⟩) x40_3.length co24) : Value).ownBlock ∧ k_ ≠ gb309) v11 x11_4) ∧ Aside0 (Kd.R Kd.bool 4 w' w.heap.size (fun k_ => (w.heap.size ≤ k_)) (.slice (some ⟨go24, 0, none⟩) x40_3.length co24) x40_4) ∧ Aside0 (w'.heap[gb309]? = some (.cells #[.int .i64 a0_0, .int .i64 a0_1, (.slice A0_2 l0_2.length c0_2)] 32 (0, 0))) ∧ Aside0 (Below w.heap.size w w'))
               case atStart => exact ⟨(x11_3), (0), (x40_3), sD, H', ⟨Nat.le_refl _⟩, ⟨by (try simp only [hl40_2]); (try simp only [hl40_3]); (with_reducible repeat (first | apply Kd.qVB | apply Kd.qUB | apply Kd.qqB)); exact HO_1.out⟩, ⟨by (try simp only [hl40_2]); (try simp only [hl40_3]); (with_reducible repeat (first | apply Kd.qlA | apply Kd.qkA | apply Kd.qzA)); exact HO_6.out⟩, ⟨by (try simp only [hl40_2]); (try simp only [hl40_3]); (with_reducible repeat (first | apply Kd.qlA | apply Kd.qkA | apply Kd.qzA)); exact HO_11.out⟩, ⟨by (try simp only [hl40_2]); (try simp only [hl40_3]); (with_reducible repeat (first | apply Kd.qO | apply Kd.qQ | apply Kd.qS)); exact HO_40.out⟩, ⟨by (try simp only [hl40_2]); (try simp only [hl40_3]); (with_reducible repeat (first | refine qG ?_ _ | refine qE ?_ | refine qF ?_ _)); exact BK309.out⟩, ⟨bl⟩⟩
               case round =>
                clear H'; (try clear c1); (try clear c2); (try clear p2); (try clear q2); (try clear hx2); (try clear hf2); (try clear c3); (try clear c3b0); (try clear c3b1); (try clear p3); (try clear q3); (try clear hx3); (try clear c6); (try clear c6b0); (try clear p6); (try clear c7); (try clear c7b0); (try clear c8); (try clear c8b0); (try clear c10); (try clear c12); (try clear c16); (try clear c17); (try clear c19); (try clear c19b0); (try clear c19b1); (try clear c20); (try clear c20b0); (try clear c20b1); (try clear c22); (try clear c22b0); (try clear c23); (try clear c23b0); (try clear p24); (try clear q24); (try clear hx24); (try clear hf24); (try clear p31); (try clear q31); (try clear hx31); (try clear c34); (try clear c34b0); (try clear c36); (try clear c36b0); (try clear hcz13_0); (try clear hcz13_1); (try clear hcz13_2); (try clear hcz13_3); (try clear hcz13_4); (try clear hcz13_5); (try clear hcz13_6); (try clear hcz13_7); (try clear hcz14_0); (try clear hcz14_1); (try clear hcz14_2); (try clear hcz18_0); (try clear hcz18_1); (try clear hcz18_2); (try clear hcz27_0); (try clear hcz27_1); (try clear hcz27_2); (try clear hfz13_0); (try clear hfz13_1); (try clear hfz13_2); (try clear hfz13_3); (try clear hfz13_4); (try clear hfz13_5); (try clear hfz13_6); (try clear hfz13_7); (try clear hfz14_0); (try clear hfz14_1); (try clear hfz14_2); (try clear hfz18_0); (try clear hfz18_1); (try clear hfz18_2); (try clear hfz27_0); (try clear hfz27_1); (try clear hfz27_2); (try clear hx24_0); (try clear hx310_0); (try clear hx310_1); (try clear hx310_2); (try clear hx310_3); (try clear hx310_4); (try clear hx310_5); (try clear hx310_6); (try clear hx310_7); (try clear p2); (try clear p24); (try clear p3); (try clear p31); (try clear p310); (try clear p6); (try clear q2); (try clear q24); (try clear q3); (try clear q31); (try clear q310)
                obtain ⟨x11_4, x14_4, x40_4, rfl, HA, HK4, HO_1, HO_6, HO_11, HO_40, BK309, HB⟩ := hrel
                have hl40_4 := (Kd.qP HO_40.out).1
                rw [hl40_4] at HO_40
                (try simp only [hl40_4])
                (try simp only [hl40_4] at BK309)
                (try simp only [hl40_4] at HO_1)
                (try simp only [hl40_4] at HO_6)
                (try simp only [hl40_4] at HO_11)
                cases gk with
                | zero => exact absurd HA.out (by simp [qN.l3])
                | succ k4 =>
                 have H := HA.out
                 clear HA
                 simp only [qN.l3] at H
                 by_cases c37 : x14_4 < 4
                 ·rw [if_pos c37] at H
                  have c37b0 := decide_eq_true c37
                  clear c37
                  by_cases c38 : 0 ≤ x12_2
                  ·rw [if_pos c38] at H
                   have c38b0 := decide_eq_true c38
                   clear c38
                   by_cases c39 : x12_2 < (x11_4.length : Int)
                   ·rw [if_pos c39] at H
                    have c39b0 := decide_eq_true c39
                    (try (have c39b0_hl40_2 := c39b0; simp only [hl40_2] at c39b0_hl40_2))
                    (try (have c39b0_hl40_3 := c39b0; simp only [hl40_3] at c39b0_hl40_3))
                    (try (have c39b0_hl40_4 := c39b0; simp only [hl40_4] at c39b0_hl40_4))
                    clear c39
                    replace H := bO H
                    obtain ⟨⟨t327, t330⟩, A40, H⟩ := H
                    dsimp only at H A40
                    have HC41 := aM H
                    clear H
                    try go_wp2
                    replace HO_1 := aM (Kd.qqB HO_1.out)
                    replace HO_6 := aM (Kd.qzA HO_6.out)
                    replace HO_11 := aM (Kd.qzA HO_11.out)
                    replace HO_40 := aM (Kd.qS HO_40.out)
                    replace BK309 := aM (qE BK309.out)
                    replace HB := aM (qu HB.out)
                    obtain ⟨Ao43, co43, eo43⟩ := Kd.qgD HO_11.out
                    (first | subst eo43 | (injection eo43 with f1_ f2_ f3_; have f4_ := f1_.symm; have f5_ := f3_.symm; clear f1_ f2_ f3_; subst f4_; subst f5_))
                    have p326 : 0 ≤ (x12_2 : Int) := of_decide_eq_true am
                    have q326 : x12_2 < (x11_4.length : Int) := of_decide_eq_true am
                    obtain ⟨ad326, A326_0, c326_0, e326, hx326_0, hx326_1, hx326_2, hl326_0, hi326_0⟩ := at_T62 (Kd.qGC HO_11.out).2.2 x12_2 p326 q326
                    cases e326
                    obtain ⟨ce326, hce326, hMe326, hcc326⟩ := Kd.N_get HO_11.out z62 x12_2 p326 (by first | exact q326 | exact of_decide_eq_true am | (have e_ := (Kd.qGC HO_11.out).1; omega))
                    obtain ⟨ua326_0, uc326_0, rfl, ul326_0, ge326_0⟩ := k62_openF hMe326
                    have hv326_0 := hcc326 0 _ rfl
                    rw [Nat.add_zero] at hv326_0
                    replace hv326_0 := Option.some.inj (hv326_0.symm.trans hx326_0)
                    injection hv326_0 with hva_ hvn_ hvc_
                    rw [hva_] at ge326_0
                    rw [hvc_] at ul326_0
                    have HL326_0 := aM (show Kd.V k41 41 _ w.heap.size _ _ ((qmB x11_4 x12_2).f0) from Kd.V_mk ul326_0 ge326_0)
                    clear hva_ hvn_ hvc_ ge326_0 ul326_0 hcc326 hce326
                    have HR326_0 := aM hi326_0
                    have HC326_0 := aM hl326_0
                    clear hi326_0 hl326_0
                    replace p326 := eq_true p326
                    replace q326 := eq_true q326
                    refine qCB (n := 14) (S := fun w' => w'.cell? ⟨gb309, 0, none⟩ = some (.int .i64 a0_0) ∧ w'.cell? ⟨gb309, 1, none⟩ = some (.int .i64 a0_1) ∧ w'.cell? ⟨gb309, 2, none⟩ = some (.slice A0_2 l0_2.length c0_2) ∧ w'.cell? (ad326.add ((x12_2).toNat * 3)) = some (.slice A326_0 ((qmB x11_4 x12_2).f0).length c326_0) ∧ w'.cell? ⟨(ad326.add ((x12_2).toNat * 3)).block, (ad326.add ((x12_2).toNat * 3)).off + 1, none⟩ = some (.int .i64 ((qmB x11_4 x12_2).f1)) ∧ w'.cell? ⟨(ad326.add ((x12_2).toNat * 3)).block, (ad326.add ((x12_2).toNat * 3)).off + 2, none⟩ = some (.string ((qmB x11_4 x12_2).f2))) (ds := []) #[false, false, false, false, false, false, false, false, false, false, false, false, false, false] (by kernel_rfl) rfl rfl ⟨bc BK309 0, bc BK309 1, bc BK309 2, hx326_0, hx326_1, hx326_2⟩ (fun hHeld => ?_); refine qKA qN.tab23 qN.bits23 (fun HT_ HW_ => ?_)
                    generalize wr.drew = w42 at HO_1 HO_6 HO_11 HO_40 BK309 HB HL326_0 HR326_0 hx326_0 hx326_1 hx326_2 hHeld ⊢
                    refine pS (i := 1) (N := some 67) #[false, true, false, false, false, false, false, false, false, false, false, false, false, false] HT_ ?_
                    refine pS (i := 2) (N := some 68) #[false, true, true, false, false, false, false, false, false, false, false, false, false, false] HT_ ?_
                    refine pS (i := 3) (N := some 69) #[false, true, true, true, false, false, false, false, false, false, false, false, false, false] HT_ ?_
                    refine pS (i := 4) (N := some 70) #[false, true, true, true, true, false, false, false, false, false, false, false, false, false] HT_ ?_
                    refine pS (i := 6) (N := some 72) #[false, true, true, true, true, false, true, false, false, false, false, false, false, false] HT_ ?_
                    refine pS (i := 7) (N := some 73) #[false, true, true, true, true, false, true, true, false, false, false, false, false, false] HT_ ?_
                    refine tS (i := 0) (N := some 66) #[true, true, true, true, true, false, true, true, false, false, false, false, false, false] HT_ HW_ hHeld ?_
                    refine tS (i := 5) (N := some 71) #[true, true, true, true, true, true, true, true, false, false, false, false, false, false] HT_ HW_ hHeld ?_
                    refine one_ (i := 8) (N := some 74) #[true, true, true, true, true, true, true, true, true, false, false, false, false, false] rfl rfl (qUA HT_.out (by kernel_rfl)) (by decide) (fun K hK => ?_)
                    refine goes_ Tryd.func18 (by kernel_rfl) rfl #[.agg #[.int .i64 a0_0, .int .i64 a0_1, .slice A0_2 l0_2.length c0_2], .slice A326_0 ((qmB x11_4 x12_2).f0).length c326_0, .int .i64 x58_3, .int .i64 x14_4] (by rfl) rfl rfl gA ?_
                    with_reducible refine (qIA.calls k4 a0_0 a0_1 _ _ l0_2 _ _ ((qmB x11_4 x12_2).f0) x58_3 x14_4 t327 t330 _ ?side1 ?side2 ?side3 ?side4 A40.out).mono ?_
                    (case side1 => repeat (first | exact (Kd.qg HR0_2.out HB.out) | (with_reducible refine Kd.qW ?_ _) | (with_reducible refine Kd.qV ?_ _) | (with_reducible refine Kd.qe ?_)))
                    (case side2 => exact HC0_2.out)
                    (case side3 => repeat (first | exact (by repeat (first | (with_reducible exact HR326_0.out) | (with_reducible refine Kd.qW ?_ _) | (with_reducible refine Kd.qV ?_ _) | (with_reducible refine Kd.qe ?_) | exact HR326_0.out)) | (with_reducible refine Kd.qW ?_ _) | (with_reducible refine Kd.qV ?_ _) | (with_reducible refine Kd.qe ?_)))
                    (case side4 => exact HC326_0.out)
                    rintro e w44 ⟨v328, rfl, ho0, hb⟩
                    have HS3_ := (hb.cell (World.block_lt_of_cell? _ _ (hHeld.2.2.2.1))).trans (hHeld.2.2.2.1)
                    have HS4_ := (hb.cell (World.block_lt_of_cell? _ _ (hHeld.2.2.2.2.1))).trans (hHeld.2.2.2.2.1)
                    have HS5_ := (hb.cell (World.block_lt_of_cell? _ _ (hHeld.2.2.2.2.2))).trans (hHeld.2.2.2.2.2)
                    refine ⟨_, rfl, ?_⟩
                    have HO329 := aM (Kd.qx (Kd.qSE (M := fun k_ => (w.heap.size ≤ k_)) ho0 (qL bl) (fun k_ h_ => h_)) (qL bl))
                    replace HO_1 := aM (Kd.qDD (rV HO_1) (Kd.qfA ho0) hb)
                    replace HO_6 := aM (Kd.qED (rN HO_6) (Kd.qfA ho0) hb)
                    replace HO_11 := aM (Kd.qED (rN HO_11) (Kd.qfA ho0) hb)
                    replace HO_40 := aM (Kd.qd (rR HO_40) hb)
                    replace HL326_0 := aM (Kd.qDD (rV HL326_0) (Kd.qfA ho0) hb)
                    replace BK309 := aM (bb BK309 hb)
                    replace HR326_0 := aM (Kd.qg (by repeat (first | (with_reducible exact HR326_0.out) | (with_reducible refine Kd.qW ?_ _) | (with_reducible refine Kd.qV ?_ _) | (with_reducible refine Kd.qe ?_) | exact HR326_0.out)) hb)
                    replace HB := aM (qB bl hb); (try clear hb); (try clear hb2); (try clear hk); (try clear hi); (try clear ho0)
                    refine hK.out _ _ ⟨bc BK309 0, bc BK309 1, bc BK309 2, HS3_, HS4_, HS5_⟩ (fun hHeld => ?_)
                    clear hK K
                    refine norm_ (a' := ?_) ?_ ?_
                    rotate_left
                    ·show Act.put _ (some 74) _ = _
                     simp only [Act.put, List.setIfInBounds_toArray, List.set_cons_zero, List.set_cons_succ, i64_w, i32_w]
                     rfl
                    refine pS (i := 9) (N := some 65) #[true, true, true, true, true, true, true, true, true, true, false, false, false, false] HT_ ?_
                    refine pS (i := 10) (N := some 75) #[true, true, true, true, true, true, true, true, true, true, true, false, false, false] HT_ ?_
                    refine pS (i := 11) (N := some 76) #[true, true, true, true, true, true, true, true, true, true, true, true, false, false] HT_ ?_
                    refine pS (i := 12) (N := some 15) #[true, true, true, true, true, true, true, true, true, true, true, true, true, false] HT_ ?_
                    refine pS (i := 13) (N := some 16) #[true, true, true, true, true, true, true, true, true, true, true, true, true, true] HT_ ?_
                    refine done_ (qrA HT_.out (by kernel_rfl)) ?_
                    go_upto_region 24 with (fail)
                    go_cut [87] (fun v87 wc => ∃ (kq : Nat) (x87_40 : Bool), v87 = .bool x87_40 ∧ Aside0 (qN.j4 kq l1 x6_1 x40_4 x11_4 x12_2 x58_3 x14_4 t327 (l1.length : Int) x58_3 x87_40 a0_0 a0_1 l0_2 = some (r1, r2)) ∧ Aside0 (kq ≤ k4) ∧ Aside0 (Kd.V k41 41 wc w.heap.size (fun k_ => (P1_ k_ ∨ w.heap.size ≤ k_) ∧ some k_ ≠ ((.slice Ao28 x6_1.length co28) : Value).ownBlock ∧ some k_ ≠ ((.slice (some ⟨go24, 0, none⟩) x40_4.length co24) : Value).ownBlock ∧ some k_ ≠ ((.slice (some ad326) x11_4.length co43) : Value).ownBlock ∧ some k_ ≠ (v328 : Value).ownBlock ∧ k_ ≠ gb309) (.slice A1 l1.length c1) l1) ∧ Aside0 (Kd.N (Kd.slice 3 (Kd.int .i64)) 50 wc w.heap.size (fun k_ => (P1_ k_ ∨ w.heap.size ≤ k_) ∧ some k_ ≠ ((.slice (some ⟨go24, 0, none⟩) x40_4.length co24) : Value).ownBlock ∧ some k_ ≠ ((.slice (some ad326) x11_4.length co43) : Value).ownBlock ∧ some k_ ≠ (v328 : Value).ownBlock ∧ k_ ≠ gb309) (.slice Ao28 x6_1.length co28) x6_1) ∧ Aside0 (Kd.R Kd.bool 4 wc w.heap.size (fun k_ => (w.heap.size ≤ k_)) (.slice (some ⟨go24, 0, none⟩) x40_4.length co24) x40_4) ∧ Aside0 (Kd.N k62 62 wc w.heap.size (fun k_ => (P1_ k_ ∨ w.heap.size ≤ k_) ∧ some k_ ≠ ((.slice Ao28 x6_1.length co28) : Value).ownBlock ∧ some k_ ≠ ((.slice (some ⟨go24, 0, none⟩) x40_4.length co24) : Value).ownBlock ∧ some k_ ≠ (v328 : Value).ownBlock ∧ k_ ≠ gb309) (.slice (some ad326) x11_4.length co43) x11_4) ∧ Aside0 (Kd.R k41 41 wc w.heap.size (fun k_ => (w.heap.size ≤ k_)) v328 t327) ∧ Aside0 (wc.heap[gb309]? = some (.cells #[.int .i64 a0_0, .int .i64 a0_1, (.slice A0_2 l0_2.length c0_2)] 32 (0, 0))) ∧ Aside0 (Kd.C k41 wc A326_0 ((qmB x11_4 x12_2).f0).length ((qmB x11_4 x12_2).f0)) ∧ Aside0 (Below w.heap.size w wc))
                    case first =>
                     have H := HC41.out
                     clear HC41
                     by_cases c45 : t330 = true
                     ·subst c45
                      replace H := iT H
                      replace H := bO H
                      obtain ⟨t331, A46, H⟩ := H
                      by_cases c47 : 0 ≤ t331
                      ·rw [if_pos c47] at H
                       have c47b0 := decide_eq_true c47
                       clear c47
                       (first | rw [c47b0] | (simp only [i64_w, i32_w]; rw [c47b0]) | skip)
                       by_cases c48 : t331 < (x40_4.length : Int)
                       ·rw [if_pos c48] at H
                        have c48b0 := decide_eq_true c48
                        (try (have c48b0_hl40_2 := c48b0; simp only [hl40_2] at c48b0_hl40_2))
                        (try (have c48b0_hl40_3 := c48b0; simp only [hl40_3] at c48b0_hl40_3))
                        (try (have c48b0_hl40_4 := c48b0; simp only [hl40_4] at c48b0_hl40_4))
                        clear c48
                        have H' := aM H
                        clear H
                        (refine cb3 BK309 ?_; intro hcz49_0 hcz49_1 hcz49_2)
                        (refine cz3 BK309 ?_; intro hfz49_0 hfz49_1 hfz49_2)
                        obtain ⟨Ao50, co50, eo50⟩ := Kd.qBA HO329.out
                        subst eo50
                        go_wp2_with (first | (go_at_call 17; (with_reducible refine (qt.calls k4 a0_0 a0_1 _ _ l0_2 _ _ x6_1 _ _ t327 t331 _ ?side1 ?side2 ?side3 ?side4 ?side5 ?side6 A46.out).mono ?_); (case side1 => repeat (first | exact (Kd.qg HR0_2.out HB.out) | (with_reducible refine Kd.qW ?_ _) | (with_reducible refine Kd.qV ?_ _) | (with_reducible refine Kd.qe ?_))); (case side2 => exact HC0_2.out); (case side3 => repeat (first | exact (Kd.qGC HO_6.out).2.2 | (with_reducible refine Kd.qW ?_ _) | (with_reducible refine Kd.qV ?_ _) | (with_reducible refine Kd.qe ?_))); (case side4 => exact (Kd.qGC HO_6.out).2.1); (case side5 => repeat (first | exact (Kd.qP HO329.out).2.2 | (with_reducible refine Kd.qW ?_ _) | (with_reducible refine Kd.qV ?_ _) | (with_reducible refine Kd.qe ?_))); (case side6 => exact (Kd.qP HO329.out).2.1); rintro e w51 ⟨rfl, hb⟩; replace HO_1 := aM (Kd.qbC (rV HO_1) hb); replace HO_6 := aM (Kd.qrB (rN HO_6) hb); replace HO_11 := aM (Kd.qrB (rN HO_11) hb); replace HO_40 := aM (Kd.qd (rR HO_40) hb); replace HL326_0 := aM (Kd.qbC (rV HL326_0) hb); replace HO329 := aM (Kd.qd (rR HO329) hb); replace BK309 := aM (bb BK309 hb); replace HR326_0 := aM (Kd.qg (by repeat (first | (with_reducible exact HR326_0.out) | (with_reducible refine Kd.qW ?_ _) | (with_reducible refine Kd.qV ?_ _) | (with_reducible refine Kd.qe ?_) | exact HR326_0.out)) hb); replace HB := aM (qB bl hb); (try clear hb); (try clear hb2); (try clear hk); (try clear hi); have p332 : 0 ≤ (t331 : Int) := of_decide_eq_true am; have q332 : t331 < (x40_4.length : Int) := of_decide_eq_true am; obtain ⟨ad332, e332, hx332_0⟩ := Kd.at_bool (Kd.qP HO_40.out).2.2 t331 p332 q332; obtain rfl : (⟨go24, 0, none⟩ : Addr) = ad332 := (by injection e332); (first | simp only [qeD] at hx332_0 | simp only [add_at] at hx332_0 | simp only [Addr.add, Nat.zero_add] at hx332_0 | skip); replace p332 := eq_true p332; replace q332 := eq_true q332))
                        go_meet
                        case rel => exact ⟨_, (rdOf false x40_4 t331), sD, H', ⟨by have := HK1.out; have := HK2.out; have := HK3.out; have := HK4.out; first | omega | exact Nat.le_refl _⟩, ⟨by (try simp only [hl40_2]); (try simp only [hl40_3]); (try simp only [hl40_4]); (with_reducible repeat (first | apply Kd.qVB | apply Kd.qUB | apply Kd.qqB)); exact Kd.qBC HO_1.out (fun _ hk => ⟨hk.1.1, ⟨hk.1.2.1, ⟨hk.1.2.2.2.1, ⟨hk.1.2.2.1, ⟨hk.2, hk.1.2.2.2.2⟩⟩⟩⟩⟩)⟩, ⟨by (try simp only [hl40_2]); (try simp only [hl40_3]); (try simp only [hl40_4]); (with_reducible repeat (first | apply Kd.qlA | apply Kd.qkA | apply Kd.qzA)); exact Kd.qYB HO_6.out (fun _ hk => ⟨hk.1.1, ⟨hk.1.2.2.1, ⟨hk.1.2.1, ⟨hk.2, hk.1.2.2.2⟩⟩⟩⟩)⟩, ⟨by (try simp only [hl40_2]); (try simp only [hl40_3]); (try simp only [hl40_4]); (with_reducible repeat (first | apply Kd.qO | apply Kd.qQ | apply Kd.qS)); exact HO_40.out⟩, ⟨by (try simp only [hl40_2]); (try simp only [hl40_3]); (try simp only [hl40_4]); (with_reducible repeat (first | apply Kd.qlA | apply Kd.qkA | apply Kd.qzA)); exact Kd.qYB HO_11.out (fun _ hk => ⟨hk.1.1, ⟨hk.1.2.1, ⟨hk.1.2.2.1, ⟨hk.2, hk.1.2.2.2⟩⟩⟩⟩)⟩, ⟨by (try simp only [hl40_2]); (try simp only [hl40_3]); (try simp only [hl40_4]); (with_reducible repeat (first | apply Kd.qO | apply Kd.qQ | apply Kd.qS)); exact Kd.qZ HO329.out (fun _ hk => hk.1)⟩, ⟨by (try simp only [hl40_2]); (try simp only [hl40_3]); (try simp only [hl40_4]); (with_reducible repeat (first | refine qG ?_ _ | refine qE ?_ | refine qF ?_ _)); exact BK309.out⟩, ⟨by repeat (first | (with_reducible exact HR326_0.out) | (with_reducible refine Kd.qW ?_ _) | (with_reducible refine Kd.qV ?_ _) | (with_reducible refine Kd.qe ?_) | exact HR326_0.out)⟩, ⟨bl⟩⟩
                       ·rw [if_neg c48] at H
                        exact absurd H (by simp)
                      ·rw [if_neg c47] at H
                       exact absurd H (by simp)
                     ·replace c45 := Bool.eq_false_iff.mpr c45
                      subst c45
                      replace H := iF H
                      have H' := aM H
                      clear H
                      go_wp2
                      go_meet
                      case rel => exact ⟨_, (true), sD, H', ⟨by have := HK1.out; have := HK2.out; have := HK3.out; have := HK4.out; first | omega | exact Nat.le_refl _⟩, ⟨by (try simp only [hl40_2]); (try simp only [hl40_3]); (try simp only [hl40_4]); (with_reducible repeat (first | apply Kd.qVB | apply Kd.qUB | apply Kd.qqB)); exact Kd.qBC HO_1.out (fun _ hk => ⟨hk.1.1, ⟨hk.1.2.1, ⟨hk.1.2.2.2.1, ⟨hk.1.2.2.1, ⟨hk.2, hk.1.2.2.2.2⟩⟩⟩⟩⟩)⟩, ⟨by (try simp only [hl40_2]); (try simp only [hl40_3]); (try simp only [hl40_4]); (with_reducible repeat (first | apply Kd.qlA | apply Kd.qkA | apply Kd.qzA)); exact Kd.qYB HO_6.out (fun _ hk => ⟨hk.1.1, ⟨hk.1.2.2.1, ⟨hk.1.2.1, ⟨hk.2, hk.1.2.2.2⟩⟩⟩⟩)⟩, ⟨by (try simp only [hl40_2]); (try simp only [hl40_3]); (try simp only [hl40_4]); (with_reducible repeat (first | apply Kd.qO | apply Kd.qQ | apply Kd.qS)); exact HO_40.out⟩, ⟨by (try simp only [hl40_2]); (try simp only [hl40_3]); (try simp only [hl40_4]); (with_reducible repeat (first | apply Kd.qlA | apply Kd.qkA | apply Kd.qzA)); exact Kd.qYB HO_11.out (fun _ hk => ⟨hk.1.1, ⟨hk.1.2.1, ⟨hk.1.2.2.1, ⟨hk.2, hk.1.2.2.2⟩⟩⟩⟩)⟩, ⟨by (try simp only [hl40_2]); (try simp only [hl40_3]); (try simp only [hl40_4]); (with_reducible repeat (first | apply Kd.qO | apply Kd.qQ | apply Kd.qS)); exact Kd.qZ HO329.out (fun _ hk => hk.1)⟩, ⟨by (try simp only [hl40_2]); (try simp only [hl40_3]); (try simp only [hl40_4]); (with_reducible repeat (first | refine qG ?_ _ | refine qE ?_ | refine qF ?_ _)); exact BK309.out⟩, ⟨by repeat (first | (with_reducible exact HR326_0.out) | (with_reducible refine Kd.qW ?_ _) | (with_reducible refine Kd.qV ?_ _) | (with_reducible refine Kd.qe ?_) | exact HR326_0.out)⟩, ⟨bl⟩⟩
                    case rest =>
                     clear HC41; (try clear c1); (try clear c2); (try clear p2); (try clear q2); (try clear hx2); (try clear hf2); (try clear c3); (try clear c3b0); (try clear c3b1); (try clear p3); (try clear q3); (try clear hx3); (try clear c4); (try clear c6); (try clear c6b0); (try clear p6); (try clear c7); (try clear c7b0); (try clear c8); (try clear c8b0); (try clear c10); (try clear c12); (try clear c16); (try clear c17); (try clear c18); (try clear c19); (try clear c19b0); (try clear c19b1); (try clear c20); (try clear c20b0); (try clear c20b1); (try clear c22); (try clear c22b0); (try clear c23); (try clear c23b0); (try clear p24); (try clear q24); (try clear hx24); (try clear hf24); (try clear p31); (try clear q31); (try clear hx31); (try clear c32); (try clear p32); (try clear q32); (try clear hx32); (try clear p33); (try clear q33); (try clear hx33); (try clear c34); (try clear c34b0); (try clear c36); (try clear c36b0); (try clear c37); (try clear c37b0); (try clear c38); (try clear c38b0); (try clear c39); (try clear c39b0); (try clear c45); (try clear c47); (try clear c47b0); (try clear c48); (try clear c48b0); (try clear hcz13_0); (try clear hcz13_1); (try clear hcz13_2); (try clear hcz13_3); (try clear hcz13_4); (try clear hcz13_5); (try clear hcz13_6); (try clear hcz13_7); (try clear hcz14_0); (try clear hcz14_1); (try clear hcz14_2); (try clear hcz18_0); (try clear hcz18_1); (try clear hcz18_2); (try clear hcz27_0); (try clear hcz27_1); (try clear hcz27_2); (try clear hcz49_0); (try clear hcz49_1); (try clear hcz49_2); (try clear hfz13_0); (try clear hfz13_1); (try clear hfz13_2); (try clear hfz13_3); (try clear hfz13_4); (try clear hfz13_5); (try clear hfz13_6); (try clear hfz13_7); (try clear hfz14_0); (try clear hfz14_1); (try clear hfz14_2); (try clear hfz18_0); (try clear hfz18_1); (try clear hfz18_2); (try clear hfz27_0); (try clear hfz27_1); (try clear hfz27_2); (try clear hfz49_0); (try clear hfz49_1); (try clear hfz49_2); (try clear hx24_0); (try clear hx310_0); (try clear hx310_1); (try clear hx310_2); (try clear hx310_3); (try clear hx310_4); (try clear hx310_5); (try clear hx310_6); (try clear hx310_7); (try clear hx326_0); (try clear hx326_1); (try clear hx326_2); (try clear hx332_0); (try clear p2); (try clear p24); (try clear p3); (try clear p31); (try clear p310); (try clear p326); (try clear p332); (try clear p6); (try clear q2); (try clear q24); (try clear q3); (try clear q31); (try clear q310); (try clear q326); (try clear q332)
                     obtain ⟨kq, x87_40, rfl, HA, HJ40, HO_1, HO_6, HO_10, HO_11, HO_15, BK309, HR326_0, HB⟩ := hcut
                     cases kq with
                     | zero => exact absurd HA.out (by simp [qN.j4])
                     | succ kj40 =>
                      have H := HA.out
                      clear HA
                      simp only [qN.j4] at H
                      by_cases c52 : x87_40 = true
                      ·subst c52
                       replace H := iT H
                       have H' := aM H
                       clear H
                       go_wp2
                       (try simp only [← hl40_4])
                       go_roundg kj40
                       case measure => have := HK1.out; have := HK2.out; have := HK3.out; have := HK4.out; have := HJ40.out; omega
                       case rel => exact ⟨(x11_4), (wrap64 (x14_4 + 1)), (x40_4), sD, H', ⟨by have := HK1.out; have := HK2.out; have := HK3.out; have := HK4.out; have := HJ40.out; omega⟩, ⟨by (try simp only [hl40_2]); (try simp only [hl40_3]); (try simp only [hl40_4]); (with_reducible repeat (first | apply Kd.qVB | apply Kd.qUB | apply Kd.qqB)); exact Kd.qBC HO_1.out (fun _ hk => ⟨hk.1, ⟨hk.2.1, ⟨hk.2.2.2.1, ⟨hk.2.2.1, hk.2.2.2.2.2⟩⟩⟩⟩)⟩, ⟨by (try simp only [hl40_2]); (try simp only [hl40_3]); (try simp only [hl40_4]); (with_reducible repeat (first | apply Kd.qlA | apply Kd.qkA | apply Kd.qzA)); exact Kd.qYB HO_6.out (fun _ hk => ⟨hk.1, ⟨hk.2.2.1, ⟨hk.2.1, hk.2.2.2.2⟩⟩⟩)⟩, ⟨by (try simp only [hl40_2]); (try simp only [hl40_3]); (try simp only [hl40_4]); (with_reducible repeat (first | apply Kd.qlA | apply Kd.qkA | apply Kd.qzA)); exact Kd.qYB HO_11.out (fun _ hk => ⟨hk.1, ⟨hk.2.1, ⟨hk.2.2.1, hk.2.2.2.2⟩⟩⟩)⟩, ⟨by (try simp only [hl40_2]); (try simp only [hl40_3]); (try simp only [hl40_4]); (with_reducible repeat (first | apply Kd.qO | apply Kd.qQ | apply Kd.qS)); exact HO_10.out⟩, ⟨by (try simp only [hl40_2]); (try simp only [hl40_3]); (try simp only [hl40_4]); (with_reducible repeat (first | refine qG ?_ _ | refine qE ?_ | refine qF ?_ _)); exact BK309.out⟩, ⟨bl⟩⟩
                      ·replace c52 := Bool.eq_false_iff.mpr c52
                       subst c52
                       replace H := iF H
                       by_cases c53 : (x11_4.length : Int) = 6000
                       ·rw [if_pos c53] at H
                        have c53b0 := beq_iff_eq.mpr c53
                        have c53b1 := bne_eq_false_iff_eq.mpr c53
                        clear c53
                        simp only [Option.some.injEq, Prod.mk.injEq] at H
                        obtain ⟨rfl, rfl⟩ := H
                        go_wp2
                        go_ret2
                        exact ⟨_, sR, nK, bl⟩
                       ·rw [if_neg c53] at H
                        have c53b0 := beq_eq_false_iff_ne.mpr c53
                        have c53b1 := bne_iff_ne.mpr c53
                        replace H := bO H
                        obtain ⟨t333, A54, H⟩ := H
                        by_cases c55 : 0 ≤ t333
                        ·rw [if_pos c55] at H
                         have c55b0 := decide_eq_true c55
                         clear c55
                         by_cases c56 : t333 < (x40_4.length : Int)
                         ·rw [if_pos c56] at H
                          have c56b0 := decide_eq_true c56
                          (try (have c56b0_hl40_2 := c56b0; simp only [hl40_2] at c56b0_hl40_2))
                          (try (have c56b0_hl40_3 := c56b0; simp only [hl40_3] at c56b0_hl40_3))
                          (try (have c56b0_hl40_4 := c56b0; simp only [hl40_4] at c56b0_hl40_4))
                          clear c56
                          obtain ⟨y334, hy334⟩ : ∃ y_ : List Bool, y_ = (x40_4.set (t333 : Int).toNat true) := ⟨_, rfl⟩
                          replace H : ((qaB.f kj40 x58_3 x14_4).bind fun t335 => (if x11_4.length < 2932031007402 then (qN.l3 kj40 l1 x6_1 (x11_4 ++ [(⟨t327, x12_2, t335⟩ : S62)]) x12_2 x58_3 (wrap64 (x14_4 + 1)) y334 (l1.length : Int) x58_3 a0_0 a0_1 l0_2) else (none))) = some (r1, r2) := by first | (rw [hy334]; with_reducible exact H) | (have H2_ := (Option.bind_some _ _).symm.trans H; rw [hy334]; with_reducible exact H2_) | (have H2_ := (Option.bind_some _ _).symm.trans H; with_reducible exact H2_) | with_reducible exact H | (rw [hy334]; exact H) | exact H
                          have Ny334 := aM hy334
                          clear hy334
                          replace H := bO H
                          obtain ⟨t335, A58, H⟩ := H
                          by_cases c59 : x11_4.length < 2932031007402
                          ·rw [if_pos c59] at H
                           have LMc59 := aM c59
                           clear c59
                           obtain ⟨y336, hy336⟩ : ∃ y_ : List (S62), y_ = (x11_4 ++ [(⟨t327, x12_2, t335⟩ : S62)]) := ⟨_, rfl⟩
                           replace H : (qN.l3 kj40 l1 x6_1 y336 x12_2 x58_3 (wrap64 (x14_4 + 1)) y334 (l1.length : Int) x58_3 a0_0 a0_1 l0_2) = some (r1, r2) := by first | (rw [hy336]; with_reducible exact H) | (have H2_ := (Option.bind_some _ _).symm.trans H; rw [hy336]; with_reducible exact H2_) | (have H2_ := (Option.bind_some _ _).symm.trans H; with_reducible exact H2_) | with_reducible exact H | (rw [hy336]; exact H) | exact H
                           have Ny336 := aM hy336
                           clear hy336
                           have H' := aM H
                           clear H
                           (refine cb3 BK309 ?_; intro _ _ _)
                           (refine cz3 BK309 ?_; intro _ _ _)
                           obtain ⟨Ao61, co61, eo61⟩ := Kd.qBA HO_15.out
                           subst eo61
                           go_wp2_with (first | ((with_reducible refine qJ (f := 17) rfl ?_); refine qr (some 95) rfl rfl Tryd.func17 (by kernel_rfl) rfl #[.agg #[.int .i64 a0_0, .int .i64 a0_1, .slice A0_2 l0_2.length c0_2], .slice Ao28 x6_1.length co28, .slice Ao61 t327.length co61] rfl gA ?_; (with_reducible refine (qt.calls kj40 a0_0 a0_1 _ _ l0_2 _ _ x6_1 _ _ t327 t333 _ ?side1 ?side2 ?side3 ?side4 ?side5 ?side6 A54.out).mono ?_); (case side1 => repeat (first | exact (Kd.qg HR0_2.out HB.out) | (with_reducible refine Kd.qW ?_ _) | (with_reducible refine Kd.qV ?_ _) | (with_reducible refine Kd.qe ?_))); (case side2 => exact HC0_2.out); (case side3 => repeat (first | exact (Kd.qGC HO_6.out).2.2 | (with_reducible refine Kd.qW ?_ _) | (with_reducible refine Kd.qV ?_ _) | (with_reducible refine Kd.qe ?_))); (case side4 => exact (Kd.qGC HO_6.out).2.1); (case side5 => repeat (first | exact (Kd.qP HO_15.out).2.2 | (with_reducible refine Kd.qW ?_ _) | (with_reducible refine Kd.qV ?_ _) | (with_reducible refine Kd.qe ?_))); (case side6 => exact (Kd.qP HO_15.out).2.1); rintro e w62 ⟨rfl, hb⟩; refine ⟨_, rfl, ?_⟩; replace HO_1 := aM (Kd.qbC (rV HO_1) hb); replace HO_6 := aM (Kd.qrB (rN HO_6) hb); replace HO_10 := aM (Kd.qd (rR HO_10) hb); replace HO_11 := aM (Kd.qrB (rN HO_11) hb); replace HO_15 := aM (Kd.qd (rR HO_15) hb); replace BK309 := aM (bb BK309 hb); replace HR326_0 := aM (Kd.qg (by repeat (first | (with_reducible exact HR326_0.out) | (with_reducible refine Kd.qW ?_ _) | (with_reducible refine Kd.qV ?_ _) | (with_reducible refine Kd.qe ?_) | exact HR326_0.out)) hb); replace HB := aM (qB bl hb); (try clear hb); (try clear hb2); (try clear hk); (try clear hi); have p57 : 0 ≤ (t333 : Int) := of_decide_eq_true am; have q57 : (t333 : Int) < ((x40_4.length : Int) : Int) := of_decide_eq_true am; obtain ⟨hx57_0, hf57_0⟩ := Kd.qAE false HO_10.out (t333 : Int) p57 q57; replace p57 := eq_true p57; replace q57 := eq_true q57; obtain ⟨hy63_, hz63_⟩ := Kd.qAE false HO_10.out (t333 : Int) (of_decide_eq_true am) (of_decide_eq_true am); have HP63 := Kd.R_putg HO_10.out (t333 : Int) true) | ((with_reducible refine qlB (t := 4) (p := 96) rfl ?_); refine qiB (t := 4) (p := 96) (v := ?vo_w64) (w1 := (w62.setCell ⟨go24, (t333 : Int).toNat, none⟩ (.bool true))) ?hg ?ho ?hn ?hr ?_; (case ho => rfl); (case hg => rfl); (case hn => rfl); (case hr => exact gS); intro w64 hw; have hg : w62.grownBy w64 (some go24) := (by rw [hw]; exact HP63.2); have hp_ : Kd.R Kd.bool 4 w64 w.heap.size (fun k_ => (w.heap.size ≤ k_)) (.slice (some ⟨go24, 0, none⟩) x40_4.length co24) y334 := (by rw [hw, Ny334.out]; exact HP63.1); clear HP63; replace HO_1 := aM (Kd.qQD (v := (.slice (some ⟨go24, 0, none⟩) x40_4.length co24)) (v1 := (.slice (some ⟨go24, 0, none⟩) x40_4.length co24)) (ok := (fun k_ => (P1_ k_ ∨ w.heap.size ≤ k_) ∧ some k_ ≠ (.slice Ao28 x6_1.length co28 : Value).ownBlock ∧ some k_ ≠ (.slice (some ad326) x11_4.length co43 : Value).ownBlock ∧ some k_ ≠ (.slice Ao61 t327.length co61 : Value).ownBlock ∧ k_ ≠ gb309)) (by (with_reducible repeat (first | apply Kd.qVB | apply Kd.qUB | apply Kd.qqB)); exact Kd.qBC HO_1.out (fun _ hk => ⟨⟨hk.1, ⟨hk.2.1, ⟨hk.2.2.2.1, ⟨hk.2.2.2.2.1, hk.2.2.2.2.2⟩⟩⟩⟩, hk.2.2.1⟩)) hg (.inl rfl)); replace HO_6 := aM (Kd.qSD (v := (.slice (some ⟨go24, 0, none⟩) x40_4.length co24)) (v1 := (.slice (some ⟨go24, 0, none⟩) x40_4.length co24)) (ok := (fun k_ => (P1_ k_ ∨ w.heap.size ≤ k_) ∧ some k_ ≠ (.slice (some ad326) x11_4.length co43 : Value).ownBlock ∧ some k_ ≠ (.slice Ao61 t327.length co61 : Value).ownBlock ∧ k_ ≠ gb309)) (by (with_reducible repeat (first | apply Kd.qlA | apply Kd.qkA | apply Kd.qzA)); exact Kd.qYB HO_6.out (fun _ hk => ⟨⟨hk.1, ⟨hk.2.2.1, ⟨hk.2.2.2.1, hk.2.2.2.2⟩⟩⟩, hk.2.1⟩)) hg (.inl rfl)); replace HO_11 := aM (Kd.qSD (v := (.slice (some ⟨go24, 0, none⟩) x40_4.length co24)) (v1 := (.slice (some ⟨go24, 0, none⟩) x40_4.length co24)) (ok := (fun k_ => (P1_ k_ ∨ w.heap.size ≤ k_) ∧ some k_ ≠ (.slice Ao28 x6_1.length co28 : Value).ownBlock ∧ some k_ ≠ (.slice Ao61 t327.length co61 : Value).ownBlock ∧ k_ ≠ gb309)) (by (with_reducible repeat (first | apply Kd.qlA | apply Kd.qkA | apply Kd.qzA)); exact Kd.qYB HO_11.out (fun _ hk => ⟨⟨hk.1, ⟨hk.2.1, ⟨hk.2.2.2.1, hk.2.2.2.2⟩⟩⟩, hk.2.2.1⟩)) hg (.inl rfl)); replace HO_15 := aM (Kd.qMB (v := (.slice (some ⟨go24, 0, none⟩) x40_4.length co24)) (rR HO_15) (Kd.qyA HO_10.out) (by decide) hg); replace BK309 := aM (qi (rB BK309) hg (Kd.R_ne HO_10.out BK309.out (by decide))); replace HO_10 := aM (hp_); replace HB := aM ((by rw [hw]; exact qy (HB.out) GB24.out : Below w.heap.size w w64)); clear hg hw hp_) | ((with_reducible refine qJ (f := 19) rfl ?_); refine qr (some 102) rfl rfl Tryd.func19 (by kernel_rfl) rfl #[.int .i64 x58_3, .int .i64 x14_4] rfl gA ?_; (with_reducible refine (qaB.calls kj40 x58_3 x14_4 t335 _ A58.out).mono ?_); rintro e w65 ⟨rfl, hb⟩; refine ⟨_, rfl, ?_⟩; replace HO_1 := aM (Kd.qbC (rV HO_1) hb); replace HO_6 := aM (Kd.qrB (rN HO_6) hb); replace HO_10 := aM (Kd.qd (rR HO_10) hb); replace HO_11 := aM (Kd.qrB (rN HO_11) hb); replace HO_15 := aM (Kd.qd (rR HO_15) hb); replace BK309 := aM (bb BK309 hb); replace HB := aM (qB bl hb); (try clear hb); (try clear hb2); (try clear hk); (try clear hi)) | ((with_reducible refine qpA (b := .append) (xs := #[.tmp 97, .tmp 104]) rfl ?_); at_builtin; refine Kd.N_append k62 (w0 := w) w.heap.size rfl (.tmp 97) (.tmp 104) 35 62 (.agg #[(.slice none 0 0), (.int .i64 0), (.string ⟨#[]⟩)]) 48 rfl Tryd.underlying35 info62 rfl (by decide) (by omega) (.slice (some ad326) x11_4.length co43) x11_4 (⟨t327, x12_2, t335⟩ : S62) [.slice Ao61 t327.length co61, .int .i64 x12_2, .string t335] (fun k_ => (P1_ k_ ∨ w.heap.size ≤ k_) ∧ some k_ ≠ (.slice Ao28 x6_1.length co28 : Value).ownBlock ∧ some k_ ≠ (.slice (some ⟨go24, 0, none⟩) x40_4.length co24 : Value).ownBlock ∧ k_ ≠ gb309) (fun k_ => ((fun k_ => (P1_ k_ ∨ w.heap.size ≤ k_) ∧ some k_ ≠ (.slice Ao28 x6_1.length co28 : Value).ownBlock ∧ some k_ ≠ (.slice (some ⟨go24, 0, none⟩) x40_4.length co24 : Value).ownBlock ∧ k_ ≠ gb309)) k_ ∧ some k_ ≠ (.slice (some ad326) x11_4.length co43 : Value).ownBlock) rfl rfl ?aP (fun _ hk => hk) ?aF ?aO ?aB ?aS ?aL ?_; (case aP => exact (k62_mkF _ _ (⟨t327, x12_2, t335⟩ : S62) (Kd.qP (Kd.qZ (ok' := (fun k_ => ((fun k_ => (P1_ k_ ∨ w.heap.size ≤ k_) ∧ some k_ ≠ (.slice Ao28 x6_1.length co28 : Value).ownBlock ∧ some k_ ≠ (.slice (some ⟨go24, 0, none⟩) x40_4.length co24 : Value).ownBlock ∧ k_ ≠ gb309)) k_ ∧ some k_ ≠ (.slice (some ad326) x11_4.length co43 : Value).ownBlock)) (Kd.qAB (Kd.quB (Kd.quB (Kd.quB (HO_15.out) (Kd.quC HO_6.out) (by decide)) (Kd.qyA HO_10.out) (by decide)) (Kd.quC HO_11.out) (by decide)) BK309.out (by decide)) (fun k_ hk => ⟨⟨(.inr (hk.1.1.1.1)), ⟨hk.1.1.1.2, ⟨hk.1.1.2, hk.2⟩⟩⟩, hk.1.2⟩))).2.1 (Kd.R_F (Kd.qZ (ok' := (fun k_ => ((fun k_ => (P1_ k_ ∨ w.heap.size ≤ k_) ∧ some k_ ≠ (.slice Ao28 x6_1.length co28 : Value).ownBlock ∧ some k_ ≠ (.slice (some ⟨go24, 0, none⟩) x40_4.length co24 : Value).ownBlock ∧ k_ ≠ gb309)) k_ ∧ some k_ ≠ (.slice (some ad326) x11_4.length co43 : Value).ownBlock)) (Kd.qAB (Kd.quB (Kd.quB (Kd.quB (HO_15.out) (Kd.quC HO_6.out) (by decide)) (Kd.qyA HO_10.out) (by decide)) (Kd.quC HO_11.out) (by decide)) BK309.out (by decide)) (fun k_ hk => ⟨⟨(.inr (hk.1.1.1.1)), ⟨hk.1.1.1.2, ⟨hk.1.1.2, hk.2⟩⟩⟩, hk.1.2⟩))))); (case aB => exact bl); (case aF => exact (fun k_ hk => ⟨(.inr (Nat.le_trans (qL bl) hk)), Kd.fresh' (Kd.N_lt (rN HO_6)) k_ hk, Kd.fresh' (Kd.R_lt (rR HO_10)) k_ hk, Kd.freshB (rB BK309) k_ hk⟩)); (case aO => exact (by (with_reducible repeat (first | apply Kd.qlA | apply Kd.qkA | apply Kd.qzA)); exact Kd.qYB HO_11.out (fun _ hk => ⟨hk.1.1, ⟨hk.1.2.1, ⟨hk.2, hk.1.2.2.2⟩⟩⟩))); (case aS => exact (qL bl)); (case aL => have := LMc59.out; omega); intro v337 w66 ho hb hg hat; rw [← Ny336.out] at ho; have HO338 := aM (ho); replace HO_1 := aM (Kd.qQD (ok := (fun k_ => (P1_ k_ ∨ w.heap.size ≤ k_) ∧ some k_ ≠ (.slice Ao28 x6_1.length co28 : Value).ownBlock ∧ some k_ ≠ (.slice (some ⟨go24, 0, none⟩) x40_4.length co24 : Value).ownBlock ∧ some k_ ≠ (.slice Ao61 t327.length co61 : Value).ownBlock ∧ k_ ≠ gb309)) (by (with_reducible repeat (first | apply Kd.qVB | apply Kd.qUB | apply Kd.qqB)); exact Kd.qBC HO_1.out (fun _ hk => ⟨⟨hk.1.1, ⟨hk.1.2.1, ⟨hk.2, ⟨hk.1.2.2.2.1, hk.1.2.2.2.2⟩⟩⟩⟩, hk.1.2.2.1⟩)) hg hat); replace HO_6 := aM (Kd.qSD (ok := (fun k_ => (P1_ k_ ∨ w.heap.size ≤ k_) ∧ some k_ ≠ (.slice (some ⟨go24, 0, none⟩) x40_4.length co24 : Value).ownBlock ∧ some k_ ≠ (.slice Ao61 t327.length co61 : Value).ownBlock ∧ k_ ≠ gb309)) (by (with_reducible repeat (first | apply Kd.qlA | apply Kd.qkA | apply Kd.qzA)); exact Kd.qYB HO_6.out (fun _ hk => ⟨⟨hk.1.1, ⟨hk.2, ⟨hk.1.2.2.1, hk.1.2.2.2⟩⟩⟩, hk.1.2.1⟩)) hg hat); replace HO_10 := aM (Kd.qMB (rR HO_10) (Kd.quC (rN HO_11)) (by decide) hg); replace BK309 := aM (qi (rB BK309) hg (Kd.N_ne HO_11.out BK309.out (by decide))); replace HB := aM (hb); clear HO_11; clear HO_15; clear ho hb hg hat))
                           (try simp only [← hl40_4])
                           go_roundg kj40
                           case measure => have := HK1.out; have := HK2.out; have := HK3.out; have := HK4.out; have := HJ40.out; omega
                           case rel => exact ⟨(y336), (wrap64 (x14_4 + 1)), (y334), sD, H', ⟨by have := HK1.out; have := HK2.out; have := HK3.out; have := HK4.out; have := HJ40.out; omega⟩, ⟨by (try simp only [hl40_2]); (try simp only [hl40_3]); (try simp only [hl40_4]); (with_reducible repeat (first | apply Kd.qVB | apply Kd.qUB | apply Kd.qqB)); exact Kd.qBC HO_1.out (fun _ hk => ⟨hk.1.1, ⟨hk.1.2.1, ⟨hk.2, ⟨hk.1.2.2.1, hk.1.2.2.2.2⟩⟩⟩⟩)⟩, ⟨by (try simp only [hl40_2]); (try simp only [hl40_3]); (try simp only [hl40_4]); (with_reducible repeat (first | apply Kd.qlA | apply Kd.qkA | apply Kd.qzA)); exact Kd.qYB HO_6.out (fun _ hk => ⟨hk.1.1, ⟨hk.2, ⟨hk.1.2.1, hk.1.2.2.2⟩⟩⟩)⟩, ⟨by (try simp only [hl40_2]); (try simp only [hl40_3]); (try simp only [hl40_4]); (with_reducible repeat (first | apply Kd.qlA | apply Kd.qkA | apply Kd.qzA)); exact HO338.out⟩, ⟨by (try simp only [hl40_2]); (try simp only [hl40_3]); (try simp only [hl40_4]); (with_reducible repeat (first | apply Kd.qO | apply Kd.qQ | apply Kd.qS)); exact HO_10.out⟩, ⟨by (try simp only [hl40_2]); (try simp only [hl40_3]); (try simp only [hl40_4]); (with_reducible repeat (first | refine qG ?_ _ | refine qE ?_ | refine qF ?_ _)); exact BK309.out⟩, ⟨bl⟩⟩
                          ·rw [if_neg c59] at H
                           exact absurd H (by simp)
                         ·rw [if_neg c56] at H
                          exact absurd H (by simp)
                        ·rw [if_neg c55] at H
                         exact absurd H (by simp)
                   ·rw [if_neg c39] at H
                    exact absurd H (by simp)
                  ·rw [if_neg c38] at H
                   exact absurd H (by simp)
                 ·rw [if_neg c37] at H
                  have c37b0 := decide_eq_false c37
                  clear c37
                  have H' := aM H
                  clear H
                  go_wp2
                  (try simp only [← hl40_3, ← hl40_4])
                  go_roundg k4
                  case measure => have := HK1.out; have := HK2.out; have := HK3.out; have := HK4.out; omega
                  case rel => exact ⟨(x11_4), (x40_4), (wrap64 (x58_3 + 1)), sD, H', ⟨by have := HK1.out; have := HK2.out; have := HK3.out; have := HK4.out; omega⟩, ⟨by (try simp only [hl40_2]); (try simp only [hl40_3]); (try simp only [hl40_4]); (with_reducible repeat (first | apply Kd.qVB | apply Kd.qUB | apply Kd.qqB)); exact HO_1.out⟩, ⟨by (try simp only [hl40_2]); (try simp only [hl40_3]); (try simp only [hl40_4]); (with_reducible repeat (first | apply Kd.qlA | apply Kd.qkA | apply Kd.qzA)); exact HO_6.out⟩, ⟨by (try simp only [hl40_2]); (try simp only [hl40_3]); (try simp only [hl40_4]); (with_reducible repeat (first | apply Kd.qlA | apply Kd.qkA | apply Kd.qzA)); exact HO_11.out⟩, ⟨by (try simp only [hl40_2]); (try simp only [hl40_3]); (try simp only [hl40_4]); (with_reducible repeat (first | apply Kd.qO | apply Kd.qQ | apply Kd.qS)); exact HO_40.out⟩, ⟨by (try simp only [hl40_2]); (try simp only [hl40_3]); (try simp only [hl40_4]); (with_reducible repeat (first | refine qG ?_ _ | refine qE ?_ | refine qF ?_ _)); exact BK309.out⟩, ⟨bl⟩⟩
              ·rw [if_neg c36] at H
               have c36b0 := decide_eq_false c36
               (try (have c36b0_hl40_2 := c36b0; simp only [hl40_2] at c36b0_hl40_2))
               (try (have c36b0_hl40_3 := c36b0; simp only [hl40_3] at c36b0_hl40_3))
               clear c36
               have H' := aM H
               clear H
               go_wp2
               (try simp only [← hl40_2, ← hl40_3])
               go_roundg k3
               case measure => have := HK1.out; have := HK2.out; have := HK3.out; omega
               case rel => exact ⟨(x11_3), (wrap64 (x12_2 + 1)), (x40_3), sD, H', ⟨by have := HK1.out; have := HK2.out; have := HK3.out; omega⟩, ⟨by (try simp only [hl40_2]); (try simp only [hl40_3]); (with_reducible repeat (first | apply Kd.qVB | apply Kd.qUB | apply Kd.qqB)); exact HO_1.out⟩, ⟨by (try simp only [hl40_2]); (try simp only [hl40_3]); (with_reducible repeat (first | apply Kd.qlA | apply Kd.qkA | apply Kd.qzA)); exact HO_6.out⟩, ⟨by (try simp only [hl40_2]); (try simp only [hl40_3]); (with_reducible repeat (first | apply Kd.qlA | apply Kd.qkA | apply Kd.qzA)); exact HO_11.out⟩, ⟨by (try simp only [hl40_2]); (try simp only [hl40_3]); (with_reducible repeat (first | apply Kd.qO | apply Kd.qQ | apply Kd.qS)); exact HO_40.out⟩, ⟨by (try simp only [hl40_2]); (try simp only [hl40_3]); (with_reducible repeat (first | refine qG ?_ _ | refine qE ?_ | refine qF ?_ _)); exact BK309.out⟩, ⟨bl⟩⟩
           ·rw [if_neg c34] at H
            have c34b0 := decide_eq_false c34
            (try (have c34b0_hl40_2 := c34b0; simp only [hl40_2] at c34b0_hl40_2))
            clear c34
            simp only [Option.some.injEq, Prod.mk.injEq] at H
            obtain ⟨rfl, rfl⟩ := H
            obtain ⟨Ao67, co67, eo67⟩ := Kd.qgD HO_11.out
            subst eo67
            go_wp2
            go_ret2
            exact ⟨_, sR, by (with_reducible repeat (first | apply Kd.qlA | apply Kd.qkA | apply Kd.qzA)); exact Kd.qYB HO_11.out (fun _ hk => hk.1), bl⟩
        ·rw [if_neg c23] at H
         exact absurd H (by simp)
       ·rw [if_neg c22] at H
        exact absurd H (by simp)
      ·rw [if_neg c20] at H
       exact absurd H (by simp)
     ·rw [if_neg c19] at H
      exact absurd H (by simp)
def qgA.f (k : Nat) (a0 : ByteArray) (l1 : List (S41)) : Option (Int × Bool) := (qCA.f k a0 l1).bind fun bt339 => (if bt339.2.2.2 = true then ((qN.f k bt339.1 bt339.2.1 bt339.2.2.1 l1).bind fun bt346 => (some ((bt346.1.length : Int), bt346.2))) else (some (0, false)))
set_option maxHeartbeats 8000000 in
set_option maxRecDepth 100000 in
theorem qgA.calls (k : Nat) (a0 : ByteArray) (A1 : Option Addr) (c1 : Nat) (l1 : List (S41)) (r1 : Int) (r2 : Bool) (w : World) (hr1 : Kd.C k41 w A1 l1.length l1) (hc1 : l1.length ≤ c1) (h : qgA.f k a0 l1 = some (r1, r2)) :
  Calls Tryd.prog 5 #[.string a0, .slice A1 l1.length c1] w fun e w' => e = .returned (.tuple #[.int .i64 r1, .bool r2]) ∧ Below w.heap.size w w' := by
 have hu32 := Tryd.underlying32
 have HR1 := aM hr1
 have HC1 := aM hc1
 clear hr1 hc1
 have HB := aM (Below.refl w.heap.size w)
 have H : ((qCA.f k a0 l1).bind fun bt339 => (if bt339.2.2.2 = true then ((qN.f k bt339.1 bt339.2.1 bt339.2.2.1 l1).bind fun bt346 => (some ((bt346.1.length : Int), bt346.2))) else (some (0, false)))) = some (r1, r2) := h
 clear h
 replace H := bO H
 obtain ⟨⟨t339, t340, t341, t344⟩, A3, H⟩ := H
 dsimp only at H A3
 by_cases c4 : t344 = true
 ·subst c4
  replace H := iT H
  replace H := bO H
  obtain ⟨⟨t346, t349⟩, A5, H⟩ := H
  dsimp only at H A5
  simp only [Option.some.injEq, Prod.mk.injEq] at H
  obtain ⟨rfl, rfl⟩ := H
  go_enter Tryd.func5, Tryd.ntmps5
  go_wp2_with (first | ((with_reducible refine qJ (f := 9) rfl ?_); refine qr (some 13) rfl rfl Tryd.func9 (by kernel_rfl) rfl #[.string a0, .slice A1 l1.length c1] rfl gA ?_; (with_reducible refine (qCA.calls k a0 _ _ l1 t339 t340 t341 true _ ?side1 ?side2 A3.out).mono ?_); (case side1 => repeat (first | exact HR1.out | (with_reducible refine Kd.qW ?_ _) | (with_reducible refine Kd.qV ?_ _) | (with_reducible refine Kd.qe ?_))); (case side2 => exact HC1.out); rintro e w6 ⟨v342, rfl, ho0, hb⟩; refine ⟨_, rfl, ?_⟩; have HO343 := aM (Kd.qx ho0 (qL bl)); replace HB := aM (qB bl hb); (try clear hb); (try clear hb2); (try clear hk); (try clear hi); (try clear ho0)) | ((with_reducible refine qK (N := 6) rfl ?_); refine qH ?hg (N := 6) ?hd (cs := #[.int .i64 0, .int .i64 0, .slice none 0 0]) (t := 32) ?hr ?_; (case hd => rfl); (case hg => rfl); (case hr => exact gS); intro gb345 hg w7 hbox hb; have BK345 := aM (hbox); have GW345 := aM ((gg hg)); have GE345 := aM ((gg hg)); replace HO343 := aM (Kd.qd (rR HO343) hb); replace HB := aM (qB bl hb); clear hb hbox hg; (refine cb3 BK345 ?_; intro _ _ _); (refine cz3 BK345 ?_; intro _ _ _); obtain ⟨Ao9, co9, eo9⟩ := Kd.qBA HO343.out; subst eo9) | ((with_reducible refine qlB (t := 32) (p := 6) rfl ?_); refine qiB (t := 32) (p := 6) (v := ?vo_w10) (w1 := (((w7.setCell ⟨gb345, 0, none⟩ (.int .i64 t339)).setCell ⟨gb345, 1, none⟩ (.int .i64 t340)).setCell ⟨gb345, 2, none⟩ (.slice Ao9 t341.length co9))) ?hg ?ho ?hn ?hr ?_; (case ho => rfl); (case hg => rfl); (case hn => rfl); (case hr => exact gS); intro w10 hw; have n0_ : Aside0 (Kd.R (Kd.int .u8) 5 w10 w.heap.size (fun _ => True) (.slice Ao9 t341.length co9) t341) := ⟨(by rw [hw]; exact (by (with_reducible repeat (first | apply Kd.qO | apply Kd.qQ | apply Kd.qS)); exact Kd.qZ (Kd.R_far (p := ⟨gb345, 2, none⟩) (Kd.R_far (p := ⟨gb345, 1, none⟩) (Kd.R_far (p := ⟨gb345, 0, none⟩) (Kd.qAB HO343.out BK345.out (by decide)) (fun _ hk => hk.2) (.int .i64 t339)) (fun _ hk => hk.2) (.int .i64 t340)) (fun _ hk => hk.2) (.slice Ao9 t341.length co9)) (fun _ hk => trivial)))⟩; have n1_ : Aside0 (w10.heap[gb345]? = some (.cells #[.int .i64 t339, .int .i64 t340, .slice Ao9 t341.length co9] 32 (0, 0))) := ⟨(by rw [hw]; exact (by (with_reducible repeat (first | refine qG ?_ _ | refine qE ?_ | refine qF ?_ _)); exact bP3 BK345))⟩; have n2_ : Aside0 (Below w.heap.size w w10) := ⟨(by rw [hw]; exact bl)⟩; clear hw; clear HO343; clear BK345; clear HB; have HO343 := n0_; have BK345 := n1_; have HB := n2_; clear n0_ n1_ n2_; (refine cb3 BK345 ?_; intro _ _ _); (refine cz3 BK345 ?_; intro _ _ _)) | ((with_reducible refine qJ (f := 10) rfl ?_); refine qr (some 21) rfl rfl Tryd.func10 (by kernel_rfl) rfl #[.agg #[.int .i64 t339, .int .i64 t340, .slice Ao9 t341.length co9], .slice A1 l1.length c1] rfl gA ?_; (with_reducible refine (qN.calls k t339 t340 _ _ t341 (fun k_ => k_ < w.heap.size) _ _ l1 t346 t349 _ ?side1 ?side2 ?side3 A5.out).mono ?_); (case side1 => repeat (first | exact (Kd.qP HO343.out).2.2 | (with_reducible refine Kd.qW ?_ _) | (with_reducible refine Kd.qV ?_ _) | (with_reducible refine Kd.qe ?_))); (case side2 => exact (Kd.qP HO343.out).2.1); (case side3 => exact Kd.V_mk HC1.out (Kd.qhD (Kd.C_F k41_heap HR1.out) bl)); rintro e w12 ⟨v347, rfl, ho0, hb⟩; refine ⟨_, rfl, ?_⟩; have HO348 := aM (Kd.N_lower (Kd.qYB (ok' := fun k_ => some k_ ≠ (.slice Ao9 t341.length co9 : Value).ownBlock ∧ k_ ≠ gb345) ho0 (fun k_ hk_ => ⟨Or.elim hk_ (fun hs_ => fun e_ => Nat.not_le.2 hs_ (Kd.qfA HO343.out k_ e_.symm)) (fun hn_ => (Kd.fresh' (Kd.R_lt (rR HO343)) k_ hn_)), Or.elim hk_ (fun hs_ => fun e_ => Nat.not_le.2 hs_ (by rw [e_]; exact GW345.out)) (fun hn_ => (Kd.freshB (rB BK345) k_ hn_))⟩)) (qL bl)); replace HO343 := aM (Kd.qd (rR HO343) hb); replace BK345 := aM (bb BK345 hb); replace HB := aM (qB bl hb); (try clear hb); (try clear hb2); (try clear hk); (try clear hi); (try clear ho0); obtain ⟨Ao13, co13, eo13⟩ := Kd.qgD HO348.out; subst eo13))
  go_ret2
  exact ⟨sR, bl⟩
 ·replace c4 := Bool.eq_false_iff.mpr c4
  subst c4
  replace H := iF H
  simp only [Option.some.injEq, Prod.mk.injEq] at H
  obtain ⟨rfl, rfl⟩ := H
  go_enter Tryd.func5, Tryd.ntmps5
  go_wp2_with (first | ((with_reducible refine qJ (f := 9) rfl ?_); refine qr (some 13) rfl rfl Tryd.func9 (by kernel_rfl) rfl #[.string a0, .slice A1 l1.length c1] rfl gA ?_; (with_reducible refine (qCA.calls k a0 _ _ l1 t339 t340 t341 false _ ?side1 ?side2 A3.out).mono ?_); (case side1 => repeat (first | exact HR1.out | (with_reducible refine Kd.qW ?_ _) | (with_reducible refine Kd.qV ?_ _) | (with_reducible refine Kd.qe ?_))); (case side2 => exact HC1.out); rintro e w14 ⟨v342, rfl, ho0, hb⟩; refine ⟨_, rfl, ?_⟩; have HO343 := aM (Kd.qx ho0 (qL bl)); replace HB := aM (qB bl hb); (try clear hb); (try clear hb2); (try clear hk); (try clear hi); (try clear ho0)) | ((with_reducible refine qK (N := 6) rfl ?_); refine qH ?hg (N := 6) ?hd (cs := #[.int .i64 0, .int .i64 0, .slice none 0 0]) (t := 32) ?hr ?_; (case hd => rfl); (case hg => rfl); (case hr => exact gS); intro gb345 hg w15 hbox hb; have BK345 := aM (hbox); have GW345 := aM ((gg hg)); have GE345 := aM ((gg hg)); replace HO343 := aM (Kd.qd (rR HO343) hb); replace HB := aM (qB bl hb); clear hb hbox hg; (refine cb3 BK345 ?_; intro _ _ _); (refine cz3 BK345 ?_; intro _ _ _); obtain ⟨Ao17, co17, eo17⟩ := Kd.qBA HO343.out; subst eo17))
  go_ret2
  exact ⟨sR, bl⟩
def qLC.f (a0_0 : Int) (a0_1 : Int) (a0_2 : Int) (a0_3 : Int) (a0_4 : Int) (a0_5 : Int) : Option (Int × Int × Int × Int × Int × Int) := some (a0_0, a0_1, a0_2, a0_3, a0_4, a0_5)
set_option maxHeartbeats 8000000 in
set_option maxRecDepth 100000 in
theorem qLC.calls (a0_0 : Int) (a0_1 : Int) (a0_2 : Int) (a0_3 : Int) (a0_4 : Int) (a0_5 : Int) (r1 : Int) (r2 : Int) (r3 : Int) (r4 : Int) (r5 : Int) (r6 : Int) (w : World) (h : qLC.f a0_0 a0_1 a0_2 a0_3 a0_4 a0_5 = some (r1, r2, r3, r4, r5, r6)) :
  Calls Tryd.prog 20 #[.agg #[.int .i64 a0_0, .int .i64 a0_1, .int .i64 a0_2, .int .i64 a0_3, .int .i64 a0_4, .int .i64 a0_5]] w fun e w' => e = .returned (.agg #[.int .i64 r1, .int .i64 r2, .int .i64 r3, .int .i64 r4, .int .i64 r5, .int .i64 r6]) ∧ Below w.heap.size w w' := by
 have hu43 := Tryd.underlying43
 have hu39 := Tryd.underlying39
 have HB := aM (Below.refl w.heap.size w)
 have H : (some (a0_0, a0_1, a0_2, a0_3, a0_4, a0_5)) = some (r1, r2, r3, r4, r5, r6) := h
 clear h
 simp only [Option.some.injEq, Prod.mk.injEq] at H
 obtain ⟨rfl, rfl, rfl, rfl, rfl, rfl⟩ := H
 go_enter Tryd.func20, Tryd.ntmps20
 go_wp2_with (first | ((with_reducible refine qK (N := 1) rfl ?_); refine qH ?hg (N := 1) ?hd (cs := #[.int .i64 a0_0, .int .i64 a0_1, .int .i64 a0_2, .int .i64 a0_3, .int .i64 a0_4, .int .i64 a0_5]) (t := 43) ?hr ?_; (case hd => rfl); (case hg => rfl); (case hr => exact gS); intro gb350 hg w2 hbox hb; have BK350 := aM (hbox); have GW350 := aM ((gg hg)); have GE350 := aM ((gg hg)); replace HB := aM (qB bl hb); clear hb hbox hg) | ((with_reducible refine qK (N := 2) rfl ?_); refine qH ?hg (N := 2) ?hd (cs := #[.int .i64 0, .int .i64 0, .int .i64 0, .int .i64 0, .int .i64 0, .int .i64 0]) (t := 39) ?hr ?_; (case hd => rfl); (case hg => rfl); (case hr => exact gS); intro gb351 hg w3 hbox hb; have BK351 := aM (hbox); have GW351 := aM ((gg hg)); have GE351 := aM ((gg hg)); have NB350_351 := aM ((nl BK350 hg)); have NB351_350 := aM ((nr BK350 hg)); replace BK350 := aM (bb BK350 hb); replace HB := aM (qB bl hb); clear hb hbox hg) | ((with_reducible refine qK (N := 3) rfl ?_); refine qH ?hg (N := 3) ?hd (cs := #[.int .i64 0, .int .i64 0, .int .i64 0, .int .i64 0, .int .i64 0, .int .i64 0]) (t := 39) ?hr ?_; (case hd => rfl); (case hg => rfl); (case hr => exact gS); intro gb352 hg w4 hbox hb; have BK352 := aM (hbox); have GW352 := aM ((gg hg)); have GE352 := aM ((gg hg)); have NB350_352 := aM ((nl BK350 hg)); have NB352_350 := aM ((nr BK350 hg)); have NB351_352 := aM ((nl BK351 hg)); have NB352_351 := aM ((nr BK351 hg)); replace BK350 := aM (bb BK350 hb); replace BK351 := aM (bb BK351 hb); replace HB := aM (qB bl hb); clear hb hbox hg; have hnb5 := NB350_351.out; have hnc5 := NB351_350.out; have hnb6 := NB350_352.out; have hnc6 := NB352_350.out; (refine cb6 BK350 ?_; intro _ _ _ _ _ _); (refine cz6 BK350 ?_; intro _ _ _ _ _ _); have hnb8 := NB352_351.out; have hnc8 := NB351_352.out; (refine cb6 BK352 ?_; intro _ _ _ _ _ _); (refine cz6 BK352 ?_; intro _ _ _ _ _ _); (refine cb6 BK351 ?_; intro _ _ _ _ _ _); (refine cz6 BK351 ?_; intro _ _ _ _ _ _)))
 refine bodyPost_ret (results_cell_row rfl _ _ gb351 39 #[.int .i64 a0_0, .int .i64 a0_1, .int .i64 a0_2, .int .i64 a0_3, .int .i64 a0_4, .int .i64 a0_5] (0, 0) _ rfl (by (with_reducible repeat (first | refine qG ?_ _ | refine qE ?_ | refine qF ?_ _)); refine qAA (cs := #[.int .i64 a0_0, .int .i64 a0_1, .int .i64 a0_2, .int .i64 a0_3, .int .i64 a0_4, .int .i64 0]) ?_ 5 _ rfl; (with_reducible repeat (first | refine qG ?_ _ | refine qE ?_ | refine qF ?_ _)); refine qAA (cs := #[.int .i64 a0_0, .int .i64 a0_1, .int .i64 a0_2, .int .i64 a0_3, .int .i64 0, .int .i64 0]) ?_ 4 _ rfl; (with_reducible repeat (first | refine qG ?_ _ | refine qE ?_ | refine qF ?_ _)); refine qAA (cs := #[.int .i64 a0_0, .int .i64 a0_1, .int .i64 a0_2, .int .i64 0, .int .i64 0, .int .i64 0]) ?_ 3 _ rfl; (with_reducible repeat (first | refine qG ?_ _ | refine qE ?_ | refine qF ?_ _)); refine qAA (cs := #[.int .i64 a0_0, .int .i64 a0_1, .int .i64 0, .int .i64 0, .int .i64 0, .int .i64 0]) ?_ 2 _ rfl; (with_reducible repeat (first | refine qG ?_ _ | refine qE ?_ | refine qF ?_ _)); refine qAA (cs := #[.int .i64 a0_0, .int .i64 0, .int .i64 0, .int .i64 0, .int .i64 0, .int .i64 0]) ?_ 1 _ rfl; (with_reducible repeat (first | refine qG ?_ _ | refine qE ?_ | refine qF ?_ _)); refine qAA (cs := #[.int .i64 0, .int .i64 0, .int .i64 0, .int .i64 0, .int .i64 0, .int .i64 0]) ?_ 0 _ rfl; (with_reducible repeat (first | refine qG ?_ _ | refine qE ?_ | refine qF ?_ _)); refine qIB ?_ NB351_352.out _; (with_reducible repeat (first | refine qG ?_ _ | refine qE ?_ | refine qF ?_ _)); refine qIB ?_ NB351_352.out _; (with_reducible repeat (first | refine qG ?_ _ | refine qE ?_ | refine qF ?_ _)); refine qIB ?_ NB351_352.out _; (with_reducible repeat (first | refine qG ?_ _ | refine qE ?_ | refine qF ?_ _)); refine qIB ?_ NB351_352.out _; (with_reducible repeat (first | refine qG ?_ _ | refine qE ?_ | refine qF ?_ _)); refine qIB ?_ NB351_352.out _; (with_reducible repeat (first | refine qG ?_ _ | refine qE ?_ | refine qF ?_ _)); refine qIB ?_ NB351_352.out _; (with_reducible repeat (first | refine qG ?_ _ | refine qE ?_ | refine qF ?_ _)); exact BK351.out) Tryd.underlying39 rfl (by kernel_rfl)) rfl ?_
 exact ⟨sR, bl⟩
def qoB.f (a0_0 : Int) (a0_1 : Int) (a0_2 : Int) (a0_3 : Int) (a0_4 : Int) (a0_5 : Int) (a0_6 : Int) (a0_7 : Int) : Option (Int × Int × Int × Int × Int × Int × Int × Int) := (qLC.f a0_2 a0_3 a0_4 a0_5 a0_6 a0_7).bind fun bt356 => (some (a0_0, a0_1, bt356.1, bt356.2.1, bt356.2.2.1, bt356.2.2.2.1, bt356.2.2.2.2.1, bt356.2.2.2.2.2))
set_option maxHeartbeats 8000000 in
set_option maxRecDepth 100000 in
theorem qoB.calls (a0_0 : Int) (a0_1 : Int) (a0_2 : Int) (a0_3 : Int) (a0_4 : Int) (a0_5 : Int) (a0_6 : Int) (a0_7 : Int) (r1 : Int) (r2 : Int) (r3 : Int) (r4 : Int) (r5 : Int) (r6 : Int) (r7 : Int) (r8 : Int) (w : World) (h : qoB.f a0_0 a0_1 a0_2 a0_3 a0_4 a0_5 a0_6 a0_7 = some (r1, r2, r3, r4, r5, r6, r7, r8)) :
  Calls Tryd.prog 11 #[.agg #[.int .i64 a0_0, .int .i64 a0_1, .int .i64 a0_2, .int .i64 a0_3, .int .i64 a0_4, .int .i64 a0_5, .int .i64 a0_6, .int .i64 a0_7]] w fun e w' => e = .returned (.agg #[.int .i64 r1, .int .i64 r2, .int .i64 r3, .int .i64 r4, .int .i64 r5, .int .i64 r6, .int .i64 r7, .int .i64 r8]) ∧ Below w.heap.size w w' := by
 have hu45 := Tryd.underlying45
 have hu41 := Tryd.underlying41
 have hu43 := Tryd.underlying43
 have hu39 := Tryd.underlying39
 have HB := aM (Below.refl w.heap.size w)
 have H : ((qLC.f a0_2 a0_3 a0_4 a0_5 a0_6 a0_7).bind fun bt356 => (some (a0_0, a0_1, bt356.1, bt356.2.1, bt356.2.2.1, bt356.2.2.2.1, bt356.2.2.2.2.1, bt356.2.2.2.2.2))) = some (r1, r2, r3, r4, r5, r6, r7, r8) := h
 clear h
 replace H := bO H
 obtain ⟨⟨t356, t357, t358, t359, t360, t361⟩, A2, H⟩ := H
 dsimp only at H A2
 simp only [Option.some.injEq, Prod.mk.injEq] at H
 obtain ⟨rfl, rfl, rfl, rfl, rfl, rfl, rfl, rfl⟩ := H
 go_enter Tryd.func11, Tryd.ntmps11
 go_wp2_with (first | ((with_reducible refine qK (N := 1) rfl ?_); refine qH ?hg (N := 1) ?hd (cs := #[.int .i64 a0_0, .int .i64 a0_1, .int .i64 a0_2, .int .i64 a0_3, .int .i64 a0_4, .int .i64 a0_5, .int .i64 a0_6, .int .i64 a0_7]) (t := 45) ?hr ?_; (case hd => rfl); (case hg => rfl); (case hr => exact gS); intro gb353 hg w3 hbox hb; have BK353 := aM (hbox); have GW353 := aM ((gg hg)); have GE353 := aM ((gg hg)); replace HB := aM (qB bl hb); clear hb hbox hg) | ((with_reducible refine qK (N := 2) rfl ?_); refine qH ?hg (N := 2) ?hd (cs := #[.int .i64 0, .int .i64 0, .int .i64 0, .int .i64 0, .int .i64 0, .int .i64 0, .int .i64 0, .int .i64 0]) (t := 41) ?hr ?_; (case hd => rfl); (case hg => rfl); (case hr => exact gS); intro gb354 hg w4 hbox hb; have BK354 := aM (hbox); have GW354 := aM ((gg hg)); have GE354 := aM ((gg hg)); have NB353_354 := aM ((nl BK353 hg)); have NB354_353 := aM ((nr BK353 hg)); replace BK353 := aM (bb BK353 hb); replace HB := aM (qB bl hb); clear hb hbox hg) | ((with_reducible refine qK (N := 3) rfl ?_); refine qH ?hg (N := 3) ?hd (cs := #[.int .i64 0, .int .i64 0, .int .i64 0, .int .i64 0, .int .i64 0, .int .i64 0, .int .i64 0, .int .i64 0]) (t := 41) ?hr ?_; (case hd => rfl); (case hg => rfl); (case hr => exact gS); intro gb355 hg w5 hbox hb; have BK355 := aM (hbox); have GW355 := aM ((gg hg)); have GE355 := aM ((gg hg)); have NB353_355 := aM ((nl BK353 hg)); have NB355_353 := aM ((nr BK353 hg)); have NB354_355 := aM ((nl BK354 hg)); have NB355_354 := aM ((nr BK354 hg)); replace BK353 := aM (bb BK353 hb); replace BK354 := aM (bb BK354 hb); replace HB := aM (qB bl hb); clear hb hbox hg; have hnb6 := NB353_354.out; have hnc6 := NB354_353.out; have hnb7 := NB353_355.out; have hnc7 := NB355_353.out; (refine cb8 BK353 ?_; intro _ _ _ _ _ _ _ _); (refine cz8 BK353 ?_; intro _ _ _ _ _ _ _ _); have hnb9 := NB355_354.out; have hnc9 := NB354_355.out; (refine cb8 BK355 ?_; intro _ _ _ _ _ _ _ _); (refine cz8 BK355 ?_; intro _ _ _ _ _ _ _ _)) | ((with_reducible refine qJ (f := 20) rfl ?_); refine qr (some 12) rfl rfl Tryd.func20 (by kernel_rfl) rfl #[.agg #[.int .i64 a0_2, .int .i64 a0_3, .int .i64 a0_4, .int .i64 a0_5, .int .i64 a0_6, .int .i64 a0_7]] rfl gA ?_; (with_reducible refine (qLC.calls a0_2 a0_3 a0_4 a0_5 a0_6 a0_7 t356 t357 t358 t359 t360 t361 _ A2.out).mono ?_); rintro e w11 ⟨rfl, hb⟩; refine ⟨_, rfl, ?_⟩; replace BK353 := aM (qPA (g := gb353) (o := .cells #[.int .i64 a0_0, .int .i64 a0_1, .int .i64 a0_2, .int .i64 a0_3, .int .i64 a0_4, .int .i64 a0_5, .int .i64 a0_6, .int .i64 a0_7] 45 (0, 0)) (bF BK353 NB353_355) hb); replace BK354 := aM (qPA (g := gb354) (o := .cells #[.int .i64 0, .int .i64 0, .int .i64 0, .int .i64 0, .int .i64 0, .int .i64 0, .int .i64 0, .int .i64 0] 41 (0, 0)) (bF BK354 NB354_355) hb); replace BK355 := aM (qPA (g := gb355) (o := .cells #[.int .i64 a0_0, .int .i64 a0_1, .int .i64 0, .int .i64 0, .int .i64 0, .int .i64 0, .int .i64 0, .int .i64 0] 41 (0, 0)) (by (with_reducible repeat (first | refine qG ?_ _ | refine qE ?_ | refine qF ?_ _)); refine qAA (cs := #[.int .i64 a0_0, .int .i64 0, .int .i64 0, .int .i64 0, .int .i64 0, .int .i64 0, .int .i64 0, .int .i64 0]) ?_ 1 _ rfl; (with_reducible repeat (first | refine qG ?_ _ | refine qE ?_ | refine qF ?_ _)); refine qAA (cs := #[.int .i64 0, .int .i64 0, .int .i64 0, .int .i64 0, .int .i64 0, .int .i64 0, .int .i64 0, .int .i64 0]) ?_ 0 _ rfl; (with_reducible repeat (first | refine qG ?_ _ | refine qE ?_ | refine qF ?_ _)); exact BK355.out) hb); replace HB := aM (qB bl hb); (try clear hb); (try clear hb2); (try clear hk); (try clear hi); (refine cb8 BK355 ?_; intro _ _ _ _ _ _ _ _); (refine cz8 BK355 ?_; intro _ _ _ _ _ _ _ _); (refine cb8 BK354 ?_; intro _ _ _ _ _ _ _ _); (refine cz8 BK354 ?_; intro _ _ _ _ _ _ _ _)))
 refine bodyPost_ret (results_cell_row rfl _ _ gb354 41 #[.int .i64 a0_0, .int .i64 a0_1, .int .i64 t356, .int .i64 t357, .int .i64 t358, .int .i64 t359, .int .i64 t360, .int .i64 t361] (0, 0) _ rfl (by (with_reducible repeat (first | refine qG ?_ _ | refine qE ?_ | refine qF ?_ _)); refine qAA (cs := #[.int .i64 a0_0, .int .i64 a0_1, .int .i64 t356, .int .i64 t357, .int .i64 t358, .int .i64 t359, .int .i64 t360, .int .i64 0]) ?_ 7 _ rfl; (with_reducible repeat (first | refine qG ?_ _ | refine qE ?_ | refine qF ?_ _)); refine qAA (cs := #[.int .i64 a0_0, .int .i64 a0_1, .int .i64 t356, .int .i64 t357, .int .i64 t358, .int .i64 t359, .int .i64 0, .int .i64 0]) ?_ 6 _ rfl; (with_reducible repeat (first | refine qG ?_ _ | refine qE ?_ | refine qF ?_ _)); refine qAA (cs := #[.int .i64 a0_0, .int .i64 a0_1, .int .i64 t356, .int .i64 t357, .int .i64 t358, .int .i64 0, .int .i64 0, .int .i64 0]) ?_ 5 _ rfl; (with_reducible repeat (first | refine qG ?_ _ | refine qE ?_ | refine qF ?_ _)); refine qAA (cs := #[.int .i64 a0_0, .int .i64 a0_1, .int .i64 t356, .int .i64 t357, .int .i64 0, .int .i64 0, .int .i64 0, .int .i64 0]) ?_ 4 _ rfl; (with_reducible repeat (first | refine qG ?_ _ | refine qE ?_ | refine qF ?_ _)); refine qAA (cs := #[.int .i64 a0_0, .int .i64 a0_1, .int .i64 t356, .int .i64 0, .int .i64 0, .int .i64 0, .int .i64 0, .int .i64 0]) ?_ 3 _ rfl; (with_reducible repeat (first | refine qG ?_ _ | refine qE ?_ | refine qF ?_ _)); refine qAA (cs := #[.int .i64 a0_0, .int .i64 a0_1, .int .i64 0, .int .i64 0, .int .i64 0, .int .i64 0, .int .i64 0, .int .i64 0]) ?_ 2 _ rfl; (with_reducible repeat (first | refine qG ?_ _ | refine qE ?_ | refine qF ?_ _)); refine qAA (cs := #[.int .i64 a0_0, .int .i64 0, .int .i64 0, .int .i64 0, .int .i64 0, .int .i64 0, .int .i64 0, .int .i64 0]) ?_ 1 _ rfl; (with_reducible repeat (first | refine qG ?_ _ | refine qE ?_ | refine qF ?_ _)); refine qAA (cs := #[.int .i64 0, .int .i64 0, .int .i64 0, .int .i64 0, .int .i64 0, .int .i64 0, .int .i64 0, .int .i64 0]) ?_ 0 _ rfl; (with_reducible repeat (first | refine qG ?_ _ | refine qE ?_ | refine qF ?_ _)); refine qIB ?_ NB354_355.out _; (with_reducible repeat (first | refine qG ?_ _ | refine qE ?_ | refine qF ?_ _)); refine qIB ?_ NB354_355.out _; (with_reducible repeat (first | refine qG ?_ _ | refine qE ?_ | refine qF ?_ _)); refine qIB ?_ NB354_355.out _; (with_reducible repeat (first | refine qG ?_ _ | refine qE ?_ | refine qF ?_ _)); refine qIB ?_ NB354_355.out _; (with_reducible repeat (first | refine qG ?_ _ | refine qE ?_ | refine qF ?_ _)); refine qIB ?_ NB354_355.out _; (with_reducible repeat (first | refine qG ?_ _ | refine qE ?_ | refine qF ?_ _)); refine qIB ?_ NB354_355.out _; (with_reducible repeat (first | refine qG ?_ _ | refine qE ?_ | refine qF ?_ _)); exact BK354.out) Tryd.underlying41 rfl (by kernel_rfl)) rfl ?_
 exact ⟨sR, bl⟩
def qo.l0 : Nat → List (S45) → Int → List (S41) → Option ((List (S41)))
 | 0, _, _, _ => none
 | k + 1, x0, x4, x7 => if x4 < (x0.length : Int) then (if 0 ≤ x4 then ((qoB.f ((qnA x0 x4).f0) ((qnA x0 x4).f1) ((qnA x0 x4).f2.f0) ((qnA x0 x4).f2.f1) ((qnA x0 x4).f2.f2) ((qnA x0 x4).f2.f3) ((qnA x0 x4).f2.f4) ((qnA x0 x4).f2.f5)).bind fun bt366 => (if x4 < (x7.length : Int) then (qo.l0 k x0 (wrap64 (x4 + 1)) (x7.set (x4 : Int).toNat (⟨bt366.1, bt366.2.1, (⟨bt366.2.2.1, bt366.2.2.2.1, bt366.2.2.2.2.1, bt366.2.2.2.2.2.1, bt366.2.2.2.2.2.2.1, bt366.2.2.2.2.2.2.2⟩ : S39)⟩ : S41))) else (none))) else (none)) else (some x7)
def qo.f (k : Nat) (l0 : List (S45)) : Option ((List (S41))) := if 0 ≤ (l0.length : Int) then (if ((l0.length : Int) : Int).toNat ≤ 4398046511104 then (qo.l0 k l0 0 (List.replicate ((l0.length : Int) : Int).toNat z41)) else (none)) else (none)
set_option maxHeartbeats 8000000 in
set_option maxRecDepth 100000 in
theorem qo.calls (k : Nat) (A0 : Option Addr) (c0 : Nat) (l0 : List (S45)) (r : List (S41)) (w : World) (hr0 : Kd.C k45 w A0 l0.length l0) (hc0 : l0.length ≤ c0) (h : qo.f k l0 = some r) :
  Calls Tryd.prog 6 #[.slice A0 l0.length c0] w fun e w' => ∃ v0_ : Value, e = .returned (v0_) ∧ Kd.R k41 41 w' w.heap.size (fun _ => True) v0_ r ∧ Below w.heap.size w w' := by
 have hu45 := Tryd.underlying45
 have hu41 := Tryd.underlying41
 have HR0 := aM hr0
 have HC0 := aM hc0
 clear hr0 hc0
 have HB := aM (Below.refl w.heap.size w)
 have H : (if 0 ≤ (l0.length : Int) then (if ((l0.length : Int) : Int).toNat ≤ 4398046511104 then (qo.l0 k l0 0 (List.replicate ((l0.length : Int) : Int).toNat z41)) else (none)) else (none)) = some r := h
 clear h
 by_cases c2 : 0 ≤ (l0.length : Int)
 ·rw [if_pos c2] at H
  have c2b0 := eq_true c2
  have c2b1 := decide_eq_true c2
  clear c2
  by_cases c3 : ((l0.length : Int) : Int).toNat ≤ 4398046511104
  ·rw [if_pos c3] at H
   have c3b0 := eq_true c3
   have c3b1 := decide_eq_true c3
   clear c3
   obtain ⟨y362, hy362⟩ : ∃ y_ : List (S41), y_ = (List.replicate ((l0.length : Int) : Int).toNat z41) := ⟨_, rfl⟩
   replace H : (qo.l0 k l0 0 y362) = some r := by first | (rw [hy362]; with_reducible exact H) | (have H2_ := (Option.bind_some _ _).symm.trans H; rw [hy362]; with_reducible exact H2_) | (have H2_ := (Option.bind_some _ _).symm.trans H; with_reducible exact H2_) | with_reducible exact H | (rw [hy362]; exact H) | exact H
   have Ny362 := aM hy362
   clear hy362
   have H' := aM H
   clear H
   go_enter Tryd.func6, Tryd.ntmps6
   go_wp2_with (first | ((with_reducible refine qK (N := 7) rfl ?_); refine Kd.R_make k41 _ 41 rfl (N := 7) rfl 26 _ _ rfl (l0.length : Int) rfl rfl Tryd.underlying26 (.agg #[(.int .i64 0), (.int .i64 0), (.int .i64 0), (.int .i64 0), (.int .i64 0), (.int .i64 0), (.int .i64 0), (.int .i64 0)]) 64 info41 rfl (by decide) (by omega) z41 (ok := fun _ => True) (okp := fun _ => True) (quD _ _ _ z41 ) (fun _ hk => hk) trivial (of_decide_eq_true am) (Nat.le_trans (Nat.mul_le_mul_right _ (of_decide_eq_true am : (l0.length : Int).toNat ≤ 4398046511104)) (by omega)) (Below.refl _ _) (Nat.le_refl _) ?_; intro v363 w4 ho5 hb hg_ hnew_; clear hg_ hnew_; (first | rw [← Ny362.out] at ho5 | (simp only [Int.reduceToNat] at ho5; rw [← Ny362.out] at ho5)); have HO364 := aM (Kd.qx ho5 (qL bl)); replace HB := aM (qB bl hb); clear hb ho5))
   go_loopg [4] k (fun kq v4 w' => ∃ (x4_1 : Int) (x7_1 : List (S41)), v4 = .int .i64 x4_1 ∧ Aside0 (qo.l0 kq l0 x4_1 x7_1 = some r) ∧ Aside0 (kq ≤ k) ∧ Aside0 (Kd.R k41 41 w' w.heap.size (fun _ => True) v363 x7_1) ∧ Aside0 (Below w.heap.size w w'))
   case atStart => exact ⟨(0), (y362), sD, H', ⟨Nat.le_refl _⟩, ⟨rR HO364⟩, ⟨bl⟩⟩
   case round =>
    clear H'; (try clear c2); (try clear c2b0); (try clear c2b1); (try clear p2); (try clear c3); (try clear c3b0); (try clear c3b1)
    obtain ⟨x4_1, x7_1, rfl, HA, HK1, HO_7, HB⟩ := hrel
    cases gk with
    | zero => exact absurd HA.out (by simp [qo.l0])
    | succ k1 =>
     have H := HA.out
     clear HA
     simp only [qo.l0] at H
     by_cases c6 : x4_1 < (l0.length : Int)
     ·rw [if_pos c6] at H
      have c6b0 := decide_eq_true c6
      clear c6
      by_cases c7 : 0 ≤ x4_1
      ·rw [if_pos c7] at H
       have c7b0 := decide_eq_true c7
       clear c7
       replace H := bO H
       obtain ⟨⟨t366, t367, t368, t369, t370, t371, t372, t373⟩, A8, H⟩ := H
       dsimp only at H A8
       by_cases c9 : x4_1 < (x7_1.length : Int)
       ·rw [if_pos c9] at H
        have c9b0 := decide_eq_true c9
        clear c9
        obtain ⟨y374, hy374⟩ : ∃ y_ : List (S41), y_ = (x7_1.set (x4_1 : Int).toNat (⟨t366, t367, (⟨t368, t369, t370, t371, t372, t373⟩ : S39)⟩ : S41)) := ⟨_, rfl⟩
        replace H : (qo.l0 k1 l0 (wrap64 (x4_1 + 1)) y374) = some r := by first | (rw [hy374]; with_reducible exact H) | (have H2_ := (Option.bind_some _ _).symm.trans H; rw [hy374]; with_reducible exact H2_) | (have H2_ := (Option.bind_some _ _).symm.trans H; with_reducible exact H2_) | with_reducible exact H | (rw [hy374]; exact H) | exact H
        have Ny374 := aM hy374
        clear hy374
        have H' := aM H
        clear H
        have p365 : 0 ≤ (x4_1 : Int) := of_decide_eq_true am
        have q365 : x4_1 < (l0.length : Int) := of_decide_eq_true am
        obtain ⟨ad365, e365, hx365_0, hx365_1, hx365_2, hx365_3, hx365_4, hx365_5, hx365_6, hx365_7⟩ := at_T45 HR0.out x4_1 p365 q365
        cases e365
        replace hx365_0 := (HB.out.cell (World.block_lt_of_cell? w _ hx365_0)).trans hx365_0
        replace hx365_1 := (HB.out.cell (World.block_lt_of_cell? w _ hx365_1)).trans hx365_1
        replace hx365_2 := (HB.out.cell (World.block_lt_of_cell? w _ hx365_2)).trans hx365_2
        replace hx365_3 := (HB.out.cell (World.block_lt_of_cell? w _ hx365_3)).trans hx365_3
        replace hx365_4 := (HB.out.cell (World.block_lt_of_cell? w _ hx365_4)).trans hx365_4
        replace hx365_5 := (HB.out.cell (World.block_lt_of_cell? w _ hx365_5)).trans hx365_5
        replace hx365_6 := (HB.out.cell (World.block_lt_of_cell? w _ hx365_6)).trans hx365_6
        replace hx365_7 := (HB.out.cell (World.block_lt_of_cell? w _ hx365_7)).trans hx365_7
        replace p365 := eq_true p365
        replace q365 := eq_true q365
        go_wp2_with (first | ((with_reducible refine qJ (f := 11) rfl ?_); refine qr (some 20) rfl rfl Tryd.func11 (by kernel_rfl) rfl #[.agg #[.int .i64 ((qnA l0 x4_1).f0), .int .i64 ((qnA l0 x4_1).f1), .int .i64 ((qnA l0 x4_1).f2.f0), .int .i64 ((qnA l0 x4_1).f2.f1), .int .i64 ((qnA l0 x4_1).f2.f2), .int .i64 ((qnA l0 x4_1).f2.f3), .int .i64 ((qnA l0 x4_1).f2.f4), .int .i64 ((qnA l0 x4_1).f2.f5)]] rfl gA ?_; (with_reducible refine (qoB.calls ((qnA l0 x4_1).f0) ((qnA l0 x4_1).f1) ((qnA l0 x4_1).f2.f0) ((qnA l0 x4_1).f2.f1) ((qnA l0 x4_1).f2.f2) ((qnA l0 x4_1).f2.f3) ((qnA l0 x4_1).f2.f4) ((qnA l0 x4_1).f2.f5) t366 t367 t368 t369 t370 t371 t372 t373 _ A8.out).mono ?_); rintro e w11 ⟨rfl, hb⟩; refine ⟨_, rfl, ?_⟩; replace HO_7 := aM (Kd.qd (rR HO_7) hb); replace HB := aM (qB bl hb); (try clear hb); (try clear hb2); (try clear hk); (try clear hi); have p10 : 0 ≤ (x4_1 : Int) := of_decide_eq_true am; have q10 : (x4_1 : Int) < ((x7_1.length : Int) : Int) := of_decide_eq_true am; obtain ⟨go10, co10, eo10, gb10, gl10, cl10, HG10⟩ := Kd.qNE HO_7.out (by omega); (first | cases eo10 | (injection eo10 with ea_ en_ ec_; (first | subst ea_ | (injection ea_ with ea_; subst ea_)); subst ec_; clear en_)); have GB10 := aM gb10; have GG10 := aM HG10; clear gb10 gl10 HG10; obtain ⟨ce10, hcl10, hM10, hcc10, hfr10⟩ := Kd.qfD HO_7.out z41 (x4_1 : Int) p10 q10; obtain rfl := qMC hM10; have hx10_0 : w11.cell? ⟨go10, (x4_1 : Int).toNat * 8, none⟩ = some (.int .i64 ((qA x7_1 x4_1).f0)) := hcc10 0 _ rfl; have hx10_1 : w11.cell? ⟨go10, (x4_1 : Int).toNat * 8 + 1, none⟩ = some (.int .i64 ((qA x7_1 x4_1).f1)) := hcc10 1 _ rfl; have hx10_2 : w11.cell? ⟨go10, (x4_1 : Int).toNat * 8 + 2, none⟩ = some (.int .i64 ((qA x7_1 x4_1).f2.f0)) := hcc10 2 _ rfl; have hx10_3 : w11.cell? ⟨go10, (x4_1 : Int).toNat * 8 + 3, none⟩ = some (.int .i64 ((qA x7_1 x4_1).f2.f1)) := hcc10 3 _ rfl; have hx10_4 : w11.cell? ⟨go10, (x4_1 : Int).toNat * 8 + 4, none⟩ = some (.int .i64 ((qA x7_1 x4_1).f2.f2)) := hcc10 4 _ rfl; have hx10_5 : w11.cell? ⟨go10, (x4_1 : Int).toNat * 8 + 5, none⟩ = some (.int .i64 ((qA x7_1 x4_1).f2.f3)) := hcc10 5 _ rfl; have hx10_6 : w11.cell? ⟨go10, (x4_1 : Int).toNat * 8 + 6, none⟩ = some (.int .i64 ((qA x7_1 x4_1).f2.f4)) := hcc10 6 _ rfl; have hx10_7 : w11.cell? ⟨go10, (x4_1 : Int).toNat * 8 + 7, none⟩ = some (.int .i64 ((qA x7_1 x4_1).f2.f5)) := hcc10 7 _ rfl; have hf10_0 : w11.frozen? ⟨go10, (x4_1 : Int).toNat * 8, none⟩ = false := hfr10 0; have hf10_1 : w11.frozen? ⟨go10, (x4_1 : Int).toNat * 8 + 1, none⟩ = false := hfr10 1; have hf10_2 : w11.frozen? ⟨go10, (x4_1 : Int).toNat * 8 + 2, none⟩ = false := hfr10 2; have hf10_3 : w11.frozen? ⟨go10, (x4_1 : Int).toNat * 8 + 3, none⟩ = false := hfr10 3; have hf10_4 : w11.frozen? ⟨go10, (x4_1 : Int).toNat * 8 + 4, none⟩ = false := hfr10 4; have hf10_5 : w11.frozen? ⟨go10, (x4_1 : Int).toNat * 8 + 5, none⟩ = false := hfr10 5; have hf10_6 : w11.frozen? ⟨go10, (x4_1 : Int).toNat * 8 + 6, none⟩ = false := hfr10 6; have hf10_7 : w11.frozen? ⟨go10, (x4_1 : Int).toNat * 8 + 7, none⟩ = false := hfr10 7; clear hcl10 hcc10 hfr10 hM10; replace p10 := eq_true p10; replace q10 := eq_true q10; have HX12 := aM (show Kd.R k41 41 w11 w.heap.size (fun _ => True) (.slice (some ⟨go10, 0, none⟩) x7_1.length co10) x7_1 from (rR HO_7)); obtain ⟨ce12, hcl12, hM12, hcc12, hfr12⟩ := Kd.qfD HX12.out z41 (x4_1 : Int) (of_decide_eq_true am) (by have h_ : (x4_1 : Int) < ((x7_1.length : Int) : Int) := of_decide_eq_true am; first | exact h_ | (have e_ := (Kd.qP HO_7.out).1; omega) | simpa using h_); obtain rfl := qMC hM12; have HP12 := Kd.R_seg HX12.out (x4_1 : Int) (of_decide_eq_true am) (by have h_ : (x4_1 : Int) < ((x7_1.length : Int) : Int) := of_decide_eq_true am; first | exact h_ | (have e_ := (Kd.qP HO_7.out).1; omega) | simpa using h_) (seg := [.int .i64 t366, .int .i64 t367, .int .i64 t368, .int .i64 t369, .int .i64 t370, .int .i64 t371, .int .i64 t372, .int .i64 t373]) (j := 0) hcl12 hcc12 (show 8 ≤ 8 from by decide) (x' := (⟨t366, t367, (⟨t368, t369, t370, t371, t372, t373⟩ : S39)⟩ : S41)) (quD _ _ _ (⟨t366, t367, (⟨t368, t369, t370, t371, t372, t373⟩ : S39)⟩ : S41) ) (fun _ hk => hk); have hx12_0 := hcc12 0 _ rfl; (try simp only [show (k41).sz = 8 from rfl, Nat.mul_one, Nat.add_zero] at hx12_0); have hf12_0 := hfr12 0; (try simp only [show (k41).sz = 8 from rfl, Nat.mul_one, Nat.add_zero] at hf12_0); have hx12_1 := hcc12 1 _ rfl; (try simp only [show (k41).sz = 8 from rfl, Nat.mul_one, Nat.add_zero] at hx12_1); have hf12_1 := hfr12 1; (try simp only [show (k41).sz = 8 from rfl, Nat.mul_one, Nat.add_zero] at hf12_1); have hx12_2 := hcc12 2 _ rfl; (try simp only [show (k41).sz = 8 from rfl, Nat.mul_one, Nat.add_zero] at hx12_2); have hf12_2 := hfr12 2; (try simp only [show (k41).sz = 8 from rfl, Nat.mul_one, Nat.add_zero] at hf12_2); have hx12_3 := hcc12 3 _ rfl; (try simp only [show (k41).sz = 8 from rfl, Nat.mul_one, Nat.add_zero] at hx12_3); have hf12_3 := hfr12 3; (try simp only [show (k41).sz = 8 from rfl, Nat.mul_one, Nat.add_zero] at hf12_3); have hx12_4 := hcc12 4 _ rfl; (try simp only [show (k41).sz = 8 from rfl, Nat.mul_one, Nat.add_zero] at hx12_4); have hf12_4 := hfr12 4; (try simp only [show (k41).sz = 8 from rfl, Nat.mul_one, Nat.add_zero] at hf12_4); have hx12_5 := hcc12 5 _ rfl; (try simp only [show (k41).sz = 8 from rfl, Nat.mul_one, Nat.add_zero] at hx12_5); have hf12_5 := hfr12 5; (try simp only [show (k41).sz = 8 from rfl, Nat.mul_one, Nat.add_zero] at hf12_5); have hx12_6 := hcc12 6 _ rfl; (try simp only [show (k41).sz = 8 from rfl, Nat.mul_one, Nat.add_zero] at hx12_6); have hf12_6 := hfr12 6; (try simp only [show (k41).sz = 8 from rfl, Nat.mul_one, Nat.add_zero] at hf12_6); have hx12_7 := hcc12 7 _ rfl; (try simp only [show (k41).sz = 8 from rfl, Nat.mul_one, Nat.add_zero] at hx12_7); have hf12_7 := hfr12 7; (try simp only [show (k41).sz = 8 from rfl, Nat.mul_one, Nat.add_zero] at hf12_7); clear hcl12 hcc12 hfr12 hM12) | ((with_reducible refine qlB (t := 41) (p := 21) rfl ?_); refine qiB (t := 41) (p := 21) (v := ?vo_w13) (w1 := ((((((((w11.setCell ⟨go10, (x4_1 : Int).toNat * 8, none⟩ (.int .i64 t366)).setCell ⟨go10, (x4_1 : Int).toNat * 8 + 1, none⟩ (.int .i64 t367)).setCell ⟨go10, (x4_1 : Int).toNat * 8 + 2, none⟩ (.int .i64 t368)).setCell ⟨go10, (x4_1 : Int).toNat * 8 + 3, none⟩ (.int .i64 t369)).setCell ⟨go10, (x4_1 : Int).toNat * 8 + 4, none⟩ (.int .i64 t370)).setCell ⟨go10, (x4_1 : Int).toNat * 8 + 5, none⟩ (.int .i64 t371)).setCell ⟨go10, (x4_1 : Int).toNat * 8 + 6, none⟩ (.int .i64 t372)).setCell ⟨go10, (x4_1 : Int).toNat * 8 + 7, none⟩ (.int .i64 t373))) ?hg ?ho ?hn ?hr ?_; (case ho => rfl); (case hg => rfl); (case hn => rfl); (case hr => exact gS); intro w13 hw; have hg : w11.grownBy w13 (some go10) := (by rw [hw]; exact HP12.2); have hp_ : Kd.R k41 41 w13 w.heap.size (fun _ => True) (.slice (some ⟨go10, 0, none⟩) x7_1.length co10) y374 := (by rw [hw, Ny374.out]; exact HP12.1); clear HP12; replace HO_7 := aM (hp_); replace HB := aM ((by rw [hw]; exact qy (qy (qy (qy (qy (qy (qy (qy (HB.out) GB10.out) GB10.out) GB10.out) GB10.out) GB10.out) GB10.out) GB10.out) GB10.out : Below w.heap.size w w13)); clear hg hw hp_))
        go_roundg k1
        case measure => have := HK1.out; omega
        case rel => exact ⟨(wrap64 (x4_1 + 1)), (y374), sD, H', ⟨by have := HK1.out; omega⟩, ⟨rR HO_7⟩, ⟨bl⟩⟩
       ·rw [if_neg c9] at H
        exact absurd H (by simp)
      ·rw [if_neg c7] at H
       exact absurd H (by simp)
     ·rw [if_neg c6] at H
      have c6b0 := decide_eq_false c6
      clear c6
      obtain rfl := Option.some.inj H
      go_wp2
      go_ret
      exact ⟨_, sR, by (with_reducible repeat (first | apply Kd.qO | apply Kd.qQ | apply Kd.qS)); exact HO_7.out, bl⟩
  ·rw [if_neg c3] at H
   exact absurd H (by simp)
 ·rw [if_neg c2] at H
  exact absurd H (by simp)
end Go.Proofs.YthhiiceligjleaaDoor.P
