/- The program's CountTogether returns what the reference's returns, for all texts and dice (the law lets longer texts and lists by). No further condition. -/
import Derived.Test.YthhiiceligjleaaDoorKFnExactCountTogether0

namespace Go.Proofs.YthhiiceligjleaaDoor.P
open Go.RowKit Go.Proofs.YthhiiceligjleaaDoorW.PrintWords Go.Proofs.YthhiiceligjleaaDoorW.PrintLast Go.Proofs.YthhiiceligjleaaDoorW.PrintMore
attribute [local go_sem] qn ql qw qv qc qb qm qk
set_option linter.unusedVariables false
set_option linter.unusedSimpArgs false
def qbB.f (k : Nat) (a0_0 : Int) (a0_1 : Int) (a0_2 : Int) (a0_3 : Int) (a0_4 : Int) (a0_5 : Int) : Option (Bool) := (qGA.f a0_0 a0_1 a0_2 a0_3 a0_4 a0_5).bind fun t119 => ((qbA.f k t119 0 9).bind fun t122 => (some t122))
set_option maxHeartbeats 8000000 in
set_option maxRecDepth 100000 in
theorem qbB.calls (k : Nat) (a0_0 : Int) (a0_1 : Int) (a0_2 : Int) (a0_3 : Int) (a0_4 : Int) (a0_5 : Int) (r : Bool) (w : World) (h : qbB.f k a0_0 a0_1 a0_2 a0_3 a0_4 a0_5 = some r) :
  Calls Tryd.prog 44 #[.agg #[.int .i64 a0_0, .int .i64 a0_1, .int .i64 a0_2, .int .i64 a0_3, .int .i64 a0_4, .int .i64 a0_5]] w fun e w' => e = .returned (.bool r) ∧ Below w.heap.size w w' := by
 have hu39 := Tryd.underlying39
 have HB := aM (Below.refl w.heap.size w)
 have H : ((qGA.f a0_0 a0_1 a0_2 a0_3 a0_4 a0_5).bind fun t119 => ((qbA.f k t119 0 9).bind fun t122 => (some t122))) = some r := h
 clear h
 replace H := bO H
 obtain ⟨t119, A2, H⟩ := H
 replace H := bO H
 obtain ⟨t122, A3, H⟩ := H
 obtain rfl := Option.some.inj H
 go_enter Tryd.func44, Tryd.ntmps44
 go_wp2_with (first | ((with_reducible refine qK (N := 1) rfl ?_); refine qH ?hg (N := 1) ?hd (cs := #[.int .i64 a0_0, .int .i64 a0_1, .int .i64 a0_2, .int .i64 a0_3, .int .i64 a0_4, .int .i64 a0_5]) (t := 39) ?hr ?_; (case hd => rfl); (case hg => rfl); (case hr => exact gS); intro gb118 hg w4 hbox hb; have BK118 := aM (hbox); have GW118 := aM ((gg hg)); have GE118 := aM ((gg hg)); replace HB := aM (qB bl hb); clear hb hbox hg; (refine cb6 BK118 ?_; intro _ _ _ _ _ _); (refine cz6 BK118 ?_; intro _ _ _ _ _ _)) | ((with_reducible refine qJ (f := 47) rfl ?_); refine qr (some 4) rfl rfl Tryd.func47 (by kernel_rfl) rfl #[.agg #[.int .i64 a0_0, .int .i64 a0_1, .int .i64 a0_2, .int .i64 a0_3, .int .i64 a0_4, .int .i64 a0_5]] rfl gA ?_; (with_reducible refine (qGA.calls a0_0 a0_1 a0_2 a0_3 a0_4 a0_5 t119 _ A2.out).mono ?_); rintro e w6 ⟨v120, rfl, ho0, hb⟩; refine ⟨_, rfl, ?_⟩; have HO121 := aM (Kd.qx ho0 (qL bl)); replace BK118 := aM (bb BK118 hb); replace HB := aM (qB bl hb); (try clear hb); (try clear hb2); (try clear hk); (try clear hi); (try clear ho0); obtain ⟨Ao7, co7, eo7⟩ := Kd.qBA HO121.out; subst eo7) | ((with_reducible refine qJ (f := 58) rfl ?_); refine qr (some 5) rfl rfl Tryd.func58 (by kernel_rfl) rfl #[.slice Ao7 t119.length co7, .int .i64 0, .int .i64 9] rfl gA ?_; (with_reducible refine (qbA.calls k _ _ t119 0 9 t122 _ ?side1 ?side2 A3.out).mono ?_); (case side1 => repeat (first | exact (Kd.qP HO121.out).2.2 | (with_reducible refine Kd.qW ?_ _) | (with_reducible refine Kd.qV ?_ _) | (with_reducible refine Kd.qe ?_))); (case side2 => exact (Kd.qP HO121.out).2.1); rintro e w' ⟨rfl, ⟨nd, rfl⟩⟩; refine ⟨_, rfl, ?_⟩))
 go_ret
 exact ⟨sR, bl⟩
def qDB.f (k : Nat) (a0_0 : Int) (a0_1 : Int) (l0_2 : List Int) (a1_0 : Int) (a1_1 : Int) (a1_2 : Int) (a1_3 : Int) (a1_4 : Int) (a1_5 : Int) (a1_6 : Int) (a1_7 : Int) : Option (Bool) := (qcA.f a0_0 a0_1 l0_2 a1_0 a1_1).bind fun t125 => (if t125 = true then ((qbB.f k a1_2 a1_3 a1_4 a1_5 a1_6 a1_7).bind fun t126 => (some t126)) else (some false))
set_option maxHeartbeats 8000000 in
set_option maxRecDepth 100000 in
theorem qDB.calls (k : Nat) (a0_0 : Int) (a0_1 : Int) (A0_2 : Option Addr) (c0_2 : Nat) (l0_2 : List Int) (a1_0 : Int) (a1_1 : Int) (a1_2 : Int) (a1_3 : Int) (a1_4 : Int) (a1_5 : Int) (a1_6 : Int) (a1_7 : Int) (r : Bool) (w : World) (hr0_2 : Kd.C (Kd.int .u8) w A0_2 l0_2.length l0_2) (hc0_2 : l0_2.length ≤ c0_2) (h : qDB.f k a0_0 a0_1 l0_2 a1_0 a1_1 a1_2 a1_3 a1_4 a1_5 a1_6 a1_7 = some r) :
  Calls Tryd.prog 27 #[.agg #[.int .i64 a0_0, .int .i64 a0_1, .slice A0_2 l0_2.length c0_2], .agg #[.int .i64 a1_0, .int .i64 a1_1, .int .i64 a1_2, .int .i64 a1_3, .int .i64 a1_4, .int .i64 a1_5, .int .i64 a1_6, .int .i64 a1_7]] w fun e w' => e = .returned (.bool r) ∧ Below w.heap.size w w' := by
 have hu32 := Tryd.underlying32
 have hu41 := Tryd.underlying41
 have hu39 := Tryd.underlying39
 have HR0_2 := aM hr0_2
 have HC0_2 := aM hc0_2
 clear hr0_2 hc0_2
 have HB := aM (Below.refl w.heap.size w)
 have H : ((qcA.f a0_0 a0_1 l0_2 a1_0 a1_1).bind fun t125 => (if t125 = true then ((qbB.f k a1_2 a1_3 a1_4 a1_5 a1_6 a1_7).bind fun t126 => (some t126)) else (some false))) = some r := h
 clear h
 replace H := bO H
 obtain ⟨t125, A3, H⟩ := H
 by_cases c4 : t125 = true
 ·subst c4
  replace H := iT H
  replace H := bO H
  obtain ⟨t126, A5, H⟩ := H
  obtain rfl := Option.some.inj H
  go_enter Tryd.func27, Tryd.ntmps27
  go_wp2_with (first | ((with_reducible refine qK (N := 2) rfl ?_); refine qH ?hg (N := 2) ?hd (cs := #[.int .i64 a0_0, .int .i64 a0_1, .slice A0_2 l0_2.length c0_2]) (t := 32) ?hr ?_; (case hd => rfl); (case hg => rfl); (case hr => exact gS); intro gb123 hg w6 hbox hb; have BK123 := aM (hbox); have GW123 := aM ((gg hg)); have GE123 := aM ((gg hg)); replace HB := aM (qB bl hb); clear hb hbox hg) | ((with_reducible refine qK (N := 3) rfl ?_); refine qH ?hg (N := 3) ?hd (cs := #[.int .i64 a1_0, .int .i64 a1_1, .int .i64 a1_2, .int .i64 a1_3, .int .i64 a1_4, .int .i64 a1_5, .int .i64 a1_6, .int .i64 a1_7]) (t := 41) ?hr ?_; (case hd => rfl); (case hg => rfl); (case hr => exact gS); intro gb124 hg w7 hbox hb; have BK124 := aM (hbox); have GW124 := aM ((gg hg)); have GE124 := aM ((gg hg)); have NB123_124 := aM ((nl BK123 hg)); have NB124_123 := aM ((nr BK123 hg)); replace BK123 := aM (bb BK123 hb); replace HB := aM (qB bl hb); clear hb hbox hg; have hnb8 := NB123_124.out; have hnc8 := NB124_123.out; (refine cb3 BK123 ?_; intro _ _ _); (refine cz3 BK123 ?_; intro _ _ _); (refine cb8 BK124 ?_; intro _ _ _ _ _ _ _ _); (refine cz8 BK124 ?_; intro _ _ _ _ _ _ _ _)) | ((with_reducible refine qJ (f := 43) rfl ?_); refine qr (some 10) rfl rfl Tryd.func43 (by kernel_rfl) rfl #[.agg #[.int .i64 a0_0, .int .i64 a0_1, .slice A0_2 l0_2.length c0_2], .int .i64 a1_0, .int .i64 a1_1] rfl gA ?_; (with_reducible refine (qcA.calls a0_0 a0_1 _ _ l0_2 a1_0 a1_1 true _ ?side1 ?side2 A3.out).mono ?_); (case side1 => repeat (first | exact (Kd.qg HR0_2.out HB.out) | (with_reducible refine Kd.qW ?_ _) | (with_reducible refine Kd.qV ?_ _) | (with_reducible refine Kd.qe ?_))); (case side2 => exact HC0_2.out); rintro e w11 ⟨rfl, hb⟩; refine ⟨_, rfl, ?_⟩; replace BK123 := aM (bb BK123 hb); replace BK124 := aM (bb BK124 hb); replace HB := aM (qB bl hb); (try clear hb); (try clear hb2); (try clear hk); (try clear hi); (refine cb8 BK124 ?_; intro _ _ _ _ _ _ _ _); (refine cz8 BK124 ?_; intro _ _ _ _ _ _ _ _)) | (go_at_call 44; (with_reducible refine (qbB.calls k a1_2 a1_3 a1_4 a1_5 a1_6 a1_7 t126 _ A5.out).mono ?_); rintro e w13 ⟨rfl, hb⟩; replace BK123 := aM (bb BK123 hb); replace BK124 := aM (bb BK124 hb); replace HB := aM (qB bl hb); (try clear hb); (try clear hb2); (try clear hk); (try clear hi)))
  go_ret
  exact ⟨sR, bl⟩
 ·replace c4 := Bool.eq_false_iff.mpr c4
  subst c4
  replace H := iF H
  obtain rfl := Option.some.inj H
  go_enter Tryd.func27, Tryd.ntmps27
  go_wp2_with (first | ((with_reducible refine qK (N := 2) rfl ?_); refine qH ?hg (N := 2) ?hd (cs := #[.int .i64 a0_0, .int .i64 a0_1, .slice A0_2 l0_2.length c0_2]) (t := 32) ?hr ?_; (case hd => rfl); (case hg => rfl); (case hr => exact gS); intro gb123 hg w14 hbox hb; have BK123 := aM (hbox); have GW123 := aM ((gg hg)); have GE123 := aM ((gg hg)); replace HB := aM (qB bl hb); clear hb hbox hg) | ((with_reducible refine qK (N := 3) rfl ?_); refine qH ?hg (N := 3) ?hd (cs := #[.int .i64 a1_0, .int .i64 a1_1, .int .i64 a1_2, .int .i64 a1_3, .int .i64 a1_4, .int .i64 a1_5, .int .i64 a1_6, .int .i64 a1_7]) (t := 41) ?hr ?_; (case hd => rfl); (case hg => rfl); (case hr => exact gS); intro gb124 hg w15 hbox hb; have BK124 := aM (hbox); have GW124 := aM ((gg hg)); have GE124 := aM ((gg hg)); have NB123_124 := aM ((nl BK123 hg)); have NB124_123 := aM ((nr BK123 hg)); replace BK123 := aM (bb BK123 hb); replace HB := aM (qB bl hb); clear hb hbox hg; have hnb16 := NB123_124.out; have hnc16 := NB124_123.out; (refine cb3 BK123 ?_; intro _ _ _); (refine cz3 BK123 ?_; intro _ _ _); (refine cb8 BK124 ?_; intro _ _ _ _ _ _ _ _); (refine cz8 BK124 ?_; intro _ _ _ _ _ _ _ _)) | ((with_reducible refine qJ (f := 43) rfl ?_); refine qr (some 10) rfl rfl Tryd.func43 (by kernel_rfl) rfl #[.agg #[.int .i64 a0_0, .int .i64 a0_1, .slice A0_2 l0_2.length c0_2], .int .i64 a1_0, .int .i64 a1_1] rfl gA ?_; (with_reducible refine (qcA.calls a0_0 a0_1 _ _ l0_2 a1_0 a1_1 false _ ?side1 ?side2 A3.out).mono ?_); (case side1 => repeat (first | exact (Kd.qg HR0_2.out HB.out) | (with_reducible refine Kd.qW ?_ _) | (with_reducible refine Kd.qV ?_ _) | (with_reducible refine Kd.qe ?_))); (case side2 => exact HC0_2.out); rintro e w19 ⟨rfl, hb⟩; refine ⟨_, rfl, ?_⟩; replace BK123 := aM (bb BK123 hb); replace BK124 := aM (bb BK124 hb); replace HB := aM (qB bl hb); (try clear hb); (try clear hb2); (try clear hk); (try clear hi)))
  go_ret
  exact ⟨sR, bl⟩
def qLA.l0 : Nat → Int → Int → List (S41) → Int → Int → Option (Int)
 | 0, _, _, _, _, _ => none
 | k + 1, x1, x2, x9, x10, x11 => if x11 < x10 then (if 0 ≤ x11 then (if x11 < (x9.length : Int) then (if ((qA x9 x11).f0) = x1 then (if ((qA x9 x11).f1) = x2 then (some x11) else (qLA.l0 k x1 x2 x9 x10 (wrap64 (x11 + 1)))) else (qLA.l0 k x1 x2 x9 x10 (wrap64 (x11 + 1)))) else (none)) else (none)) else (some (-1))
def qLA.f (k : Nat) (l0 : List (S41)) (a1 : Int) (a2 : Int) : Option (Int) := qLA.l0 k a1 a2 l0 (l0.length : Int) 0
set_option maxHeartbeats 8000000 in
set_option maxRecDepth 100000 in
theorem qLA.calls (k : Nat) (A0 : Option Addr) (c0 : Nat) (l0 : List (S41)) (a1 : Int) (a2 : Int) (r : Int) (w : World) (hr0 : Kd.C k41 w A0 l0.length l0) (hc0 : l0.length ≤ c0) (h : qLA.f k l0 a1 a2 = some r) :
  Calls Tryd.prog 28 #[.slice A0 l0.length c0, .int .i64 a1, .int .i64 a2] w fun e w' => e = .returned (.int .i64 r) ∧ Below w.heap.size w w' := by
 have hu41 := Tryd.underlying41
 have HR0 := aM hr0
 have HC0 := aM hc0
 clear hr0 hc0
 have HB := aM (Below.refl w.heap.size w)
 have H : (qLA.l0 k a1 a2 l0 (l0.length : Int) 0) = some r := h
 clear h
 have H' := aM H
 clear H
 go_enter Tryd.func28, Tryd.ntmps28
 go_wp2
 go_loopg [11] k (fun kq v11 w' => ∃ (x11_1 : Int), v11 = .int .i64 x11_1 ∧ Aside0 (qLA.l0 kq a1 a2 l0 (l0.length : Int) x11_1 = some r) ∧ Aside0 (kq ≤ k) ∧ Aside0 (Below w.heap.size w w'))
 case atStart => exact ⟨(0), sD, H', ⟨Nat.le_refl _⟩, ⟨bl⟩⟩
 case round =>
  clear H'; (try clear c2); (try clear p2)
  obtain ⟨x11_1, rfl, HA, HK1, HB⟩ := hrel
  cases gk with
  | zero => exact absurd HA.out (by simp [qLA.l0])
  | succ k1 =>
   have H := HA.out
   clear HA
   simp only [qLA.l0] at H
   by_cases c4 : x11_1 < (l0.length : Int)
   ·rw [if_pos c4] at H
    have c4b0 := decide_eq_true c4
    clear c4
    by_cases c5 : 0 ≤ x11_1
    ·rw [if_pos c5] at H
     have c5b0 := decide_eq_true c5
     clear c5
     by_cases c6 : x11_1 < (l0.length : Int)
     ·rw [if_pos c6] at H
      have c6b0 := decide_eq_true c6
      clear c6
      by_cases c7 : ((qA l0 x11_1).f0) = a1
      ·rw [if_pos c7] at H
       have c7b0 := beq_iff_eq.mpr c7
       have c7b1 := bne_eq_false_iff_eq.mpr c7
       clear c7
       by_cases c8 : ((qA l0 x11_1).f1) = a2
       ·rw [if_pos c8] at H
        have c8b0 := beq_iff_eq.mpr c8
        have c8b1 := bne_eq_false_iff_eq.mpr c8
        clear c8
        obtain rfl := Option.some.inj H
        have p127 : 0 ≤ (x11_1 : Int) := of_decide_eq_true am
        have q127 : x11_1 < (l0.length : Int) := of_decide_eq_true am
        obtain ⟨ad127, e127, hx127_0, hx127_1, hx127_2, hx127_3, hx127_4, hx127_5, hx127_6, hx127_7⟩ := qTB HR0.out x11_1 p127 q127
        cases e127
        replace hx127_0 := (HB.out.cell (World.block_lt_of_cell? w _ hx127_0)).trans hx127_0
        replace hx127_1 := (HB.out.cell (World.block_lt_of_cell? w _ hx127_1)).trans hx127_1
        replace hx127_2 := (HB.out.cell (World.block_lt_of_cell? w _ hx127_2)).trans hx127_2
        replace hx127_3 := (HB.out.cell (World.block_lt_of_cell? w _ hx127_3)).trans hx127_3
        replace hx127_4 := (HB.out.cell (World.block_lt_of_cell? w _ hx127_4)).trans hx127_4
        replace hx127_5 := (HB.out.cell (World.block_lt_of_cell? w _ hx127_5)).trans hx127_5
        replace hx127_6 := (HB.out.cell (World.block_lt_of_cell? w _ hx127_6)).trans hx127_6
        replace hx127_7 := (HB.out.cell (World.block_lt_of_cell? w _ hx127_7)).trans hx127_7
        replace p127 := eq_true p127
        replace q127 := eq_true q127
        go_wp2_with (first | ((with_reducible refine qK (N := 8) rfl ?_); refine qH ?hg (N := 8) ?hd (cs := #[.int .i64 0, .int .i64 0, .int .i64 0, .int .i64 0, .int .i64 0, .int .i64 0, .int .i64 0, .int .i64 0]) (t := 41) ?hr ?_; (case hd => rfl); (case hg => rfl); (case hr => exact gS); intro gb128 hg w9 hbox hb; have BK128 := aM (hbox); have GW128 := aM ((gg hg)); have GE128 := aM ((gg hg)); replace HB := aM (qB bl hb); clear hb hbox hg; (refine cb8 BK128 ?_; intro _ _ _ _ _ _ _ _); (refine cz8 BK128 ?_; intro _ _ _ _ _ _ _ _)))
        go_ret
        exact ⟨sR, bl⟩
       ·rw [if_neg c8] at H
        have c8b0 := beq_eq_false_iff_ne.mpr c8
        have c8b1 := bne_iff_ne.mpr c8
        have H' := aM H
        clear H
        have p127 : 0 ≤ (x11_1 : Int) := of_decide_eq_true am
        have q127 : x11_1 < (l0.length : Int) := of_decide_eq_true am
        obtain ⟨ad127, e127, hx127_0, hx127_1, hx127_2, hx127_3, hx127_4, hx127_5, hx127_6, hx127_7⟩ := qTB HR0.out x11_1 p127 q127
        cases e127
        replace hx127_0 := (HB.out.cell (World.block_lt_of_cell? w _ hx127_0)).trans hx127_0
        replace hx127_1 := (HB.out.cell (World.block_lt_of_cell? w _ hx127_1)).trans hx127_1
        replace hx127_2 := (HB.out.cell (World.block_lt_of_cell? w _ hx127_2)).trans hx127_2
        replace hx127_3 := (HB.out.cell (World.block_lt_of_cell? w _ hx127_3)).trans hx127_3
        replace hx127_4 := (HB.out.cell (World.block_lt_of_cell? w _ hx127_4)).trans hx127_4
        replace hx127_5 := (HB.out.cell (World.block_lt_of_cell? w _ hx127_5)).trans hx127_5
        replace hx127_6 := (HB.out.cell (World.block_lt_of_cell? w _ hx127_6)).trans hx127_6
        replace hx127_7 := (HB.out.cell (World.block_lt_of_cell? w _ hx127_7)).trans hx127_7
        replace p127 := eq_true p127
        replace q127 := eq_true q127
        go_wp2_with (first | ((with_reducible refine qK (N := 8) rfl ?_); refine qH ?hg (N := 8) ?hd (cs := #[.int .i64 0, .int .i64 0, .int .i64 0, .int .i64 0, .int .i64 0, .int .i64 0, .int .i64 0, .int .i64 0]) (t := 41) ?hr ?_; (case hd => rfl); (case hg => rfl); (case hr => exact gS); intro gb128 hg w11 hbox hb; have BK128 := aM (hbox); have GW128 := aM ((gg hg)); have GE128 := aM ((gg hg)); replace HB := aM (qB bl hb); clear hb hbox hg; (refine cb8 BK128 ?_; intro _ _ _ _ _ _ _ _); (refine cz8 BK128 ?_; intro _ _ _ _ _ _ _ _)))
        go_roundg k1
        case measure => have := HK1.out; omega
        case rel => exact ⟨(wrap64 (x11_1 + 1)), sD, H', ⟨by have := HK1.out; omega⟩, ⟨bl⟩⟩
      ·rw [if_neg c7] at H
       have c7b0 := beq_eq_false_iff_ne.mpr c7
       have c7b1 := bne_iff_ne.mpr c7
       have H' := aM H
       clear H
       have p127 : 0 ≤ (x11_1 : Int) := of_decide_eq_true am
       have q127 : x11_1 < (l0.length : Int) := of_decide_eq_true am
       obtain ⟨ad127, e127, hx127_0, hx127_1, hx127_2, hx127_3, hx127_4, hx127_5, hx127_6, hx127_7⟩ := qTB HR0.out x11_1 p127 q127
       cases e127
       replace hx127_0 := (HB.out.cell (World.block_lt_of_cell? w _ hx127_0)).trans hx127_0
       replace hx127_1 := (HB.out.cell (World.block_lt_of_cell? w _ hx127_1)).trans hx127_1
       replace hx127_2 := (HB.out.cell (World.block_lt_of_cell? w _ hx127_2)).trans hx127_2
       replace hx127_3 := (HB.out.cell (World.block_lt_of_cell? w _ hx127_3)).trans hx127_3
       replace hx127_4 := (HB.out.cell (World.block_lt_of_cell? w _ hx127_4)).trans hx127_4
       replace hx127_5 := (HB.out.cell (World.block_lt_of_cell? w _ hx127_5)).trans hx127_5
       replace hx127_6 := (HB.out.cell (World.block_lt_of_cell? w _ hx127_6)).trans hx127_6
       replace hx127_7 := (HB.out.cell (World.block_lt_of_cell? w _ hx127_7)).trans hx127_7
       replace p127 := eq_true p127
       replace q127 := eq_true q127
       go_wp2_with (first | ((with_reducible refine qK (N := 8) rfl ?_); refine qH ?hg (N := 8) ?hd (cs := #[.int .i64 0, .int .i64 0, .int .i64 0, .int .i64 0, .int .i64 0, .int .i64 0, .int .i64 0, .int .i64 0]) (t := 41) ?hr ?_; (case hd => rfl); (case hg => rfl); (case hr => exact gS); intro gb128 hg w13 hbox hb; have BK128 := aM (hbox); have GW128 := aM ((gg hg)); have GE128 := aM ((gg hg)); replace HB := aM (qB bl hb); clear hb hbox hg; (refine cb8 BK128 ?_; intro _ _ _ _ _ _ _ _); (refine cz8 BK128 ?_; intro _ _ _ _ _ _ _ _)))
       go_roundg k1
       case measure => have := HK1.out; omega
       case rel => exact ⟨(wrap64 (x11_1 + 1)), sD, H', ⟨by have := HK1.out; omega⟩, ⟨bl⟩⟩
     ·rw [if_neg c6] at H
      exact absurd H (by simp)
    ·rw [if_neg c5] at H
     exact absurd H (by simp)
   ·rw [if_neg c4] at H
    have c4b0 := decide_eq_false c4
    clear c4
    obtain rfl := Option.some.inj H
    go_wp2
    go_ret
    exact ⟨sR, bl⟩
def qp.l0 : Nat → List (S41) → List (S41) → Int → Int → Int → Int → List Int → Option (Bool)
 | 0, _, _, _, _, _, _, _ => none
 | k + 1, x1, x11, x12, x13, x130000, x130001, x130002 => if x13 < x12 then (if 0 ≤ x13 then (if x13 < (x11.length : Int) then ((qDB.f k x130000 x130001 x130002 ((qA x11 x13).f0) ((qA x11 x13).f1) ((qA x11 x13).f2.f0) ((qA x11 x13).f2.f1) ((qA x11 x13).f2.f2) ((qA x11 x13).f2.f3) ((qA x11 x13).f2.f4) ((qA x11 x13).f2.f5)).bind fun t133 => (if t133 = true then (if x13 ≤ (x1.length : Int) then ((qLA.f k (x1.take (x13 : Int).toNat) ((qA x11 x13).f0) ((qA x11 x13).f1)).bind fun t138 => (if t138 ≥ 0 then (some false) else (qp.l0 k x1 x11 x12 (wrap64 (x13 + 1)) x130000 x130001 x130002))) else (none)) else (some false))) else (none)) else (none)) else (some true)
def qp.f (k : Nat) (a0_0 : Int) (a0_1 : Int) (l0_2 : List Int) (l1 : List (S41)) : Option (Bool) := (qaA.f (l1.length : Int) 1 3).bind fun t130 => (if t130 = true then (qp.l0 k l1 l1 (l1.length : Int) 0 a0_0 a0_1 l0_2) else (some false))
def qp.T6 : Bool × List (List Nat × List Nat) := (true, [([], []), ([], []), ([0, 1], [0, 1]), ([2], [2]), ([3, 2], [3]), ([4], [4]), ([4], [4]), ([5, 6, 4], [4, 5, 6]), ([4], [4]), ([8, 4], [4, 8]), ([4], [4]), ([10, 4], [4, 10]), ([7, 9, 11, 4, 4], [4, 7, 9, 11]), ([12, 4], [4, 12]), ([4, 13], [4, 13])])
def qp.B6 : List Nat := [0, 0, 3, 7, 15, 31, 31, 127, 31, 287, 31, 1055, 4095, 8191, 16383]
theorem qp.tab6 : rtab .any (opsOf Tryd.f15 6) = qp.T6 := by kernel_rfl
theorem qp.bits6 : waitsOk qp.T6.2 qp.B6 = true := by kernel_rfl
set_option maxHeartbeats 8000000 in
set_option maxRecDepth 100000 in
theorem qp.calls (k : Nat) (a0_0 : Int) (a0_1 : Int) (A0_2 : Option Addr) (c0_2 : Nat) (l0_2 : List Int) (A1 : Option Addr) (c1 : Nat) (l1 : List (S41)) (r : Bool) (w : World) (hr0_2 : Kd.C (Kd.int .u8) w A0_2 l0_2.length l0_2) (hc0_2 : l0_2.length ≤ c0_2) (hr1 : Kd.C k41 w A1 l1.length l1) (hc1 : l1.length ≤ c1) (h : qp.f k a0_0 a0_1 l0_2 l1 = some r) :
  Calls Tryd.prog 15 #[.agg #[.int .i64 a0_0, .int .i64 a0_1, .slice A0_2 l0_2.length c0_2], .slice A1 l1.length c1] w fun e w' => e = .returned (.bool r) ∧ Below w.heap.size w w' := by
 have hu32 := Tryd.underlying32
 have hu41 := Tryd.underlying41
 have HR0_2 := aM hr0_2
 have HC0_2 := aM hc0_2
 clear hr0_2 hc0_2
 have HR1 := aM hr1
 have HC1 := aM hc1
 clear hr1 hc1
 have HB := aM (Below.refl w.heap.size w)
 have H : ((qaA.f (l1.length : Int) 1 3).bind fun t130 => (if t130 = true then (qp.l0 k l1 l1 (l1.length : Int) 0 a0_0 a0_1 l0_2) else (some false))) = some r := h
 clear h
 replace H := bO H
 obtain ⟨t130, A3, H⟩ := H
 by_cases c4 : t130 = true
 ·subst c4
  replace H := iT H
  have H' := aM H
  clear H
  go_enter Tryd.func15, Tryd.ntmps15
  go_wp2_with (first | ((with_reducible refine qK (N := 2) rfl ?_); refine qH ?hg (N := 2) ?hd (cs := #[.int .i64 a0_0, .int .i64 a0_1, .slice A0_2 l0_2.length c0_2]) (t := 32) ?hr ?_; (case hd => rfl); (case hg => rfl); (case hr => exact gS); intro gb129 hg w5 hbox hb; have BK129 := aM (hbox); have GW129 := aM ((gg hg)); have GE129 := aM ((gg hg)); replace HB := aM (qB bl hb); clear hb hbox hg) | ((with_reducible refine qJ (f := 26) rfl ?_); refine qr (some 9) rfl rfl Tryd.func26 (by kernel_rfl) rfl #[.int .i64 (l1.length : Int), .int .i64 1, .int .i64 3] rfl gA ?_; (with_reducible refine (qaA.calls (l1.length : Int) 1 3 true _ A3.out).mono ?_); rintro e w' ⟨rfl, ⟨nd, rfl⟩⟩; refine ⟨_, rfl, ?_⟩))
  go_loopg [13] k (fun kq v13 w' => ∃ (x13_1 : Int), v13 = .int .i64 x13_1 ∧ Aside0 (qp.l0 kq l1 l1 (l1.length : Int) x13_1 a0_0 a0_1 l0_2 = some r) ∧ Aside0 (kq ≤ k) ∧ Aside0 (w'.heap[gb129]? = some (.cells #[.int .i64 a0_0, .int .i64 a0_1, (.slice A0_2 l0_2.length c0_2)] 32 (0, 0))) ∧ Aside0 (Below w.heap.size w w'))
  case atStart => exact ⟨(0), sD, H', ⟨Nat.le_refl _⟩, ⟨rB BK129⟩, ⟨bl⟩⟩
  case round =>
   clear H'; (try clear c1); (try clear c2); (try clear p2); (try clear c4)
   obtain ⟨x13_1, rfl, HA, HK1, BK129, HB⟩ := hrel
   cases gk with
   | zero => exact absurd HA.out (by simp [qp.l0])
   | succ k1 =>
    have H := HA.out
    clear HA
    simp only [qp.l0] at H
    by_cases c6 : x13_1 < (l1.length : Int)
    ·rw [if_pos c6] at H
     have c6b0 := decide_eq_true c6
     clear c6
     by_cases c7 : 0 ≤ x13_1
     ·rw [if_pos c7] at H
      have c7b0 := decide_eq_true c7
      clear c7
      by_cases c8 : x13_1 < (l1.length : Int)
      ·rw [if_pos c8] at H
       have c8b0 := decide_eq_true c8
       clear c8
       replace H := bO H
       obtain ⟨t133, A9, H⟩ := H
       by_cases c10 : t133 = true
       ·subst c10
        replace H := iT H
        have c11b0 := eq_true (of_decide_eq_true am : 0 ≤ x13_1)
        by_cases c12 : x13_1 ≤ (l1.length : Int)
        ·rw [if_pos c12] at H
         have c12b0 := eq_true c12
         have c12b1 := decide_eq_true c12
         clear c12
         obtain ⟨y134, hy134⟩ : ∃ y_ : List (S41), y_ = (l1.take (x13_1 : Int).toNat) := ⟨_, rfl⟩
         replace H : ((qLA.f k1 y134 ((qA l1 x13_1).f0) ((qA l1 x13_1).f1)).bind fun t138 => (if t138 ≥ 0 then (some false) else (qp.l0 k1 l1 l1 (l1.length : Int) (wrap64 (x13_1 + 1)) a0_0 a0_1 l0_2))) = some r := by first | (rw [hy134]; with_reducible exact H) | (have H2_ := (Option.bind_some _ _).symm.trans H; rw [hy134]; with_reducible exact H2_) | (have H2_ := (Option.bind_some _ _).symm.trans H; with_reducible exact H2_) | with_reducible exact H | (rw [hy134]; exact H) | exact H
         have Ny134 := aM hy134
         clear hy134
         replace H := bO H
         obtain ⟨t138, A13, H⟩ := H
         by_cases c14 : t138 ≥ 0
         ·rw [if_pos c14] at H
          have c14b0 := decide_eq_true c14
          clear c14
          obtain rfl := Option.some.inj H
          have p131 : 0 ≤ (x13_1 : Int) := of_decide_eq_true am
          have q131 : x13_1 < (l1.length : Int) := of_decide_eq_true am
          obtain ⟨ad131, e131, hx131_0, hx131_1, hx131_2, hx131_3, hx131_4, hx131_5, hx131_6, hx131_7⟩ := qTB HR1.out x13_1 p131 q131
          cases e131
          replace hx131_0 := (HB.out.cell (World.block_lt_of_cell? w _ hx131_0)).trans hx131_0
          replace hx131_1 := (HB.out.cell (World.block_lt_of_cell? w _ hx131_1)).trans hx131_1
          replace hx131_2 := (HB.out.cell (World.block_lt_of_cell? w _ hx131_2)).trans hx131_2
          replace hx131_3 := (HB.out.cell (World.block_lt_of_cell? w _ hx131_3)).trans hx131_3
          replace hx131_4 := (HB.out.cell (World.block_lt_of_cell? w _ hx131_4)).trans hx131_4
          replace hx131_5 := (HB.out.cell (World.block_lt_of_cell? w _ hx131_5)).trans hx131_5
          replace hx131_6 := (HB.out.cell (World.block_lt_of_cell? w _ hx131_6)).trans hx131_6
          replace hx131_7 := (HB.out.cell (World.block_lt_of_cell? w _ hx131_7)).trans hx131_7
          replace p131 := eq_true p131
          replace q131 := eq_true q131
          try go_wp2_with (first | ((with_reducible refine qK (N := 6) rfl ?_); refine qH ?hg (N := 6) ?hd (cs := #[.int .i64 0, .int .i64 0, .int .i64 0, .int .i64 0, .int .i64 0, .int .i64 0, .int .i64 0, .int .i64 0]) (t := 41) ?hr ?_; (case hd => rfl); (case hg => rfl); (case hr => exact gS); intro gb132 hg w15 hbox hb; have BK132 := aM (hbox); have GW132 := aM ((gg hg)); have GE132 := aM ((gg hg)); have NB129_132 := aM ((nl BK129 hg)); have NB132_129 := aM ((nr BK129 hg)); replace BK129 := aM (bb BK129 hb); replace HB := aM (qB bl hb); clear hb hbox hg; have hnb16 := NB132_129.out; have hnc16 := NB129_132.out; (refine cb8 BK132 ?_; intro _ _ _ _ _ _ _ _); (refine cz8 BK132 ?_; intro _ _ _ _ _ _ _ _)))
          have n0_ : Aside0 (((((((((w15.setCell ⟨gb132, 0, none⟩ (.int .i64 ((qA l1 x13_1).f0))).setCell ⟨gb132, 1, none⟩ (.int .i64 ((qA l1 x13_1).f1))).setCell ⟨gb132, 2, none⟩ (.int .i64 ((qA l1 x13_1).f2.f0))).setCell ⟨gb132, 3, none⟩ (.int .i64 ((qA l1 x13_1).f2.f1))).setCell ⟨gb132, 4, none⟩ (.int .i64 ((qA l1 x13_1).f2.f2))).setCell ⟨gb132, 5, none⟩ (.int .i64 ((qA l1 x13_1).f2.f3))).setCell ⟨gb132, 6, none⟩ (.int .i64 ((qA l1 x13_1).f2.f4))).setCell ⟨gb132, 7, none⟩ (.int .i64 ((qA l1 x13_1).f2.f5))).heap[gb129]? = some (.cells #[.int .i64 a0_0, .int .i64 a0_1, .slice A0_2 l0_2.length c0_2] 32 (0, 0))) := ⟨bF BK129 NB129_132⟩
          have n1_ : Aside0 (((((((((w15.setCell ⟨gb132, 0, none⟩ (.int .i64 ((qA l1 x13_1).f0))).setCell ⟨gb132, 1, none⟩ (.int .i64 ((qA l1 x13_1).f1))).setCell ⟨gb132, 2, none⟩ (.int .i64 ((qA l1 x13_1).f2.f0))).setCell ⟨gb132, 3, none⟩ (.int .i64 ((qA l1 x13_1).f2.f1))).setCell ⟨gb132, 4, none⟩ (.int .i64 ((qA l1 x13_1).f2.f2))).setCell ⟨gb132, 5, none⟩ (.int .i64 ((qA l1 x13_1).f2.f3))).setCell ⟨gb132, 6, none⟩ (.int .i64 ((qA l1 x13_1).f2.f4))).setCell ⟨gb132, 7, none⟩ (.int .i64 ((qA l1 x13_1).f2.f5))).heap[gb132]? = some (.cells #[.int .i64 ((qA l1 x13_1).f0), .int .i64 ((qA l1 x13_1).f1), .int .i64 ((qA l1 x13_1).f2.f0), .int .i64 ((qA l1 x13_1).f2.f1), .int .i64 ((qA l1 x13_1).f2.f2), .int .i64 ((qA l1 x13_1).f2.f3), .int .i64 ((qA l1 x13_1).f2.f4), .int .i64 ((qA l1 x13_1).f2.f5)] 41 (0, 0))) := ⟨by (with_reducible repeat (first | refine qG ?_ _ | refine qE ?_ | refine qF ?_ _)); exact bP8 BK132⟩
          have n2_ : Aside0 (Below w.heap.size w ((((((((w15.setCell ⟨gb132, 0, none⟩ (.int .i64 ((qA l1 x13_1).f0))).setCell ⟨gb132, 1, none⟩ (.int .i64 ((qA l1 x13_1).f1))).setCell ⟨gb132, 2, none⟩ (.int .i64 ((qA l1 x13_1).f2.f0))).setCell ⟨gb132, 3, none⟩ (.int .i64 ((qA l1 x13_1).f2.f1))).setCell ⟨gb132, 4, none⟩ (.int .i64 ((qA l1 x13_1).f2.f2))).setCell ⟨gb132, 5, none⟩ (.int .i64 ((qA l1 x13_1).f2.f3))).setCell ⟨gb132, 6, none⟩ (.int .i64 ((qA l1 x13_1).f2.f4))).setCell ⟨gb132, 7, none⟩ (.int .i64 ((qA l1 x13_1).f2.f5)))) := ⟨bl⟩
          (try clear BK129); (try clear BK132); (try clear HB)
          generalize ((((((((w15.setCell ⟨gb132, 0, none⟩ (.int .i64 ((qA l1 x13_1).f0))).setCell ⟨gb132, 1, none⟩ (.int .i64 ((qA l1 x13_1).f1))).setCell ⟨gb132, 2, none⟩ (.int .i64 ((qA l1 x13_1).f2.f0))).setCell ⟨gb132, 3, none⟩ (.int .i64 ((qA l1 x13_1).f2.f1))).setCell ⟨gb132, 4, none⟩ (.int .i64 ((qA l1 x13_1).f2.f2))).setCell ⟨gb132, 5, none⟩ (.int .i64 ((qA l1 x13_1).f2.f3))).setCell ⟨gb132, 6, none⟩ (.int .i64 ((qA l1 x13_1).f2.f4))).setCell ⟨gb132, 7, none⟩ (.int .i64 ((qA l1 x13_1).f2.f5))) = w18 at n0_ n1_ n2_ ⊢
          have BK129 := n0_
          have BK132 := n1_
          have HB := n2_
          clear n0_ n1_ n2_
          replace BK129 := aM (qE BK129.out)
          replace BK132 := aM (qE BK132.out)
          replace HB := aM (qu HB.out)
          refine qCB (n := 15) (S := fun w' => w'.cell? ⟨gb129, 0, none⟩ = some (.int .i64 a0_0) ∧ w'.cell? ⟨gb129, 1, none⟩ = some (.int .i64 a0_1) ∧ w'.cell? ⟨gb129, 2, none⟩ = some (.slice A0_2 l0_2.length c0_2) ∧ w'.cell? ⟨gb132, 0, none⟩ = some (.int .i64 ((qA l1 x13_1).f0)) ∧ w'.cell? ⟨gb132, 1, none⟩ = some (.int .i64 ((qA l1 x13_1).f1)) ∧ w'.cell? ⟨gb132, 2, none⟩ = some (.int .i64 ((qA l1 x13_1).f2.f0)) ∧ w'.cell? ⟨gb132, 3, none⟩ = some (.int .i64 ((qA l1 x13_1).f2.f1)) ∧ w'.cell? ⟨gb132, 4, none⟩ = some (.int .i64 ((qA l1 x13_1).f2.f2)) ∧ w'.cell? ⟨gb132, 5, none⟩ = some (.int .i64 ((qA l1 x13_1).f2.f3)) ∧ w'.cell? ⟨gb132, 6, none⟩ = some (.int .i64 ((qA l1 x13_1).f2.f4)) ∧ w'.cell? ⟨gb132, 7, none⟩ = some (.int .i64 ((qA l1 x13_1).f2.f5))) (ds := []) #[false, false, false, false, false, false, false, false, false, false, false, false, false, false, false] (by kernel_rfl) rfl rfl ⟨bc BK129 0, bc BK129 1, bc BK129 2, bc BK132 0, bc BK132 1, bc BK132 2, bc BK132 3, bc BK132 4, bc BK132 5, bc BK132 6, bc BK132 7⟩ (fun hHeld => ?_); refine qKA qp.tab6 qp.bits6 (fun HT_ HW_ => ?_)
          generalize w18.drew = w19 at BK129 BK132 HB hHeld ⊢
          refine tS (i := 0) (N := some 18) #[true, false, false, false, false, false, false, false, false, false, false, false, false, false, false] HT_ HW_ hHeld ?_
          refine tS (i := 1) (N := some 19) #[true, true, false, false, false, false, false, false, false, false, false, false, false, false, false] HT_ HW_ hHeld ?_
          refine one_ (i := 2) (N := some 20) #[true, true, true, false, false, false, false, false, false, false, false, false, false, false, false] rfl rfl (qUA HT_.out (by kernel_rfl)) (by decide) (fun K hK => ?_)
          refine goes_ Tryd.func27 (by kernel_rfl) rfl #[.agg #[.int .i64 a0_0, .int .i64 a0_1, .slice A0_2 l0_2.length c0_2], .agg #[.int .i64 ((qA l1 x13_1).f0), .int .i64 ((qA l1 x13_1).f1), .int .i64 ((qA l1 x13_1).f2.f0), .int .i64 ((qA l1 x13_1).f2.f1), .int .i64 ((qA l1 x13_1).f2.f2), .int .i64 ((qA l1 x13_1).f2.f3), .int .i64 ((qA l1 x13_1).f2.f4), .int .i64 ((qA l1 x13_1).f2.f5)]] (by rfl) rfl rfl gA ?_
          with_reducible refine (qDB.calls k1 a0_0 a0_1 _ _ l0_2 ((qA l1 x13_1).f0) ((qA l1 x13_1).f1) ((qA l1 x13_1).f2.f0) ((qA l1 x13_1).f2.f1) ((qA l1 x13_1).f2.f2) ((qA l1 x13_1).f2.f3) ((qA l1 x13_1).f2.f4) ((qA l1 x13_1).f2.f5) true _ ?side1 ?side2 A9.out).mono ?_
          (case side1 => repeat (first | exact (Kd.qg HR0_2.out HB.out) | (with_reducible refine Kd.qW ?_ _) | (with_reducible refine Kd.qV ?_ _) | (with_reducible refine Kd.qe ?_)))
          (case side2 => exact HC0_2.out)
          rintro e w20 ⟨rfl, hb⟩
          refine ⟨_, rfl, ?_⟩
          replace BK129 := aM (bb BK129 hb)
          replace BK132 := aM (bb BK132 hb)
          replace HB := aM (qB bl hb); (try clear hb); (try clear hb2); (try clear hk); (try clear hi)
          have q21 : (x13_1 : Int) ≤ ((l1.length : Int) : Int) := of_decide_eq_true am
          obtain ⟨i021, hi021, _, hsz21, _⟩ := info_parts info41
          have hroom21 : l1.length ≤ c1 := HC1.out
          have hC21 : Kd.C k41 _ (some ad131) l1.length l1 := HR1.out
          have hcut21 := qiD (P := Tryd.prog) 26 41 .i64 Tryd.underlying26 hi021 (some ad131) l1.length c1 x13_1 (of_decide_eq_true am) q21 hroom21
          have hr21 := Kd.qUC (m := (x13_1 : Int).toNat) hC21 (by omega)
          have hy21 : y134.length = (x13_1 : Int).toNat := (by rw [Ny134.out, List.length_take]; omega)
          rw [← Ny134.out] at hr21
          rw [← hy21] at hcut21
          have HR137 := aM hr21
          have HC137 := aM (show y134.length ≤ c1 from by omega)
          clear hr21 hC21 hroom21 hi021 hsz21
          have KY21 := aM hy21
          clear hy21
          replace q21 := eq_true q21
          refine hK.out _ _ ⟨bc BK129 0, bc BK129 1, bc BK129 2, bc BK132 0, bc BK132 1, bc BK132 2, bc BK132 3, bc BK132 4, bc BK132 5, bc BK132 6, bc BK132 7⟩ (fun hHeld => ?_)
          clear hK K
          refine norm_ (a' := ?_) ?_ ?_
          rotate_left
          ·show Act.put _ (some 20) _ = _
           simp only [Act.put, List.setIfInBounds_toArray, List.set_cons_zero, List.set_cons_succ, i64_w, i32_w]
           rfl
          refine pS (i := 3) (N := some 21) #[true, true, true, true, false, false, false, false, false, false, false, false, false, false, false] HT_ ?_
          refine pS (i := 4) (N := some 22) #[true, true, true, true, true, false, false, false, false, false, false, false, false, false, false] HT_ ?_
          refine pS (i := 5) (N := some 23) #[true, true, true, true, true, true, false, false, false, false, false, false, false, false, false] HT_ ?_
          refine pS (i := 6) (N := some 24) #[true, true, true, true, true, true, true, false, false, false, false, false, false, false, false] HT_ ?_
          refine pS (i := 7) (N := some 25) #[true, true, true, true, true, true, true, true, false, false, false, false, false, false, false] HT_ ?_
          refine pS (i := 8) (N := some 26) #[true, true, true, true, true, true, true, true, true, false, false, false, false, false, false] HT_ ?_
          refine pS (i := 10) (N := some 28) #[true, true, true, true, true, true, true, true, true, false, true, false, false, false, false] HT_ ?_
          refine tS (i := 9) (N := some 27) #[true, true, true, true, true, true, true, true, true, true, true, false, false, false, false] HT_ HW_ hHeld ?_
          refine tS (i := 11) (N := some 29) #[true, true, true, true, true, true, true, true, true, true, true, true, false, false, false] HT_ HW_ hHeld ?_
          refine one_ (i := 12) (N := some 30) #[true, true, true, true, true, true, true, true, true, true, true, true, true, false, false] rfl rfl (qUA HT_.out (by kernel_rfl)) (by decide) (fun K hK => ?_)
          refine goes_ Tryd.func28 (by kernel_rfl) rfl #[.slice (some ad131) y134.length c1, .int .i64 ((qA l1 x13_1).f0), .int .i64 ((qA l1 x13_1).f1)] (by rfl) rfl rfl gA ?_
          with_reducible refine (qLA.calls k1 _ _ y134 ((qA l1 x13_1).f0) ((qA l1 x13_1).f1) t138 _ ?side1 ?side2 A13.out).mono ?_
          (case side1 => repeat (first | exact (Kd.qg HR137.out HB.out) | (with_reducible refine Kd.qW ?_ _) | (with_reducible refine Kd.qV ?_ _) | (with_reducible refine Kd.qe ?_)))
          (case side2 => exact HC137.out)
          rintro e w22 ⟨rfl, hb⟩
          refine ⟨_, rfl, ?_⟩
          replace BK129 := aM (bb BK129 hb)
          replace BK132 := aM (bb BK132 hb)
          replace HB := aM (qB bl hb); (try clear hb); (try clear hb2); (try clear hk); (try clear hi)
          refine hK.out _ _ ⟨bc BK129 0, bc BK129 1, bc BK129 2, bc BK132 0, bc BK132 1, bc BK132 2, bc BK132 3, bc BK132 4, bc BK132 5, bc BK132 6, bc BK132 7⟩ (fun hHeld => ?_)
          clear hK K
          refine norm_ (a' := ?_) ?_ ?_
          rotate_left
          ·show Act.put _ (some 30) _ = _
           simp only [Act.put, List.setIfInBounds_toArray, List.set_cons_zero, List.set_cons_succ, i64_w, i32_w]
           rfl
          refine pS (i := 13) (N := some 31) #[true, true, true, true, true, true, true, true, true, true, true, true, true, true, false] HT_ ?_
          refine pS (i := 14) (N := some 32) #[true, true, true, true, true, true, true, true, true, true, true, true, true, true, true] HT_ ?_
          refine done_ (qrA HT_.out (by kernel_rfl)) ?_
          try go_wp2
          go_ret
          exact ⟨sR, bl⟩
         ·rw [if_neg c14] at H
          have c14b0 := decide_eq_false c14
          clear c14
          have H' := aM H
          clear H
          have p131 : 0 ≤ (x13_1 : Int) := of_decide_eq_true am
          have q131 : x13_1 < (l1.length : Int) := of_decide_eq_true am
          obtain ⟨ad131, e131, hx131_0, hx131_1, hx131_2, hx131_3, hx131_4, hx131_5, hx131_6, hx131_7⟩ := qTB HR1.out x13_1 p131 q131
          cases e131
          replace hx131_0 := (HB.out.cell (World.block_lt_of_cell? w _ hx131_0)).trans hx131_0
          replace hx131_1 := (HB.out.cell (World.block_lt_of_cell? w _ hx131_1)).trans hx131_1
          replace hx131_2 := (HB.out.cell (World.block_lt_of_cell? w _ hx131_2)).trans hx131_2
          replace hx131_3 := (HB.out.cell (World.block_lt_of_cell? w _ hx131_3)).trans hx131_3
          replace hx131_4 := (HB.out.cell (World.block_lt_of_cell? w _ hx131_4)).trans hx131_4
          replace hx131_5 := (HB.out.cell (World.block_lt_of_cell? w _ hx131_5)).trans hx131_5
          replace hx131_6 := (HB.out.cell (World.block_lt_of_cell? w _ hx131_6)).trans hx131_6
          replace hx131_7 := (HB.out.cell (World.block_lt_of_cell? w _ hx131_7)).trans hx131_7
          replace p131 := eq_true p131
          replace q131 := eq_true q131
          try go_wp2_with (first | ((with_reducible refine qK (N := 6) rfl ?_); refine qH ?hg (N := 6) ?hd (cs := #[.int .i64 0, .int .i64 0, .int .i64 0, .int .i64 0, .int .i64 0, .int .i64 0, .int .i64 0, .int .i64 0]) (t := 41) ?hr ?_; (case hd => rfl); (case hg => rfl); (case hr => exact gS); intro gb132 hg w23 hbox hb; have BK132 := aM (hbox); have GW132 := aM ((gg hg)); have GE132 := aM ((gg hg)); have NB129_132 := aM ((nl BK129 hg)); have NB132_129 := aM ((nr BK129 hg)); replace BK129 := aM (bb BK129 hb); replace HB := aM (qB bl hb); clear hb hbox hg; have hnb24 := NB132_129.out; have hnc24 := NB129_132.out; (refine cb8 BK132 ?_; intro _ _ _ _ _ _ _ _); (refine cz8 BK132 ?_; intro _ _ _ _ _ _ _ _)))
          have n0_ : Aside0 (((((((((w23.setCell ⟨gb132, 0, none⟩ (.int .i64 ((qA l1 x13_1).f0))).setCell ⟨gb132, 1, none⟩ (.int .i64 ((qA l1 x13_1).f1))).setCell ⟨gb132, 2, none⟩ (.int .i64 ((qA l1 x13_1).f2.f0))).setCell ⟨gb132, 3, none⟩ (.int .i64 ((qA l1 x13_1).f2.f1))).setCell ⟨gb132, 4, none⟩ (.int .i64 ((qA l1 x13_1).f2.f2))).setCell ⟨gb132, 5, none⟩ (.int .i64 ((qA l1 x13_1).f2.f3))).setCell ⟨gb132, 6, none⟩ (.int .i64 ((qA l1 x13_1).f2.f4))).setCell ⟨gb132, 7, none⟩ (.int .i64 ((qA l1 x13_1).f2.f5))).heap[gb129]? = some (.cells #[.int .i64 a0_0, .int .i64 a0_1, .slice A0_2 l0_2.length c0_2] 32 (0, 0))) := ⟨bF BK129 NB129_132⟩
          have n1_ : Aside0 (((((((((w23.setCell ⟨gb132, 0, none⟩ (.int .i64 ((qA l1 x13_1).f0))).setCell ⟨gb132, 1, none⟩ (.int .i64 ((qA l1 x13_1).f1))).setCell ⟨gb132, 2, none⟩ (.int .i64 ((qA l1 x13_1).f2.f0))).setCell ⟨gb132, 3, none⟩ (.int .i64 ((qA l1 x13_1).f2.f1))).setCell ⟨gb132, 4, none⟩ (.int .i64 ((qA l1 x13_1).f2.f2))).setCell ⟨gb132, 5, none⟩ (.int .i64 ((qA l1 x13_1).f2.f3))).setCell ⟨gb132, 6, none⟩ (.int .i64 ((qA l1 x13_1).f2.f4))).setCell ⟨gb132, 7, none⟩ (.int .i64 ((qA l1 x13_1).f2.f5))).heap[gb132]? = some (.cells #[.int .i64 ((qA l1 x13_1).f0), .int .i64 ((qA l1 x13_1).f1), .int .i64 ((qA l1 x13_1).f2.f0), .int .i64 ((qA l1 x13_1).f2.f1), .int .i64 ((qA l1 x13_1).f2.f2), .int .i64 ((qA l1 x13_1).f2.f3), .int .i64 ((qA l1 x13_1).f2.f4), .int .i64 ((qA l1 x13_1).f2.f5)] 41 (0, 0))) := ⟨by (with_reducible repeat (first | refine qG ?_ _ | refine qE ?_ | refine qF ?_ _)); exact bP8 BK132⟩
          have n2_ : Aside0 (Below w.heap.size w ((((((((w23.setCell ⟨gb132, 0, none⟩ (.int .i64 ((qA l1 x13_1).f0))).setCell ⟨gb132, 1, none⟩ (.int .i64 ((qA l1 x13_1).f1))).setCell ⟨gb132, 2, none⟩ (.int .i64 ((qA l1 x13_1).f2.f0))).setCell ⟨gb132, 3, none⟩ (.int .i64 ((qA l1 x13_1).f2.f1))).setCell ⟨gb132, 4, none⟩ (.int .i64 ((qA l1 x13_1).f2.f2))).setCell ⟨gb132, 5, none⟩ (.int .i64 ((qA l1 x13_1).f2.f3))).setCell ⟨gb132, 6, none⟩ (.int .i64 ((qA l1 x13_1).f2.f4))).setCell ⟨gb132, 7, none⟩ (.int .i64 ((qA l1 x13_1).f2.f5)))) := ⟨bl⟩
          (try clear BK129); (try clear BK132); (try clear HB)
          generalize ((((((((w23.setCell ⟨gb132, 0, none⟩ (.int .i64 ((qA l1 x13_1).f0))).setCell ⟨gb132, 1, none⟩ (.int .i64 ((qA l1 x13_1).f1))).setCell ⟨gb132, 2, none⟩ (.int .i64 ((qA l1 x13_1).f2.f0))).setCell ⟨gb132, 3, none⟩ (.int .i64 ((qA l1 x13_1).f2.f1))).setCell ⟨gb132, 4, none⟩ (.int .i64 ((qA l1 x13_1).f2.f2))).setCell ⟨gb132, 5, none⟩ (.int .i64 ((qA l1 x13_1).f2.f3))).setCell ⟨gb132, 6, none⟩ (.int .i64 ((qA l1 x13_1).f2.f4))).setCell ⟨gb132, 7, none⟩ (.int .i64 ((qA l1 x13_1).f2.f5))) = w26 at n0_ n1_ n2_ ⊢
          have BK129 := n0_
          have BK132 := n1_
          have HB := n2_
          clear n0_ n1_ n2_
          replace BK129 := aM (qE BK129.out)
          replace BK132 := aM (qE BK132.out)
          replace HB := aM (qu HB.out)
          refine qCB (n := 15) (S := fun w' => w'.cell? ⟨gb129, 0, none⟩ = some (.int .i64 a0_0) ∧ w'.cell? ⟨gb129, 1, none⟩ = some (.int .i64 a0_1) ∧ w'.cell? ⟨gb129, 2, none⟩ = some (.slice A0_2 l0_2.length c0_2) ∧ w'.cell? ⟨gb132, 0, none⟩ = some (.int .i64 ((qA l1 x13_1).f0)) ∧ w'.cell? ⟨gb132, 1, none⟩ = some (.int .i64 ((qA l1 x13_1).f1)) ∧ w'.cell? ⟨gb132, 2, none⟩ = some (.int .i64 ((qA l1 x13_1).f2.f0)) ∧ w'.cell? ⟨gb132, 3, none⟩ = some (.int .i64 ((qA l1 x13_1).f2.f1)) ∧ w'.cell? ⟨gb132, 4, none⟩ = some (.int .i64 ((qA l1 x13_1).f2.f2)) ∧ w'.cell? ⟨gb132, 5, none⟩ = some (.int .i64 ((qA l1 x13_1).f2.f3)) ∧ w'.cell? ⟨gb132, 6, none⟩ = some (.int .i64 ((qA l1 x13_1).f2.f4)) ∧ w'.cell? ⟨gb132, 7, none⟩ = some (.int .i64 ((qA l1 x13_1).f2.f5))) (ds := []) #[false, false, false, false, false, false, false, false, false, false, false, false, false, false, false] (by kernel_rfl) rfl rfl ⟨bc BK129 0, bc BK129 1, bc BK129 2, bc BK132 0, bc BK132 1, bc BK132 2, bc BK132 3, bc BK132 4, bc BK132 5, bc BK132 6, bc BK132 7⟩ (fun hHeld => ?_); refine qKA qp.tab6 qp.bits6 (fun HT_ HW_ => ?_)
          generalize w26.drew = w27 at BK129 BK132 HB hHeld ⊢
          refine tS (i := 0) (N := some 18) #[true, false, false, false, false, false, false, false, false, false, false, false, false, false, false] HT_ HW_ hHeld ?_
          refine tS (i := 1) (N := some 19) #[true, true, false, false, false, false, false, false, false, false, false, false, false, false, false] HT_ HW_ hHeld ?_
          refine one_ (i := 2) (N := some 20) #[true, true, true, false, false, false, false, false, false, false, false, false, false, false, false] rfl rfl (qUA HT_.out (by kernel_rfl)) (by decide) (fun K hK => ?_)
          refine goes_ Tryd.func27 (by kernel_rfl) rfl #[.agg #[.int .i64 a0_0, .int .i64 a0_1, .slice A0_2 l0_2.length c0_2], .agg #[.int .i64 ((qA l1 x13_1).f0), .int .i64 ((qA l1 x13_1).f1), .int .i64 ((qA l1 x13_1).f2.f0), .int .i64 ((qA l1 x13_1).f2.f1), .int .i64 ((qA l1 x13_1).f2.f2), .int .i64 ((qA l1 x13_1).f2.f3), .int .i64 ((qA l1 x13_1).f2.f4), .int .i64 ((qA l1 x13_1).f2.f5)]] (by rfl) rfl rfl gA ?_
          with_reducible refine (qDB.calls k1 a0_0 a0_1 _ _ l0_2 ((qA l1 x13_1).f0) ((qA l1 x13_1).f1) ((qA l1 x13_1).f2.f0) ((qA l1 x13_1).f2.f1) ((qA l1 x13_1).f2.f2) ((qA l1 x13_1).f2.f3) ((qA l1 x13_1).f2.f4) ((qA l1 x13_1).f2.f5) true _ ?side1 ?side2 A9.out).mono ?_
          (case side1 => repeat (first | exact (Kd.qg HR0_2.out HB.out) | (with_reducible refine Kd.qW ?_ _) | (with_reducible refine Kd.qV ?_ _) | (with_reducible refine Kd.qe ?_)))
          (case side2 => exact HC0_2.out)
          rintro e w28 ⟨rfl, hb⟩
          refine ⟨_, rfl, ?_⟩
          replace BK129 := aM (bb BK129 hb)
          replace BK132 := aM (bb BK132 hb)
          replace HB := aM (qB bl hb); (try clear hb); (try clear hb2); (try clear hk); (try clear hi)
          have q29 : (x13_1 : Int) ≤ ((l1.length : Int) : Int) := of_decide_eq_true am
          obtain ⟨i029, hi029, _, hsz29, _⟩ := info_parts info41
          have hroom29 : l1.length ≤ c1 := HC1.out
          have hC29 : Kd.C k41 _ (some ad131) l1.length l1 := HR1.out
          have hcut29 := qiD (P := Tryd.prog) 26 41 .i64 Tryd.underlying26 hi029 (some ad131) l1.length c1 x13_1 (of_decide_eq_true am) q29 hroom29
          have hr29 := Kd.qUC (m := (x13_1 : Int).toNat) hC29 (by omega)
          have hy29 : y134.length = (x13_1 : Int).toNat := (by rw [Ny134.out, List.length_take]; omega)
          rw [← Ny134.out] at hr29
          rw [← hy29] at hcut29
          have HR137 := aM hr29
          have HC137 := aM (show y134.length ≤ c1 from by omega)
          clear hr29 hC29 hroom29 hi029 hsz29
          have KY29 := aM hy29
          clear hy29
          replace q29 := eq_true q29
          refine hK.out _ _ ⟨bc BK129 0, bc BK129 1, bc BK129 2, bc BK132 0, bc BK132 1, bc BK132 2, bc BK132 3, bc BK132 4, bc BK132 5, bc BK132 6, bc BK132 7⟩ (fun hHeld => ?_)
          clear hK K
          refine norm_ (a' := ?_) ?_ ?_
          rotate_left
          ·show Act.put _ (some 20) _ = _
           simp only [Act.put, List.setIfInBounds_toArray, List.set_cons_zero, List.set_cons_succ, i64_w, i32_w]
           rfl
          refine pS (i := 3) (N := some 21) #[true, true, true, true, false, false, false, false, false, false, false, false, false, false, false] HT_ ?_
          refine pS (i := 4) (N := some 22) #[true, true, true, true, true, false, false, false, false, false, false, false, false, false, false] HT_ ?_
          refine pS (i := 5) (N := some 23) #[true, true, true, true, true, true, false, false, false, false, false, false, false, false, false] HT_ ?_
          refine pS (i := 6) (N := some 24) #[true, true, true, true, true, true, true, false, false, false, false, false, false, false, false] HT_ ?_
          refine pS (i := 7) (N := some 25) #[true, true, true, true, true, true, true, true, false, false, false, false, false, false, false] HT_ ?_
          refine pS (i := 8) (N := some 26) #[true, true, true, true, true, true, true, true, true, false, false, false, false, false, false] HT_ ?_
          refine pS (i := 10) (N := some 28) #[true, true, true, true, true, true, true, true, true, false, true, false, false, false, false] HT_ ?_
          refine tS (i := 9) (N := some 27) #[true, true, true, true, true, true, true, true, true, true, true, false, false, false, false] HT_ HW_ hHeld ?_
          refine tS (i := 11) (N := some 29) #[true, true, true, true, true, true, true, true, true, true, true, true, false, false, false] HT_ HW_ hHeld ?_
          refine one_ (i := 12) (N := some 30) #[true, true, true, true, true, true, true, true, true, true, true, true, true, false, false] rfl rfl (qUA HT_.out (by kernel_rfl)) (by decide) (fun K hK => ?_)
          refine goes_ Tryd.func28 (by kernel_rfl) rfl #[.slice (some ad131) y134.length c1, .int .i64 ((qA l1 x13_1).f0), .int .i64 ((qA l1 x13_1).f1)] (by rfl) rfl rfl gA ?_
          with_reducible refine (qLA.calls k1 _ _ y134 ((qA l1 x13_1).f0) ((qA l1 x13_1).f1) t138 _ ?side1 ?side2 A13.out).mono ?_
          (case side1 => repeat (first | exact (Kd.qg HR137.out HB.out) | (with_reducible refine Kd.qW ?_ _) | (with_reducible refine Kd.qV ?_ _) | (with_reducible refine Kd.qe ?_)))
          (case side2 => exact HC137.out)
          rintro e w30 ⟨rfl, hb⟩
          refine ⟨_, rfl, ?_⟩
          replace BK129 := aM (bb BK129 hb)
          replace BK132 := aM (bb BK132 hb)
          replace HB := aM (qB bl hb); (try clear hb); (try clear hb2); (try clear hk); (try clear hi)
          refine hK.out _ _ ⟨bc BK129 0, bc BK129 1, bc BK129 2, bc BK132 0, bc BK132 1, bc BK132 2, bc BK132 3, bc BK132 4, bc BK132 5, bc BK132 6, bc BK132 7⟩ (fun hHeld => ?_)
          clear hK K
          refine norm_ (a' := ?_) ?_ ?_
          rotate_left
          ·show Act.put _ (some 30) _ = _
           simp only [Act.put, List.setIfInBounds_toArray, List.set_cons_zero, List.set_cons_succ, i64_w, i32_w]
           rfl
          refine pS (i := 13) (N := some 31) #[true, true, true, true, true, true, true, true, true, true, true, true, true, true, false] HT_ ?_
          refine pS (i := 14) (N := some 32) #[true, true, true, true, true, true, true, true, true, true, true, true, true, true, true] HT_ ?_
          refine done_ (qrA HT_.out (by kernel_rfl)) ?_
          try go_wp2
          go_roundg k1
          case measure => have := HK1.out; omega
          case rel => exact ⟨(wrap64 (x13_1 + 1)), sD, H', ⟨by have := HK1.out; omega⟩, ⟨rB BK129⟩, ⟨bl⟩⟩
        ·rw [if_neg c12] at H
         exact absurd H (by simp)
       ·replace c10 := Bool.eq_false_iff.mpr c10
        subst c10
        replace H := iF H
        obtain rfl := Option.some.inj H
        have p131 : 0 ≤ (x13_1 : Int) := of_decide_eq_true am
        have q131 : x13_1 < (l1.length : Int) := of_decide_eq_true am
        obtain ⟨ad131, e131, hx131_0, hx131_1, hx131_2, hx131_3, hx131_4, hx131_5, hx131_6, hx131_7⟩ := qTB HR1.out x13_1 p131 q131
        cases e131
        replace hx131_0 := (HB.out.cell (World.block_lt_of_cell? w _ hx131_0)).trans hx131_0
        replace hx131_1 := (HB.out.cell (World.block_lt_of_cell? w _ hx131_1)).trans hx131_1
        replace hx131_2 := (HB.out.cell (World.block_lt_of_cell? w _ hx131_2)).trans hx131_2
        replace hx131_3 := (HB.out.cell (World.block_lt_of_cell? w _ hx131_3)).trans hx131_3
        replace hx131_4 := (HB.out.cell (World.block_lt_of_cell? w _ hx131_4)).trans hx131_4
        replace hx131_5 := (HB.out.cell (World.block_lt_of_cell? w _ hx131_5)).trans hx131_5
        replace hx131_6 := (HB.out.cell (World.block_lt_of_cell? w _ hx131_6)).trans hx131_6
        replace hx131_7 := (HB.out.cell (World.block_lt_of_cell? w _ hx131_7)).trans hx131_7
        replace p131 := eq_true p131
        replace q131 := eq_true q131
        try go_wp2_with (first | ((with_reducible refine qK (N := 6) rfl ?_); refine qH ?hg (N := 6) ?hd (cs := #[.int .i64 0, .int .i64 0, .int .i64 0, .int .i64 0, .int .i64 0, .int .i64 0, .int .i64 0, .int .i64 0]) (t := 41) ?hr ?_; (case hd => rfl); (case hg => rfl); (case hr => exact gS); intro gb132 hg w31 hbox hb; have BK132 := aM (hbox); have GW132 := aM ((gg hg)); have GE132 := aM ((gg hg)); have NB129_132 := aM ((nl BK129 hg)); have NB132_129 := aM ((nr BK129 hg)); replace BK129 := aM (bb BK129 hb); replace HB := aM (qB bl hb); clear hb hbox hg; have hnb32 := NB132_129.out; have hnc32 := NB129_132.out; (refine cb8 BK132 ?_; intro _ _ _ _ _ _ _ _); (refine cz8 BK132 ?_; intro _ _ _ _ _ _ _ _)))
        have n0_ : Aside0 (((((((((w31.setCell ⟨gb132, 0, none⟩ (.int .i64 ((qA l1 x13_1).f0))).setCell ⟨gb132, 1, none⟩ (.int .i64 ((qA l1 x13_1).f1))).setCell ⟨gb132, 2, none⟩ (.int .i64 ((qA l1 x13_1).f2.f0))).setCell ⟨gb132, 3, none⟩ (.int .i64 ((qA l1 x13_1).f2.f1))).setCell ⟨gb132, 4, none⟩ (.int .i64 ((qA l1 x13_1).f2.f2))).setCell ⟨gb132, 5, none⟩ (.int .i64 ((qA l1 x13_1).f2.f3))).setCell ⟨gb132, 6, none⟩ (.int .i64 ((qA l1 x13_1).f2.f4))).setCell ⟨gb132, 7, none⟩ (.int .i64 ((qA l1 x13_1).f2.f5))).heap[gb129]? = some (.cells #[.int .i64 a0_0, .int .i64 a0_1, .slice A0_2 l0_2.length c0_2] 32 (0, 0))) := ⟨bF BK129 NB129_132⟩
        have n1_ : Aside0 (((((((((w31.setCell ⟨gb132, 0, none⟩ (.int .i64 ((qA l1 x13_1).f0))).setCell ⟨gb132, 1, none⟩ (.int .i64 ((qA l1 x13_1).f1))).setCell ⟨gb132, 2, none⟩ (.int .i64 ((qA l1 x13_1).f2.f0))).setCell ⟨gb132, 3, none⟩ (.int .i64 ((qA l1 x13_1).f2.f1))).setCell ⟨gb132, 4, none⟩ (.int .i64 ((qA l1 x13_1).f2.f2))).setCell ⟨gb132, 5, none⟩ (.int .i64 ((qA l1 x13_1).f2.f3))).setCell ⟨gb132, 6, none⟩ (.int .i64 ((qA l1 x13_1).f2.f4))).setCell ⟨gb132, 7, none⟩ (.int .i64 ((qA l1 x13_1).f2.f5))).heap[gb132]? = some (.cells #[.int .i64 ((qA l1 x13_1).f0), .int .i64 ((qA l1 x13_1).f1), .int .i64 ((qA l1 x13_1).f2.f0), .int .i64 ((qA l1 x13_1).f2.f1), .int .i64 ((qA l1 x13_1).f2.f2), .int .i64 ((qA l1 x13_1).f2.f3), .int .i64 ((qA l1 x13_1).f2.f4), .int .i64 ((qA l1 x13_1).f2.f5)] 41 (0, 0))) := ⟨by (with_reducible repeat (first | refine qG ?_ _ | refine qE ?_ | refine qF ?_ _)); exact bP8 BK132⟩
        have n2_ : Aside0 (Below w.heap.size w ((((((((w31.setCell ⟨gb132, 0, none⟩ (.int .i64 ((qA l1 x13_1).f0))).setCell ⟨gb132, 1, none⟩ (.int .i64 ((qA l1 x13_1).f1))).setCell ⟨gb132, 2, none⟩ (.int .i64 ((qA l1 x13_1).f2.f0))).setCell ⟨gb132, 3, none⟩ (.int .i64 ((qA l1 x13_1).f2.f1))).setCell ⟨gb132, 4, none⟩ (.int .i64 ((qA l1 x13_1).f2.f2))).setCell ⟨gb132, 5, none⟩ (.int .i64 ((qA l1 x13_1).f2.f3))).setCell ⟨gb132, 6, none⟩ (.int .i64 ((qA l1 x13_1).f2.f4))).setCell ⟨gb132, 7, none⟩ (.int .i64 ((qA l1 x13_1).f2.f5)))) := ⟨bl⟩
        (try clear BK129); (try clear BK132); (try clear HB)
        generalize ((((((((w31.setCell ⟨gb132, 0, none⟩ (.int .i64 ((qA l1 x13_1).f0))).setCell ⟨gb132, 1, none⟩ (.int .i64 ((qA l1 x13_1).f1))).setCell ⟨gb132, 2, none⟩ (.int .i64 ((qA l1 x13_1).f2.f0))).setCell ⟨gb132, 3, none⟩ (.int .i64 ((qA l1 x13_1).f2.f1))).setCell ⟨gb132, 4, none⟩ (.int .i64 ((qA l1 x13_1).f2.f2))).setCell ⟨gb132, 5, none⟩ (.int .i64 ((qA l1 x13_1).f2.f3))).setCell ⟨gb132, 6, none⟩ (.int .i64 ((qA l1 x13_1).f2.f4))).setCell ⟨gb132, 7, none⟩ (.int .i64 ((qA l1 x13_1).f2.f5))) = w34 at n0_ n1_ n2_ ⊢
        have BK129 := n0_
        have BK132 := n1_
        have HB := n2_
        clear n0_ n1_ n2_
        replace BK129 := aM (qE BK129.out)
        replace BK132 := aM (qE BK132.out)
        replace HB := aM (qu HB.out)
        refine qCB (n := 15) (S := fun w' => w'.cell? ⟨gb129, 0, none⟩ = some (.int .i64 a0_0) ∧ w'.cell? ⟨gb129, 1, none⟩ = some (.int .i64 a0_1) ∧ w'.cell? ⟨gb129, 2, none⟩ = some (.slice A0_2 l0_2.length c0_2) ∧ w'.cell? ⟨gb132, 0, none⟩ = some (.int .i64 ((qA l1 x13_1).f0)) ∧ w'.cell? ⟨gb132, 1, none⟩ = some (.int .i64 ((qA l1 x13_1).f1)) ∧ w'.cell? ⟨gb132, 2, none⟩ = some (.int .i64 ((qA l1 x13_1).f2.f0)) ∧ w'.cell? ⟨gb132, 3, none⟩ = some (.int .i64 ((qA l1 x13_1).f2.f1)) ∧ w'.cell? ⟨gb132, 4, none⟩ = some (.int .i64 ((qA l1 x13_1).f2.f2)) ∧ w'.cell? ⟨gb132, 5, none⟩ = some (.int .i64 ((qA l1 x13_1).f2.f3)) ∧ w'.cell? ⟨gb132, 6, none⟩ = some (.int .i64 ((qA l1 x13_1).f2.f4)) ∧ w'.cell? ⟨gb132, 7, none⟩ = some (.int .i64 ((qA l1 x13_1).f2.f5))) (ds := []) #[false, false, false, false, false, false, false, false, false, false, false, false, false, false, false] (by kernel_rfl) rfl rfl ⟨bc BK129 0, bc BK129 1, bc BK129 2, bc BK132 0, bc BK132 1, bc BK132 2, bc BK132 3, bc BK132 4, bc BK132 5, bc BK132 6, bc BK132 7⟩ (fun hHeld => ?_); refine qKA qp.tab6 qp.bits6 (fun HT_ HW_ => ?_)
        generalize w34.drew = w35 at BK129 BK132 HB hHeld ⊢
        refine tS (i := 0) (N := some 18) #[true, false, false, false, false, false, false, false, false, false, false, false, false, false, false] HT_ HW_ hHeld ?_
        refine tS (i := 1) (N := some 19) #[true, true, false, false, false, false, false, false, false, false, false, false, false, false, false] HT_ HW_ hHeld ?_
        refine one_ (i := 2) (N := some 20) #[true, true, true, false, false, false, false, false, false, false, false, false, false, false, false] rfl rfl (qUA HT_.out (by kernel_rfl)) (by decide) (fun K hK => ?_)
        refine goes_ Tryd.func27 (by kernel_rfl) rfl #[.agg #[.int .i64 a0_0, .int .i64 a0_1, .slice A0_2 l0_2.length c0_2], .agg #[.int .i64 ((qA l1 x13_1).f0), .int .i64 ((qA l1 x13_1).f1), .int .i64 ((qA l1 x13_1).f2.f0), .int .i64 ((qA l1 x13_1).f2.f1), .int .i64 ((qA l1 x13_1).f2.f2), .int .i64 ((qA l1 x13_1).f2.f3), .int .i64 ((qA l1 x13_1).f2.f4), .int .i64 ((qA l1 x13_1).f2.f5)]] (by rfl) rfl rfl gA ?_
        with_reducible refine (qDB.calls k1 a0_0 a0_1 _ _ l0_2 ((qA l1 x13_1).f0) ((qA l1 x13_1).f1) ((qA l1 x13_1).f2.f0) ((qA l1 x13_1).f2.f1) ((qA l1 x13_1).f2.f2) ((qA l1 x13_1).f2.f3) ((qA l1 x13_1).f2.f4) ((qA l1 x13_1).f2.f5) false _ ?side1 ?side2 A9.out).mono ?_
        (case side1 => repeat (first | exact (Kd.qg HR0_2.out HB.out) | (with_reducible refine Kd.qW ?_ _) | (with_reducible refine Kd.qV ?_ _) | (with_reducible refine Kd.qe ?_)))
        (case side2 => exact HC0_2.out)
        rintro e w36 ⟨rfl, hb⟩
        refine ⟨_, rfl, ?_⟩
        replace BK129 := aM (bb BK129 hb)
        replace BK132 := aM (bb BK132 hb)
        replace HB := aM (qB bl hb); (try clear hb); (try clear hb2); (try clear hk); (try clear hi)
        refine hK.out _ _ ⟨bc BK129 0, bc BK129 1, bc BK129 2, bc BK132 0, bc BK132 1, bc BK132 2, bc BK132 3, bc BK132 4, bc BK132 5, bc BK132 6, bc BK132 7⟩ (fun hHeld => ?_)
        clear hK K
        refine norm_ (a' := ?_) ?_ ?_
        rotate_left
        ·show Act.put _ (some 20) _ = _
         simp only [Act.put, List.setIfInBounds_toArray, List.set_cons_zero, List.set_cons_succ, i64_w, i32_w]
         rfl
        refine pS (i := 3) (N := some 21) #[true, true, true, true, false, false, false, false, false, false, false, false, false, false, false] HT_ ?_
        refine pS (i := 4) (N := some 22) #[true, true, true, true, true, false, false, false, false, false, false, false, false, false, false] HT_ ?_
        refine pure_ (i := 5) (N := some 23) (v := undef) (a' := ?_) #[true, true, true, true, true, true, false, false, false, false, false, false, false, false, false] rfl rfl (qgB HT_.out (by kernel_rfl)) (fun _ _ _ h => h) (Or.inr ⟨by rfl, rfl⟩) ?_ ?_
        rotate_left
        ·simp only [Act.put, List.setIfInBounds_toArray, List.set_cons_zero, List.set_cons_succ, i64_w, i32_w]
         rfl
        refine pure_ (i := 6) (N := some 24) (v := undef) (a' := ?_) #[true, true, true, true, true, true, true, false, false, false, false, false, false, false, false] rfl rfl (qgB HT_.out (by kernel_rfl)) (fun _ _ _ h => h) (Or.inr ⟨by rfl, rfl⟩) ?_ ?_
        rotate_left
        ·simp only [Act.put, List.setIfInBounds_toArray, List.set_cons_zero, List.set_cons_succ, i64_w, i32_w]
         rfl
        refine pure_ (i := 7) (N := some 25) (v := undef) (a' := ?_) #[true, true, true, true, true, true, true, true, false, false, false, false, false, false, false] rfl rfl (qgB HT_.out (by kernel_rfl)) (fun _ _ _ h => h) (Or.inr ⟨by rfl, rfl⟩) ?_ ?_
        rotate_left
        ·simp only [Act.put, List.setIfInBounds_toArray, List.set_cons_zero, List.set_cons_succ, i64_w, i32_w]
         rfl
        refine pure_ (i := 8) (N := some 26) (v := undef) (a' := ?_) #[true, true, true, true, true, true, true, true, true, false, false, false, false, false, false] rfl rfl (qgB HT_.out (by kernel_rfl)) (fun _ _ _ h => h) (Or.inr ⟨by rfl, rfl⟩) ?_ ?_
        rotate_left
        ·simp only [Act.put, List.setIfInBounds_toArray, List.set_cons_zero, List.set_cons_succ, i64_w, i32_w]
         rfl
        refine pure_ (i := 9) (N := some 27) (v := undef) (a' := ?_) #[true, true, true, true, true, true, true, true, true, true, false, false, false, false, false] rfl rfl (qgB HT_.out (by kernel_rfl)) (fun _ _ _ h => h) (Or.inr ⟨by rfl, rfl⟩) ?_ ?_
        rotate_left
        ·simp only [Act.put, List.setIfInBounds_toArray, List.set_cons_zero, List.set_cons_succ, i64_w, i32_w]
         rfl
        refine pure_ (i := 10) (N := some 28) (v := undef) (a' := ?_) #[true, true, true, true, true, true, true, true, true, true, true, false, false, false, false] rfl rfl (qgB HT_.out (by kernel_rfl)) (fun _ _ _ h => h) (Or.inr ⟨by rfl, rfl⟩) ?_ ?_
        rotate_left
        ·simp only [Act.put, List.setIfInBounds_toArray, List.set_cons_zero, List.set_cons_succ, i64_w, i32_w]
         rfl
        refine pure_ (i := 11) (N := some 29) (v := undef) (a' := ?_) #[true, true, true, true, true, true, true, true, true, true, true, true, false, false, false] rfl rfl (qgB HT_.out (by kernel_rfl)) (fun _ _ _ h => h) (Or.inr ⟨by rfl, rfl⟩) ?_ ?_
        rotate_left
        ·simp only [Act.put, List.setIfInBounds_toArray, List.set_cons_zero, List.set_cons_succ, i64_w, i32_w]
         rfl
        refine pure_ (i := 12) (N := some 30) (v := undef) (a' := ?_) #[true, true, true, true, true, true, true, true, true, true, true, true, true, false, false] rfl rfl (qgB HT_.out (by kernel_rfl)) (fun _ _ _ h => h) (Or.inr ⟨by rfl, rfl⟩) ?_ ?_
        rotate_left
        ·simp only [Act.put, List.setIfInBounds_toArray, List.set_cons_zero, List.set_cons_succ, i64_w, i32_w]
         rfl
        refine pure_ (i := 13) (N := some 31) (v := undef) (a' := ?_) #[true, true, true, true, true, true, true, true, true, true, true, true, true, true, false] rfl rfl (qgB HT_.out (by kernel_rfl)) (fun _ _ _ h => h) (Or.inr ⟨by rfl, rfl⟩) ?_ ?_
        rotate_left
        ·simp only [Act.put, List.setIfInBounds_toArray, List.set_cons_zero, List.set_cons_succ, i64_w, i32_w]
         rfl
        refine pS (i := 14) (N := some 32) #[true, true, true, true, true, true, true, true, true, true, true, true, true, true, true] HT_ ?_
        refine done_ (qrA HT_.out (by kernel_rfl)) ?_
        try go_wp2
        go_ret
        exact ⟨sR, bl⟩
      ·rw [if_neg c8] at H
       exact absurd H (by simp)
     ·rw [if_neg c7] at H
      exact absurd H (by simp)
    ·rw [if_neg c6] at H
     have c6b0 := decide_eq_false c6
     clear c6
     obtain rfl := Option.some.inj H
     go_wp2
     go_ret
     exact ⟨sR, bl⟩
 ·replace c4 := Bool.eq_false_iff.mpr c4
  subst c4
  replace H := iF H
  obtain rfl := Option.some.inj H
  go_enter Tryd.func15, Tryd.ntmps15
  go_wp2_with (first | ((with_reducible refine qK (N := 2) rfl ?_); refine qH ?hg (N := 2) ?hd (cs := #[.int .i64 a0_0, .int .i64 a0_1, .slice A0_2 l0_2.length c0_2]) (t := 32) ?hr ?_; (case hd => rfl); (case hg => rfl); (case hr => exact gS); intro gb129 hg w37 hbox hb; have BK129 := aM (hbox); have GW129 := aM ((gg hg)); have GE129 := aM ((gg hg)); replace HB := aM (qB bl hb); clear hb hbox hg) | ((with_reducible refine qJ (f := 26) rfl ?_); refine qr (some 9) rfl rfl Tryd.func26 (by kernel_rfl) rfl #[.int .i64 (l1.length : Int), .int .i64 1, .int .i64 3] rfl gA ?_; (with_reducible refine (qaA.calls (l1.length : Int) 1 3 false _ A3.out).mono ?_); rintro e w' ⟨rfl, ⟨nd, rfl⟩⟩; refine ⟨_, rfl, ?_⟩))
  go_ret
  exact ⟨sR, bl⟩
def qCA.f (k : Nat) (a0 : ByteArray) (l1 : List (S41)) : Option (Int × Int × List Int × Bool) := (qU.f k a0).bind fun bt140 => (if bt140.2.2.2 = true then ((qp.f k bt140.1 bt140.2.1 bt140.2.2.1 l1).bind fun t147 => (some (bt140.1, bt140.2.1, bt140.2.2.1, t147))) else (some (bt140.1, bt140.2.1, bt140.2.2.1, false)))
def qCA.T2 : Bool × List (List Nat × List Nat) := (true, [([], []), ([], []), ([1], [1]), ([2], [2]), ([2], [2]), ([3, 4, 2, 2], [2, 3, 4]), ([2, 5], [2, 5]), ([0, 5, 0], [0]), ([6, 7, 0, 1, 2, 3, 4, 5, 6, 7], [6])])
def qCA.B2 : List Nat := [0, 0, 2, 6, 6, 30, 62, 63, 255]
theorem qCA.tab2 : rtab .any (opsOf Tryd.f9 2) = qCA.T2 := by kernel_rfl
theorem qCA.bits2 : waitsOk qCA.T2.2 qCA.B2 = true := by kernel_rfl
set_option maxHeartbeats 8000000 in
set_option maxRecDepth 100000 in
theorem qCA.calls (k : Nat) (a0 : ByteArray) (A1 : Option Addr) (c1 : Nat) (l1 : List (S41)) (r1 : Int) (r2 : Int) (r3 : List Int) (r4 : Bool) (w : World) (hr1 : Kd.C k41 w A1 l1.length l1) (hc1 : l1.length ≤ c1) (h : qCA.f k a0 l1 = some (r1, r2, r3, r4)) :
  Calls Tryd.prog 9 #[.string a0, .slice A1 l1.length c1] w fun e w' => ∃ v2_ : Value, e = .returned (.tuple #[.agg #[.int .i64 r1, .int .i64 r2, v2_], .bool r4]) ∧ Kd.R (Kd.int .u8) 5 w' w.heap.size (fun _ => True) v2_ r3 ∧ Below w.heap.size w w' := by
 have hu32 := Tryd.underlying32
 have HR1 := aM hr1
 have HC1 := aM hc1
 clear hr1 hc1
 have HB := aM (Below.refl w.heap.size w)
 have H : ((qU.f k a0).bind fun bt140 => (if bt140.2.2.2 = true then ((qp.f k bt140.1 bt140.2.1 bt140.2.2.1 l1).bind fun t147 => (some (bt140.1, bt140.2.1, bt140.2.2.1, t147))) else (some (bt140.1, bt140.2.1, bt140.2.2.1, false)))) = some (r1, r2, r3, r4) := h
 clear h
 replace H := bO H
 obtain ⟨⟨t140, t141, t142, t145⟩, A3, H⟩ := H
 dsimp only at H A3
 by_cases c4 : t145 = true
 ·subst c4
  replace H := iT H
  replace H := bO H
  obtain ⟨t147, A5, H⟩ := H
  simp only [Option.some.injEq, Prod.mk.injEq] at H
  obtain ⟨rfl, rfl, rfl, rfl⟩ := H
  go_enter Tryd.func9, Tryd.ntmps9
  try go_wp2_with (first | ((with_reducible refine qK (N := 4) rfl ?_); refine qH ?hg (N := 4) ?hd (cs := #[.int .i64 0, .int .i64 0, .slice none 0 0]) (t := 32) ?hr ?_; (case hd => rfl); (case hg => rfl); (case hr => exact gS); intro gb139 hg w6 hbox hb; have BK139 := aM (hbox); have GW139 := aM ((gg hg)); have GE139 := aM ((gg hg)); replace HB := aM (qB bl hb); clear hb hbox hg) | ((with_reducible refine qJ (f := 14) rfl ?_); refine qr (some 10) rfl rfl Tryd.func14 (by kernel_rfl) rfl #[.string a0] rfl gA ?_; (with_reducible refine (qU.calls k a0 t140 t141 t142 true _ A3.out).mono ?_); rintro e w7 ⟨v143, rfl, ho0, hb⟩; refine ⟨_, rfl, ?_⟩; have HO144 := aM (Kd.qx ho0 (qL bl)); replace BK139 := aM (bb BK139 hb); replace HB := aM (qB bl hb); (try clear hb); (try clear hb2); (try clear hk); (try clear hi); (try clear ho0)) | ((with_reducible refine qK (N := 6) rfl ?_); refine qH ?hg (N := 6) ?hd (cs := #[.int .i64 0, .int .i64 0, .slice none 0 0]) (t := 32) ?hr ?_; (case hd => rfl); (case hg => rfl); (case hr => exact gS); intro gb146 hg w8 hbox hb; have BK146 := aM (hbox); have GW146 := aM ((gg hg)); have GE146 := aM ((gg hg)); have NB139_146 := aM ((nl BK139 hg)); have NB146_139 := aM ((nr BK139 hg)); replace HO144 := aM (Kd.qd (rR HO144) hb); replace BK139 := aM (bb BK139 hb); replace HB := aM (qB bl hb); clear hb hbox hg; have hnb9 := NB146_139.out; have hnc9 := NB139_146.out; (refine cb3 BK146 ?_; intro _ _ _); (refine cz3 BK146 ?_; intro _ _ _); obtain ⟨Ao11, co11, eo11⟩ := Kd.qBA HO144.out; subst eo11))
  have n0_ : Aside0 (Kd.R (Kd.int .u8) 5 (((w8.setCell ⟨gb146, 0, none⟩ (.int .i64 t140)).setCell ⟨gb146, 1, none⟩ (.int .i64 t141)).setCell ⟨gb146, 2, none⟩ (.slice Ao11 t142.length co11)) w.heap.size (fun _ => True) (.slice Ao11 t142.length co11) t142) := ⟨by (with_reducible repeat (first | apply Kd.qO | apply Kd.qQ | apply Kd.qS)); exact Kd.qZ (Kd.R_far (p := ⟨gb146, 2, none⟩) (Kd.R_far (p := ⟨gb146, 1, none⟩) (Kd.R_far (p := ⟨gb146, 0, none⟩) (Kd.qAB HO144.out BK146.out (by decide)) (fun _ hk => hk.2) (.int .i64 t140)) (fun _ hk => hk.2) (.int .i64 t141)) (fun _ hk => hk.2) (.slice Ao11 t142.length co11)) (fun _ hk => trivial)⟩
  have n1_ : Aside0 ((((w8.setCell ⟨gb146, 0, none⟩ (.int .i64 t140)).setCell ⟨gb146, 1, none⟩ (.int .i64 t141)).setCell ⟨gb146, 2, none⟩ (.slice Ao11 t142.length co11)).heap[gb139]? = some (.cells #[.int .i64 0, .int .i64 0, .slice none 0 0] 32 (0, 0))) := ⟨bF BK139 NB139_146⟩
  have n2_ : Aside0 ((((w8.setCell ⟨gb146, 0, none⟩ (.int .i64 t140)).setCell ⟨gb146, 1, none⟩ (.int .i64 t141)).setCell ⟨gb146, 2, none⟩ (.slice Ao11 t142.length co11)).heap[gb146]? = some (.cells #[.int .i64 t140, .int .i64 t141, .slice Ao11 t142.length co11] 32 (0, 0))) := ⟨by (with_reducible repeat (first | refine qG ?_ _ | refine qE ?_ | refine qF ?_ _)); exact bP3 BK146⟩
  have n3_ : Aside0 (Below w.heap.size w (((w8.setCell ⟨gb146, 0, none⟩ (.int .i64 t140)).setCell ⟨gb146, 1, none⟩ (.int .i64 t141)).setCell ⟨gb146, 2, none⟩ (.slice Ao11 t142.length co11))) := ⟨bl⟩
  (try clear HO144); (try clear BK139); (try clear BK146); (try clear HB)
  generalize (((w8.setCell ⟨gb146, 0, none⟩ (.int .i64 t140)).setCell ⟨gb146, 1, none⟩ (.int .i64 t141)).setCell ⟨gb146, 2, none⟩ (.slice Ao11 t142.length co11)) = w12 at n0_ n1_ n2_ n3_ ⊢
  have HO144 := n0_
  have BK139 := n1_
  have BK146 := n2_
  have HB := n3_
  clear n0_ n1_ n2_ n3_
  replace HO144 := aM (Kd.qS HO144.out)
  replace BK139 := aM (qE BK139.out)
  replace BK146 := aM (qE BK146.out)
  replace HB := aM (qu HB.out)
  refine qCB (n := 9) (S := fun w' => w'.cell? ⟨gb146, 0, none⟩ = some (.int .i64 t140) ∧ w'.cell? ⟨gb146, 1, none⟩ = some (.int .i64 t141) ∧ w'.cell? ⟨gb146, 2, none⟩ = some (.slice Ao11 t142.length co11)) (ds := []) #[false, false, false, false, false, false, false, false, false] (by kernel_rfl) rfl rfl ⟨bc BK146 0, bc BK146 1, bc BK146 2⟩ (fun hHeld => ?_); refine qKA qCA.tab2 qCA.bits2 (fun HT_ HW_ => ?_)
  generalize w12.drew = w13 at HO144 BK139 BK146 HB hHeld ⊢
  refine pS (i := 1) (N := some 14) #[false, true, false, false, false, false, false, false, false] HT_ ?_
  refine pS (i := 2) (N := some 15) #[false, true, true, false, false, false, false, false, false] HT_ ?_
  refine pS (i := 4) (N := some 17) #[false, true, true, false, true, false, false, false, false] HT_ ?_
  refine tS (i := 0) (N := some 13) #[true, true, true, false, true, false, false, false, false] HT_ HW_ hHeld ?_
  refine tS (i := 3) (N := some 16) #[true, true, true, true, true, false, false, false, false] HT_ HW_ hHeld ?_
  refine one_ (i := 5) (N := some 18) #[true, true, true, true, true, true, false, false, false] rfl rfl (qUA HT_.out (by kernel_rfl)) (by decide) (fun K hK => ?_)
  refine goes_ Tryd.func15 (by kernel_rfl) rfl #[.agg #[.int .i64 t140, .int .i64 t141, .slice Ao11 t142.length co11], .slice A1 l1.length c1] (by rfl) rfl rfl gA ?_
  with_reducible refine (qp.calls k t140 t141 _ _ t142 _ _ l1 t147 _ ?side1 ?side2 ?side3 ?side4 A5.out).mono ?_
  (case side1 => repeat (first | exact (Kd.qP HO144.out).2.2 | (with_reducible refine Kd.qW ?_ _) | (with_reducible refine Kd.qV ?_ _) | (with_reducible refine Kd.qe ?_)))
  (case side2 => exact (Kd.qP HO144.out).2.1)
  (case side3 => repeat (first | exact (Kd.qg HR1.out HB.out) | (with_reducible refine Kd.qW ?_ _) | (with_reducible refine Kd.qV ?_ _) | (with_reducible refine Kd.qe ?_)))
  (case side4 => exact HC1.out)
  rintro e w14 ⟨rfl, hb⟩
  refine ⟨_, rfl, ?_⟩
  replace HO144 := aM (Kd.qd (rR HO144) hb)
  replace BK139 := aM (bb BK139 hb)
  replace BK146 := aM (bb BK146 hb)
  replace HB := aM (qB bl hb); (try clear hb); (try clear hb2); (try clear hk); (try clear hi)
  refine hK.out _ _ ⟨bc BK146 0, bc BK146 1, bc BK146 2⟩ (fun hHeld => ?_)
  clear hK K
  refine norm_ (a' := ?_) ?_ ?_
  rotate_left
  ·show Act.put _ (some 18) _ = _
   simp only [Act.put, List.setIfInBounds_toArray, List.set_cons_zero, List.set_cons_succ, i64_w, i32_w]
   rfl
  refine pS (i := 6) (N := some 19) #[true, true, true, true, true, true, true, false, false] HT_ ?_
  refine one_ (i := 7) (N := none) #[true, true, true, true, true, true, true, true, false] rfl rfl (qUA HT_.out (by kernel_rfl)) (by decide) (fun K hK => ?_)
  have hs15 : w14.cell? ⟨gb139, 0, none⟩ = some (.int .i64 0) := bc BK139 0
  have hfs15 := qX BK139.out 0
  have hns15_1 := NB146_139.out
  have hms15_1 := NB139_146.out
  have hs16 : w14.cell? ⟨gb139, 1, none⟩ = some (.int .i64 0) := bc BK139 1
  have hfs16 := qX BK139.out 1
  have hns16_1 := NB146_139.out
  have hms16_1 := NB139_146.out
  have hs17 : w14.cell? ⟨gb139, 2, none⟩ = some (.slice none 0 0) := bc BK139 2
  have hfs17 := qX BK139.out 2
  have hns17_1 := NB146_139.out
  have hms17_1 := NB139_146.out
  refine skip_ (w1 := ?_) (by rfl) rfl ?_ ?_
  rotate_left
  ·go_simp
   rfl
  refine hK.out _ _ ⟨((qXA (p := ⟨gb139, _, none⟩) NB146_139.out _).trans (((qXA (p := ⟨gb139, _, none⟩) NB146_139.out _).trans (((qXA (p := ⟨gb139, _, none⟩) NB146_139.out _).trans (hHeld.1)))))), ((qXA (p := ⟨gb139, _, none⟩) NB146_139.out _).trans (((qXA (p := ⟨gb139, _, none⟩) NB146_139.out _).trans (((qXA (p := ⟨gb139, _, none⟩) NB146_139.out _).trans (hHeld.2.1)))))), ((qXA (p := ⟨gb139, _, none⟩) NB146_139.out _).trans (((qXA (p := ⟨gb139, _, none⟩) NB146_139.out _).trans (((qXA (p := ⟨gb139, _, none⟩) NB146_139.out _).trans (hHeld.2.2))))))⟩ (fun hHeld => ?_)
  clear hK K
  refine pS (i := 8) (N := some 5) #[true, true, true, true, true, true, true, true, true] HT_ ?_
  refine done_ (qrA HT_.out (by kernel_rfl)) ?_
  try go_wp2
  refine bodyPost_ret (qmA rfl _ _ gb139 32 #[.int .i64 t140, .int .i64 t141, .slice Ao11 t142.length co11] (0, 0) _ rfl (by (with_reducible repeat (first | refine qG ?_ _ | refine qE ?_ | refine qF ?_ _)); exact bP3 BK139) Tryd.underlying32 rfl (by kernel_rfl)) rfl ?_
  exact ⟨_, sR, by (with_reducible repeat (first | apply Kd.qO | apply Kd.qQ | apply Kd.qS)); exact Kd.qZ (Kd.R_far (p := ⟨gb139, 2, none⟩) (Kd.R_far (p := ⟨gb139, 1, none⟩) (Kd.R_far (p := ⟨gb139, 0, none⟩) (Kd.qAB HO144.out BK139.out (by decide)) (fun _ hk => hk.2) (.int .i64 t140)) (fun _ hk => hk.2) (.int .i64 t141)) (fun _ hk => hk.2) (.slice Ao11 t142.length co11)) (fun _ hk => trivial), bl⟩
 ·replace c4 := Bool.eq_false_iff.mpr c4
  subst c4
  replace H := iF H
  simp only [Option.some.injEq, Prod.mk.injEq] at H
  obtain ⟨rfl, rfl, rfl, rfl⟩ := H
  go_enter Tryd.func9, Tryd.ntmps9
  try go_wp2_with (first | ((with_reducible refine qK (N := 4) rfl ?_); refine qH ?hg (N := 4) ?hd (cs := #[.int .i64 0, .int .i64 0, .slice none 0 0]) (t := 32) ?hr ?_; (case hd => rfl); (case hg => rfl); (case hr => exact gS); intro gb139 hg w18 hbox hb; have BK139 := aM (hbox); have GW139 := aM ((gg hg)); have GE139 := aM ((gg hg)); replace HB := aM (qB bl hb); clear hb hbox hg) | ((with_reducible refine qJ (f := 14) rfl ?_); refine qr (some 10) rfl rfl Tryd.func14 (by kernel_rfl) rfl #[.string a0] rfl gA ?_; (with_reducible refine (qU.calls k a0 t140 t141 t142 false _ A3.out).mono ?_); rintro e w19 ⟨v143, rfl, ho0, hb⟩; refine ⟨_, rfl, ?_⟩; have HO144 := aM (Kd.qx ho0 (qL bl)); replace BK139 := aM (bb BK139 hb); replace HB := aM (qB bl hb); (try clear hb); (try clear hb2); (try clear hk); (try clear hi); (try clear ho0)) | ((with_reducible refine qK (N := 6) rfl ?_); refine qH ?hg (N := 6) ?hd (cs := #[.int .i64 0, .int .i64 0, .slice none 0 0]) (t := 32) ?hr ?_; (case hd => rfl); (case hg => rfl); (case hr => exact gS); intro gb146 hg w20 hbox hb; have BK146 := aM (hbox); have GW146 := aM ((gg hg)); have GE146 := aM ((gg hg)); have NB139_146 := aM ((nl BK139 hg)); have NB146_139 := aM ((nr BK139 hg)); replace HO144 := aM (Kd.qd (rR HO144) hb); replace BK139 := aM (bb BK139 hb); replace HB := aM (qB bl hb); clear hb hbox hg; have hnb21 := NB146_139.out; have hnc21 := NB139_146.out; (refine cb3 BK146 ?_; intro _ _ _); (refine cz3 BK146 ?_; intro _ _ _); obtain ⟨Ao23, co23, eo23⟩ := Kd.qBA HO144.out; subst eo23))
  have n0_ : Aside0 (Kd.R (Kd.int .u8) 5 (((w20.setCell ⟨gb146, 0, none⟩ (.int .i64 t140)).setCell ⟨gb146, 1, none⟩ (.int .i64 t141)).setCell ⟨gb146, 2, none⟩ (.slice Ao23 t142.length co23)) w.heap.size (fun _ => True) (.slice Ao23 t142.length co23) t142) := ⟨by (with_reducible repeat (first | apply Kd.qO | apply Kd.qQ | apply Kd.qS)); exact Kd.qZ (Kd.R_far (p := ⟨gb146, 2, none⟩) (Kd.R_far (p := ⟨gb146, 1, none⟩) (Kd.R_far (p := ⟨gb146, 0, none⟩) (Kd.qAB HO144.out BK146.out (by decide)) (fun _ hk => hk.2) (.int .i64 t140)) (fun _ hk => hk.2) (.int .i64 t141)) (fun _ hk => hk.2) (.slice Ao23 t142.length co23)) (fun _ hk => trivial)⟩
  have n1_ : Aside0 ((((w20.setCell ⟨gb146, 0, none⟩ (.int .i64 t140)).setCell ⟨gb146, 1, none⟩ (.int .i64 t141)).setCell ⟨gb146, 2, none⟩ (.slice Ao23 t142.length co23)).heap[gb139]? = some (.cells #[.int .i64 0, .int .i64 0, .slice none 0 0] 32 (0, 0))) := ⟨bF BK139 NB139_146⟩
  have n2_ : Aside0 ((((w20.setCell ⟨gb146, 0, none⟩ (.int .i64 t140)).setCell ⟨gb146, 1, none⟩ (.int .i64 t141)).setCell ⟨gb146, 2, none⟩ (.slice Ao23 t142.length co23)).heap[gb146]? = some (.cells #[.int .i64 t140, .int .i64 t141, .slice Ao23 t142.length co23] 32 (0, 0))) := ⟨by (with_reducible repeat (first | refine qG ?_ _ | refine qE ?_ | refine qF ?_ _)); exact bP3 BK146⟩
  have n3_ : Aside0 (Below w.heap.size w (((w20.setCell ⟨gb146, 0, none⟩ (.int .i64 t140)).setCell ⟨gb146, 1, none⟩ (.int .i64 t141)).setCell ⟨gb146, 2, none⟩ (.slice Ao23 t142.length co23))) := ⟨bl⟩
  (try clear HO144); (try clear BK139); (try clear BK146); (try clear HB)
  generalize (((w20.setCell ⟨gb146, 0, none⟩ (.int .i64 t140)).setCell ⟨gb146, 1, none⟩ (.int .i64 t141)).setCell ⟨gb146, 2, none⟩ (.slice Ao23 t142.length co23)) = w24 at n0_ n1_ n2_ n3_ ⊢
  have HO144 := n0_
  have BK139 := n1_
  have BK146 := n2_
  have HB := n3_
  clear n0_ n1_ n2_ n3_
  replace HO144 := aM (Kd.qS HO144.out)
  replace BK139 := aM (qE BK139.out)
  replace BK146 := aM (qE BK146.out)
  replace HB := aM (qu HB.out)
  refine qCB (n := 9) (S := fun w' => w'.cell? ⟨gb146, 0, none⟩ = some (.int .i64 t140) ∧ w'.cell? ⟨gb146, 1, none⟩ = some (.int .i64 t141) ∧ w'.cell? ⟨gb146, 2, none⟩ = some (.slice Ao23 t142.length co23)) (ds := []) #[false, false, false, false, false, false, false, false, false] (by kernel_rfl) rfl rfl ⟨bc BK146 0, bc BK146 1, bc BK146 2⟩ (fun hHeld => ?_); refine qKA qCA.tab2 qCA.bits2 (fun HT_ HW_ => ?_)
  generalize w24.drew = w25 at HO144 BK139 BK146 HB hHeld ⊢
  refine pS (i := 1) (N := some 14) #[false, true, false, false, false, false, false, false, false] HT_ ?_
  refine pS (i := 2) (N := some 15) #[false, true, true, false, false, false, false, false, false] HT_ ?_
  refine pure_ (i := 3) (N := some 16) (v := undef) (a' := ?_) #[false, true, true, true, false, false, false, false, false] rfl rfl (qgB HT_.out (by kernel_rfl)) (fun _ _ _ h => h) (Or.inr ⟨by rfl, rfl⟩) ?_ ?_
  rotate_left
  ·simp only [Act.put, List.setIfInBounds_toArray, List.set_cons_zero, List.set_cons_succ, i64_w, i32_w]
   rfl
  refine pure_ (i := 4) (N := some 17) (v := undef) (a' := ?_) #[false, true, true, true, true, false, false, false, false] rfl rfl (qgB HT_.out (by kernel_rfl)) (fun _ _ _ h => h) (Or.inr ⟨by rfl, rfl⟩) ?_ ?_
  rotate_left
  ·simp only [Act.put, List.setIfInBounds_toArray, List.set_cons_zero, List.set_cons_succ, i64_w, i32_w]
   rfl
  refine pure_ (i := 5) (N := some 18) (v := undef) (a' := ?_) #[false, true, true, true, true, true, false, false, false] rfl rfl (qgB HT_.out (by kernel_rfl)) (fun _ _ _ h => h) (Or.inr ⟨by rfl, rfl⟩) ?_ ?_
  rotate_left
  ·simp only [Act.put, List.setIfInBounds_toArray, List.set_cons_zero, List.set_cons_succ, i64_w, i32_w]
   rfl
  refine pS (i := 6) (N := some 19) #[false, true, true, true, true, true, true, false, false] HT_ ?_
  refine tS (i := 0) (N := some 13) #[true, true, true, true, true, true, true, false, false] HT_ HW_ hHeld ?_
  refine one_ (i := 7) (N := none) #[true, true, true, true, true, true, true, true, false] rfl rfl (qUA HT_.out (by kernel_rfl)) (by decide) (fun K hK => ?_)
  have hs26 : w25.cell? ⟨gb139, 0, none⟩ = some (.int .i64 0) := bc BK139 0
  have hfs26 := qX BK139.out 0
  have hns26_1 := NB146_139.out
  have hms26_1 := NB139_146.out
  have hs27 : w25.cell? ⟨gb139, 1, none⟩ = some (.int .i64 0) := bc BK139 1
  have hfs27 := qX BK139.out 1
  have hns27_1 := NB146_139.out
  have hms27_1 := NB139_146.out
  have hs28 : w25.cell? ⟨gb139, 2, none⟩ = some (.slice none 0 0) := bc BK139 2
  have hfs28 := qX BK139.out 2
  have hns28_1 := NB146_139.out
  have hms28_1 := NB139_146.out
  refine skip_ (w1 := ?_) (by rfl) rfl ?_ ?_
  rotate_left
  ·go_simp
   rfl
  refine hK.out _ _ ⟨((qXA (p := ⟨gb139, _, none⟩) NB146_139.out _).trans (((qXA (p := ⟨gb139, _, none⟩) NB146_139.out _).trans (((qXA (p := ⟨gb139, _, none⟩) NB146_139.out _).trans (hHeld.1)))))), ((qXA (p := ⟨gb139, _, none⟩) NB146_139.out _).trans (((qXA (p := ⟨gb139, _, none⟩) NB146_139.out _).trans (((qXA (p := ⟨gb139, _, none⟩) NB146_139.out _).trans (hHeld.2.1)))))), ((qXA (p := ⟨gb139, _, none⟩) NB146_139.out _).trans (((qXA (p := ⟨gb139, _, none⟩) NB146_139.out _).trans (((qXA (p := ⟨gb139, _, none⟩) NB146_139.out _).trans (hHeld.2.2))))))⟩ (fun hHeld => ?_)
  clear hK K
  refine pS (i := 8) (N := some 5) #[true, true, true, true, true, true, true, true, true] HT_ ?_
  refine done_ (qrA HT_.out (by kernel_rfl)) ?_
  try go_wp2
  refine bodyPost_ret (qmA rfl _ _ gb139 32 #[.int .i64 t140, .int .i64 t141, .slice Ao23 t142.length co23] (0, 0) _ rfl (by (with_reducible repeat (first | refine qG ?_ _ | refine qE ?_ | refine qF ?_ _)); exact bP3 BK139) Tryd.underlying32 rfl (by kernel_rfl)) rfl ?_
  exact ⟨_, sR, by (with_reducible repeat (first | apply Kd.qO | apply Kd.qQ | apply Kd.qS)); exact Kd.qZ (Kd.R_far (p := ⟨gb139, 2, none⟩) (Kd.R_far (p := ⟨gb139, 1, none⟩) (Kd.R_far (p := ⟨gb139, 0, none⟩) (Kd.qAB HO144.out BK139.out (by decide)) (fun _ hk => hk.2) (.int .i64 t140)) (fun _ hk => hk.2) (.int .i64 t141)) (fun _ hk => hk.2) (.slice Ao23 t142.length co23)) (fun _ hk => trivial), bl⟩
theorem eqA39 (d : Nat) (w : World) (x0 y0 : Int) (x1 y1 : Int) (x2 y2 : Int) (x3 y3 : Int) (x4 y4 : Int) (x5 y5 : Int) :
  (Op.equalIn (d + 2) 39 (.agg #[.int .i64 x0, .int .i64 x1, .int .i64 x2, .int .i64 x3, .int .i64 x4, .int .i64 x5]) (.agg #[.int .i64 y0, .int .i64 y1, .int .i64 y2, .int .i64 y3, .int .i64 y4, .int .i64 y5])).run Tryd.prog w = .ok (x0 == y0 && (x1 == y1 && (x2 == y2 && (x3 == y3 && (x4 == y4 && (x5 == y5)))))) w := by
 refine eqA_of Tryd.underlying39 (by kernel_rfl) ?_
 refine qCD (by rfl) (by go_simp; rfl) (by go_simp; rfl) (by go_simp) ?_
 refine qCD (by rfl) (by go_simp; rfl) (by go_simp; rfl) (by go_simp) ?_
 refine qCD (by rfl) (by go_simp; rfl) (by go_simp; rfl) (by go_simp) ?_
 refine qCD (by rfl) (by go_simp; rfl) (by go_simp; rfl) (by go_simp) ?_
 refine qCD (by rfl) (by go_simp; rfl) (by go_simp; rfl) (by go_simp) ?_
 exact eqf_last (by rfl) (by go_simp; rfl) (by go_simp; rfl) (by go_simp)
def qEB.f  : Option (ByteArray) := some (⟨#[110, 101, 115, 119]⟩ : ByteArray)
set_option maxHeartbeats 8000000 in
set_option maxRecDepth 100000 in
theorem qEB.calls  (r : ByteArray) (w : World) (h : qEB.f  = some r) :
  Calls Tryd.prog 34 #[] w fun e w' => e = .returned (.string r) ∧ Drawn0 w w' := by
 have H : (some (⟨#[110, 101, 115, 119]⟩ : ByteArray)) = some r := h
 clear h
 obtain rfl := Option.some.inj H
 go_enter Tryd.func34, Tryd.ntmps34
 go_wp2
 go_ret
 exact ⟨by first | rfl | (simp; done) | (simp [*]; done), dR⟩
def qqA.f (a0_0 : Int) (a0_1 : Int) (a0_2 : Int) (a0_3 : Int) (a0_4 : Int) (a0_5 : Int) (a1 : Int) : Option (Int × Int × Int × Int × Int × Int) := if a1 = 0 then (some (a0_3, a0_0, a0_2, a0_5, a0_4, a0_1)) else (if a1 = 1 then (some (a0_4, a0_1, a0_0, a0_3, a0_5, a0_2)) else (if a1 = 2 then (some (a0_1, a0_5, a0_2, a0_0, a0_4, a0_3)) else (some (a0_2, a0_1, a0_5, a0_3, a0_0, a0_4))))
set_option maxHeartbeats 8000000 in
set_option maxRecDepth 100000 in
theorem qqA.calls (a0_0 : Int) (a0_1 : Int) (a0_2 : Int) (a0_3 : Int) (a0_4 : Int) (a0_5 : Int) (a1 : Int) (r1 : Int) (r2 : Int) (r3 : Int) (r4 : Int) (r5 : Int) (r6 : Int) (w : World) (h : qqA.f a0_0 a0_1 a0_2 a0_3 a0_4 a0_5 a1 = some (r1, r2, r3, r4, r5, r6)) :
  Calls Tryd.prog 49 #[.agg #[.int .i64 a0_0, .int .i64 a0_1, .int .i64 a0_2, .int .i64 a0_3, .int .i64 a0_4, .int .i64 a0_5], .int .i64 a1] w fun e w' => e = .returned (.agg #[.int .i64 r1, .int .i64 r2, .int .i64 r3, .int .i64 r4, .int .i64 r5, .int .i64 r6]) ∧ Below w.heap.size w w' := by
 have hu39 := Tryd.underlying39
 have HB := aM (Below.refl w.heap.size w)
 have H : (if a1 = 0 then (some (a0_3, a0_0, a0_2, a0_5, a0_4, a0_1)) else (if a1 = 1 then (some (a0_4, a0_1, a0_0, a0_3, a0_5, a0_2)) else (if a1 = 2 then (some (a0_1, a0_5, a0_2, a0_0, a0_4, a0_3)) else (some (a0_2, a0_1, a0_5, a0_3, a0_0, a0_4))))) = some (r1, r2, r3, r4, r5, r6) := h
 clear h
 by_cases c3 : a1 = 0
 ·rw [if_pos c3] at H
  have c3b0 := beq_iff_eq.mpr c3
  have c3b1 := bne_eq_false_iff_eq.mpr c3
  clear c3
  simp only [Option.some.injEq, Prod.mk.injEq] at H
  obtain ⟨rfl, rfl, rfl, rfl, rfl, rfl⟩ := H
  go_enter Tryd.func49, Tryd.ntmps49
  go_wp2_with (first | ((with_reducible refine qK (N := 2) rfl ?_); refine qH ?hg (N := 2) ?hd (cs := #[.int .i64 a0_0, .int .i64 a0_1, .int .i64 a0_2, .int .i64 a0_3, .int .i64 a0_4, .int .i64 a0_5]) (t := 39) ?hr ?_; (case hd => rfl); (case hg => rfl); (case hr => exact gS); intro gb148 hg w4 hbox hb; have BK148 := aM (hbox); have GW148 := aM ((gg hg)); have GE148 := aM ((gg hg)); replace HB := aM (qB bl hb); clear hb hbox hg) | ((with_reducible refine qK (N := 4) rfl ?_); refine qH ?hg (N := 4) ?hd (cs := #[.int .i64 0, .int .i64 0, .int .i64 0, .int .i64 0, .int .i64 0, .int .i64 0]) (t := 39) ?hr ?_; (case hd => rfl); (case hg => rfl); (case hr => exact gS); intro gb149 hg w5 hbox hb; have BK149 := aM (hbox); have GW149 := aM ((gg hg)); have GE149 := aM ((gg hg)); have NB148_149 := aM ((nl BK148 hg)); have NB149_148 := aM ((nr BK148 hg)); replace BK148 := aM (bb BK148 hb); replace HB := aM (qB bl hb); clear hb hbox hg; have hnb6 := NB148_149.out; have hnc6 := NB149_148.out; (refine cb6 BK148 ?_; intro _ _ _ _ _ _); (refine cz6 BK148 ?_; intro _ _ _ _ _ _); (refine cb6 BK149 ?_; intro _ _ _ _ _ _); (refine cz6 BK149 ?_; intro _ _ _ _ _ _)))
  refine bodyPost_ret (results_cell_row rfl _ _ gb149 39 #[.int .i64 a0_3, .int .i64 a0_0, .int .i64 a0_2, .int .i64 a0_5, .int .i64 a0_4, .int .i64 a0_1] (0, 0) _ rfl (by (with_reducible repeat (first | refine qG ?_ _ | refine qE ?_ | refine qF ?_ _)); exact bP6 BK149) Tryd.underlying39 rfl (by kernel_rfl)) rfl ?_
  exact ⟨sR, bl⟩
 ·rw [if_neg c3] at H
  have c3b0 := beq_eq_false_iff_ne.mpr c3
  have c3b1 := bne_iff_ne.mpr c3
  by_cases c9 : a1 = 1
  ·rw [if_pos c9] at H
   have c9b0 := beq_iff_eq.mpr c9
   have c9b1 := bne_eq_false_iff_eq.mpr c9
   clear c9
   simp only [Option.some.injEq, Prod.mk.injEq] at H
   obtain ⟨rfl, rfl, rfl, rfl, rfl, rfl⟩ := H
   go_enter Tryd.func49, Tryd.ntmps49
   go_wp2_with (first | ((with_reducible refine qK (N := 2) rfl ?_); refine qH ?hg (N := 2) ?hd (cs := #[.int .i64 a0_0, .int .i64 a0_1, .int .i64 a0_2, .int .i64 a0_3, .int .i64 a0_4, .int .i64 a0_5]) (t := 39) ?hr ?_; (case hd => rfl); (case hg => rfl); (case hr => exact gS); intro gb148 hg w10 hbox hb; have BK148 := aM (hbox); have GW148 := aM ((gg hg)); have GE148 := aM ((gg hg)); replace HB := aM (qB bl hb); clear hb hbox hg) | ((with_reducible refine qK (N := 4) rfl ?_); refine qH ?hg (N := 4) ?hd (cs := #[.int .i64 0, .int .i64 0, .int .i64 0, .int .i64 0, .int .i64 0, .int .i64 0]) (t := 39) ?hr ?_; (case hd => rfl); (case hg => rfl); (case hr => exact gS); intro gb149 hg w11 hbox hb; have BK149 := aM (hbox); have GW149 := aM ((gg hg)); have GE149 := aM ((gg hg)); have NB148_149 := aM ((nl BK148 hg)); have NB149_148 := aM ((nr BK148 hg)); replace BK148 := aM (bb BK148 hb); replace HB := aM (qB bl hb); clear hb hbox hg; have hnb12 := NB148_149.out; have hnc12 := NB149_148.out; (refine cb6 BK148 ?_; intro _ _ _ _ _ _); (refine cz6 BK148 ?_; intro _ _ _ _ _ _); (refine cb6 BK149 ?_; intro _ _ _ _ _ _); (refine cz6 BK149 ?_; intro _ _ _ _ _ _)))
   refine bodyPost_ret (results_cell_row rfl _ _ gb149 39 #[.int .i64 a0_4, .int .i64 a0_1, .int .i64 a0_0, .int .i64 a0_3, .int .i64 a0_5, .int .i64 a0_2] (0, 0) _ rfl (by (with_reducible repeat (first | refine qG ?_ _ | refine qE ?_ | refine qF ?_ _)); exact bP6 BK149) Tryd.underlying39 rfl (by kernel_rfl)) rfl ?_
   exact ⟨sR, bl⟩
  ·rw [if_neg c9] at H
   have c9b0 := beq_eq_false_iff_ne.mpr c9
   have c9b1 := bne_iff_ne.mpr c9
   by_cases c15 : a1 = 2
   ·rw [if_pos c15] at H
    have c15b0 := beq_iff_eq.mpr c15
    have c15b1 := bne_eq_false_iff_eq.mpr c15
    clear c15
    simp only [Option.some.injEq, Prod.mk.injEq] at H
    obtain ⟨rfl, rfl, rfl, rfl, rfl, rfl⟩ := H
    go_enter Tryd.func49, Tryd.ntmps49
    go_wp2_with (first | ((with_reducible refine qK (N := 2) rfl ?_); refine qH ?hg (N := 2) ?hd (cs := #[.int .i64 a0_0, .int .i64 a0_1, .int .i64 a0_2, .int .i64 a0_3, .int .i64 a0_4, .int .i64 a0_5]) (t := 39) ?hr ?_; (case hd => rfl); (case hg => rfl); (case hr => exact gS); intro gb148 hg w16 hbox hb; have BK148 := aM (hbox); have GW148 := aM ((gg hg)); have GE148 := aM ((gg hg)); replace HB := aM (qB bl hb); clear hb hbox hg) | ((with_reducible refine qK (N := 4) rfl ?_); refine qH ?hg (N := 4) ?hd (cs := #[.int .i64 0, .int .i64 0, .int .i64 0, .int .i64 0, .int .i64 0, .int .i64 0]) (t := 39) ?hr ?_; (case hd => rfl); (case hg => rfl); (case hr => exact gS); intro gb149 hg w17 hbox hb; have BK149 := aM (hbox); have GW149 := aM ((gg hg)); have GE149 := aM ((gg hg)); have NB148_149 := aM ((nl BK148 hg)); have NB149_148 := aM ((nr BK148 hg)); replace BK148 := aM (bb BK148 hb); replace HB := aM (qB bl hb); clear hb hbox hg; have hnb18 := NB148_149.out; have hnc18 := NB149_148.out; (refine cb6 BK148 ?_; intro _ _ _ _ _ _); (refine cz6 BK148 ?_; intro _ _ _ _ _ _); (refine cb6 BK149 ?_; intro _ _ _ _ _ _); (refine cz6 BK149 ?_; intro _ _ _ _ _ _)))
    refine bodyPost_ret (results_cell_row rfl _ _ gb149 39 #[.int .i64 a0_1, .int .i64 a0_5, .int .i64 a0_2, .int .i64 a0_0, .int .i64 a0_4, .int .i64 a0_3] (0, 0) _ rfl (by (with_reducible repeat (first | refine qG ?_ _ | refine qE ?_ | refine qF ?_ _)); exact bP6 BK149) Tryd.underlying39 rfl (by kernel_rfl)) rfl ?_
    exact ⟨sR, bl⟩
   ·rw [if_neg c15] at H
    have c15b0 := beq_eq_false_iff_ne.mpr c15
    have c15b1 := bne_iff_ne.mpr c15
    simp only [Option.some.injEq, Prod.mk.injEq] at H
    obtain ⟨rfl, rfl, rfl, rfl, rfl, rfl⟩ := H
    go_enter Tryd.func49, Tryd.ntmps49
    go_wp2_with (first | ((with_reducible refine qK (N := 2) rfl ?_); refine qH ?hg (N := 2) ?hd (cs := #[.int .i64 a0_0, .int .i64 a0_1, .int .i64 a0_2, .int .i64 a0_3, .int .i64 a0_4, .int .i64 a0_5]) (t := 39) ?hr ?_; (case hd => rfl); (case hg => rfl); (case hr => exact gS); intro gb148 hg w21 hbox hb; have BK148 := aM (hbox); have GW148 := aM ((gg hg)); have GE148 := aM ((gg hg)); replace HB := aM (qB bl hb); clear hb hbox hg) | ((with_reducible refine qK (N := 4) rfl ?_); refine qH ?hg (N := 4) ?hd (cs := #[.int .i64 0, .int .i64 0, .int .i64 0, .int .i64 0, .int .i64 0, .int .i64 0]) (t := 39) ?hr ?_; (case hd => rfl); (case hg => rfl); (case hr => exact gS); intro gb149 hg w22 hbox hb; have BK149 := aM (hbox); have GW149 := aM ((gg hg)); have GE149 := aM ((gg hg)); have NB148_149 := aM ((nl BK148 hg)); have NB149_148 := aM ((nr BK148 hg)); replace BK148 := aM (bb BK148 hb); replace HB := aM (qB bl hb); clear hb hbox hg; have hnb23 := NB148_149.out; have hnc23 := NB149_148.out; (refine cb6 BK148 ?_; intro _ _ _ _ _ _); (refine cz6 BK148 ?_; intro _ _ _ _ _ _); (refine cb6 BK149 ?_; intro _ _ _ _ _ _); (refine cz6 BK149 ?_; intro _ _ _ _ _ _)))
    refine bodyPost_ret (results_cell_row rfl _ _ gb149 39 #[.int .i64 a0_2, .int .i64 a0_1, .int .i64 a0_5, .int .i64 a0_3, .int .i64 a0_0, .int .i64 a0_4] (0, 0) _ rfl (by (with_reducible repeat (first | refine qG ?_ _ | refine qE ?_ | refine qF ?_ _)); exact bP6 BK149) Tryd.underlying39 rfl (by kernel_rfl)) rfl ?_
    exact ⟨sR, bl⟩
end Go.Proofs.YthhiiceligjleaaDoor.P
namespace Go.Proofs.YthhiiceligjleaaDoor.P
open Go.RowKit Go.Proofs.YthhiiceligjleaaDoorW.PrintWords Go.Proofs.YthhiiceligjleaaDoorW.PrintLast Go.Proofs.YthhiiceligjleaaDoorW.PrintMore
attribute [local go_sem] qn ql qw qv qc qb qm qk
set_option linter.unusedVariables false
set_option linter.unusedSimpArgs false
attribute [local go_sem high] eqA39
mutual
def qM.l0 : Nat → List (S39) → List ByteArray → Int → Option ((List (S39)) × List ByteArray)
 | 0, _, _, _ => none
 | k + 1, x4, x5, x6 => if x6 < (x4.length : Int) then (qM.l1 k x4 x5 x6 0) else (some (x4, x5))
def qM.l1 : Nat → List (S39) → List ByteArray → Int → Int → Option ((List (S39)) × List ByteArray)
 | 0, _, _, _, _ => none
 | k + 1, x4, x5, x6, x7 => if x7 < 4 then (if 0 ≤ x6 then (if x6 < (x4.length : Int) then ((qqA.f ((qC x4 x6).f0) ((qC x4 x6).f1) ((qC x4 x6).f2) ((qC x4 x6).f3) ((qC x4 x6).f4) ((qC x4 x6).f5) x7).bind fun bt158 => (qM.l2 k x4 x5 x6 x7 false (x4.length : Int) 0 bt158.1 bt158.2.1 bt158.2.2.1 bt158.2.2.2.1 bt158.2.2.2.2.1 bt158.2.2.2.2.2)) else (none)) else (none)) else (qM.l0 k x4 x5 (wrap64 (x6 + 1)))
def qM.l2 : Nat → List (S39) → List ByteArray → Int → Int → Bool → Int → Int → Int → Int → Int → Int → Int → Int → Option ((List (S39)) × List ByteArray)
 | 0, _, _, _, _, _, _, _, _, _, _, _, _, _ => none
 | k + 1, x4, x5, x6, x7, x9, x32, x33, x165000, x165001, x165002, x165003, x165004, x165005 => if x33 < x32 then (if 0 ≤ x33 then (if x33 < (x4.length : Int) then (if x9 = true then (qM.l2 k x4 x5 x6 x7 true x32 (wrap64 (x33 + 1)) x165000 x165001 x165002 x165003 x165004 x165005) else (qM.l2 k x4 x5 x6 x7 (((qC x4 x33).f0) == x165000 && (((qC x4 x33).f1) == x165001 && (((qC x4 x33).f2) == x165002 && (((qC x4 x33).f3) == x165003 && (((qC x4 x33).f4) == x165004 && (((qC x4 x33).f5) == x165005)))))) x32 (wrap64 (x33 + 1)) x165000 x165001 x165002 x165003 x165004 x165005)) else (none)) else (none)) else (if x9 = true then (qM.l1 k x4 x5 x6 (wrap64 (x7 + 1))) else (if x4.length < 2932031007402 then (if 0 ≤ x6 then (if x6 < (x5.length : Int) then ((qEB.f).bind fun t171 => (if 0 ≤ x7 then (if x7 ≤ (wrap64 (x7 + 1)) then (if (wrap64 (x7 + 1)) ≤ (t171.size : Int) then (if (rdOf ByteArray.empty x5 x6).size + (t171.extract (x7 : Int).toNat ((wrap64 (x7 + 1)) : Int).toNat).size ≤ 9223372036854775807 then (if x5.length < 8796093022208 then (qM.l1 k (x4 ++ [(⟨x165000, x165001, x165002, x165003, x165004, x165005⟩ : S39)]) (x5 ++ [(rdOf ByteArray.empty x5 x6) ++ (t171.extract (x7 : Int).toNat ((wrap64 (x7 + 1)) : Int).toNat)]) x6 (wrap64 (x7 + 1))) else (none)) else (none)) else (none)) else (none)) else (none))) else (none)) else (none)) else (none)))
end
def qM.f (k : Nat) (a0_0 : Int) (a0_1 : Int) (a0_2 : Int) (a0_3 : Int) (a0_4 : Int) (a0_5 : Int) : Option ((List (S39)) × List ByteArray) := qM.l0 k (([(⟨a0_0, a0_1, a0_2, a0_3, a0_4, a0_5⟩ : S39)] : List (S39))) (([(⟨#[]⟩ : ByteArray)] : List ByteArray)) 0
def qM.T17 : Bool × List (List Nat × List Nat) := (true, [([], []), ([], []), ([], []), ([1, 2], [1, 2]), ([3], [3]), ([], []), ([], []), ([], []), ([7], [7]), ([5, 6, 8], [5, 6, 8]), ([4, 9], [4, 9]), ([10], [10]), ([0, 11, 5], [0, 11]), ([12, 12, 0, 1, 2, 3, 4, 5, 6, 7, 8, 9, 10, 11, 12], [0, 1, 12])])
def qM.B17 : List Nat := [0, 0, 0, 6, 14, 0, 0, 0, 128, 480, 1022, 2046, 4095, 8191]
theorem qM.tab17 : rtab .any (opsOf Tryd.f45 17) = qM.T17 := by kernel_rfl
theorem qM.bits17 : waitsOk qM.T17.2 qM.B17 = true := by kernel_rfl
set_option maxHeartbeats 8000000 in
set_option maxRecDepth 100000 in
theorem qM.calls (k : Nat) (a0_0 : Int) (a0_1 : Int) (a0_2 : Int) (a0_3 : Int) (a0_4 : Int) (a0_5 : Int) (r1 : List (S39)) (r2 : List ByteArray) (w : World) (h : qM.f k a0_0 a0_1 a0_2 a0_3 a0_4 a0_5 = some (r1, r2)) :
  Calls Tryd.prog 45 #[.agg #[.int .i64 a0_0, .int .i64 a0_1, .int .i64 a0_2, .int .i64 a0_3, .int .i64 a0_4, .int .i64 a0_5]] w fun e w' => ∃ v0_ v1_ : Value, e = .returned (.tuple #[v0_, v1_]) ∧ Kd.R k39 39 w' w.heap.size (fun _ => True) v0_ r1 ∧ Kd.R Kd.string 9 w' w.heap.size (fun _ => True) v1_ r2 ∧ Below w.heap.size w w' := by
 have hu39 := Tryd.underlying39
 have HB := aM (Below.refl w.heap.size w)
 have H : (qM.l0 k (([(⟨a0_0, a0_1, a0_2, a0_3, a0_4, a0_5⟩ : S39)] : List (S39))) (([(⟨#[]⟩ : ByteArray)] : List ByteArray)) 0) = some (r1, r2) := h
 clear h
 obtain ⟨y151, hy151⟩ : ∃ y_ : List (S39), y_ = (([(⟨a0_0, a0_1, a0_2, a0_3, a0_4, a0_5⟩ : S39)] : List (S39))) := ⟨_, rfl⟩
 replace H : (qM.l0 k y151 (([(⟨#[]⟩ : ByteArray)] : List ByteArray)) 0) = some (r1, r2) := by first | (rw [hy151]; with_reducible exact H) | (have H2_ := (Option.bind_some _ _).symm.trans H; rw [hy151]; with_reducible exact H2_) | (have H2_ := (Option.bind_some _ _).symm.trans H; with_reducible exact H2_) | with_reducible exact H | (rw [hy151]; exact H) | exact H
 have Ny151 := aM hy151
 clear hy151
 obtain ⟨y154, hy154⟩ : ∃ y_ : List ByteArray, y_ = (([(⟨#[]⟩ : ByteArray)] : List ByteArray)) := ⟨_, rfl⟩
 replace H : (qM.l0 k y151 y154 0) = some (r1, r2) := by first | (rw [hy154]; with_reducible exact H) | (have H2_ := (Option.bind_some _ _).symm.trans H; rw [hy154]; with_reducible exact H2_) | (have H2_ := (Option.bind_some _ _).symm.trans H; with_reducible exact H2_) | with_reducible exact H | (rw [hy154]; exact H) | exact H
 have Ny154 := aM hy154
 clear hy154
 have H' := aM H
 clear H
 go_enter Tryd.func45, Tryd.ntmps45
 go_wp2_with (first | ((with_reducible refine qK (N := 1) rfl ?_); refine qH ?hg (N := 1) ?hd (cs := #[.int .i64 a0_0, .int .i64 a0_1, .int .i64 a0_2, .int .i64 a0_3, .int .i64 a0_4, .int .i64 a0_5]) (t := 39) ?hr ?_; (case hd => rfl); (case hg => rfl); (case hr => exact gS); intro gb150 hg w2 hbox hb; have BK150 := aM (hbox); have GW150 := aM ((gg hg)); have GE150 := aM ((gg hg)); replace HB := aM (qB bl hb); clear hb hbox hg; (refine cb6 BK150 ?_; intro hcz3_0 hcz3_1 hcz3_2 hcz3_3 hcz3_4 hcz3_5); (refine cz6 BK150 ?_; intro hfz3_0 hfz3_1 hfz3_2 hfz3_3 hfz3_4 hfz3_5)) | ((with_reducible refine qK (N := 13) rfl ?_); refine Kd.R_lit k39 _ 39 ?hg (N := 13) ?hd (xs := ([(⟨a0_0, a0_1, a0_2, a0_3, a0_4, a0_5⟩ : S39)] : List (S39))) (inner := [.int .i64 a0_0, .int .i64 a0_1, .int .i64 a0_2, .int .i64 a0_3, .int .i64 a0_4, .int .i64 a0_5]) (ok := fun _ => True) (okp := fun _ => True) ?hr ?hp (fun _ hk => hk) trivial (Below.refl _ _) (Nat.le_refl _) (by simp) ?_; (case hd => rfl); (case hg => rfl); (case hr => exact gS); (case hp => exact (Reps.c6 (show Kd.M k39 _ _ _ (⟨a0_0, a0_1, a0_2, a0_3, a0_4, a0_5⟩ : S39) [.int .i64 a0_0, .int .i64 a0_1, .int .i64 a0_2, .int .i64 a0_3, .int .i64 a0_4, .int .i64 a0_5] from (qSC _ _ _ (⟨a0_0, a0_1, a0_2, a0_3, a0_4, a0_5⟩ : S39) )) (Reps.none _ _))); intro v152 w4 ho5 hb hg_ hnew_; clear hg_ hnew_; (first | rw [← Ny151.out] at ho5 | (simp only [Int.reduceToNat] at ho5; rw [← Ny151.out] at ho5)); have HO153 := aM (Kd.qx (Kd.qNB ho5 (rB BK150)) (qL bl)); replace BK150 := aM (bb BK150 hb); replace HB := aM (qB bl hb); clear hb ho5) | ((with_reducible refine qK (N := 14) rfl ?_); refine Kd.R_lit Kd.string _ 9 ?hg (N := 14) ?hd (xs := ([(⟨#[]⟩ : ByteArray)] : List ByteArray)) (inner := [.string (⟨#[]⟩ : ByteArray)]) (ok := fun _ => True) (okp := fun _ => True) ?hr ?hp (fun _ hk => hk) trivial (Below.refl _ _) (Nat.le_refl _) (by simp) ?_; (case hd => rfl); (case hg => rfl); (case hr => exact gS); (case hp => exact (Reps.one (show Kd.M Kd.string _ _ _ (⟨#[]⟩ : ByteArray) [.string (⟨#[]⟩ : ByteArray)] from rfl) (Reps.none _ _))); intro v155 w6 ho7 hb hg_ hnew_; clear hg_ hnew_; (first | rw [← Ny154.out] at ho7 | (simp only [Int.reduceToNat] at ho7; rw [← Ny154.out] at ho7)); have HO156 := aM (Kd.qx ho7 (qL bl)); replace HO153 := aM (Kd.qd (rR HO153) hb); replace BK150 := aM (bb BK150 hb); replace HB := aM (qB bl hb); clear hb ho7))
 go_loopg [4, 5, 6] k (fun kq v4 v5 v6 w' => ∃ (x4_1 : List (S39)) (x5_1 : List ByteArray) (x6_1 : Int), v6 = .int .i64 x6_1 ∧ Aside0 (qM.l0 kq x4_1 x5_1 x6_1 = some (r1, r2)) ∧ Aside0 (kq ≤ k) ∧ Aside0 (Kd.R k39 39 w' w.heap.size (fun k_ => k_ ≠ gb150) v4 x4_1) ∧ Aside0 (Kd.R Kd.string 9 w' w.heap.size (fun _ => True) v5 x5_1) ∧ Aside0 (w'.heap[gb150]? = some (.cells #[.int .i64 a0_0, .int .i64 a0_1, .int .i64 a0_2, .int .i64 a0_3, .int .i64 a0_4, .int .i64 a0_5] 39 (0, 0))) ∧ Aside0 (Below w.heap.size w w'))
 case atStart => exact ⟨(y151), (y154), (0), sD, H', ⟨Nat.le_refl _⟩, ⟨by (with_reducible repeat (first | apply Kd.qO | apply Kd.qQ | apply Kd.qS)); exact Kd.qZ HO153.out (fun _ hk => hk.2)⟩, ⟨rR HO156⟩, ⟨rB BK150⟩, ⟨bl⟩⟩
 case round =>
  clear H'; (try clear p2); (try clear c4); (try clear c6); (try clear hcz3_0); (try clear hcz3_1); (try clear hcz3_2); (try clear hcz3_3); (try clear hcz3_4); (try clear hcz3_5); (try clear hfz3_0); (try clear hfz3_1); (try clear hfz3_2); (try clear hfz3_3); (try clear hfz3_4); (try clear hfz3_5)
  obtain ⟨x4_1, x5_1, x6_1, rfl, HA, HK1, HO_4, HO_5, BK150, HB⟩ := hrel
  cases gk with
  | zero => exact absurd HA.out (by simp [qM.l0])
  | succ k1 =>
   have H := HA.out
   clear HA
   simp only [qM.l0] at H
   by_cases c8 : x6_1 < (x4_1.length : Int)
   ·rw [if_pos c8] at H
    have c8b0 := decide_eq_true c8
    clear c8
    have H' := aM H
    clear H
    obtain ⟨Ao9, co9, eo9⟩ := Kd.qBA HO_4.out
    subst eo9
    go_wp2
    go_loopg [4, 5, 7] k1 (fun kq v4 v5 v7 w' => ∃ (x4_2 : List (S39)) (x5_2 : List ByteArray) (x7_2 : Int), v7 = .int .i64 x7_2 ∧ Aside0 (qM.l1 kq x4_2 x5_2 x6_1 x7_2 = some (r1, r2)) ∧ Aside0 (kq ≤ k1) ∧ Aside0 (Kd.R k39 39 w' w.heap.size (fun k_ => k_ ≠ gb150) v4 x4_2) ∧ Aside0 (Kd.R Kd.string 9 w' w.heap.size (fun _ => True) v5 x5_2) ∧ Aside0 (w'.heap[gb150]? = some (.cells #[.int .i64 a0_0, .int .i64 a0_1, .int .i64 a0_2, .int .i64 a0_3, .int .i64 a0_4, .int .i64 a0_5] 39 (0, 0))) ∧ Aside0 (Below w.heap.size w w'))
    case atStart => exact ⟨(x4_1), (x5_1), (0), sD, H', ⟨Nat.le_refl _⟩, ⟨rR HO_4⟩, ⟨rR HO_5⟩, ⟨rB BK150⟩, ⟨bl⟩⟩
    case round =>
     clear H'; (try clear p2); (try clear c4); (try clear c6); (try clear c8); (try clear c8b0); (try clear hcz3_0); (try clear hcz3_1); (try clear hcz3_2); (try clear hcz3_3); (try clear hcz3_4); (try clear hcz3_5); (try clear hfz3_0); (try clear hfz3_1); (try clear hfz3_2); (try clear hfz3_3); (try clear hfz3_4); (try clear hfz3_5); (try clear p2)
     obtain ⟨x4_2, x5_2, x7_2, rfl, HA, HK2, HO_4, HO_5, BK150, HB⟩ := hrel
     cases gk with
     | zero => exact absurd HA.out (by simp [qM.l1])
     | succ k2 =>
      have H := HA.out
      clear HA
      simp only [qM.l1] at H
      by_cases c10 : x7_2 < 4
      ·rw [if_pos c10] at H
       have c10b0 := decide_eq_true c10
       clear c10
       by_cases c11 : 0 ≤ x6_1
       ·rw [if_pos c11] at H
        have c11b0 := decide_eq_true c11
        clear c11
        by_cases c12 : x6_1 < (x4_2.length : Int)
        ·rw [if_pos c12] at H
         have c12b0 := decide_eq_true c12
         clear c12
         replace H := bO H
         obtain ⟨⟨t158, t159, t160, t161, t162, t163⟩, A13, H⟩ := H
         dsimp only at H A13
         have H' := aM H
         clear H
         obtain ⟨Ao14, co14, eo14⟩ := Kd.qBA HO_4.out
         subst eo14
         have p157 : 0 ≤ (x6_1 : Int) := of_decide_eq_true am
         have q157 : x6_1 < (x4_2.length : Int) := of_decide_eq_true am
         obtain ⟨ad157, e157, hx157_0, hx157_1, hx157_2, hx157_3, hx157_4, hx157_5⟩ := qdD (Kd.qP HO_4.out).2.2 x6_1 p157 q157
         cases e157
         replace p157 := eq_true p157
         replace q157 := eq_true q157
         go_wp2_with (first | ((with_reducible refine qJ (f := 49) rfl ?_); refine qr (some 30) rfl rfl Tryd.func49 (by kernel_rfl) rfl #[.agg #[.int .i64 ((qC x4_2 x6_1).f0), .int .i64 ((qC x4_2 x6_1).f1), .int .i64 ((qC x4_2 x6_1).f2), .int .i64 ((qC x4_2 x6_1).f3), .int .i64 ((qC x4_2 x6_1).f4), .int .i64 ((qC x4_2 x6_1).f5)], .int .i64 x7_2] rfl gA ?_; (with_reducible refine (qqA.calls ((qC x4_2 x6_1).f0) ((qC x4_2 x6_1).f1) ((qC x4_2 x6_1).f2) ((qC x4_2 x6_1).f3) ((qC x4_2 x6_1).f4) ((qC x4_2 x6_1).f5) x7_2 t158 t159 t160 t161 t162 t163 _ A13.out).mono ?_); rintro e w15 ⟨rfl, hb⟩; refine ⟨_, rfl, ?_⟩; replace HO_4 := aM (Kd.qd (rR HO_4) hb); replace HO_5 := aM (Kd.qd (rR HO_5) hb); replace BK150 := aM (bb BK150 hb); replace HB := aM (qB bl hb); (try clear hb); (try clear hb2); (try clear hk); (try clear hi)) | ((with_reducible refine qK (N := 8) rfl ?_); refine qH ?hg (N := 8) ?hd (cs := #[.int .i64 0, .int .i64 0, .int .i64 0, .int .i64 0, .int .i64 0, .int .i64 0]) (t := 39) ?hr ?_; (case hd => rfl); (case hg => rfl); (case hr => exact gS); intro gb164 hg w16 hbox hb; have BK164 := aM (hbox); have GW164 := aM ((gg hg)); have GE164 := aM ((gg hg)); have NB150_164 := aM ((nl BK150 hg)); have NB164_150 := aM ((nr BK150 hg)); replace HO_4 := aM (Kd.qd (Kd.qnC (rR HO_4) gb164 (Nat.le_of_eq hg.symm)) hb); replace HO_5 := aM (Kd.qd (rR HO_5) hb); replace BK150 := aM (bb BK150 hb); replace HB := aM (qB bl hb); clear hb hbox hg; have hnb17 := NB164_150.out; have hnc17 := NB150_164.out; (refine cb6 BK164 ?_; intro hcz18_0 hcz18_1 hcz18_2 hcz18_3 hcz18_4 hcz18_5); (refine cz6 BK164 ?_; intro hfz18_0 hfz18_1 hfz18_2 hfz18_3 hfz18_4 hfz18_5)))
         go_loopg [9, 33] k2 (fun kq v9 v33 w' => ∃ (x9_3 : Bool) (x33_3 : Int), v9 = .bool x9_3 ∧ v33 = .int .i64 x33_3 ∧ Aside0 (qM.l2 kq x4_2 x5_2 x6_1 x7_2 x9_3 (x4_2.length : Int) x33_3 t158 t159 t160 t161 t162 t163 = some (r1, r2)) ∧ Aside0 (kq ≤ k2) ∧ Aside0 (Kd.R k39 39 w' w.heap.size (fun k_ => k_ ≠ gb150 ∧ k_ ≠ gb164) (.slice (some ad157) x4_2.length co14) x4_2) ∧ Aside0 (Kd.R Kd.string 9 w' w.heap.size (fun _ => True) u5 x5_2) ∧ Aside0 (w'.heap[gb150]? = some (.cells #[.int .i64 a0_0, .int .i64 a0_1, .int .i64 a0_2, .int .i64 a0_3, .int .i64 a0_4, .int .i64 a0_5] 39 (0, 0))) ∧ Aside0 (w'.heap[gb164]? = some (.cells #[.int .i64 t158, .int .i64 t159, .int .i64 t160, .int .i64 t161, .int .i64 t162, .int .i64 t163] 39 (0, 0))) ∧ Aside0 (Below w.heap.size w w'))
         case atStart => exact ⟨(false), (0), sD, sD, H', ⟨Nat.le_refl _⟩, ⟨by (with_reducible repeat (first | apply Kd.qO | apply Kd.qQ | apply Kd.qS)); exact Kd.qZ (Kd.R_far (p := ⟨gb164, 5, none⟩) (Kd.R_far (p := ⟨gb164, 4, none⟩) (Kd.R_far (p := ⟨gb164, 3, none⟩) (Kd.R_far (p := ⟨gb164, 2, none⟩) (Kd.R_far (p := ⟨gb164, 1, none⟩) (Kd.R_far (p := ⟨gb164, 0, none⟩) (Kd.qZ HO_4.out (fun k_ hk => (⟨hk, hk.2⟩ : _ ∧ k_ ≠ gb164))) (fun _ hk => hk.2) (.int .i64 t158)) (fun _ hk => hk.2) (.int .i64 t159)) (fun _ hk => hk.2) (.int .i64 t160)) (fun _ hk => hk.2) (.int .i64 t161)) (fun _ hk => hk.2) (.int .i64 t162)) (fun _ hk => hk.2) (.int .i64 t163)) (fun _ hk => ⟨hk.1.1, hk.1.2⟩)⟩, ⟨by (with_reducible repeat (first | apply Kd.qO | apply Kd.qQ | apply Kd.qS)); exact Kd.qZ (Kd.R_far (p := ⟨gb164, 5, none⟩) (Kd.R_far (p := ⟨gb164, 4, none⟩) (Kd.R_far (p := ⟨gb164, 3, none⟩) (Kd.R_far (p := ⟨gb164, 2, none⟩) (Kd.R_far (p := ⟨gb164, 1, none⟩) (Kd.R_far (p := ⟨gb164, 0, none⟩) (Kd.qAB HO_5.out BK164.out (by decide)) (fun _ hk => hk.2) (.int .i64 t158)) (fun _ hk => hk.2) (.int .i64 t159)) (fun _ hk => hk.2) (.int .i64 t160)) (fun _ hk => hk.2) (.int .i64 t161)) (fun _ hk => hk.2) (.int .i64 t162)) (fun _ hk => hk.2) (.int .i64 t163)) (fun _ hk => trivial)⟩, ⟨bF BK150 NB150_164⟩, ⟨by (with_reducible repeat (first | refine qG ?_ _ | refine qE ?_ | refine qF ?_ _)); exact bP6 BK164⟩, ⟨bl⟩⟩
         case round =>
          clear H'; (try clear c1); (try clear p1); (try clear q1); (try clear hx1); (try clear p2); (try clear c4); (try clear c6); (try clear c8); (try clear c8b0); (try clear c10); (try clear c10b0); (try clear c11); (try clear c11b0); (try clear c12); (try clear c12b0); (try clear p15); (try clear q15); (try clear hx15); (try clear c17); (try clear hcz18_0); (try clear hcz18_1); (try clear hcz18_2); (try clear hcz18_3); (try clear hcz18_4); (try clear hcz18_5); (try clear hcz3_0); (try clear hcz3_1); (try clear hcz3_2); (try clear hcz3_3); (try clear hcz3_4); (try clear hcz3_5); (try clear hfz18_0); (try clear hfz18_1); (try clear hfz18_2); (try clear hfz18_3); (try clear hfz18_4); (try clear hfz18_5); (try clear hfz3_0); (try clear hfz3_1); (try clear hfz3_2); (try clear hfz3_3); (try clear hfz3_4); (try clear hfz3_5); (try clear hx157_0); (try clear hx157_1); (try clear hx157_2); (try clear hx157_3); (try clear hx157_4); (try clear hx157_5); (try clear p157); (try clear p2); (try clear q157)
          obtain ⟨x9_3, x33_3, rfl, rfl, HA, HK3, HO_4, HO_5, BK150, BK164, HB⟩ := hrel
          cases gk with
          | zero => exact absurd HA.out (by simp [qM.l2])
          | succ k3 =>
           have H := HA.out
           clear HA
           simp only [qM.l2] at H
           by_cases c19 : x33_3 < (x4_2.length : Int)
           ·rw [if_pos c19] at H
            have c19b0 := decide_eq_true c19
            clear c19
            by_cases c20 : 0 ≤ x33_3
            ·rw [if_pos c20] at H
             have c20b0 := decide_eq_true c20
             clear c20
             by_cases c21 : x33_3 < (x4_2.length : Int)
             ·rw [if_pos c21] at H
              have c21b0 := decide_eq_true c21
              clear c21
              by_cases c22 : x9_3 = true
              ·subst c22
               replace H := iT H
               have H' := aM H
               clear H
               have p165 : 0 ≤ (x33_3 : Int) := of_decide_eq_true am
               have q165 : x33_3 < (x4_2.length : Int) := of_decide_eq_true am
               obtain ⟨ad165, e165, hx165_0, hx165_1, hx165_2, hx165_3, hx165_4, hx165_5⟩ := qdD (Kd.qP HO_4.out).2.2 x33_3 p165 q165
               obtain rfl : ad157 = ad165 := (by injection e165)
               replace p165 := eq_true p165
               replace q165 := eq_true q165
               go_wp2_with (first | ((with_reducible refine qK (N := 11) rfl ?_); refine qH ?hg (N := 11) ?hd (cs := #[.int .i64 0, .int .i64 0, .int .i64 0, .int .i64 0, .int .i64 0, .int .i64 0]) (t := 39) ?hr ?_; (case hd => rfl); (case hg => rfl); (case hr => exact gS); intro gb166 hg w23 hbox hb; have BK166 := aM (hbox); have GW166 := aM ((gg hg)); have GE166 := aM ((gg hg)); have NB150_166 := aM ((nl BK150 hg)); have NB166_150 := aM ((nr BK150 hg)); have NB164_166 := aM ((nl BK164 hg)); have NB166_164 := aM ((nr BK164 hg)); replace HO_4 := aM (Kd.qd (Kd.qnC (rR HO_4) gb166 (Nat.le_of_eq hg.symm)) hb); replace HO_5 := aM (Kd.qd (rR HO_5) hb); replace BK150 := aM (bb BK150 hb); replace BK164 := aM (bb BK164 hb); replace HB := aM (qB bl hb); clear hb hbox hg; have hnb24 := NB166_150.out; have hnc24 := NB150_166.out; have hnb25 := NB166_164.out; have hnc25 := NB164_166.out; (refine cb6 BK166 ?_; intro _ _ _ _ _ _); (refine cz6 BK166 ?_; intro _ _ _ _ _ _)))
               go_roundg k3
               case measure => have := HK1.out; have := HK2.out; have := HK3.out; omega
               case rel => exact ⟨(true), (wrap64 (x33_3 + 1)), sD, sD, H', ⟨by have := HK1.out; have := HK2.out; have := HK3.out; omega⟩, ⟨by (with_reducible repeat (first | apply Kd.qO | apply Kd.qQ | apply Kd.qS)); exact Kd.qZ (Kd.R_far (p := ⟨gb166, 5, none⟩) (Kd.R_far (p := ⟨gb166, 4, none⟩) (Kd.R_far (p := ⟨gb166, 3, none⟩) (Kd.R_far (p := ⟨gb166, 2, none⟩) (Kd.R_far (p := ⟨gb166, 1, none⟩) (Kd.R_far (p := ⟨gb166, 0, none⟩) (Kd.qZ HO_4.out (fun k_ hk => (⟨hk, hk.2⟩ : _ ∧ k_ ≠ gb166))) (fun _ hk => hk.2) (.int .i64 ((qC x4_2 x33_3).f0))) (fun _ hk => hk.2) (.int .i64 ((qC x4_2 x33_3).f1))) (fun _ hk => hk.2) (.int .i64 ((qC x4_2 x33_3).f2))) (fun _ hk => hk.2) (.int .i64 ((qC x4_2 x33_3).f3))) (fun _ hk => hk.2) (.int .i64 ((qC x4_2 x33_3).f4))) (fun _ hk => hk.2) (.int .i64 ((qC x4_2 x33_3).f5))) (fun _ hk => ⟨hk.1.1.1, hk.1.1.2⟩)⟩, ⟨by (with_reducible repeat (first | apply Kd.qO | apply Kd.qQ | apply Kd.qS)); exact Kd.qZ (Kd.R_far (p := ⟨gb166, 5, none⟩) (Kd.R_far (p := ⟨gb166, 4, none⟩) (Kd.R_far (p := ⟨gb166, 3, none⟩) (Kd.R_far (p := ⟨gb166, 2, none⟩) (Kd.R_far (p := ⟨gb166, 1, none⟩) (Kd.R_far (p := ⟨gb166, 0, none⟩) (Kd.qAB HO_5.out BK166.out (by decide)) (fun _ hk => hk.2) (.int .i64 ((qC x4_2 x33_3).f0))) (fun _ hk => hk.2) (.int .i64 ((qC x4_2 x33_3).f1))) (fun _ hk => hk.2) (.int .i64 ((qC x4_2 x33_3).f2))) (fun _ hk => hk.2) (.int .i64 ((qC x4_2 x33_3).f3))) (fun _ hk => hk.2) (.int .i64 ((qC x4_2 x33_3).f4))) (fun _ hk => hk.2) (.int .i64 ((qC x4_2 x33_3).f5))) (fun _ hk => trivial)⟩, ⟨bF BK150 NB150_166⟩, ⟨bF BK164 NB164_166⟩, ⟨bl⟩⟩
              ·replace c22 := Bool.eq_false_iff.mpr c22
               subst c22
               replace H := iF H
               have H' := aM H
               clear H
               have p165 : 0 ≤ (x33_3 : Int) := of_decide_eq_true am
               have q165 : x33_3 < (x4_2.length : Int) := of_decide_eq_true am
               obtain ⟨ad165, e165, hx165_0, hx165_1, hx165_2, hx165_3, hx165_4, hx165_5⟩ := qdD (Kd.qP HO_4.out).2.2 x33_3 p165 q165
               obtain rfl : ad157 = ad165 := (by injection e165)
               replace p165 := eq_true p165
               replace q165 := eq_true q165
               go_wp2_with (first | ((with_reducible refine qK (N := 11) rfl ?_); refine qH ?hg (N := 11) ?hd (cs := #[.int .i64 0, .int .i64 0, .int .i64 0, .int .i64 0, .int .i64 0, .int .i64 0]) (t := 39) ?hr ?_; (case hd => rfl); (case hg => rfl); (case hr => exact gS); intro gb166 hg w27 hbox hb; have BK166 := aM (hbox); have GW166 := aM ((gg hg)); have GE166 := aM ((gg hg)); have NB150_166 := aM ((nl BK150 hg)); have NB166_150 := aM ((nr BK150 hg)); have NB164_166 := aM ((nl BK164 hg)); have NB166_164 := aM ((nr BK164 hg)); replace HO_4 := aM (Kd.qd (Kd.qnC (rR HO_4) gb166 (Nat.le_of_eq hg.symm)) hb); replace HO_5 := aM (Kd.qd (rR HO_5) hb); replace BK150 := aM (bb BK150 hb); replace BK164 := aM (bb BK164 hb); replace HB := aM (qB bl hb); clear hb hbox hg; have hnb28 := NB166_150.out; have hnc28 := NB150_166.out; have hnb29 := NB166_164.out; have hnc29 := NB164_166.out; (refine cb6 BK166 ?_; intro _ _ _ _ _ _); (refine cz6 BK166 ?_; intro _ _ _ _ _ _); have hnb31 := NB164_150.out; have hnc31 := NB150_164.out; (refine cb6 BK164 ?_; intro _ _ _ _ _ _); (refine cz6 BK164 ?_; intro _ _ _ _ _ _)))
               go_roundg k3
               case measure => have := HK1.out; have := HK2.out; have := HK3.out; omega
               case rel => exact ⟨((((qC x4_2 x33_3).f0) == t158 && (((qC x4_2 x33_3).f1) == t159 && (((qC x4_2 x33_3).f2) == t160 && (((qC x4_2 x33_3).f3) == t161 && (((qC x4_2 x33_3).f4) == t162 && (((qC x4_2 x33_3).f5) == t163))))))), (wrap64 (x33_3 + 1)), sD, sD, H', ⟨by have := HK1.out; have := HK2.out; have := HK3.out; omega⟩, ⟨by (with_reducible repeat (first | apply Kd.qO | apply Kd.qQ | apply Kd.qS)); exact Kd.qZ (Kd.R_far (p := ⟨gb166, 5, none⟩) (Kd.R_far (p := ⟨gb166, 4, none⟩) (Kd.R_far (p := ⟨gb166, 3, none⟩) (Kd.R_far (p := ⟨gb166, 2, none⟩) (Kd.R_far (p := ⟨gb166, 1, none⟩) (Kd.R_far (p := ⟨gb166, 0, none⟩) (Kd.qZ HO_4.out (fun k_ hk => (⟨hk, hk.2⟩ : _ ∧ k_ ≠ gb166))) (fun _ hk => hk.2) (.int .i64 ((qC x4_2 x33_3).f0))) (fun _ hk => hk.2) (.int .i64 ((qC x4_2 x33_3).f1))) (fun _ hk => hk.2) (.int .i64 ((qC x4_2 x33_3).f2))) (fun _ hk => hk.2) (.int .i64 ((qC x4_2 x33_3).f3))) (fun _ hk => hk.2) (.int .i64 ((qC x4_2 x33_3).f4))) (fun _ hk => hk.2) (.int .i64 ((qC x4_2 x33_3).f5))) (fun _ hk => ⟨hk.1.1.1, hk.1.1.2⟩)⟩, ⟨by (with_reducible repeat (first | apply Kd.qO | apply Kd.qQ | apply Kd.qS)); exact Kd.qZ (Kd.R_far (p := ⟨gb166, 5, none⟩) (Kd.R_far (p := ⟨gb166, 4, none⟩) (Kd.R_far (p := ⟨gb166, 3, none⟩) (Kd.R_far (p := ⟨gb166, 2, none⟩) (Kd.R_far (p := ⟨gb166, 1, none⟩) (Kd.R_far (p := ⟨gb166, 0, none⟩) (Kd.qAB HO_5.out BK166.out (by decide)) (fun _ hk => hk.2) (.int .i64 ((qC x4_2 x33_3).f0))) (fun _ hk => hk.2) (.int .i64 ((qC x4_2 x33_3).f1))) (fun _ hk => hk.2) (.int .i64 ((qC x4_2 x33_3).f2))) (fun _ hk => hk.2) (.int .i64 ((qC x4_2 x33_3).f3))) (fun _ hk => hk.2) (.int .i64 ((qC x4_2 x33_3).f4))) (fun _ hk => hk.2) (.int .i64 ((qC x4_2 x33_3).f5))) (fun _ hk => trivial)⟩, ⟨bF BK150 NB150_166⟩, ⟨bF BK164 NB164_166⟩, ⟨bl⟩⟩
             ·rw [if_neg c21] at H
              exact absurd H (by simp)
            ·rw [if_neg c20] at H
             exact absurd H (by simp)
           ·rw [if_neg c19] at H
            have c19b0 := decide_eq_false c19
            clear c19
            by_cases c33 : x9_3 = true
            ·subst c33
             replace H := iT H
             have H' := aM H
             clear H
             go_wp2
             go_roundg k3
             case measure => have := HK1.out; have := HK2.out; have := HK3.out; omega
             case rel => exact ⟨(x4_2), (x5_2), (wrap64 (x7_2 + 1)), sD, H', ⟨by have := HK1.out; have := HK2.out; have := HK3.out; omega⟩, ⟨by (with_reducible repeat (first | apply Kd.qO | apply Kd.qQ | apply Kd.qS)); exact Kd.qZ HO_4.out (fun _ hk => hk.1)⟩, ⟨rR HO_5⟩, ⟨rB BK150⟩, ⟨bl⟩⟩
            ·replace c33 := Bool.eq_false_iff.mpr c33
             subst c33
             replace H := iF H
             by_cases c34 : x4_2.length < 2932031007402
             ·rw [if_pos c34] at H
              have LMc34 := aM c34
              clear c34
              obtain ⟨y167, hy167⟩ : ∃ y_ : List (S39), y_ = (x4_2 ++ [(⟨t158, t159, t160, t161, t162, t163⟩ : S39)]) := ⟨_, rfl⟩
              replace H : (if 0 ≤ x6_1 then (if x6_1 < (x5_2.length : Int) then ((qEB.f).bind fun t171 => (if 0 ≤ x7_2 then (if x7_2 ≤ (wrap64 (x7_2 + 1)) then (if (wrap64 (x7_2 + 1)) ≤ (t171.size : Int) then (if (rdOf ByteArray.empty x5_2 x6_1).size + (t171.extract (x7_2 : Int).toNat ((wrap64 (x7_2 + 1)) : Int).toNat).size ≤ 9223372036854775807 then (if x5_2.length < 8796093022208 then (qM.l1 k3 y167 (x5_2 ++ [(rdOf ByteArray.empty x5_2 x6_1) ++ (t171.extract (x7_2 : Int).toNat ((wrap64 (x7_2 + 1)) : Int).toNat)]) x6_1 (wrap64 (x7_2 + 1))) else (none)) else (none)) else (none)) else (none)) else (none))) else (none)) else (none)) = some (r1, r2) := by first | (rw [hy167]; with_reducible exact H) | (have H2_ := (Option.bind_some _ _).symm.trans H; rw [hy167]; with_reducible exact H2_) | (have H2_ := (Option.bind_some _ _).symm.trans H; with_reducible exact H2_) | with_reducible exact H | (rw [hy167]; exact H) | exact H
              have Ny167 := aM hy167
              clear hy167
              by_cases c35 : 0 ≤ x6_1
              ·rw [if_pos c35] at H
               have c35b0 := decide_eq_true c35
               clear c35
               by_cases c36 : x6_1 < (x5_2.length : Int)
               ·rw [if_pos c36] at H
                have c36b0 := decide_eq_true c36
                clear c36
                replace H := bO H
                obtain ⟨t171, A37, H⟩ := H
                by_cases c38 : 0 ≤ x7_2
                ·rw [if_pos c38] at H
                 have c38b0 := eq_true c38
                 have c38b1 := decide_eq_true c38
                 clear c38
                 by_cases c39 : x7_2 ≤ (wrap64 (x7_2 + 1))
                 ·rw [if_pos c39] at H
                  have c39b0 := eq_true c39
                  have c39b1 := decide_eq_true c39
                  by_cases c40 : (wrap64 (x7_2 + 1)) ≤ (t171.size : Int)
                  ·rw [if_pos c40] at H
                   have c40b0 := eq_true c40
                   have c40b1 := decide_eq_true c40
                   by_cases c41 : (rdOf ByteArray.empty x5_2 x6_1).size + (t171.extract (x7_2 : Int).toNat ((wrap64 (x7_2 + 1)) : Int).toNat).size ≤ 9223372036854775807
                   ·rw [if_pos c41] at H
                    have c41b0 := eq_true c41
                    have c41b1 := decide_eq_true c41
                    try have c41b2 : (9223372036854775807 < (rdOf ByteArray.empty x5_2 x6_1).size + (t171.extract (x7_2 : Int).toNat ((wrap64 (x7_2 + 1)) : Int).toNat).size) = False := eq_false (Nat.not_lt.2 c41)
                    by_cases c42 : x5_2.length < 8796093022208
                    ·rw [if_pos c42] at H
                     have LMc42 := aM c42
                     clear c42
                     obtain ⟨y172, hy172⟩ : ∃ y_ : List ByteArray, y_ = (x5_2 ++ [(rdOf ByteArray.empty x5_2 x6_1) ++ (t171.extract (x7_2 : Int).toNat ((wrap64 (x7_2 + 1)) : Int).toNat)]) := ⟨_, rfl⟩
                     replace H : (qM.l1 k3 y167 y172 x6_1 (wrap64 (x7_2 + 1))) = some (r1, r2) := by first | (rw [hy172]; with_reducible exact H) | (have H2_ := (Option.bind_some _ _).symm.trans H; rw [hy172]; with_reducible exact H2_) | (have H2_ := (Option.bind_some _ _).symm.trans H; with_reducible exact H2_) | with_reducible exact H | (rw [hy172]; exact H) | exact H
                     have Ny172 := aM hy172
                     clear hy172
                     have H' := aM H
                     clear H
                     have hnb43 := NB164_150.out
                     have hnc43 := NB150_164.out
                     (refine cb6 BK164 ?_; intro _ _ _ _ _ _)
                     (refine cz6 BK164 ?_; intro _ _ _ _ _ _)
                     try go_wp2_with (first | ((with_reducible refine qpA (b := .append) (xs := #[.tmp 46, .tmp 48]) rfl ?_); at_builtin; refine Kd.qRD k39 (w0 := w) w.heap.size rfl (.tmp 46) (.tmp 48) 79 39 (.agg #[(.int .i64 0), (.int .i64 0), (.int .i64 0), (.int .i64 0), (.int .i64 0), (.int .i64 0)]) 48 rfl Tryd.underlying79 info39 rfl (by decide) (by omega) (.slice (some ad157) x4_2.length co14) x4_2 (⟨t158, t159, t160, t161, t162, t163⟩ : S39) [.int .i64 t158, .int .i64 t159, .int .i64 t160, .int .i64 t161, .int .i64 t162, .int .i64 t163] (fun k_ => k_ ≠ gb150 ∧ k_ ≠ gb164) (fun _ => False) rfl rfl ?aP (fun _ hk => hk.elim) ?aF ?aO ?aB ?aS ?aL ?_; (case aP => exact qSC _ _ _ (⟨t158, t159, t160, t161, t162, t163⟩ : S39)); (case aB => exact bl); (case aF => exact (fun k_ hk => ⟨Kd.freshB (rB BK150) k_ hk, Kd.freshB (rB BK164) k_ hk⟩)); (case aO => exact (rR HO_4)); (case aS => exact (qL bl)); (case aL => have := LMc34.out; omega); intro v168 w45 ho hb hg hat; rw [← Ny167.out] at ho; have HO169 := aM (ho); replace HO_5 := aM (Kd.qMB (rR HO_5) (Kd.qyA (rR HO_4)) (by decide) hg); replace BK150 := aM (qi (rB BK150) hg (Kd.qJB HO_4.out (fun _ hk => hk.1))); replace BK164 := aM (qi (rB BK164) hg (Kd.qJB HO_4.out (fun _ hk => hk.2))); replace HB := aM (hb); clear HO_4; clear ho hb hg hat))
                     replace HO_5 := aM (Kd.qS HO_5.out)
                     replace HO169 := aM (Kd.qS HO169.out)
                     replace BK150 := aM (qE BK150.out)
                     replace BK164 := aM (qE BK164.out)
                     replace HB := aM (qu HB.out)
                     obtain ⟨Ao47, co47, eo47⟩ := Kd.qBA HO_5.out
                     (first | subst eo47 | (injection eo47 with f1_ f2_ f3_; have f4_ := f1_.symm; have f5_ := f3_.symm; clear f1_ f2_ f3_; subst f4_; subst f5_))
                     have p170 : 0 ≤ (x6_1 : Int) := of_decide_eq_true am
                     have q170 : x6_1 < (x5_2.length : Int) := of_decide_eq_true am
                     obtain ⟨ad170, e170, hx170_0⟩ := Kd.qpB (Kd.qP HO_5.out).2.2 x6_1 p170 q170
                     cases e170
                     replace p170 := eq_true p170
                     replace q170 := eq_true q170
                     refine qCB (n := 14) (S := fun w' => w'.cell? (ad170.add (x6_1).toNat) = some (.string (rdOf ByteArray.empty x5_2 x6_1))) (ds := [11, 12]) #[false, false, false, false, false, false, false, false, false, false, false, false, false, false] (by kernel_rfl) rfl rfl (hx170_0) (fun hHeld => ?_); refine qKA qM.tab17 qM.bits17 (fun HT_ HW_ => ?_)
                     generalize w45.drew = w46 at HO_5 HO169 BK150 BK164 HB hx170_0 hHeld ⊢
                     refine pS (i := 0) (N := some 50) #[true, false, false, false, false, false, false, false, false, false, false, false, false, false] HT_ ?_
                     refine pS (i := 1) (N := some 51) #[true, true, false, false, false, false, false, false, false, false, false, false, false, false] HT_ ?_
                     refine pS (i := 2) (N := some 52) #[true, true, true, false, false, false, false, false, false, false, false, false, false, false] HT_ ?_
                     refine pS (i := 3) (N := some 53) #[true, true, true, true, false, false, false, false, false, false, false, false, false, false] HT_ ?_
                     refine pS (i := 6) (N := some 56) #[true, true, true, true, false, false, true, false, false, false, false, false, false, false] HT_ ?_
                     refine pS (i := 7) (N := some 57) #[true, true, true, true, false, false, true, true, false, false, false, false, false, false] HT_ ?_
                     refine pS (i := 8) (N := some 58) #[true, true, true, true, false, false, true, true, true, false, false, false, false, false] HT_ ?_
                     refine tS (i := 4) (N := some 54) #[true, true, true, true, true, false, true, true, true, false, false, false, false, false] HT_ HW_ hHeld ?_
                     refine one_ (i := 5) (N := some 55) #[true, true, true, true, true, true, true, true, true, false, false, false, false, false] rfl rfl (qUA HT_.out (by kernel_rfl)) (by decide) (fun K hK => ?_)
                     refine goes_ Tryd.func34 (by kernel_rfl) rfl #[] (by rfl) rfl rfl gA ?_
                     with_reducible refine (qEB.calls  t171 _ A37.out).mono ?_
                     rintro e w' ⟨rfl, ⟨nd, rfl⟩⟩
                     refine ⟨_, rfl, ?_⟩
                     refine hK.out _ _ (hHeld) (fun hHeld => ?_)
                     clear hK K
                     refine norm_ (a' := ?_) ?_ ?_
                     rotate_left
                     ·show Act.put _ (some 55) _ = _
                      simp only [Act.put, List.setIfInBounds_toArray, List.set_cons_zero, List.set_cons_succ, i64_w, i32_w]
                      rfl
                     refine pS (i := 9) (N := some 59) #[true, true, true, true, true, true, true, true, true, true, false, false, false, false] HT_ ?_
                     refine pS (i := 10) (N := some 60) #[true, true, true, true, true, true, true, true, true, true, true, false, false, false] HT_ ?_
                     refine last_ (i := 11) (N := some 61) #[true, true, true, true, true, true, true, true, true, true, true, true, false, false] rfl rfl (qUA HT_.out (by kernel_rfl)) (by decide) (fun K hK => ?_)
                     refine qSB (w1 := ?_) (v := ?_) (by rfl) rfl ?_ ?_
                     rotate_left 2
                     ·go_simp
                      constructor
                      ·rfl
                      ·rfl
                     refine hK.out _ _ ?_
                     clear hK K
                     refine norm_ (a' := ?_) ?_ ?_
                     rotate_left
                     ·show Act.put _ (some 61) _ = _
                      simp only [Act.put, List.setIfInBounds_toArray, List.set_cons_zero, List.set_cons_succ, i64_w, i32_w]
                      rfl
                     refine last_ (i := 12) (N := some 62) #[true, true, true, true, true, true, true, true, true, true, true, true, true, false] rfl rfl (qUA HT_.out (by kernel_rfl)) (by decide) (fun K hK => ?_)
                     refine Kd.R_append_step Kd.string (w0 := w) w.heap.size (by rfl) (.tmp 50) (.tmp 61) 51 9 (.string ⟨#[]⟩) 16 rfl Tryd.underlying51 info9 rfl (by decide) (by omega) (.slice (some ad170) x5_2.length co47) x5_2 ((rdOf ByteArray.empty x5_2 x6_1) ++ (t171.extract (x7_2 : Int).toNat ((wrap64 (x7_2 + 1)) : Int).toNat)) [.string ((rdOf ByteArray.empty x5_2 x6_1) ++ (t171.extract (x7_2 : Int).toNat ((wrap64 (x7_2 + 1)) : Int).toNat))] (fun _ => True) (fun _ => False) rfl rfl ?aP (fun _ hk => hk.elim) ?aF ?aO ?aB ?aS ?aL ?_
                     (case aP => exact rfl)
                     (case aB => exact bl)
                     (case aF => exact (fun _ _ => trivial))
                     (case aO => exact (rR HO_5))
                     (case aS => exact (qL bl))
                     (case aL => have := LMc42.out; omega)
                     intro v173 w48 ho hb hg hat
                     rw [← Ny172.out] at ho
                     have HO174 := aM (ho)
                     replace BK150 := aM (qi (rB BK150) hg (Kd.R_ne HO_5.out BK150.out (by decide)))
                     replace BK164 := aM (qi (rB BK164) hg (Kd.R_ne HO_5.out BK164.out (by decide)))
                     replace HO169 := aM (Kd.qMB (rR HO169) (Kd.qyA (rR HO_5)) (by decide) hg)
                     replace HB := aM (hb)
                     clear HO_5
                     clear ho hb hg hat
                     refine hK.out _ _ ?_
                     clear hK K
                     refine norm_ (a' := ?_) ?_ ?_
                     rotate_left
                     ·show Act.put _ (some 62) _ = _
                      simp only [Act.put, List.setIfInBounds_toArray, List.set_cons_zero, List.set_cons_succ, i64_w, i32_w]
                      rfl
                     refine pS (i := 13) (N := some 5) #[true, true, true, true, true, true, true, true, true, true, true, true, true, true] HT_ ?_
                     refine done_ (qrA HT_.out (by kernel_rfl)) ?_
                     try go_wp2
                     go_roundg k3
                     case measure => have := HK1.out; have := HK2.out; have := HK3.out; omega
                     case rel => exact ⟨(y167), (y172), (wrap64 (x7_2 + 1)), sD, H', ⟨by have := HK1.out; have := HK2.out; have := HK3.out; omega⟩, ⟨by (with_reducible repeat (first | apply Kd.qO | apply Kd.qQ | apply Kd.qS)); exact Kd.qZ HO169.out (fun _ hk => hk.1)⟩, ⟨rR HO174⟩, ⟨rB BK150⟩, ⟨bl⟩⟩
                    ·rw [if_neg c42] at H
                     exact absurd H (by simp)
                   ·rw [if_neg c41] at H
                    exact absurd H (by simp)
                  ·rw [if_neg c40] at H
                   exact absurd H (by simp)
                 ·rw [if_neg c39] at H
                  exact absurd H (by simp)
                ·rw [if_neg c38] at H
                 exact absurd H (by simp)
               ·rw [if_neg c36] at H
                exact absurd H (by simp)
              ·rw [if_neg c35] at H
               exact absurd H (by simp)
             ·rw [if_neg c34] at H
              exact absurd H (by simp)
        ·rw [if_neg c12] at H
         exact absurd H (by simp)
       ·rw [if_neg c11] at H
        exact absurd H (by simp)
      ·rw [if_neg c10] at H
       have c10b0 := decide_eq_false c10
       clear c10
       have H' := aM H
       clear H
       go_wp2
       go_roundg k2
       case measure => have := HK1.out; have := HK2.out; omega
       case rel => exact ⟨(x4_2), (x5_2), (wrap64 (x6_1 + 1)), sD, H', ⟨by have := HK1.out; have := HK2.out; omega⟩, ⟨rR HO_4⟩, ⟨rR HO_5⟩, ⟨rB BK150⟩, ⟨bl⟩⟩
   ·rw [if_neg c8] at H
    have c8b0 := decide_eq_false c8
    clear c8
    simp only [Option.some.injEq, Prod.mk.injEq] at H
    obtain ⟨rfl, rfl⟩ := H
    obtain ⟨Ao49, co49, eo49⟩ := Kd.qBA HO_4.out
    subst eo49
    go_wp2
    go_ret2
    exact ⟨_, _, sR, by (with_reducible repeat (first | apply Kd.qO | apply Kd.qQ | apply Kd.qS)); exact Kd.qZ HO_4.out (fun _ hk => trivial), by (with_reducible repeat (first | apply Kd.qO | apply Kd.qQ | apply Kd.qS)); exact HO_5.out, bl⟩
end Go.Proofs.YthhiiceligjleaaDoor.P
namespace Go.Proofs.YthhiiceligjleaaDoor.P
open Go.RowKit Go.Proofs.YthhiiceligjleaaDoorW.PrintWords Go.Proofs.YthhiiceligjleaaDoorW.PrintLast Go.Proofs.YthhiiceligjleaaDoorW.PrintMore
attribute [local go_sem] qn ql qw qv qc qb qm qk
set_option linter.unusedVariables false
set_option linter.unusedSimpArgs false
def qf.l0 : Nat → List Int → List Int → Int → Int → Option (Bool)
 | 0, _, _, _, _ => none
 | k + 1, x9, x11, x13, x14 => if x14 < x13 then (if 0 ≤ x14 then (if x14 < (x9.length : Int) then (if x14 < (x11.length : Int) then (if (rd x9 x14) = (rd x11 x14) then (qf.l0 k x9 x11 x13 (wrap64 (x14 + 1))) else (some (decide ((rd x9 x14) < (rd x11 x14))))) else (none)) else (none)) else (none)) else (some false)
def qf.f (k : Nat) (a0_0 : Int) (a0_1 : Int) (a0_2 : Int) (a0_3 : Int) (a0_4 : Int) (a0_5 : Int) (a1_0 : Int) (a1_1 : Int) (a1_2 : Int) (a1_3 : Int) (a1_4 : Int) (a1_5 : Int) : Option (Bool) := (qGA.f a0_0 a0_1 a0_2 a0_3 a0_4 a0_5).bind fun t177 => ((qGA.f a1_0 a1_1 a1_2 a1_3 a1_4 a1_5).bind fun t180 => (qf.l0 k t177 t180 (t177.length : Int) 0))
def qf.T5 : Bool × List (List Nat × List Nat) := (true, [([], []), ([], []), ([0, 1], [0, 1]), ([2], [2]), ([], []), ([], []), ([4, 5], [4, 5]), ([6], [6]), ([3, 7], [3, 7])])
def qf.B5 : List Nat := [0, 0, 3, 7, 0, 0, 48, 112, 255]
theorem qf.tab5 : rtab .any (opsOf Tryd.f46 5) = qf.T5 := by kernel_rfl
theorem qf.bits5 : waitsOk qf.T5.2 qf.B5 = true := by kernel_rfl
def qf.T6 : Bool × List (List Nat × List Nat) := (true, [([], []), ([], []), ([0, 1], [0, 1]), ([2], [2]), ([], []), ([], []), ([4, 5], [4, 5]), ([6], [6]), ([3, 7], [3, 7]), ([8, 0, 1, 2, 3, 4, 5, 6, 7, 8], [8])])
def qf.B6 : List Nat := [0, 0, 3, 7, 0, 0, 48, 112, 255, 511]
theorem qf.tab6 : rtab .any (opsOf Tryd.f46 6) = qf.T6 := by kernel_rfl
theorem qf.bits6 : waitsOk qf.T6.2 qf.B6 = true := by kernel_rfl
set_option maxHeartbeats 8000000 in
set_option maxRecDepth 100000 in
theorem qf.calls (k : Nat) (a0_0 : Int) (a0_1 : Int) (a0_2 : Int) (a0_3 : Int) (a0_4 : Int) (a0_5 : Int) (a1_0 : Int) (a1_1 : Int) (a1_2 : Int) (a1_3 : Int) (a1_4 : Int) (a1_5 : Int) (r : Bool) (w : World) (h : qf.f k a0_0 a0_1 a0_2 a0_3 a0_4 a0_5 a1_0 a1_1 a1_2 a1_3 a1_4 a1_5 = some r) :
  Calls Tryd.prog 46 #[.agg #[.int .i64 a0_0, .int .i64 a0_1, .int .i64 a0_2, .int .i64 a0_3, .int .i64 a0_4, .int .i64 a0_5], .agg #[.int .i64 a1_0, .int .i64 a1_1, .int .i64 a1_2, .int .i64 a1_3, .int .i64 a1_4, .int .i64 a1_5]] w fun e w' => e = .returned (.bool r) ∧ Below w.heap.size w w' := by
 have hu39 := Tryd.underlying39
 have HB := aM (Below.refl w.heap.size w)
 have H : ((qGA.f a0_0 a0_1 a0_2 a0_3 a0_4 a0_5).bind fun t177 => ((qGA.f a1_0 a1_1 a1_2 a1_3 a1_4 a1_5).bind fun t180 => (qf.l0 k t177 t180 (t177.length : Int) 0))) = some r := h
 clear h
 replace H := bO H
 obtain ⟨t177, A3, H⟩ := H
 replace H := bO H
 obtain ⟨t180, A4, H⟩ := H
 have H' := aM H
 clear H
 go_enter Tryd.func46, Tryd.ntmps46
 try go_wp2_with (first | ((with_reducible refine qK (N := 2) rfl ?_); refine qH ?hg (N := 2) ?hd (cs := #[.int .i64 a0_0, .int .i64 a0_1, .int .i64 a0_2, .int .i64 a0_3, .int .i64 a0_4, .int .i64 a0_5]) (t := 39) ?hr ?_; (case hd => rfl); (case hg => rfl); (case hr => exact gS); intro gb175 hg w5 hbox hb; have BK175 := aM (hbox); have GW175 := aM ((gg hg)); have GE175 := aM ((gg hg)); replace HB := aM (qB bl hb); clear hb hbox hg) | ((with_reducible refine qK (N := 3) rfl ?_); refine qH ?hg (N := 3) ?hd (cs := #[.int .i64 a1_0, .int .i64 a1_1, .int .i64 a1_2, .int .i64 a1_3, .int .i64 a1_4, .int .i64 a1_5]) (t := 39) ?hr ?_; (case hd => rfl); (case hg => rfl); (case hr => exact gS); intro gb176 hg w6 hbox hb; have BK176 := aM (hbox); have GW176 := aM ((gg hg)); have GE176 := aM ((gg hg)); have NB175_176 := aM ((nl BK175 hg)); have NB176_175 := aM ((nr BK175 hg)); replace BK175 := aM (bb BK175 hb); replace HB := aM (qB bl hb); clear hb hbox hg))
 replace BK175 := aM (qE BK175.out)
 replace BK176 := aM (qE BK176.out)
 replace HB := aM (qu HB.out)
 refine qCB (n := 6) (S := fun w' => w'.cell? ⟨gb175, 0, none⟩ = some (.int .i64 a0_0) ∧ w'.cell? ⟨gb175, 1, none⟩ = some (.int .i64 a0_1) ∧ w'.cell? ⟨gb175, 2, none⟩ = some (.int .i64 a0_2) ∧ w'.cell? ⟨gb175, 3, none⟩ = some (.int .i64 a0_3) ∧ w'.cell? ⟨gb175, 4, none⟩ = some (.int .i64 a0_4) ∧ w'.cell? ⟨gb175, 5, none⟩ = some (.int .i64 a0_5) ∧ w'.cell? ⟨gb176, 0, none⟩ = some (.int .i64 a1_0) ∧ w'.cell? ⟨gb176, 1, none⟩ = some (.int .i64 a1_1) ∧ w'.cell? ⟨gb176, 2, none⟩ = some (.int .i64 a1_2) ∧ w'.cell? ⟨gb176, 3, none⟩ = some (.int .i64 a1_3) ∧ w'.cell? ⟨gb176, 4, none⟩ = some (.int .i64 a1_4) ∧ w'.cell? ⟨gb176, 5, none⟩ = some (.int .i64 a1_5)) (ds := []) #[false, false, false, false, false, false] (by kernel_rfl) rfl rfl ⟨bc BK175 0, bc BK175 1, bc BK175 2, bc BK175 3, bc BK175 4, bc BK175 5, bc BK176 0, bc BK176 1, bc BK176 2, bc BK176 3, bc BK176 4, bc BK176 5⟩ (fun hHeld => ?_)
 generalize w6.drew = w7 at BK175 BK176 HB hHeld ⊢
 refine take_ (i := 0) (N := some 8) (v := ?_) (a' := ?_) #[true, false, false, false, false, false] rfl rfl (by kernel_rfl) (fun _ _ _ h => h) (Or.inl ⟨by rfl, ?_⟩) hHeld ?_ ?_
 rotate_left
 ·rintro w' ⟨s0, s1, s2, s3, s4, s5, s6, s7, s8, s9, s10, s11⟩
  go_simp
  first | (with_reducible rfl) | (rw [if_neg (by simp only [ByteArray.size_extract, ByteArray.size_append] at * <;> omega)]; try with_reducible rfl)
 rotate_left
 ·simp only [Act.put, List.setIfInBounds_toArray, List.set_cons_zero, List.set_cons_succ, i64_w, i32_w]
  rfl
 refine take_ (i := 2) (N := some 10) (v := ?_) (a' := ?_) #[true, false, true, false, false, false] rfl rfl (by kernel_rfl) (fun _ _ _ h => h) (Or.inl ⟨by rfl, ?_⟩) hHeld ?_ ?_
 rotate_left
 ·rintro w' ⟨s0, s1, s2, s3, s4, s5, s6, s7, s8, s9, s10, s11⟩
  go_simp
  first | (with_reducible rfl) | (rw [if_neg (by simp only [ByteArray.size_extract, ByteArray.size_append] at * <;> omega)]; try with_reducible rfl)
 rotate_left
 ·simp only [Act.put, List.setIfInBounds_toArray, List.set_cons_zero, List.set_cons_succ, i64_w, i32_w]
  rfl
 refine one_ (i := 1) (N := some 9) #[true, true, true, false, false, false] rfl rfl (by kernel_rfl) (by decide) (fun K hK => ?_)
 refine goes_ Tryd.func47 (by kernel_rfl) rfl #[.agg #[.int .i64 a0_0, .int .i64 a0_1, .int .i64 a0_2, .int .i64 a0_3, .int .i64 a0_4, .int .i64 a0_5]] (by rfl) rfl rfl gA ?_
 with_reducible refine (qGA.calls a0_0 a0_1 a0_2 a0_3 a0_4 a0_5 t177 _ A3.out).mono ?_
 rintro e w8 ⟨v178, rfl, ho0, hb⟩
 refine ⟨_, rfl, ?_⟩
 have HO179 := aM (Kd.qx ho0 (qL bl))
 replace BK175 := aM (bb BK175 hb)
 replace BK176 := aM (bb BK176 hb)
 replace HB := aM (qB bl hb); (try clear hb); (try clear hb2); (try clear hk); (try clear hi); (try clear ho0)
 refine hK.out _ _ ⟨bc BK175 0, bc BK175 1, bc BK175 2, bc BK175 3, bc BK175 4, bc BK175 5, bc BK176 0, bc BK176 1, bc BK176 2, bc BK176 3, bc BK176 4, bc BK176 5⟩ (fun hHeld => ?_)
 clear hK K
 refine norm_ (a' := ?_) ?_ ?_
 rotate_left
 ·show Act.put _ (some 9) _ = _
  simp only [Act.put, List.setIfInBounds_toArray, List.set_cons_zero, List.set_cons_succ, i64_w, i32_w]
  rfl
 refine one_ (i := 3) (N := some 11) #[true, true, true, true, false, false] rfl rfl (by kernel_rfl) (by decide) (fun K hK => ?_)
 refine goes_ Tryd.func47 (by kernel_rfl) rfl #[.agg #[.int .i64 a1_0, .int .i64 a1_1, .int .i64 a1_2, .int .i64 a1_3, .int .i64 a1_4, .int .i64 a1_5]] (by rfl) rfl rfl gA ?_
 with_reducible refine (qGA.calls a1_0 a1_1 a1_2 a1_3 a1_4 a1_5 t180 _ A4.out).mono ?_
 rintro e w9 ⟨v181, rfl, ho0, hb⟩
 refine ⟨_, rfl, ?_⟩
 have HO182 := aM (Kd.qx (Kd.qsA ho0 (Kd.R_lt (rR HO179))) (qL bl))
 replace HO179 := aM (Kd.qMA (rR HO179) (Kd.qfA ho0) hb)
 replace BK175 := aM (bb BK175 hb)
 replace BK176 := aM (bb BK176 hb)
 replace HB := aM (qB bl hb); (try clear hb); (try clear hb2); (try clear hk); (try clear hi); (try clear ho0)
 refine hK.out _ _ ⟨bc BK175 0, bc BK175 1, bc BK175 2, bc BK175 3, bc BK175 4, bc BK175 5, bc BK176 0, bc BK176 1, bc BK176 2, bc BK176 3, bc BK176 4, bc BK176 5⟩ (fun hHeld => ?_)
 clear hK K
 refine norm_ (a' := ?_) ?_ ?_
 rotate_left
 ·show Act.put _ (some 11) _ = _
  simp only [Act.put, List.setIfInBounds_toArray, List.set_cons_zero, List.set_cons_succ, i64_w, i32_w]
  rfl
 refine pure_ (i := 4) (N := some 5) (v := ?_) (a' := ?_) #[true, true, true, true, true, false] rfl rfl (by kernel_rfl) (fun _ _ _ h => h) (Or.inl ⟨by rfl, ?_⟩) ?_ ?_
 rotate_left
 ·intro w'
  go_simp
  first | (with_reducible rfl) | (rw [if_neg (by simp only [ByteArray.size_extract, ByteArray.size_append] at * <;> omega)]; try with_reducible rfl)
 rotate_left
 ·simp only [Act.put, List.setIfInBounds_toArray, List.set_cons_zero, List.set_cons_succ, i64_w, i32_w]
  rfl
 refine pure_ (i := 5) (N := some 6) (v := ?_) (a' := ?_) #[true, true, true, true, true, true] rfl rfl (by kernel_rfl) (fun _ _ _ h => h) (Or.inl ⟨by rfl, ?_⟩) ?_ ?_
 rotate_left
 ·intro w'
  go_simp
  first | (with_reducible rfl) | (rw [if_neg (by simp only [ByteArray.size_extract, ByteArray.size_append] at * <;> omega)]; try with_reducible rfl)
 rotate_left
 ·simp only [Act.put, List.setIfInBounds_toArray, List.set_cons_zero, List.set_cons_succ, i64_w, i32_w]
  rfl
 refine done_ (by kernel_rfl) ?_
 obtain ⟨Ao10, co10, eo10⟩ := Kd.qBA HO179.out
 subst eo10
 try go_wp2
 go_loopg [14] k (fun kq v14 w' => ∃ (x14_1 : Int), v14 = .int .i64 x14_1 ∧ Aside0 (qf.l0 kq t177 t180 (t177.length : Int) x14_1 = some r) ∧ Aside0 (kq ≤ k) ∧ Aside0 (Kd.R (Kd.int .i64) 3 w' w.heap.size (fun k_ => some k_ ≠ (v181 : Value).ownBlock) (.slice Ao10 t177.length co10) t177) ∧ Aside0 (Kd.R (Kd.int .i64) 3 w' w.heap.size (fun k_ => some k_ ≠ ((.slice Ao10 t177.length co10) : Value).ownBlock) v181 t180) ∧ Aside0 (w'.heap[gb175]? = some (.cells #[.int .i64 a0_0, .int .i64 a0_1, .int .i64 a0_2, .int .i64 a0_3, .int .i64 a0_4, .int .i64 a0_5] 39 (0, 0))) ∧ Aside0 (w'.heap[gb176]? = some (.cells #[.int .i64 a1_0, .int .i64 a1_1, .int .i64 a1_2, .int .i64 a1_3, .int .i64 a1_4, .int .i64 a1_5] 39 (0, 0))) ∧ Aside0 (Below w.heap.size w w'))
 case atStart => exact ⟨(0), sD, H', ⟨Nat.le_refl _⟩, ⟨by (with_reducible repeat (first | apply Kd.qO | apply Kd.qQ | apply Kd.qS)); exact Kd.qZ HO179.out (fun _ hk => hk.2)⟩, ⟨by (with_reducible repeat (first | apply Kd.qO | apply Kd.qQ | apply Kd.qS)); exact Kd.qZ HO182.out (fun _ hk => hk.2)⟩, ⟨rB BK175⟩, ⟨rB BK176⟩, ⟨bl⟩⟩
 case round =>
  clear H'; (try clear p2); (try clear c4)
  obtain ⟨x14_1, rfl, HA, HK1, HO_9, HO_11, BK175, BK176, HB⟩ := hrel
  cases gk with
  | zero => exact absurd HA.out (by simp [qf.l0])
  | succ k1 =>
   have H := HA.out
   clear HA
   simp only [qf.l0] at H
   by_cases c11 : x14_1 < (t177.length : Int)
   ·rw [if_pos c11] at H
    have c11b0 := decide_eq_true c11
    clear c11
    by_cases c12 : 0 ≤ x14_1
    ·rw [if_pos c12] at H
     have c12b0 := decide_eq_true c12
     clear c12
     by_cases c13 : x14_1 < (t177.length : Int)
     ·rw [if_pos c13] at H
      have c13b0 := decide_eq_true c13
      clear c13
      by_cases c14 : x14_1 < (t180.length : Int)
      ·rw [if_pos c14] at H
       have c14b0 := decide_eq_true c14
       clear c14
       by_cases c15 : (rd t177 x14_1) = (rd t180 x14_1)
       ·rw [if_pos c15] at H
        have c15b0 := beq_iff_eq.mpr c15
        have c15b1 := bne_eq_false_iff_eq.mpr c15
        clear c15
        have H' := aM H
        clear H
        try go_wp2
        replace HO_9 := aM (Kd.qS HO_9.out)
        replace HO_11 := aM (Kd.qS HO_11.out)
        replace BK175 := aM (qE BK175.out)
        replace BK176 := aM (qE BK176.out)
        replace HB := aM (qu HB.out)
        have p183 : 0 ≤ (x14_1 : Int) := of_decide_eq_true am
        have q183 : x14_1 < (t177.length : Int) := of_decide_eq_true am
        obtain ⟨ad183, e183, hx183_0⟩ := Kd.qFC (Kd.qP HO_9.out).2.2 x14_1 p183 q183
        cases e183
        replace p183 := eq_true p183
        replace q183 := eq_true q183
        obtain ⟨Ao17, co17, eo17⟩ := Kd.qBA HO_11.out
        (first | subst eo17 | (injection eo17 with f1_ f2_ f3_; have f4_ := f1_.symm; have f5_ := f3_.symm; clear f1_ f2_ f3_; subst f4_; subst f5_))
        have p184 : 0 ≤ (x14_1 : Int) := of_decide_eq_true am
        have q184 : x14_1 < (t180.length : Int) := of_decide_eq_true am
        obtain ⟨ad184, e184, hx184_0⟩ := Kd.qFC (Kd.qP HO_11.out).2.2 x14_1 p184 q184
        cases e184
        replace p184 := eq_true p184
        replace q184 := eq_true q184
        refine qCB (n := 9) (S := fun w' => w'.cell? (ad183.add (x14_1).toNat) = some (.int .i64 (rd t177 x14_1)) ∧ w'.cell? (ad184.add (x14_1).toNat) = some (.int .i64 (rd t180 x14_1))) (ds := []) #[false, false, false, false, false, false, false, false, false] (by kernel_rfl) rfl rfl ⟨hx183_0, hx184_0⟩ (fun hHeld => ?_); refine qKA qf.tab5 qf.bits5 (fun HT_ HW_ => ?_)
        generalize wr.drew = w16 at HO_9 HO_11 BK175 BK176 HB hx183_0 hx184_0 hHeld ⊢
        refine pS (i := 0) (N := some 17) #[true, false, false, false, false, false, false, false, false] HT_ ?_
        refine pS (i := 1) (N := some 18) #[true, true, false, false, false, false, false, false, false] HT_ ?_
        refine pS (i := 2) (N := some 19) #[true, true, true, false, false, false, false, false, false] HT_ ?_
        refine pS (i := 4) (N := some 21) #[true, true, true, false, true, false, false, false, false] HT_ ?_
        refine pS (i := 5) (N := some 22) #[true, true, true, false, true, true, false, false, false] HT_ ?_
        refine pS (i := 6) (N := some 23) #[true, true, true, false, true, true, true, false, false] HT_ ?_
        refine tS (i := 3) (N := some 20) #[true, true, true, true, true, true, true, false, false] HT_ HW_ hHeld ?_
        refine tS (i := 7) (N := some 24) #[true, true, true, true, true, true, true, true, false] HT_ HW_ hHeld ?_
        refine pS (i := 8) (N := some 25) #[true, true, true, true, true, true, true, true, true] HT_ ?_
        refine done_ (qrA HT_.out (by kernel_rfl)) ?_
        try go_wp2
        go_roundg k1
        case measure => have := HK1.out; omega
        case rel => exact ⟨(wrap64 (x14_1 + 1)), sD, H', ⟨by have := HK1.out; omega⟩, ⟨rR HO_9⟩, ⟨rR HO_11⟩, ⟨rB BK175⟩, ⟨rB BK176⟩, ⟨bl⟩⟩
       ·rw [if_neg c15] at H
        have c15b0 := beq_eq_false_iff_ne.mpr c15
        have c15b1 := bne_iff_ne.mpr c15
        obtain rfl := Option.some.inj H
        try go_wp2
        replace HO_9 := aM (Kd.qS HO_9.out)
        replace HO_11 := aM (Kd.qS HO_11.out)
        replace BK175 := aM (qE BK175.out)
        replace BK176 := aM (qE BK176.out)
        replace HB := aM (qu HB.out)
        have p183 : 0 ≤ (x14_1 : Int) := of_decide_eq_true am
        have q183 : x14_1 < (t177.length : Int) := of_decide_eq_true am
        obtain ⟨ad183, e183, hx183_0⟩ := Kd.qFC (Kd.qP HO_9.out).2.2 x14_1 p183 q183
        cases e183
        replace p183 := eq_true p183
        replace q183 := eq_true q183
        obtain ⟨Ao19, co19, eo19⟩ := Kd.qBA HO_11.out
        (first | subst eo19 | (injection eo19 with f1_ f2_ f3_; have f4_ := f1_.symm; have f5_ := f3_.symm; clear f1_ f2_ f3_; subst f4_; subst f5_))
        have p184 : 0 ≤ (x14_1 : Int) := of_decide_eq_true am
        have q184 : x14_1 < (t180.length : Int) := of_decide_eq_true am
        obtain ⟨ad184, e184, hx184_0⟩ := Kd.qFC (Kd.qP HO_11.out).2.2 x14_1 p184 q184
        cases e184
        replace p184 := eq_true p184
        replace q184 := eq_true q184
        refine qCB (n := 9) (S := fun w' => w'.cell? (ad183.add (x14_1).toNat) = some (.int .i64 (rd t177 x14_1)) ∧ w'.cell? (ad184.add (x14_1).toNat) = some (.int .i64 (rd t180 x14_1))) (ds := []) #[false, false, false, false, false, false, false, false, false] (by kernel_rfl) rfl rfl ⟨hx183_0, hx184_0⟩ (fun hHeld => ?_); refine qKA qf.tab5 qf.bits5 (fun HT_ HW_ => ?_)
        generalize wr.drew = w18 at HO_9 HO_11 BK175 BK176 HB hx183_0 hx184_0 hHeld ⊢
        refine pS (i := 0) (N := some 17) #[true, false, false, false, false, false, false, false, false] HT_ ?_
        refine pS (i := 1) (N := some 18) #[true, true, false, false, false, false, false, false, false] HT_ ?_
        refine pS (i := 2) (N := some 19) #[true, true, true, false, false, false, false, false, false] HT_ ?_
        refine pS (i := 4) (N := some 21) #[true, true, true, false, true, false, false, false, false] HT_ ?_
        refine pS (i := 5) (N := some 22) #[true, true, true, false, true, true, false, false, false] HT_ ?_
        refine pS (i := 6) (N := some 23) #[true, true, true, false, true, true, true, false, false] HT_ ?_
        refine tS (i := 3) (N := some 20) #[true, true, true, true, true, true, true, false, false] HT_ HW_ hHeld ?_
        refine tS (i := 7) (N := some 24) #[true, true, true, true, true, true, true, true, false] HT_ HW_ hHeld ?_
        refine pS (i := 8) (N := some 25) #[true, true, true, true, true, true, true, true, true] HT_ ?_
        refine done_ (qrA HT_.out (by kernel_rfl)) ?_
        try go_wp2
        replace HO_9 := aM (Kd.qS HO_9.out)
        replace HO_11 := aM (Kd.qS HO_11.out)
        replace BK175 := aM (qE BK175.out)
        replace BK176 := aM (qE BK176.out)
        replace HB := aM (qu HB.out)
        have p185 : 0 ≤ (x14_1 : Int) := of_decide_eq_true am
        have q185 : x14_1 < (t177.length : Int) := of_decide_eq_true am
        obtain ⟨ad185, e185, hx185_0⟩ := Kd.qFC (Kd.qP HO_9.out).2.2 x14_1 p185 q185
        obtain rfl : ad183 = ad185 := (by injection e185)
        replace p185 := eq_true p185
        replace q185 := eq_true q185
        have p186 : 0 ≤ (x14_1 : Int) := of_decide_eq_true am
        have q186 : x14_1 < (t180.length : Int) := of_decide_eq_true am
        obtain ⟨ad186, e186, hx186_0⟩ := Kd.qFC (Kd.qP HO_11.out).2.2 x14_1 p186 q186
        obtain rfl : ad184 = ad186 := (by injection e186)
        replace p186 := eq_true p186
        replace q186 := eq_true q186
        refine qCB (n := 10) (S := fun w' => w'.cell? (ad183.add (x14_1).toNat) = some (.int .i64 (rd t177 x14_1)) ∧ w'.cell? (ad184.add (x14_1).toNat) = some (.int .i64 (rd t180 x14_1))) (ds := []) #[false, false, false, false, false, false, false, false, false, false] (by kernel_rfl) rfl rfl ⟨hx185_0, hx186_0⟩ (fun hHeld => ?_); refine qKA qf.tab6 qf.bits6 (fun HT_ HW_ => ?_)
        generalize w18.drew = w20 at HO_9 HO_11 BK175 BK176 HB hx185_0 hx186_0 hHeld ⊢
        refine pS (i := 0) (N := some 26) #[true, false, false, false, false, false, false, false, false, false] HT_ ?_
        refine pS (i := 1) (N := some 27) #[true, true, false, false, false, false, false, false, false, false] HT_ ?_
        refine pS (i := 2) (N := some 28) #[true, true, true, false, false, false, false, false, false, false] HT_ ?_
        refine pS (i := 4) (N := some 30) #[true, true, true, false, true, false, false, false, false, false] HT_ ?_
        refine pS (i := 5) (N := some 31) #[true, true, true, false, true, true, false, false, false, false] HT_ ?_
        refine pS (i := 6) (N := some 32) #[true, true, true, false, true, true, true, false, false, false] HT_ ?_
        refine tS (i := 3) (N := some 29) #[true, true, true, true, true, true, true, false, false, false] HT_ HW_ hHeld ?_
        refine tS (i := 7) (N := some 33) #[true, true, true, true, true, true, true, true, false, false] HT_ HW_ hHeld ?_
        refine pS (i := 8) (N := some 34) #[true, true, true, true, true, true, true, true, true, false] HT_ ?_
        refine pS (i := 9) (N := some 4) #[true, true, true, true, true, true, true, true, true, true] HT_ ?_
        refine done_ (qrA HT_.out (by kernel_rfl)) ?_
        try go_wp2
        go_ret
        exact ⟨sR, bl⟩
      ·rw [if_neg c14] at H
       exact absurd H (by simp)
     ·rw [if_neg c13] at H
      exact absurd H (by simp)
    ·rw [if_neg c12] at H
     exact absurd H (by simp)
   ·rw [if_neg c11] at H
    have c11b0 := decide_eq_false c11
    clear c11
    obtain rfl := Option.some.inj H
    go_wp2
    go_ret
    exact ⟨sR, bl⟩
mutual
def qR.l0 : Nat → List (S39) → List (S39) → Int → Int → Option ((List (S39)))
 | 0, _, _, _, _ => none
 | k + 1, x5, x13, x16, x17 => if x17 < x16 then (if 0 ≤ x17 then (if x17 < (x13.length : Int) then (qR.l1 k x5 0 x13 x16 x17 ((qC x13 x17).f0) ((qC x13 x17).f1) ((qC x13 x17).f2) ((qC x13 x17).f3) ((qC x13 x17).f4) ((qC x13 x17).f5)) else (none)) else (none)) else (some x5)
def qR.l1 : Nat → List (S39) → Int → List (S39) → Int → Int → Int → Int → Int → Int → Int → Int → Option ((List (S39)))
 | 0, _, _, _, _, _, _, _, _, _, _, _ => none
 | k + 1, x5, x8, x13, x16, x17, x196000, x196001, x196002, x196003, x196004, x196005 => if x8 < (x5.length : Int) then (if 0 ≤ x8 then ((qf.f k ((qC x5 x8).f0) ((qC x5 x8).f1) ((qC x5 x8).f2) ((qC x5 x8).f3) ((qC x5 x8).f4) ((qC x5 x8).f5) x196000 x196001 x196002 x196003 x196004 x196005).bind fun t197 => (if t197 = true then (qR.l1 k x5 (wrap64 (x8 + 1)) x13 x16 x17 x196000 x196001 x196002 x196003 x196004 x196005) else ((some (([] : List (S39)) : List (S39))).bind fun y198 => (if x8 ≤ (x5.length : Int) then ((some (x5.take (x8 : Int).toNat : List (S39))).bind fun y201 => (if y198.length + y201.length < 2932031007402 then ((some (y198 ++ y201 : List (S39))).bind fun y205 => ((some (([(⟨x196000, x196001, x196002, x196003, x196004, x196005⟩ : S39)] : List (S39)) : List (S39))).bind fun y208 => (if y205.length + y208.length < 2932031007402 then ((some (y205 ++ y208 : List (S39))).bind fun y211 => ((some (x5.drop (x8 : Int).toNat : List (S39))).bind fun y214 => (if y211.length + y214.length < 2932031007402 then (qR.l0 k (y211 ++ y214) x13 x16 (wrap64 (x17 + 1))) else (none)))) else (none)))) else (none))) else (none))))) else (none)) else ((some (([] : List (S39)) : List (S39))).bind fun y221 => (if 0 ≤ x8 then (if x8 ≤ (x5.length : Int) then ((some (x5.take (x8 : Int).toNat : List (S39))).bind fun y224 => (if y221.length + y224.length < 2932031007402 then ((some (y221 ++ y224 : List (S39))).bind fun y228 => ((some (([(⟨x196000, x196001, x196002, x196003, x196004, x196005⟩ : S39)] : List (S39)) : List (S39))).bind fun y231 => (if y228.length + y231.length < 2932031007402 then ((some (y228 ++ y231 : List (S39))).bind fun y234 => ((some (x5.drop (x8 : Int).toNat : List (S39))).bind fun y237 => (if y234.length + y237.length < 2932031007402 then (qR.l0 k (y234 ++ y237) x13 x16 (wrap64 (x17 + 1))) else (none)))) else (none)))) else (none))) else (none)) else (none)))
end
def qR.f (k : Nat) (a0_0 : Int) (a0_1 : Int) (a0_2 : Int) (a0_3 : Int) (a0_4 : Int) (a0_5 : Int) : Option ((List (S39))) := (qM.f k a0_0 a0_1 a0_2 a0_3 a0_4 a0_5).bind fun bt188 => (qR.l0 k ([] : List (S39)) bt188.1 (bt188.1.length : Int) 0)
def qR.T7 : Bool × List (List Nat × List Nat) := (true, [([], []), ([], []), ([1], [1]), ([0, 2], [0, 2]), ([3], [3]), ([4], [4]), ([4], [4]), ([5, 6, 4], [4, 5, 6]), ([7, 4], [4, 7]), ([4], [4]), ([8, 9, 4, 4], [4, 8, 9]), ([4, 10], [4, 10])])
def qR.B7 : List Nat := [0, 0, 2, 7, 15, 31, 31, 127, 255, 31, 1023, 2047]
theorem qR.tab7 : rtab .any (opsOf Tryd.f29 7) = qR.T7 := by kernel_rfl
theorem qR.bits7 : waitsOk qR.T7.2 qR.B7 = true := by kernel_rfl
def qR.T9 : Bool × List (List Nat × List Nat) := (true, [([], []), ([], []), ([], []), ([1, 2], [1, 2]), ([0, 3], [0, 3]), ([], []), ([5], [5]), ([4, 6, 4], [4, 6]), ([7, 7, 0, 1, 2, 3, 4, 5, 6, 7], [7])])
def qR.B9 : List Nat := [0, 0, 0, 6, 15, 0, 32, 127, 255]
theorem qR.tab9 : rtab .any (opsOf Tryd.f29 9) = qR.T9 := by kernel_rfl
theorem qR.bits9 : waitsOk qR.T9.2 qR.B9 = true := by kernel_rfl
set_option maxHeartbeats 8000000 in
set_option maxRecDepth 100000 in
theorem qR.calls (k : Nat) (a0_0 : Int) (a0_1 : Int) (a0_2 : Int) (a0_3 : Int) (a0_4 : Int) (a0_5 : Int) (r : List (S39)) (w : World) (h : qR.f k a0_0 a0_1 a0_2 a0_3 a0_4 a0_5 = some r) :
  Calls Tryd.prog 29 #[.agg #[.int .i64 a0_0, .int .i64 a0_1, .int .i64 a0_2, .int .i64 a0_3, .int .i64 a0_4, .int .i64 a0_5]] w fun e w' => ∃ v0_ : Value, e = .returned (v0_) ∧ Kd.R k39 39 w' w.heap.size (fun _ => True) v0_ r ∧ Below w.heap.size w w' := by
 have hu39 := Tryd.underlying39
 have HB := aM (Below.refl w.heap.size w)
 have H : ((qM.f k a0_0 a0_1 a0_2 a0_3 a0_4 a0_5).bind fun bt188 => (qR.l0 k ([] : List (S39)) bt188.1 (bt188.1.length : Int) 0)) = some r := h
 clear h
 replace H := bO H
 obtain ⟨⟨t188, t191⟩, A2, H⟩ := H
 dsimp only at H A2
 have H' := aM H
 clear H
 go_enter Tryd.func29, Tryd.ntmps29
 go_wp2_with (first | ((with_reducible refine qK (N := 1) rfl ?_); refine qH ?hg (N := 1) ?hd (cs := #[.int .i64 a0_0, .int .i64 a0_1, .int .i64 a0_2, .int .i64 a0_3, .int .i64 a0_4, .int .i64 a0_5]) (t := 39) ?hr ?_; (case hd => rfl); (case hg => rfl); (case hr => exact gS); intro gb187 hg w3 hbox hb; have BK187 := aM (hbox); have GW187 := aM ((gg hg)); have GE187 := aM ((gg hg)); replace HB := aM (qB bl hb); clear hb hbox hg; (refine cb6 BK187 ?_; intro hcz4_0 hcz4_1 hcz4_2 hcz4_3 hcz4_4 hcz4_5); (refine cz6 BK187 ?_; intro hfz4_0 hfz4_1 hfz4_2 hfz4_3 hfz4_4 hfz4_5)) | ((with_reducible refine qJ (f := 45) rfl ?_); refine qr (some 12) rfl rfl Tryd.func45 (by kernel_rfl) rfl #[.agg #[.int .i64 a0_0, .int .i64 a0_1, .int .i64 a0_2, .int .i64 a0_3, .int .i64 a0_4, .int .i64 a0_5]] rfl gA ?_; (with_reducible refine (qM.calls k a0_0 a0_1 a0_2 a0_3 a0_4 a0_5 t188 t191 _ A2.out).mono ?_); rintro e w5 ⟨v189, v192, rfl, ho0, ho1, hb⟩; refine ⟨_, rfl, ?_⟩; have HO190 := aM (Kd.qx (Kd.qNB ho0 (rB BK187)) (qL bl)); have HO193 := aM (Kd.qx ho1 (qL bl)); replace BK187 := aM (bb BK187 hb); replace HB := aM (qB bl hb); (try clear hb); (try clear hb2); (try clear hk); (try clear hi); (try clear ho0); (try clear ho1); obtain ⟨Ao6, co6, eo6⟩ := Kd.qBA HO190.out; subst eo6))
 go_loopg [5, 17] k (fun kq v5 v17 w' => ∃ (x5_1 : List (S39)) (x17_1 : Int), v17 = .int .i64 x17_1 ∧ Aside0 (qR.l0 kq x5_1 t188 (t188.length : Int) x17_1 = some r) ∧ Aside0 (kq ≤ k) ∧ Aside0 (Kd.R k39 39 w' w.heap.size (fun k_ => some k_ ≠ ((.slice Ao6 t188.length co6) : Value).ownBlock ∧ k_ ≠ gb187) v5 x5_1) ∧ Aside0 (Kd.R k39 39 w' w.heap.size (fun k_ => some k_ ≠ (v5 : Value).ownBlock ∧ k_ ≠ gb187) (.slice Ao6 t188.length co6) t188) ∧ Aside0 (w'.heap[gb187]? = some (.cells #[.int .i64 a0_0, .int .i64 a0_1, .int .i64 a0_2, .int .i64 a0_3, .int .i64 a0_4, .int .i64 a0_5] 39 (0, 0))) ∧ Aside0 (Below w.heap.size w w'))
 case atStart => exact ⟨(([] : List (S39))), (0), sD, H', ⟨Nat.le_refl _⟩, ⟨nK⟩, ⟨by (with_reducible repeat (first | apply Kd.qO | apply Kd.qQ | apply Kd.qS)); exact Kd.qZ HO190.out (fun _ hk => ⟨(by simp [Value.ownBlock]), hk.2⟩)⟩, ⟨rB BK187⟩, ⟨bl⟩⟩
 case round =>
  clear H'; (try clear c2); (try clear p2); (try clear c4); (try clear hcz4_0); (try clear hcz4_1); (try clear hcz4_2); (try clear hcz4_3); (try clear hcz4_4); (try clear hcz4_5); (try clear hfz4_0); (try clear hfz4_1); (try clear hfz4_2); (try clear hfz4_3); (try clear hfz4_4); (try clear hfz4_5)
  obtain ⟨x5_1, x17_1, rfl, HA, HK1, HO_5, HO_13, BK187, HB⟩ := hrel
  cases gk with
  | zero => exact absurd HA.out (by simp [qR.l0])
  | succ k1 =>
   have H := HA.out
   clear HA
   simp only [qR.l0] at H
   by_cases c7 : x17_1 < (t188.length : Int)
   ·rw [if_pos c7] at H
    have c7b0 := decide_eq_true c7
    clear c7
    by_cases c8 : 0 ≤ x17_1
    ·rw [if_pos c8] at H
     have c8b0 := decide_eq_true c8
     clear c8
     by_cases c9 : x17_1 < (t188.length : Int)
     ·rw [if_pos c9] at H
      have c9b0 := decide_eq_true c9
      clear c9
      have H' := aM H
      clear H
      have p194 : 0 ≤ (x17_1 : Int) := of_decide_eq_true am
      have q194 : x17_1 < (t188.length : Int) := of_decide_eq_true am
      obtain ⟨ad194, e194, hx194_0, hx194_1, hx194_2, hx194_3, hx194_4, hx194_5⟩ := qdD (Kd.qP HO_13.out).2.2 x17_1 p194 q194
      cases e194
      replace p194 := eq_true p194
      replace q194 := eq_true q194
      go_wp2_with (first | ((with_reducible refine qK (N := 7) rfl ?_); refine qH ?hg (N := 7) ?hd (cs := #[.int .i64 0, .int .i64 0, .int .i64 0, .int .i64 0, .int .i64 0, .int .i64 0]) (t := 39) ?hr ?_; (case hd => rfl); (case hg => rfl); (case hr => exact gS); intro gb195 hg w10 hbox hb; have BK195 := aM (hbox); have GW195 := aM ((gg hg)); have GE195 := aM ((gg hg)); have NB187_195 := aM ((nl BK187 hg)); have NB195_187 := aM ((nr BK187 hg)); replace HO_5 := aM (Kd.qd (Kd.qnC (rR HO_5) gb195 (Nat.le_of_eq hg.symm)) hb); replace HO_13 := aM (Kd.qd (Kd.qnC (rR HO_13) gb195 (Nat.le_of_eq hg.symm)) hb); replace BK187 := aM (bb BK187 hb); replace HB := aM (qB bl hb); clear hb hbox hg; have hnb11 := NB195_187.out; have hnc11 := NB187_195.out; (refine cb6 BK195 ?_; intro hcz12_0 hcz12_1 hcz12_2 hcz12_3 hcz12_4 hcz12_5); (refine cz6 BK195 ?_; intro hfz12_0 hfz12_1 hfz12_2 hfz12_3 hfz12_4 hfz12_5)))
      go_loopg [8] k1 (fun kq v8 w' => ∃ (x8_2 : Int), v8 = .int .i64 x8_2 ∧ Aside0 (qR.l1 kq x5_1 x8_2 t188 (t188.length : Int) x17_1 ((qC t188 x17_1).f0) ((qC t188 x17_1).f1) ((qC t188 x17_1).f2) ((qC t188 x17_1).f3) ((qC t188 x17_1).f4) ((qC t188 x17_1).f5) = some r) ∧ Aside0 (kq ≤ k1) ∧ Aside0 (Kd.R k39 39 w' w.heap.size (fun k_ => some k_ ≠ ((.slice (some ad194) t188.length co6) : Value).ownBlock ∧ k_ ≠ gb187 ∧ k_ ≠ gb195) u5 x5_1) ∧ Aside0 (Kd.R k39 39 w' w.heap.size (fun k_ => some k_ ≠ (u5 : Value).ownBlock ∧ k_ ≠ gb187 ∧ k_ ≠ gb195) (.slice (some ad194) t188.length co6) t188) ∧ Aside0 (w'.heap[gb187]? = some (.cells #[.int .i64 a0_0, .int .i64 a0_1, .int .i64 a0_2, .int .i64 a0_3, .int .i64 a0_4, .int .i64 a0_5] 39 (0, 0))) ∧ Aside0 (w'.heap[gb195]? = some (.cells #[.int .i64 ((qC t188 x17_1).f0), .int .i64 ((qC t188 x17_1).f1), .int .i64 ((qC t188 x17_1).f2), .int .i64 ((qC t188 x17_1).f3), .int .i64 ((qC t188 x17_1).f4), .int .i64 ((qC t188 x17_1).f5)] 39 (0, 0))) ∧ Aside0 (Below w.heap.size w w'))
      case atStart => exact ⟨(0), sD, H', ⟨Nat.le_refl _⟩, ⟨by (with_reducible repeat (first | apply Kd.qO | apply Kd.qQ | apply Kd.qS)); exact Kd.qZ (Kd.R_far (p := ⟨gb195, 5, none⟩) (Kd.R_far (p := ⟨gb195, 4, none⟩) (Kd.R_far (p := ⟨gb195, 3, none⟩) (Kd.R_far (p := ⟨gb195, 2, none⟩) (Kd.R_far (p := ⟨gb195, 1, none⟩) (Kd.R_far (p := ⟨gb195, 0, none⟩) (Kd.qZ HO_5.out (fun k_ hk => (⟨hk, hk.2⟩ : _ ∧ k_ ≠ gb195))) (fun _ hk => hk.2) (.int .i64 ((qC t188 x17_1).f0))) (fun _ hk => hk.2) (.int .i64 ((qC t188 x17_1).f1))) (fun _ hk => hk.2) (.int .i64 ((qC t188 x17_1).f2))) (fun _ hk => hk.2) (.int .i64 ((qC t188 x17_1).f3))) (fun _ hk => hk.2) (.int .i64 ((qC t188 x17_1).f4))) (fun _ hk => hk.2) (.int .i64 ((qC t188 x17_1).f5))) (fun _ hk => ⟨hk.1.1.1, ⟨hk.1.1.2, hk.1.2⟩⟩)⟩, ⟨by (with_reducible repeat (first | apply Kd.qO | apply Kd.qQ | apply Kd.qS)); exact Kd.qZ (Kd.R_far (p := ⟨gb195, 5, none⟩) (Kd.R_far (p := ⟨gb195, 4, none⟩) (Kd.R_far (p := ⟨gb195, 3, none⟩) (Kd.R_far (p := ⟨gb195, 2, none⟩) (Kd.R_far (p := ⟨gb195, 1, none⟩) (Kd.R_far (p := ⟨gb195, 0, none⟩) (Kd.qZ HO_13.out (fun k_ hk => (⟨hk, hk.2⟩ : _ ∧ k_ ≠ gb195))) (fun _ hk => hk.2) (.int .i64 ((qC t188 x17_1).f0))) (fun _ hk => hk.2) (.int .i64 ((qC t188 x17_1).f1))) (fun _ hk => hk.2) (.int .i64 ((qC t188 x17_1).f2))) (fun _ hk => hk.2) (.int .i64 ((qC t188 x17_1).f3))) (fun _ hk => hk.2) (.int .i64 ((qC t188 x17_1).f4))) (fun _ hk => hk.2) (.int .i64 ((qC t188 x17_1).f5))) (fun _ hk => ⟨hk.1.1.1, ⟨hk.1.1.2, hk.1.2⟩⟩)⟩, ⟨bF BK187 NB187_195⟩, ⟨by (with_reducible repeat (first | refine qG ?_ _ | refine qE ?_ | refine qF ?_ _)); exact bP6 BK195⟩, ⟨bl⟩⟩
      case round =>
       clear H'; (try clear c1); (try clear p1); (try clear q1); (try clear hx1); (try clear c2); (try clear p2); (try clear c4); (try clear c7); (try clear c7b0); (try clear c8); (try clear c8b0); (try clear c9); (try clear c9b0); (try clear c11); (try clear hcz12_0); (try clear hcz12_1); (try clear hcz12_2); (try clear hcz12_3); (try clear hcz12_4); (try clear hcz12_5); (try clear hcz4_0); (try clear hcz4_1); (try clear hcz4_2); (try clear hcz4_3); (try clear hcz4_4); (try clear hcz4_5); (try clear hfz12_0); (try clear hfz12_1); (try clear hfz12_2); (try clear hfz12_3); (try clear hfz12_4); (try clear hfz12_5); (try clear hfz4_0); (try clear hfz4_1); (try clear hfz4_2); (try clear hfz4_3); (try clear hfz4_4); (try clear hfz4_5); (try clear hx194_0); (try clear hx194_1); (try clear hx194_2); (try clear hx194_3); (try clear hx194_4); (try clear hx194_5); (try clear p194); (try clear p2); (try clear q194)
       obtain ⟨x8_2, rfl, HA, HK2, HO_5, HO_13, BK187, BK195, HB⟩ := hrel
       cases gk with
       | zero => exact absurd HA.out (by simp [qR.l1])
       | succ k2 =>
        have H := HA.out
        clear HA
        simp only [qR.l1] at H
        by_cases c13 : x8_2 < (x5_1.length : Int)
        ·rw [if_pos c13] at H
         have c13b0 := decide_eq_true c13
         clear c13
         by_cases c14 : 0 ≤ x8_2
         ·rw [if_pos c14] at H
          have c14b0 := decide_eq_true c14
          clear c14
          replace H := bO H
          obtain ⟨t197, A15, H⟩ := H
          by_cases c16 : t197 = true
          ·subst c16
           replace H := iT H
           have H' := aM H
           clear H
           try go_wp2
           replace HO_5 := aM (Kd.qS HO_5.out)
           replace HO_13 := aM (Kd.qS HO_13.out)
           replace BK187 := aM (qE BK187.out)
           replace BK195 := aM (qE BK195.out)
           replace HB := aM (qu HB.out)
           obtain ⟨Ao18, co18, eo18⟩ := Kd.qBA HO_5.out
           (first | subst eo18 | (injection eo18 with f1_ f2_ f3_; have f4_ := f1_.symm; have f5_ := f3_.symm; clear f1_ f2_ f3_; subst f4_; subst f5_))
           have p196 : 0 ≤ (x8_2 : Int) := of_decide_eq_true am
           have q196 : x8_2 < (x5_1.length : Int) := of_decide_eq_true am
           obtain ⟨ad196, e196, hx196_0, hx196_1, hx196_2, hx196_3, hx196_4, hx196_5⟩ := qdD (Kd.qP HO_5.out).2.2 x8_2 p196 q196
           cases e196
           replace p196 := eq_true p196
           replace q196 := eq_true q196
           refine qCB (n := 12) (S := fun w' => w'.cell? ⟨gb195, 0, none⟩ = some (.int .i64 ((qC t188 x17_1).f0)) ∧ w'.cell? ⟨gb195, 1, none⟩ = some (.int .i64 ((qC t188 x17_1).f1)) ∧ w'.cell? ⟨gb195, 2, none⟩ = some (.int .i64 ((qC t188 x17_1).f2)) ∧ w'.cell? ⟨gb195, 3, none⟩ = some (.int .i64 ((qC t188 x17_1).f3)) ∧ w'.cell? ⟨gb195, 4, none⟩ = some (.int .i64 ((qC t188 x17_1).f4)) ∧ w'.cell? ⟨gb195, 5, none⟩ = some (.int .i64 ((qC t188 x17_1).f5)) ∧ w'.cell? (ad196.add ((x8_2).toNat * 6)) = some (.int .i64 ((qC x5_1 x8_2).f0)) ∧ w'.cell? ⟨(ad196.add ((x8_2).toNat * 6)).block, (ad196.add ((x8_2).toNat * 6)).off + 1, none⟩ = some (.int .i64 ((qC x5_1 x8_2).f1)) ∧ w'.cell? ⟨(ad196.add ((x8_2).toNat * 6)).block, (ad196.add ((x8_2).toNat * 6)).off + 2, none⟩ = some (.int .i64 ((qC x5_1 x8_2).f2)) ∧ w'.cell? ⟨(ad196.add ((x8_2).toNat * 6)).block, (ad196.add ((x8_2).toNat * 6)).off + 3, none⟩ = some (.int .i64 ((qC x5_1 x8_2).f3)) ∧ w'.cell? ⟨(ad196.add ((x8_2).toNat * 6)).block, (ad196.add ((x8_2).toNat * 6)).off + 4, none⟩ = some (.int .i64 ((qC x5_1 x8_2).f4)) ∧ w'.cell? ⟨(ad196.add ((x8_2).toNat * 6)).block, (ad196.add ((x8_2).toNat * 6)).off + 5, none⟩ = some (.int .i64 ((qC x5_1 x8_2).f5))) (ds := []) #[false, false, false, false, false, false, false, false, false, false, false, false] (by kernel_rfl) rfl rfl ⟨bc BK195 0, bc BK195 1, bc BK195 2, bc BK195 3, bc BK195 4, bc BK195 5, hx196_0, hx196_1, hx196_2, hx196_3, hx196_4, hx196_5⟩ (fun hHeld => ?_); refine qKA qR.tab7 qR.bits7 (fun HT_ HW_ => ?_)
           generalize wr.drew = w17 at HO_5 HO_13 BK187 BK195 HB hx196_0 hx196_1 hx196_2 hx196_3 hx196_4 hx196_5 hHeld ⊢
           refine pS (i := 0) (N := some 21) #[true, false, false, false, false, false, false, false, false, false, false, false] HT_ ?_
           refine pS (i := 1) (N := some 22) #[true, true, false, false, false, false, false, false, false, false, false, false] HT_ ?_
           refine pS (i := 2) (N := some 23) #[true, true, true, false, false, false, false, false, false, false, false, false] HT_ ?_
           refine pS (i := 3) (N := some 24) #[true, true, true, true, false, false, false, false, false, false, false, false] HT_ ?_
           refine pS (i := 4) (N := some 25) #[true, true, true, true, true, false, false, false, false, false, false, false] HT_ ?_
           refine pS (i := 5) (N := some 26) #[true, true, true, true, true, true, false, false, false, false, false, false] HT_ ?_
           refine pS (i := 6) (N := some 27) #[true, true, true, true, true, true, true, false, false, false, false, false] HT_ ?_
           refine pS (i := 7) (N := some 28) #[true, true, true, true, true, true, true, true, false, false, false, false] HT_ ?_
           refine tS (i := 8) (N := some 29) #[true, true, true, true, true, true, true, true, true, false, false, false] HT_ HW_ hHeld ?_
           refine tS (i := 9) (N := some 30) #[true, true, true, true, true, true, true, true, true, true, false, false] HT_ HW_ hHeld ?_
           refine one_ (i := 10) (N := some 31) #[true, true, true, true, true, true, true, true, true, true, true, false] rfl rfl (qUA HT_.out (by kernel_rfl)) (by decide) (fun K hK => ?_)
           refine goes_ Tryd.func46 (by kernel_rfl) rfl #[.agg #[.int .i64 ((qC x5_1 x8_2).f0), .int .i64 ((qC x5_1 x8_2).f1), .int .i64 ((qC x5_1 x8_2).f2), .int .i64 ((qC x5_1 x8_2).f3), .int .i64 ((qC x5_1 x8_2).f4), .int .i64 ((qC x5_1 x8_2).f5)], .agg #[.int .i64 ((qC t188 x17_1).f0), .int .i64 ((qC t188 x17_1).f1), .int .i64 ((qC t188 x17_1).f2), .int .i64 ((qC t188 x17_1).f3), .int .i64 ((qC t188 x17_1).f4), .int .i64 ((qC t188 x17_1).f5)]] (by rfl) rfl rfl gA ?_
           with_reducible refine (qf.calls k2 ((qC x5_1 x8_2).f0) ((qC x5_1 x8_2).f1) ((qC x5_1 x8_2).f2) ((qC x5_1 x8_2).f3) ((qC x5_1 x8_2).f4) ((qC x5_1 x8_2).f5) ((qC t188 x17_1).f0) ((qC t188 x17_1).f1) ((qC t188 x17_1).f2) ((qC t188 x17_1).f3) ((qC t188 x17_1).f4) ((qC t188 x17_1).f5) true _ A15.out).mono ?_
           rintro e w19 ⟨rfl, hb⟩
           have HS6_ := (hb.cell (World.block_lt_of_cell? _ _ (hHeld.2.2.2.2.2.2.1))).trans (hHeld.2.2.2.2.2.2.1)
           have HS7_ := (hb.cell (World.block_lt_of_cell? _ _ (hHeld.2.2.2.2.2.2.2.1))).trans (hHeld.2.2.2.2.2.2.2.1)
           have HS8_ := (hb.cell (World.block_lt_of_cell? _ _ (hHeld.2.2.2.2.2.2.2.2.1))).trans (hHeld.2.2.2.2.2.2.2.2.1)
           have HS9_ := (hb.cell (World.block_lt_of_cell? _ _ (hHeld.2.2.2.2.2.2.2.2.2.1))).trans (hHeld.2.2.2.2.2.2.2.2.2.1)
           have HS10_ := (hb.cell (World.block_lt_of_cell? _ _ (hHeld.2.2.2.2.2.2.2.2.2.2.1))).trans (hHeld.2.2.2.2.2.2.2.2.2.2.1)
           have HS11_ := (hb.cell (World.block_lt_of_cell? _ _ (hHeld.2.2.2.2.2.2.2.2.2.2.2))).trans (hHeld.2.2.2.2.2.2.2.2.2.2.2)
           refine ⟨_, rfl, ?_⟩
           replace HO_5 := aM (Kd.qd (rR HO_5) hb)
           replace HO_13 := aM (Kd.qd (rR HO_13) hb)
           replace BK187 := aM (bb BK187 hb)
           replace BK195 := aM (bb BK195 hb)
           replace HB := aM (qB bl hb); (try clear hb); (try clear hb2); (try clear hk); (try clear hi)
           refine hK.out _ _ ⟨bc BK195 0, bc BK195 1, bc BK195 2, bc BK195 3, bc BK195 4, bc BK195 5, HS6_, HS7_, HS8_, HS9_, HS10_, HS11_⟩ (fun hHeld => ?_)
           clear hK K
           refine norm_ (a' := ?_) ?_ ?_
           rotate_left
           ·show Act.put _ (some 31) _ = _
            simp only [Act.put, List.setIfInBounds_toArray, List.set_cons_zero, List.set_cons_succ, i64_w, i32_w]
            rfl
           refine pS (i := 11) (N := some 32) #[true, true, true, true, true, true, true, true, true, true, true, true] HT_ ?_
           refine done_ (qrA HT_.out (by kernel_rfl)) ?_
           try go_wp2
           go_roundg k2
           case measure => have := HK1.out; have := HK2.out; omega
           case rel => exact ⟨(wrap64 (x8_2 + 1)), sD, H', ⟨by have := HK1.out; have := HK2.out; omega⟩, ⟨rR HO_5⟩, ⟨rR HO_13⟩, ⟨rB BK187⟩, ⟨rB BK195⟩, ⟨bl⟩⟩
          ·replace c16 := Bool.eq_false_iff.mpr c16
           subst c16
           replace H := iF H
           replace H := bS H
           obtain ⟨y198, Ny198, H⟩ := H
           have c20b0 := eq_true (of_decide_eq_true am : 0 ≤ x8_2)
           by_cases c21 : x8_2 ≤ (x5_1.length : Int)
           ·rw [if_pos c21] at H
            have c21b0 := eq_true c21
            have c21b1 := decide_eq_true c21
            clear c21
            replace H := bS H
            obtain ⟨y201, Ny201, H⟩ := H
            by_cases c22 : y198.length + y201.length < 2932031007402
            ·rw [if_pos c22] at H
             have LMc22 := aM c22
             clear c22
             replace H := bS H
             obtain ⟨y205, Ny205, H⟩ := H
             replace H := bS H
             obtain ⟨y208, Ny208, H⟩ := H
             by_cases c23 : y205.length + y208.length < 2932031007402
             ·rw [if_pos c23] at H
              have LMc23 := aM c23
              clear c23
              replace H := bS H
              obtain ⟨y211, Ny211, H⟩ := H
              have c24b0 := eq_true (of_decide_eq_true am : 0 ≤ x8_2)
              have c25b0 := eq_true (of_decide_eq_true am : x8_2 ≤ (x5_1.length : Int))
              replace H := bS H
              obtain ⟨y214, Ny214, H⟩ := H
              by_cases c26 : y211.length + y214.length < 2932031007402
              ·rw [if_pos c26] at H
               have LMc26 := aM c26
               clear c26
               obtain ⟨y218, hy218⟩ : ∃ y_ : List (S39), y_ = (y211 ++ y214) := ⟨_, rfl⟩
               replace H : (qR.l0 k2 y218 t188 (t188.length : Int) (wrap64 (x17_1 + 1))) = some r := by first | (rw [hy218]; with_reducible exact H) | (have H2_ := (Option.bind_some _ _).symm.trans H; rw [hy218]; with_reducible exact H2_) | (have H2_ := (Option.bind_some _ _).symm.trans H; with_reducible exact H2_) | with_reducible exact H | (rw [hy218]; exact H) | exact H
               have Ny218 := aM hy218
               clear hy218
               have H' := aM H
               clear H
               try go_wp2
               replace HO_5 := aM (Kd.qS HO_5.out)
               replace HO_13 := aM (Kd.qS HO_13.out)
               replace BK187 := aM (qE BK187.out)
               replace BK195 := aM (qE BK195.out)
               replace HB := aM (qu HB.out)
               obtain ⟨Ao28, co28, eo28⟩ := Kd.qBA HO_5.out
               (first | subst eo28 | (injection eo28 with f1_ f2_ f3_; have f4_ := f1_.symm; have f5_ := f3_.symm; clear f1_ f2_ f3_; subst f4_; subst f5_))
               have p196 : 0 ≤ (x8_2 : Int) := of_decide_eq_true am
               have q196 : x8_2 < (x5_1.length : Int) := of_decide_eq_true am
               obtain ⟨ad196, e196, hx196_0, hx196_1, hx196_2, hx196_3, hx196_4, hx196_5⟩ := qdD (Kd.qP HO_5.out).2.2 x8_2 p196 q196
               cases e196
               replace p196 := eq_true p196
               replace q196 := eq_true q196
               refine qCB (n := 12) (S := fun w' => w'.cell? ⟨gb195, 0, none⟩ = some (.int .i64 ((qC t188 x17_1).f0)) ∧ w'.cell? ⟨gb195, 1, none⟩ = some (.int .i64 ((qC t188 x17_1).f1)) ∧ w'.cell? ⟨gb195, 2, none⟩ = some (.int .i64 ((qC t188 x17_1).f2)) ∧ w'.cell? ⟨gb195, 3, none⟩ = some (.int .i64 ((qC t188 x17_1).f3)) ∧ w'.cell? ⟨gb195, 4, none⟩ = some (.int .i64 ((qC t188 x17_1).f4)) ∧ w'.cell? ⟨gb195, 5, none⟩ = some (.int .i64 ((qC t188 x17_1).f5)) ∧ w'.cell? (ad196.add ((x8_2).toNat * 6)) = some (.int .i64 ((qC x5_1 x8_2).f0)) ∧ w'.cell? ⟨(ad196.add ((x8_2).toNat * 6)).block, (ad196.add ((x8_2).toNat * 6)).off + 1, none⟩ = some (.int .i64 ((qC x5_1 x8_2).f1)) ∧ w'.cell? ⟨(ad196.add ((x8_2).toNat * 6)).block, (ad196.add ((x8_2).toNat * 6)).off + 2, none⟩ = some (.int .i64 ((qC x5_1 x8_2).f2)) ∧ w'.cell? ⟨(ad196.add ((x8_2).toNat * 6)).block, (ad196.add ((x8_2).toNat * 6)).off + 3, none⟩ = some (.int .i64 ((qC x5_1 x8_2).f3)) ∧ w'.cell? ⟨(ad196.add ((x8_2).toNat * 6)).block, (ad196.add ((x8_2).toNat * 6)).off + 4, none⟩ = some (.int .i64 ((qC x5_1 x8_2).f4)) ∧ w'.cell? ⟨(ad196.add ((x8_2).toNat * 6)).block, (ad196.add ((x8_2).toNat * 6)).off + 5, none⟩ = some (.int .i64 ((qC x5_1 x8_2).f5))) (ds := []) #[false, false, false, false, false, false, false, false, false, false, false, false] (by kernel_rfl) rfl rfl ⟨bc BK195 0, bc BK195 1, bc BK195 2, bc BK195 3, bc BK195 4, bc BK195 5, hx196_0, hx196_1, hx196_2, hx196_3, hx196_4, hx196_5⟩ (fun hHeld => ?_); refine qKA qR.tab7 qR.bits7 (fun HT_ HW_ => ?_)
               generalize wr.drew = w27 at HO_5 HO_13 BK187 BK195 HB hx196_0 hx196_1 hx196_2 hx196_3 hx196_4 hx196_5 hHeld ⊢
               refine pS (i := 0) (N := some 21) #[true, false, false, false, false, false, false, false, false, false, false, false] HT_ ?_
               refine pS (i := 1) (N := some 22) #[true, true, false, false, false, false, false, false, false, false, false, false] HT_ ?_
               refine pS (i := 2) (N := some 23) #[true, true, true, false, false, false, false, false, false, false, false, false] HT_ ?_
               refine pS (i := 3) (N := some 24) #[true, true, true, true, false, false, false, false, false, false, false, false] HT_ ?_
               refine pS (i := 4) (N := some 25) #[true, true, true, true, true, false, false, false, false, false, false, false] HT_ ?_
               refine pS (i := 5) (N := some 26) #[true, true, true, true, true, true, false, false, false, false, false, false] HT_ ?_
               refine pS (i := 6) (N := some 27) #[true, true, true, true, true, true, true, false, false, false, false, false] HT_ ?_
               refine pS (i := 7) (N := some 28) #[true, true, true, true, true, true, true, true, false, false, false, false] HT_ ?_
               refine tS (i := 8) (N := some 29) #[true, true, true, true, true, true, true, true, true, false, false, false] HT_ HW_ hHeld ?_
               refine tS (i := 9) (N := some 30) #[true, true, true, true, true, true, true, true, true, true, false, false] HT_ HW_ hHeld ?_
               refine one_ (i := 10) (N := some 31) #[true, true, true, true, true, true, true, true, true, true, true, false] rfl rfl (qUA HT_.out (by kernel_rfl)) (by decide) (fun K hK => ?_)
               refine goes_ Tryd.func46 (by kernel_rfl) rfl #[.agg #[.int .i64 ((qC x5_1 x8_2).f0), .int .i64 ((qC x5_1 x8_2).f1), .int .i64 ((qC x5_1 x8_2).f2), .int .i64 ((qC x5_1 x8_2).f3), .int .i64 ((qC x5_1 x8_2).f4), .int .i64 ((qC x5_1 x8_2).f5)], .agg #[.int .i64 ((qC t188 x17_1).f0), .int .i64 ((qC t188 x17_1).f1), .int .i64 ((qC t188 x17_1).f2), .int .i64 ((qC t188 x17_1).f3), .int .i64 ((qC t188 x17_1).f4), .int .i64 ((qC t188 x17_1).f5)]] (by rfl) rfl rfl gA ?_
               with_reducible refine (qf.calls k2 ((qC x5_1 x8_2).f0) ((qC x5_1 x8_2).f1) ((qC x5_1 x8_2).f2) ((qC x5_1 x8_2).f3) ((qC x5_1 x8_2).f4) ((qC x5_1 x8_2).f5) ((qC t188 x17_1).f0) ((qC t188 x17_1).f1) ((qC t188 x17_1).f2) ((qC t188 x17_1).f3) ((qC t188 x17_1).f4) ((qC t188 x17_1).f5) false _ A15.out).mono ?_
               rintro e w29 ⟨rfl, hb⟩
               have HS6_ := (hb.cell (World.block_lt_of_cell? _ _ (hHeld.2.2.2.2.2.2.1))).trans (hHeld.2.2.2.2.2.2.1)
               have HS7_ := (hb.cell (World.block_lt_of_cell? _ _ (hHeld.2.2.2.2.2.2.2.1))).trans (hHeld.2.2.2.2.2.2.2.1)
               have HS8_ := (hb.cell (World.block_lt_of_cell? _ _ (hHeld.2.2.2.2.2.2.2.2.1))).trans (hHeld.2.2.2.2.2.2.2.2.1)
               have HS9_ := (hb.cell (World.block_lt_of_cell? _ _ (hHeld.2.2.2.2.2.2.2.2.2.1))).trans (hHeld.2.2.2.2.2.2.2.2.2.1)
               have HS10_ := (hb.cell (World.block_lt_of_cell? _ _ (hHeld.2.2.2.2.2.2.2.2.2.2.1))).trans (hHeld.2.2.2.2.2.2.2.2.2.2.1)
               have HS11_ := (hb.cell (World.block_lt_of_cell? _ _ (hHeld.2.2.2.2.2.2.2.2.2.2.2))).trans (hHeld.2.2.2.2.2.2.2.2.2.2.2)
               refine ⟨_, rfl, ?_⟩
               replace HO_5 := aM (Kd.qd (rR HO_5) hb)
               replace HO_13 := aM (Kd.qd (rR HO_13) hb)
               replace BK187 := aM (bb BK187 hb)
               replace BK195 := aM (bb BK195 hb)
               replace HB := aM (qB bl hb); (try clear hb); (try clear hb2); (try clear hk); (try clear hi)
               refine hK.out _ _ ⟨bc BK195 0, bc BK195 1, bc BK195 2, bc BK195 3, bc BK195 4, bc BK195 5, HS6_, HS7_, HS8_, HS9_, HS10_, HS11_⟩ (fun hHeld => ?_)
               clear hK K
               refine norm_ (a' := ?_) ?_ ?_
               rotate_left
               ·show Act.put _ (some 31) _ = _
                simp only [Act.put, List.setIfInBounds_toArray, List.set_cons_zero, List.set_cons_succ, i64_w, i32_w]
                rfl
               refine pS (i := 11) (N := some 32) #[true, true, true, true, true, true, true, true, true, true, true, true] HT_ ?_
               refine done_ (qrA HT_.out (by kernel_rfl)) ?_
               try go_wp2
               replace HO_5 := aM (Kd.qS HO_5.out)
               replace HO_13 := aM (Kd.qS HO_13.out)
               replace BK187 := aM (qE BK187.out)
               replace BK195 := aM (qE BK195.out)
               replace HB := aM (qu HB.out)
               have q31 : (x8_2 : Int) ≤ ((x5_1.length : Int) : Int) := of_decide_eq_true am
               obtain ⟨i031, hi031, _, hsz31, _⟩ := info_parts info39
               have hroom31 : x5_1.length ≤ co28 := (Kd.qP HO_5.out).2.1
               have hC31 : Kd.C k39 _ (some ad196) x5_1.length x5_1 := (Kd.qP HO_5.out).2.2
               have hcut31 := qiD (P := Tryd.prog) 79 39 .i64 Tryd.underlying79 hi031 (some ad196) x5_1.length co28 x8_2 (of_decide_eq_true am) q31 hroom31
               have hr31 := Kd.qUC (m := (x8_2 : Int).toNat) hC31 (by omega)
               have hy31 : y201.length = (x8_2 : Int).toNat := (by rw [Ny201.out, List.length_take]; omega)
               rw [← Ny201.out] at hr31
               rw [← hy31] at hcut31
               have HR204 := aM hr31
               have HC204 := aM (show y201.length ≤ co28 from by omega)
               clear hr31 hC31 hroom31 hi031 hsz31
               have KY31 := aM hy31
               clear hy31
               have KL31 := aM (show (x8_2 : Int).toNat ≤ x5_1.length from by omega)
               replace q31 := eq_true q31
               refine qCB (n := 9) (S := fun w' => w'.cell? ⟨gb195, 0, none⟩ = some (.int .i64 ((qC t188 x17_1).f0)) ∧ w'.cell? ⟨gb195, 1, none⟩ = some (.int .i64 ((qC t188 x17_1).f1)) ∧ w'.cell? ⟨gb195, 2, none⟩ = some (.int .i64 ((qC t188 x17_1).f2)) ∧ w'.cell? ⟨gb195, 3, none⟩ = some (.int .i64 ((qC t188 x17_1).f3)) ∧ w'.cell? ⟨gb195, 4, none⟩ = some (.int .i64 ((qC t188 x17_1).f4)) ∧ w'.cell? ⟨gb195, 5, none⟩ = some (.int .i64 ((qC t188 x17_1).f5))) (ds := []) #[false, false, false, false, false, false, false, false, false] (by kernel_rfl) rfl rfl ⟨bc BK195 0, bc BK195 1, bc BK195 2, bc BK195 3, bc BK195 4, bc BK195 5⟩ (fun hHeld => ?_); refine qKA qR.tab9 qR.bits9 (fun HT_ HW_ => ?_)
               generalize w29.drew = w30 at HO_5 HO_13 BK187 BK195 HB HR204 hHeld ⊢
               refine pS (i := 1) (N := some 36) #[false, true, false, false, false, false, false, false, false] HT_ ?_
               refine pS (i := 2) (N := some 37) #[false, true, true, false, false, false, false, false, false] HT_ ?_
               refine pS (i := 3) (N := some 38) #[false, true, true, true, false, false, false, false, false] HT_ ?_
               refine tS (i := 5) (N := some 40) #[false, true, true, true, false, true, false, false, false] HT_ HW_ hHeld ?_
               refine join_ (σ := Value × Value × Value) 2 #[true, true, true, true, true, true, true, false, false] (fun s_ => [(35, s_.1), (39, s_.2.1), (41, s_.2.2)]) (fun s_ w' => (w'.cell? ⟨gb195, 0, none⟩ = some (.int .i64 ((qC t188 x17_1).f0)) ∧ w'.cell? ⟨gb195, 1, none⟩ = some (.int .i64 ((qC t188 x17_1).f1)) ∧ w'.cell? ⟨gb195, 2, none⟩ = some (.int .i64 ((qC t188 x17_1).f2)) ∧ w'.cell? ⟨gb195, 3, none⟩ = some (.int .i64 ((qC t188 x17_1).f3)) ∧ w'.cell? ⟨gb195, 4, none⟩ = some (.int .i64 ((qC t188 x17_1).f4)) ∧ w'.cell? ⟨gb195, 5, none⟩ = some (.int .i64 ((qC t188 x17_1).f5))) ∧ (Kd.R k39 39 w' w.heap.size (fun k_ => some k_ ≠ (s_.2.2 : Value).ownBlock ∧ some k_ ≠ (.slice (some ad194) t188.length co6 : Value).ownBlock ∧ some k_ ≠ (.slice (some ad196) x5_1.length co28 : Value).ownBlock ∧ k_ ≠ gb187 ∧ k_ ≠ gb195) s_.2.1 y205) ∧ (Kd.R k39 39 w' w.heap.size (fun k_ => some k_ ≠ (s_.2.1 : Value).ownBlock ∧ some k_ ≠ (.slice (some ad194) t188.length co6 : Value).ownBlock ∧ some k_ ≠ (.slice (some ad196) x5_1.length co28 : Value).ownBlock ∧ k_ ≠ gb187 ∧ k_ ≠ gb195) s_.2.2 y208) ∧ (Kd.R k39 39 w' w.heap.size (fun k_ => some k_ ≠ (s_.2.1 : Value).ownBlock ∧ some k_ ≠ (s_.2.2 : Value).ownBlock ∧ some k_ ≠ (.slice (some ad196) x5_1.length co28 : Value).ownBlock ∧ k_ ≠ gb187 ∧ k_ ≠ gb195) (.slice (some ad194) t188.length co6) t188) ∧ (Kd.R k39 39 w' w.heap.size (fun k_ => some k_ ≠ (s_.2.1 : Value).ownBlock ∧ some k_ ≠ (s_.2.2 : Value).ownBlock ∧ some k_ ≠ (.slice (some ad194) t188.length co6 : Value).ownBlock ∧ k_ ≠ gb187 ∧ k_ ≠ gb195) (.slice (some ad196) x5_1.length co28) x5_1) ∧ (w'.heap[gb187]? = some (.cells #[.int .i64 a0_0, .int .i64 a0_1, .int .i64 a0_2, .int .i64 a0_3, .int .i64 a0_4, .int .i64 a0_5] 39 (0, 0))) ∧ (w'.heap[gb195]? = some (.cells #[.int .i64 ((qC t188 x17_1).f0), .int .i64 ((qC t188 x17_1).f1), .int .i64 ((qC t188 x17_1).f2), .int .i64 ((qC t188 x17_1).f3), .int .i64 ((qC t188 x17_1).f4), .int .i64 ((qC t188 x17_1).f5)] 39 (0, 0))) ∧ (Below w.heap.size w w')) ?_ ?_
               rotate_left
               ·intro hCont
                refine two_ (i := 0) (j := 6) (Ni := some 35) (Nj := some 41) #[true, true, true, true, false, true, false, false, false] #[false, true, true, true, false, true, true, false, false] rfl rfl rfl rfl (qvC HT_.out (by kernel_rfl)) (by decide) (by decide) (fun K hK => ?_) (fun K hK => ?_)
                ·skip
                 refine Kd.qhA k39 _ 39 ?hg (N := 35) ?hd (xs := ([] : List (S39))) (inner := []) (ok := fun _ => True) (okp := fun _ => True) ?hr ?hp (fun _ hk => hk) trivial (Below.refl _ _) (Nat.le_refl _) (by simp) ?_; (case hd => rfl); (case hg => rfl); (case hr => exact gS); (case hp => exact (Reps.none _ _))
                 intro v199 w32 ho33 hb hg_ hnew_
                 clear hg_ hnew_
                 (first | rw [← Ny198.out] at ho33 | (simp only [Int.reduceToNat] at ho33; rw [← Ny198.out] at ho33))
                 have HO200 := aM (Kd.qx (Kd.qNB (Kd.qNB (Kd.qsA (Kd.qsA ho33 (Kd.R_lt (rR HO_5))) (Kd.R_lt (rR HO_13))) (rB BK187)) (rB BK195)) (qL bl))
                 replace HO_5 := aM (Kd.qMA (rR HO_5) (Kd.qfA ho33) hb)
                 replace HO_13 := aM (Kd.qMA (rR HO_13) (Kd.qfA ho33) hb)
                 replace BK187 := aM (bb BK187 hb)
                 replace BK195 := aM (bb BK195 hb)
                 replace HR204 := aM (Kd.qg (by repeat (first | (with_reducible exact HR204.out) | (with_reducible refine Kd.qW ?_ _) | (with_reducible refine Kd.qV ?_ _) | (with_reducible refine Kd.qe ?_) | exact HR204.out)) hb)
                 replace HB := aM (qB bl hb)
                 clear hb ho33
                 refine hK.out _ _ ⟨bc BK195 0, bc BK195 1, bc BK195 2, bc BK195 3, bc BK195 4, bc BK195 5⟩ (fun hHeld => ?_)
                 clear hK K
                 refine norm_ (a' := ?_) ?_ ?_
                 rotate_left
                 ·show Act.put _ (some 35) _ = _
                  simp only [Act.put, List.setIfInBounds_toArray, List.set_cons_zero, List.set_cons_succ, i64_w, i32_w]
                  rfl
                 refine two_ (i := 4) (j := 6) (Ni := some 39) (Nj := some 41) #[true, true, true, true, true, true, false, false, false] #[true, true, true, true, false, true, true, false, false] rfl rfl rfl rfl (qvC HT_.out (by kernel_rfl)) (by decide) (by decide) (fun K hK => ?_) (fun K hK => ?_)
                 ·skip
                  refine Kd.qDA k39 (w0 := w) w.heap.size (by rfl) (.tmp 35) (.tmp 38) 79 39 (.agg #[(.int .i64 0), (.int .i64 0), (.int .i64 0), (.int .i64 0), (.int .i64 0), (.int .i64 0)]) 48 rfl Tryd.underlying79 info39 rfl (by decide) (by omega) v199 y198 y201 _ _ _ (fun k_ => some k_ ≠ (.slice (some ad196) x5_1.length co28 : Value).ownBlock ∧ some k_ ≠ (.slice (some ad194) t188.length co6 : Value).ownBlock ∧ k_ ≠ gb187 ∧ k_ ≠ gb195) (fun _ => False) rfl rfl ?aO ?aR (fun _ _ h => h) (fun _ h => h.elim) ?aF ?aB ?aS ?aL ?_
                  (case aR => repeat (first | exact (by repeat (first | (with_reducible exact HR204.out) | (with_reducible refine Kd.qW ?_ _) | (with_reducible refine Kd.qV ?_ _) | (with_reducible refine Kd.qe ?_) | exact HR204.out)) | (with_reducible refine Kd.qW ?_ _) | (with_reducible refine Kd.qV ?_ _) | (with_reducible refine Kd.qe ?_)))
                  (case aB => exact bl)
                  (case aF => exact (fun k_ hk => ⟨Kd.fresh' (Kd.R_lt (rR HO_5)) k_ hk, Kd.fresh' (Kd.R_lt (rR HO_13)) k_ hk, Kd.freshB (rB BK187) k_ hk, Kd.freshB (rB BK195) k_ hk⟩))
                  (case aO => exact (by (with_reducible repeat (first | apply Kd.qO | apply Kd.qQ | apply Kd.qS)); exact Kd.qZ HO200.out (fun _ hk => ⟨hk.1.1.1.2, ⟨hk.1.1.2, ⟨hk.1.2, hk.2⟩⟩⟩)))
                  (case aS => exact (qL bl))
                  (case aL => have := LMc22.out; omega)
                  intro v206 w34 ho hb hg hat
                  rw [← Ny205.out] at ho
                  have HO207 := aM (ho)
                  replace HO_13 := aM (Kd.qJA (ok := (fun k_ => some k_ ≠ (.slice (some ad196) x5_1.length co28 : Value).ownBlock ∧ k_ ≠ gb187 ∧ k_ ≠ gb195)) (rR HO_13) hg hat)
                  replace BK187 := aM (qi (rB BK187) hg (Kd.qJB HO200.out (fun _ hk => hk.1.2)))
                  replace BK195 := aM (qi (rB BK195) hg (Kd.qJB HO200.out (fun _ hk => hk.2)))
                  replace HB := aM (hb)
                  replace HR204 := aM ((show Kd.C k39 w34 (some ad196) y201.length y201 from by rw [Ny201.out]; exact Kd.qUC (m := (x8_2 : Int).toNat) ((Kd.qP (Kd.qJA (ok := (fun k_ => some k_ ≠ (.slice (some ad194) t188.length co6 : Value).ownBlock ∧ k_ ≠ gb187 ∧ k_ ≠ gb195)) (rR HO_5) hg hat)).2.2) KL31.out))
                  replace HO_5 := aM (Kd.qJA (ok := (fun k_ => some k_ ≠ (.slice (some ad194) t188.length co6 : Value).ownBlock ∧ k_ ≠ gb187 ∧ k_ ≠ gb195)) (rR HO_5) hg hat)
                  clear HO200
                  clear ho hb hg hat
                  refine hK.out _ _ ⟨bc BK195 0, bc BK195 1, bc BK195 2, bc BK195 3, bc BK195 4, bc BK195 5⟩ (fun hHeld => ?_)
                  clear hK K
                  refine norm_ (a' := ?_) ?_ ?_
                  rotate_left
                  ·show Act.put _ (some 39) _ = _
                   simp only [Act.put, List.setIfInBounds_toArray, List.set_cons_zero, List.set_cons_succ, i64_w, i32_w]
                   rfl
                  refine one_ (i := 6) (N := some 41) #[true, true, true, true, true, true, true, false, false] rfl rfl (qUA HT_.out (by kernel_rfl)) (by decide) (fun K hK => ?_)
                  refine Kd.qhA k39 _ 39 ?hg (N := 41) ?hd (xs := ([(⟨((qC t188 x17_1).f0), ((qC t188 x17_1).f1), ((qC t188 x17_1).f2), ((qC t188 x17_1).f3), ((qC t188 x17_1).f4), ((qC t188 x17_1).f5)⟩ : S39)] : List (S39))) (inner := [.int .i64 ((qC t188 x17_1).f0), .int .i64 ((qC t188 x17_1).f1), .int .i64 ((qC t188 x17_1).f2), .int .i64 ((qC t188 x17_1).f3), .int .i64 ((qC t188 x17_1).f4), .int .i64 ((qC t188 x17_1).f5)]) (ok := fun _ => True) (okp := fun _ => True) ?hr ?hp (fun _ hk => hk) trivial (Below.refl _ _) (Nat.le_refl _) (by simp) ?_; (case hd => rfl); (case hg => rfl); (case hr => exact gS); (case hp => exact (Reps.c6 (show Kd.M k39 _ _ _ (⟨((qC t188 x17_1).f0), ((qC t188 x17_1).f1), ((qC t188 x17_1).f2), ((qC t188 x17_1).f3), ((qC t188 x17_1).f4), ((qC t188 x17_1).f5)⟩ : S39) [.int .i64 ((qC t188 x17_1).f0), .int .i64 ((qC t188 x17_1).f1), .int .i64 ((qC t188 x17_1).f2), .int .i64 ((qC t188 x17_1).f3), .int .i64 ((qC t188 x17_1).f4), .int .i64 ((qC t188 x17_1).f5)] from (qSC _ _ _ (⟨((qC t188 x17_1).f0), ((qC t188 x17_1).f1), ((qC t188 x17_1).f2), ((qC t188 x17_1).f3), ((qC t188 x17_1).f4), ((qC t188 x17_1).f5)⟩ : S39) )) (Reps.none _ _)))
                  intro v209 w35 ho36 hb hg_ hnew_
                  clear hg_ hnew_
                  (first | rw [← Ny208.out] at ho36 | (simp only [Int.reduceToNat] at ho36; rw [← Ny208.out] at ho36))
                  have HO210 := aM (Kd.qx (Kd.qNB (Kd.qNB (Kd.qsA (Kd.qsA (Kd.qsA ho36 (Kd.R_lt (rR HO_5))) (Kd.R_lt (rR HO_13))) (Kd.R_lt (rR HO207))) (rB BK187)) (rB BK195)) (qL bl))
                  replace HO_5 := aM (Kd.qMA (rR HO_5) (Kd.qfA ho36) hb)
                  replace HO_13 := aM (Kd.qMA (rR HO_13) (Kd.qfA ho36) hb)
                  replace HO207 := aM (Kd.qMA (rR HO207) (Kd.qfA ho36) hb)
                  replace BK187 := aM (bb BK187 hb)
                  replace BK195 := aM (bb BK195 hb)
                  replace HR204 := aM (Kd.qg (by repeat (first | (with_reducible exact HR204.out) | (with_reducible refine Kd.qW ?_ _) | (with_reducible refine Kd.qV ?_ _) | (with_reducible refine Kd.qe ?_) | exact HR204.out)) hb)
                  replace HB := aM (qB bl hb)
                  clear hb ho36
                  refine hK.out _ _ ⟨bc BK195 0, bc BK195 1, bc BK195 2, bc BK195 3, bc BK195 4, bc BK195 5⟩ (fun hHeld => ?_)
                  clear hK K
                  refine norm_ (a' := ?_) ?_ ?_
                  rotate_left
                  ·show Act.put _ (some 41) _ = _
                   simp only [Act.put, List.setIfInBounds_toArray, List.set_cons_zero, List.set_cons_succ, i64_w, i32_w]
                   rfl
                  exact norm_ (by simp only [putAll, Act.put, List.setIfInBounds_toArray, List.set_cons_zero, List.set_cons_succ]) (hCont (v199, v206, v209) _ ⟨hHeld, (by (with_reducible repeat (first | apply Kd.qO | apply Kd.qQ | apply Kd.qS)); exact Kd.qZ HO207.out (fun _ hk => ⟨hk.2, ⟨hk.1.2.1, ⟨hk.1.1, ⟨hk.1.2.2.1, hk.1.2.2.2⟩⟩⟩⟩)), (by (with_reducible repeat (first | apply Kd.qO | apply Kd.qQ | apply Kd.qS)); exact Kd.qZ HO210.out (fun _ hk => ⟨hk.1.1.2, ⟨hk.1.1.1.2, ⟨hk.1.1.1.1.2, ⟨hk.1.2, hk.2⟩⟩⟩⟩)), (by (with_reducible repeat (first | apply Kd.qO | apply Kd.qQ | apply Kd.qS)); exact Kd.qZ HO_13.out (fun _ hk => ⟨hk.1.2, ⟨hk.2, ⟨hk.1.1.1, ⟨hk.1.1.2.1, hk.1.1.2.2⟩⟩⟩⟩)), (by (with_reducible repeat (first | apply Kd.qO | apply Kd.qQ | apply Kd.qS)); exact Kd.qZ HO_5.out (fun _ hk => ⟨hk.1.2, ⟨hk.2, ⟨hk.1.1.1, ⟨hk.1.1.2.1, hk.1.1.2.2⟩⟩⟩⟩)), (rB BK187), (rB BK195), bl⟩)
                 ·skip
                  refine Kd.qhA k39 _ 39 ?hg (N := 41) ?hd (xs := ([(⟨((qC t188 x17_1).f0), ((qC t188 x17_1).f1), ((qC t188 x17_1).f2), ((qC t188 x17_1).f3), ((qC t188 x17_1).f4), ((qC t188 x17_1).f5)⟩ : S39)] : List (S39))) (inner := [.int .i64 ((qC t188 x17_1).f0), .int .i64 ((qC t188 x17_1).f1), .int .i64 ((qC t188 x17_1).f2), .int .i64 ((qC t188 x17_1).f3), .int .i64 ((qC t188 x17_1).f4), .int .i64 ((qC t188 x17_1).f5)]) (ok := fun _ => True) (okp := fun _ => True) ?hr ?hp (fun _ hk => hk) trivial (Below.refl _ _) (Nat.le_refl _) (by simp) ?_; (case hd => rfl); (case hg => rfl); (case hr => exact gS); (case hp => exact (Reps.c6 (show Kd.M k39 _ _ _ (⟨((qC t188 x17_1).f0), ((qC t188 x17_1).f1), ((qC t188 x17_1).f2), ((qC t188 x17_1).f3), ((qC t188 x17_1).f4), ((qC t188 x17_1).f5)⟩ : S39) [.int .i64 ((qC t188 x17_1).f0), .int .i64 ((qC t188 x17_1).f1), .int .i64 ((qC t188 x17_1).f2), .int .i64 ((qC t188 x17_1).f3), .int .i64 ((qC t188 x17_1).f4), .int .i64 ((qC t188 x17_1).f5)] from (qSC _ _ _ (⟨((qC t188 x17_1).f0), ((qC t188 x17_1).f1), ((qC t188 x17_1).f2), ((qC t188 x17_1).f3), ((qC t188 x17_1).f4), ((qC t188 x17_1).f5)⟩ : S39) )) (Reps.none _ _)))
                  intro v209 w34 ho35 hb hg_ hnew_
                  clear hg_ hnew_
                  (first | rw [← Ny208.out] at ho35 | (simp only [Int.reduceToNat] at ho35; rw [← Ny208.out] at ho35))
                  have HO210 := aM (Kd.qx (Kd.qNB (Kd.qNB (Kd.qsA (Kd.qsA (Kd.qsA ho35 (Kd.R_lt (rR HO_5))) (Kd.R_lt (rR HO_13))) (Kd.R_lt (rR HO200))) (rB BK187)) (rB BK195)) (qL bl))
                  replace HO_5 := aM (Kd.qMA (rR HO_5) (Kd.qfA ho35) hb)
                  replace HO_13 := aM (Kd.qMA (rR HO_13) (Kd.qfA ho35) hb)
                  replace HO200 := aM (Kd.qMA (rR HO200) (Kd.qfA ho35) hb)
                  replace BK187 := aM (bb BK187 hb)
                  replace BK195 := aM (bb BK195 hb)
                  replace HR204 := aM (Kd.qg (by repeat (first | (with_reducible exact HR204.out) | (with_reducible refine Kd.qW ?_ _) | (with_reducible refine Kd.qV ?_ _) | (with_reducible refine Kd.qe ?_) | exact HR204.out)) hb)
                  replace HB := aM (qB bl hb)
                  clear hb ho35
                  refine hK.out _ _ ⟨bc BK195 0, bc BK195 1, bc BK195 2, bc BK195 3, bc BK195 4, bc BK195 5⟩ (fun hHeld => ?_)
                  clear hK K
                  refine norm_ (a' := ?_) ?_ ?_
                  rotate_left
                  ·show Act.put _ (some 41) _ = _
                   simp only [Act.put, List.setIfInBounds_toArray, List.set_cons_zero, List.set_cons_succ, i64_w, i32_w]
                   rfl
                  refine one_ (i := 4) (N := some 39) #[true, true, true, true, true, true, true, false, false] rfl rfl (qUA HT_.out (by kernel_rfl)) (by decide) (fun K hK => ?_)
                  refine Kd.qDA k39 (w0 := w) w.heap.size (by rfl) (.tmp 35) (.tmp 38) 79 39 (.agg #[(.int .i64 0), (.int .i64 0), (.int .i64 0), (.int .i64 0), (.int .i64 0), (.int .i64 0)]) 48 rfl Tryd.underlying79 info39 rfl (by decide) (by omega) v199 y198 y201 _ _ _ (fun k_ => some k_ ≠ (.slice (some ad196) x5_1.length co28 : Value).ownBlock ∧ some k_ ≠ (.slice (some ad194) t188.length co6 : Value).ownBlock ∧ some k_ ≠ (v209 : Value).ownBlock ∧ k_ ≠ gb187 ∧ k_ ≠ gb195) (fun _ => False) rfl rfl ?aO ?aR (fun _ _ h => h) (fun _ h => h.elim) ?aF ?aB ?aS ?aL ?_
                  (case aR => repeat (first | exact (by repeat (first | (with_reducible exact HR204.out) | (with_reducible refine Kd.qW ?_ _) | (with_reducible refine Kd.qV ?_ _) | (with_reducible refine Kd.qe ?_) | exact HR204.out)) | (with_reducible refine Kd.qW ?_ _) | (with_reducible refine Kd.qV ?_ _) | (with_reducible refine Kd.qe ?_)))
                  (case aB => exact bl)
                  (case aF => exact (fun k_ hk => ⟨Kd.fresh' (Kd.R_lt (rR HO_5)) k_ hk, Kd.fresh' (Kd.R_lt (rR HO_13)) k_ hk, Kd.fresh' (Kd.R_lt (rR HO210)) k_ hk, Kd.freshB (rB BK187) k_ hk, Kd.freshB (rB BK195) k_ hk⟩))
                  (case aO => exact (by (with_reducible repeat (first | apply Kd.qO | apply Kd.qQ | apply Kd.qS)); exact Kd.qZ HO200.out (fun _ hk => ⟨hk.1.1.1.1.2, ⟨hk.1.1.1.2, ⟨hk.2, ⟨hk.1.1.2, hk.1.2⟩⟩⟩⟩)))
                  (case aS => exact (qL bl))
                  (case aL => have := LMc22.out; omega)
                  intro v206 w36 ho hb hg hat
                  rw [← Ny205.out] at ho
                  have HO207 := aM (ho)
                  replace HO_13 := aM (Kd.qJA (ok := (fun k_ => some k_ ≠ (.slice (some ad196) x5_1.length co28 : Value).ownBlock ∧ some k_ ≠ (v209 : Value).ownBlock ∧ k_ ≠ gb187 ∧ k_ ≠ gb195)) (by (with_reducible repeat (first | apply Kd.qO | apply Kd.qQ | apply Kd.qS)); exact Kd.qZ HO_13.out (fun _ hk => ⟨⟨hk.1.1.1, ⟨hk.2, ⟨hk.1.1.2.1, hk.1.1.2.2⟩⟩⟩, hk.1.2⟩)) hg hat)
                  replace BK187 := aM (qi (rB BK187) hg (Kd.qJB HO200.out (fun _ hk => hk.1.1.2)))
                  replace BK195 := aM (qi (rB BK195) hg (Kd.qJB HO200.out (fun _ hk => hk.1.2)))
                  replace HO210 := aM (Kd.qJA (ok := (fun k_ => some k_ ≠ (.slice (some ad196) x5_1.length co28 : Value).ownBlock ∧ some k_ ≠ (.slice (some ad194) t188.length co6 : Value).ownBlock ∧ k_ ≠ gb187 ∧ k_ ≠ gb195)) (by (with_reducible repeat (first | apply Kd.qO | apply Kd.qQ | apply Kd.qS)); exact Kd.qZ HO210.out (fun _ hk => ⟨⟨hk.1.1.1.1.2, ⟨hk.1.1.1.2, ⟨hk.1.2, hk.2⟩⟩⟩, hk.1.1.2⟩)) hg hat)
                  replace HB := aM (hb)
                  replace HR204 := aM ((show Kd.C k39 w36 (some ad196) y201.length y201 from by rw [Ny201.out]; exact Kd.qUC (m := (x8_2 : Int).toNat) ((Kd.qP (Kd.qJA (ok := (fun k_ => some k_ ≠ (.slice (some ad194) t188.length co6 : Value).ownBlock ∧ some k_ ≠ (v209 : Value).ownBlock ∧ k_ ≠ gb187 ∧ k_ ≠ gb195)) (by (with_reducible repeat (first | apply Kd.qO | apply Kd.qQ | apply Kd.qS)); exact Kd.qZ HO_5.out (fun _ hk => ⟨⟨hk.1.1.1, ⟨hk.2, ⟨hk.1.1.2.1, hk.1.1.2.2⟩⟩⟩, hk.1.2⟩)) hg hat)).2.2) KL31.out))
                  replace HO_5 := aM (Kd.qJA (ok := (fun k_ => some k_ ≠ (.slice (some ad194) t188.length co6 : Value).ownBlock ∧ some k_ ≠ (v209 : Value).ownBlock ∧ k_ ≠ gb187 ∧ k_ ≠ gb195)) (by (with_reducible repeat (first | apply Kd.qO | apply Kd.qQ | apply Kd.qS)); exact Kd.qZ HO_5.out (fun _ hk => ⟨⟨hk.1.1.1, ⟨hk.2, ⟨hk.1.1.2.1, hk.1.1.2.2⟩⟩⟩, hk.1.2⟩)) hg hat)
                  clear HO200
                  clear ho hb hg hat
                  refine hK.out _ _ ⟨bc BK195 0, bc BK195 1, bc BK195 2, bc BK195 3, bc BK195 4, bc BK195 5⟩ (fun hHeld => ?_)
                  clear hK K
                  refine norm_ (a' := ?_) ?_ ?_
                  rotate_left
                  ·show Act.put _ (some 39) _ = _
                   simp only [Act.put, List.setIfInBounds_toArray, List.set_cons_zero, List.set_cons_succ, i64_w, i32_w]
                   rfl
                  exact norm_ (by simp only [putAll, Act.put, List.setIfInBounds_toArray, List.set_cons_zero, List.set_cons_succ]) (hCont (v199, v206, v209) _ ⟨hHeld, (by (with_reducible repeat (first | apply Kd.qO | apply Kd.qQ | apply Kd.qS)); exact Kd.qZ HO207.out (fun _ hk => ⟨hk.2.2.1, ⟨hk.2.1, ⟨hk.1, ⟨hk.2.2.2.1, hk.2.2.2.2⟩⟩⟩⟩)), (by (with_reducible repeat (first | apply Kd.qO | apply Kd.qQ | apply Kd.qS)); exact Kd.qZ HO210.out (fun _ hk => ⟨hk.2, ⟨hk.1.2.1, ⟨hk.1.1, ⟨hk.1.2.2.1, hk.1.2.2.2⟩⟩⟩⟩)), (by (with_reducible repeat (first | apply Kd.qO | apply Kd.qQ | apply Kd.qS)); exact Kd.qZ HO_13.out (fun _ hk => ⟨hk.2, ⟨hk.1.2.1, ⟨hk.1.1, ⟨hk.1.2.2.1, hk.1.2.2.2⟩⟩⟩⟩)), (by (with_reducible repeat (first | apply Kd.qO | apply Kd.qQ | apply Kd.qS)); exact Kd.qZ HO_5.out (fun _ hk => ⟨hk.2, ⟨hk.1.2.1, ⟨hk.1.1, ⟨hk.1.2.2.1, hk.1.2.2.2⟩⟩⟩⟩)), (rB BK187), (rB BK195), bl⟩)
                ·skip
                 refine Kd.qhA k39 _ 39 ?hg (N := 41) ?hd (xs := ([(⟨((qC t188 x17_1).f0), ((qC t188 x17_1).f1), ((qC t188 x17_1).f2), ((qC t188 x17_1).f3), ((qC t188 x17_1).f4), ((qC t188 x17_1).f5)⟩ : S39)] : List (S39))) (inner := [.int .i64 ((qC t188 x17_1).f0), .int .i64 ((qC t188 x17_1).f1), .int .i64 ((qC t188 x17_1).f2), .int .i64 ((qC t188 x17_1).f3), .int .i64 ((qC t188 x17_1).f4), .int .i64 ((qC t188 x17_1).f5)]) (ok := fun _ => True) (okp := fun _ => True) ?hr ?hp (fun _ hk => hk) trivial (Below.refl _ _) (Nat.le_refl _) (by simp) ?_; (case hd => rfl); (case hg => rfl); (case hr => exact gS); (case hp => exact (Reps.c6 (show Kd.M k39 _ _ _ (⟨((qC t188 x17_1).f0), ((qC t188 x17_1).f1), ((qC t188 x17_1).f2), ((qC t188 x17_1).f3), ((qC t188 x17_1).f4), ((qC t188 x17_1).f5)⟩ : S39) [.int .i64 ((qC t188 x17_1).f0), .int .i64 ((qC t188 x17_1).f1), .int .i64 ((qC t188 x17_1).f2), .int .i64 ((qC t188 x17_1).f3), .int .i64 ((qC t188 x17_1).f4), .int .i64 ((qC t188 x17_1).f5)] from (qSC _ _ _ (⟨((qC t188 x17_1).f0), ((qC t188 x17_1).f1), ((qC t188 x17_1).f2), ((qC t188 x17_1).f3), ((qC t188 x17_1).f4), ((qC t188 x17_1).f5)⟩ : S39) )) (Reps.none _ _)))
                 intro v209 w32 ho33 hb hg_ hnew_
                 clear hg_ hnew_
                 (first | rw [← Ny208.out] at ho33 | (simp only [Int.reduceToNat] at ho33; rw [← Ny208.out] at ho33))
                 have HO210 := aM (Kd.qx (Kd.qNB (Kd.qNB (Kd.qsA (Kd.qsA ho33 (Kd.R_lt (rR HO_5))) (Kd.R_lt (rR HO_13))) (rB BK187)) (rB BK195)) (qL bl))
                 replace HO_5 := aM (Kd.qMA (rR HO_5) (Kd.qfA ho33) hb)
                 replace HO_13 := aM (Kd.qMA (rR HO_13) (Kd.qfA ho33) hb)
                 replace BK187 := aM (bb BK187 hb)
                 replace BK195 := aM (bb BK195 hb)
                 replace HR204 := aM (Kd.qg (by repeat (first | (with_reducible exact HR204.out) | (with_reducible refine Kd.qW ?_ _) | (with_reducible refine Kd.qV ?_ _) | (with_reducible refine Kd.qe ?_) | exact HR204.out)) hb)
                 replace HB := aM (qB bl hb)
                 clear hb ho33
                 refine hK.out _ _ ⟨bc BK195 0, bc BK195 1, bc BK195 2, bc BK195 3, bc BK195 4, bc BK195 5⟩ (fun hHeld => ?_)
                 clear hK K
                 refine norm_ (a' := ?_) ?_ ?_
                 rotate_left
                 ·show Act.put _ (some 41) _ = _
                  simp only [Act.put, List.setIfInBounds_toArray, List.set_cons_zero, List.set_cons_succ, i64_w, i32_w]
                  rfl
                 refine one_ (i := 0) (N := some 35) #[true, true, true, true, false, true, true, false, false] rfl rfl (qUA HT_.out (by kernel_rfl)) (by decide) (fun K hK => ?_)
                 refine Kd.qhA k39 _ 39 ?hg (N := 35) ?hd (xs := ([] : List (S39))) (inner := []) (ok := fun _ => True) (okp := fun _ => True) ?hr ?hp (fun _ hk => hk) trivial (Below.refl _ _) (Nat.le_refl _) (by simp) ?_; (case hd => rfl); (case hg => rfl); (case hr => exact gS); (case hp => exact (Reps.none _ _))
                 intro v199 w34 ho35 hb hg_ hnew_
                 clear hg_ hnew_
                 (first | rw [← Ny198.out] at ho35 | (simp only [Int.reduceToNat] at ho35; rw [← Ny198.out] at ho35))
                 have HO200 := aM (Kd.qx (Kd.qNB (Kd.qNB (Kd.qsA (Kd.qsA (Kd.qsA ho35 (Kd.R_lt (rR HO_5))) (Kd.R_lt (rR HO_13))) (Kd.R_lt (rR HO210))) (rB BK187)) (rB BK195)) (qL bl))
                 replace HO_5 := aM (Kd.qMA (rR HO_5) (Kd.qfA ho35) hb)
                 replace HO_13 := aM (Kd.qMA (rR HO_13) (Kd.qfA ho35) hb)
                 replace HO210 := aM (Kd.qMA (rR HO210) (Kd.qfA ho35) hb)
                 replace BK187 := aM (bb BK187 hb)
                 replace BK195 := aM (bb BK195 hb)
                 replace HR204 := aM (Kd.qg (by repeat (first | (with_reducible exact HR204.out) | (with_reducible refine Kd.qW ?_ _) | (with_reducible refine Kd.qV ?_ _) | (with_reducible refine Kd.qe ?_) | exact HR204.out)) hb)
                 replace HB := aM (qB bl hb)
                 clear hb ho35
                 refine hK.out _ _ ⟨bc BK195 0, bc BK195 1, bc BK195 2, bc BK195 3, bc BK195 4, bc BK195 5⟩ (fun hHeld => ?_)
                 clear hK K
                 refine norm_ (a' := ?_) ?_ ?_
                 rotate_left
                 ·show Act.put _ (some 35) _ = _
                  simp only [Act.put, List.setIfInBounds_toArray, List.set_cons_zero, List.set_cons_succ, i64_w, i32_w]
                  rfl
                 refine one_ (i := 4) (N := some 39) #[true, true, true, true, true, true, true, false, false] rfl rfl (qUA HT_.out (by kernel_rfl)) (by decide) (fun K hK => ?_)
                 refine Kd.qDA k39 (w0 := w) w.heap.size (by rfl) (.tmp 35) (.tmp 38) 79 39 (.agg #[(.int .i64 0), (.int .i64 0), (.int .i64 0), (.int .i64 0), (.int .i64 0), (.int .i64 0)]) 48 rfl Tryd.underlying79 info39 rfl (by decide) (by omega) v199 y198 y201 _ _ _ (fun k_ => some k_ ≠ (.slice (some ad196) x5_1.length co28 : Value).ownBlock ∧ some k_ ≠ (.slice (some ad194) t188.length co6 : Value).ownBlock ∧ some k_ ≠ (v209 : Value).ownBlock ∧ k_ ≠ gb187 ∧ k_ ≠ gb195) (fun _ => False) rfl rfl ?aO ?aR (fun _ _ h => h) (fun _ h => h.elim) ?aF ?aB ?aS ?aL ?_
                 (case aR => repeat (first | exact (by repeat (first | (with_reducible exact HR204.out) | (with_reducible refine Kd.qW ?_ _) | (with_reducible refine Kd.qV ?_ _) | (with_reducible refine Kd.qe ?_) | exact HR204.out)) | (with_reducible refine Kd.qW ?_ _) | (with_reducible refine Kd.qV ?_ _) | (with_reducible refine Kd.qe ?_)))
                 (case aB => exact bl)
                 (case aF => exact (fun k_ hk => ⟨Kd.fresh' (Kd.R_lt (rR HO_5)) k_ hk, Kd.fresh' (Kd.R_lt (rR HO_13)) k_ hk, Kd.fresh' (Kd.R_lt (rR HO210)) k_ hk, Kd.freshB (rB BK187) k_ hk, Kd.freshB (rB BK195) k_ hk⟩))
                 (case aO => exact (by (with_reducible repeat (first | apply Kd.qO | apply Kd.qQ | apply Kd.qS)); exact Kd.qZ HO200.out (fun _ hk => ⟨hk.1.1.1.1.2, ⟨hk.1.1.1.2, ⟨hk.1.1.2, ⟨hk.1.2, hk.2⟩⟩⟩⟩)))
                 (case aS => exact (qL bl))
                 (case aL => have := LMc22.out; omega)
                 intro v206 w36 ho hb hg hat
                 rw [← Ny205.out] at ho
                 have HO207 := aM (ho)
                 replace HO_13 := aM (Kd.qJA (ok := (fun k_ => some k_ ≠ (.slice (some ad196) x5_1.length co28 : Value).ownBlock ∧ some k_ ≠ (v209 : Value).ownBlock ∧ k_ ≠ gb187 ∧ k_ ≠ gb195)) (by (with_reducible repeat (first | apply Kd.qO | apply Kd.qQ | apply Kd.qS)); exact Kd.qZ HO_13.out (fun _ hk => ⟨⟨hk.1.1.1, ⟨hk.1.2, ⟨hk.1.1.2.1, hk.1.1.2.2⟩⟩⟩, hk.2⟩)) hg hat)
                 replace BK187 := aM (qi (rB BK187) hg (Kd.qJB HO200.out (fun _ hk => hk.1.2)))
                 replace BK195 := aM (qi (rB BK195) hg (Kd.qJB HO200.out (fun _ hk => hk.2)))
                 replace HO210 := aM (Kd.qJA (ok := (fun k_ => some k_ ≠ (.slice (some ad196) x5_1.length co28 : Value).ownBlock ∧ some k_ ≠ (.slice (some ad194) t188.length co6 : Value).ownBlock ∧ k_ ≠ gb187 ∧ k_ ≠ gb195)) (by (with_reducible repeat (first | apply Kd.qO | apply Kd.qQ | apply Kd.qS)); exact Kd.qZ HO210.out (fun _ hk => ⟨⟨hk.1.1.1.1.2, ⟨hk.1.1.1.2, ⟨hk.1.1.2, hk.1.2⟩⟩⟩, hk.2⟩)) hg hat)
                 replace HB := aM (hb)
                 replace HR204 := aM ((show Kd.C k39 w36 (some ad196) y201.length y201 from by rw [Ny201.out]; exact Kd.qUC (m := (x8_2 : Int).toNat) ((Kd.qP (Kd.qJA (ok := (fun k_ => some k_ ≠ (.slice (some ad194) t188.length co6 : Value).ownBlock ∧ some k_ ≠ (v209 : Value).ownBlock ∧ k_ ≠ gb187 ∧ k_ ≠ gb195)) (by (with_reducible repeat (first | apply Kd.qO | apply Kd.qQ | apply Kd.qS)); exact Kd.qZ HO_5.out (fun _ hk => ⟨⟨hk.1.1.1, ⟨hk.1.2, ⟨hk.1.1.2.1, hk.1.1.2.2⟩⟩⟩, hk.2⟩)) hg hat)).2.2) KL31.out))
                 replace HO_5 := aM (Kd.qJA (ok := (fun k_ => some k_ ≠ (.slice (some ad194) t188.length co6 : Value).ownBlock ∧ some k_ ≠ (v209 : Value).ownBlock ∧ k_ ≠ gb187 ∧ k_ ≠ gb195)) (by (with_reducible repeat (first | apply Kd.qO | apply Kd.qQ | apply Kd.qS)); exact Kd.qZ HO_5.out (fun _ hk => ⟨⟨hk.1.1.1, ⟨hk.1.2, ⟨hk.1.1.2.1, hk.1.1.2.2⟩⟩⟩, hk.2⟩)) hg hat)
                 clear HO200
                 clear ho hb hg hat
                 refine hK.out _ _ ⟨bc BK195 0, bc BK195 1, bc BK195 2, bc BK195 3, bc BK195 4, bc BK195 5⟩ (fun hHeld => ?_)
                 clear hK K
                 refine norm_ (a' := ?_) ?_ ?_
                 rotate_left
                 ·show Act.put _ (some 39) _ = _
                  simp only [Act.put, List.setIfInBounds_toArray, List.set_cons_zero, List.set_cons_succ, i64_w, i32_w]
                  rfl
                 exact norm_ (by simp only [putAll, Act.put, List.setIfInBounds_toArray, List.set_cons_zero, List.set_cons_succ]) (hCont (v199, v206, v209) _ ⟨hHeld, (by (with_reducible repeat (first | apply Kd.qO | apply Kd.qQ | apply Kd.qS)); exact Kd.qZ HO207.out (fun _ hk => ⟨hk.2.2.1, ⟨hk.2.1, ⟨hk.1, ⟨hk.2.2.2.1, hk.2.2.2.2⟩⟩⟩⟩)), (by (with_reducible repeat (first | apply Kd.qO | apply Kd.qQ | apply Kd.qS)); exact Kd.qZ HO210.out (fun _ hk => ⟨hk.2, ⟨hk.1.2.1, ⟨hk.1.1, ⟨hk.1.2.2.1, hk.1.2.2.2⟩⟩⟩⟩)), (by (with_reducible repeat (first | apply Kd.qO | apply Kd.qQ | apply Kd.qS)); exact Kd.qZ HO_13.out (fun _ hk => ⟨hk.2, ⟨hk.1.2.1, ⟨hk.1.1, ⟨hk.1.2.2.1, hk.1.2.2.2⟩⟩⟩⟩)), (by (with_reducible repeat (first | apply Kd.qO | apply Kd.qQ | apply Kd.qS)); exact Kd.qZ HO_5.out (fun _ hk => ⟨hk.2, ⟨hk.1.2.1, ⟨hk.1.1, ⟨hk.1.2.2.1, hk.1.2.2.2⟩⟩⟩⟩)), (rB BK187), (rB BK195), bl⟩)
               rintro ⟨v199, v206, v209⟩ w37 ⟨hS_, h0_, h1_, h2_, h3_, h4_, h5_, h6_⟩
               have n0_ : Aside0 (Kd.R k39 39 w37 w.heap.size (fun k_ => some k_ ≠ (v209 : Value).ownBlock ∧ some k_ ≠ (.slice (some ad194) t188.length co6 : Value).ownBlock ∧ some k_ ≠ (.slice (some ad196) x5_1.length co28 : Value).ownBlock ∧ k_ ≠ gb187 ∧ k_ ≠ gb195) v206 y205) := ⟨h0_⟩
               have n1_ : Aside0 (Kd.R k39 39 w37 w.heap.size (fun k_ => some k_ ≠ (v206 : Value).ownBlock ∧ some k_ ≠ (.slice (some ad194) t188.length co6 : Value).ownBlock ∧ some k_ ≠ (.slice (some ad196) x5_1.length co28 : Value).ownBlock ∧ k_ ≠ gb187 ∧ k_ ≠ gb195) v209 y208) := ⟨h1_⟩
               have n2_ : Aside0 (Kd.R k39 39 w37 w.heap.size (fun k_ => some k_ ≠ (v206 : Value).ownBlock ∧ some k_ ≠ (v209 : Value).ownBlock ∧ some k_ ≠ (.slice (some ad196) x5_1.length co28 : Value).ownBlock ∧ k_ ≠ gb187 ∧ k_ ≠ gb195) (.slice (some ad194) t188.length co6) t188) := ⟨h2_⟩
               have n3_ : Aside0 (Kd.R k39 39 w37 w.heap.size (fun k_ => some k_ ≠ (v206 : Value).ownBlock ∧ some k_ ≠ (v209 : Value).ownBlock ∧ some k_ ≠ (.slice (some ad194) t188.length co6 : Value).ownBlock ∧ k_ ≠ gb187 ∧ k_ ≠ gb195) (.slice (some ad196) x5_1.length co28) x5_1) := ⟨h3_⟩
               have n4_ : Aside0 (w37.heap[gb187]? = some (.cells #[.int .i64 a0_0, .int .i64 a0_1, .int .i64 a0_2, .int .i64 a0_3, .int .i64 a0_4, .int .i64 a0_5] 39 (0, 0))) := ⟨h4_⟩
               have n5_ : Aside0 (w37.heap[gb195]? = some (.cells #[.int .i64 ((qC t188 x17_1).f0), .int .i64 ((qC t188 x17_1).f1), .int .i64 ((qC t188 x17_1).f2), .int .i64 ((qC t188 x17_1).f3), .int .i64 ((qC t188 x17_1).f4), .int .i64 ((qC t188 x17_1).f5)] 39 (0, 0))) := ⟨h5_⟩
               have n6_ : Aside0 (Below w.heap.size w w37) := ⟨h6_⟩
               clear HO_5 HO_13 BK187 BK195 HB h0_ h1_ h2_ h3_ h4_ h5_ h6_
               have HO207 := n0_
               have HO210 := n1_
               have HO_13 := n2_
               have HO_5 := n3_
               have BK187 := n4_
               have BK195 := n5_
               have HB := n6_
               clear n0_ n1_ n2_ n3_ n4_ n5_ n6_
               have hHeld : w37.cell? ⟨gb195, 0, none⟩ = some (.int .i64 ((qC t188 x17_1).f0)) ∧ w37.cell? ⟨gb195, 1, none⟩ = some (.int .i64 ((qC t188 x17_1).f1)) ∧ w37.cell? ⟨gb195, 2, none⟩ = some (.int .i64 ((qC t188 x17_1).f2)) ∧ w37.cell? ⟨gb195, 3, none⟩ = some (.int .i64 ((qC t188 x17_1).f3)) ∧ w37.cell? ⟨gb195, 4, none⟩ = some (.int .i64 ((qC t188 x17_1).f4)) ∧ w37.cell? ⟨gb195, 5, none⟩ = some (.int .i64 ((qC t188 x17_1).f5)) := hS_
               obtain ⟨Ao39, co39, eo39⟩ := Kd.qBA HO210.out
               (first | subst eo39 | (injection eo39 with f1_ f2_ f3_; have f4_ := f1_.symm; have f5_ := f3_.symm; clear f1_ f2_ f3_; subst f4_; subst f5_))
               refine norm_ (a' := ?_) ?_ ?_
               rotate_left
               ·simp only [putAll, Act.put, List.setIfInBounds_toArray, List.set_cons_zero, List.set_cons_succ]
                rfl
               refine one_ (i := 7) (N := some 42) #[true, true, true, true, true, true, true, true, false] rfl rfl (qUA HT_.out (by kernel_rfl)) (by decide) (fun K hK => ?_)
               refine Kd.qDA k39 (w0 := w) w.heap.size (by rfl) (.tmp 39) (.tmp 41) 79 39 (.agg #[(.int .i64 0), (.int .i64 0), (.int .i64 0), (.int .i64 0), (.int .i64 0), (.int .i64 0)]) 48 rfl Tryd.underlying79 info39 rfl (by decide) (by omega) v206 y205 y208 _ _ _ (fun k_ => some k_ ≠ (.slice (some ad196) x5_1.length co28 : Value).ownBlock ∧ some k_ ≠ (.slice (some ad194) t188.length co6 : Value).ownBlock ∧ some k_ ≠ (.slice Ao39 y208.length co39 : Value).ownBlock ∧ k_ ≠ gb187 ∧ k_ ≠ gb195) (fun _ => False) rfl rfl ?aO ?aR (fun _ _ h => h) (fun _ h => h.elim) ?aF ?aB ?aS ?aL ?_
               (case aR => repeat (first | exact (Kd.qP HO210.out).2.2 | (with_reducible refine Kd.qW ?_ _) | (with_reducible refine Kd.qV ?_ _) | (with_reducible refine Kd.qe ?_)))
               (case aB => exact bl)
               (case aF => exact (fun k_ hk => ⟨Kd.fresh' (Kd.R_lt (rR HO_5)) k_ hk, Kd.fresh' (Kd.R_lt (rR HO_13)) k_ hk, Kd.fresh' (Kd.R_lt (rR HO210)) k_ hk, Kd.freshB (rB BK187) k_ hk, Kd.freshB (rB BK195) k_ hk⟩))
               (case aO => exact (by (with_reducible repeat (first | apply Kd.qO | apply Kd.qQ | apply Kd.qS)); exact Kd.qZ HO207.out (fun _ hk => ⟨hk.2.2.1, ⟨hk.2.1, ⟨hk.1, ⟨hk.2.2.2.1, hk.2.2.2.2⟩⟩⟩⟩)))
               (case aS => exact (qL bl))
               (case aL => have := LMc23.out; omega)
               intro v212 w38 ho hb hg hat
               rw [← Ny211.out] at ho
               have HO213 := aM (ho)
               replace HO_5 := aM (Kd.qJA (ok := (fun k_ => some k_ ≠ (.slice (some ad194) t188.length co6 : Value).ownBlock ∧ some k_ ≠ (.slice Ao39 y208.length co39 : Value).ownBlock ∧ k_ ≠ gb187 ∧ k_ ≠ gb195)) (by (with_reducible repeat (first | apply Kd.qO | apply Kd.qQ | apply Kd.qS)); exact Kd.qZ HO_5.out (fun _ hk => ⟨⟨hk.2.2.1, ⟨hk.2.1, ⟨hk.2.2.2.1, hk.2.2.2.2⟩⟩⟩, hk.1⟩)) hg hat)
               replace HO_13 := aM (Kd.qJA (ok := (fun k_ => some k_ ≠ (.slice (some ad196) x5_1.length co28 : Value).ownBlock ∧ some k_ ≠ (.slice Ao39 y208.length co39 : Value).ownBlock ∧ k_ ≠ gb187 ∧ k_ ≠ gb195)) (by (with_reducible repeat (first | apply Kd.qO | apply Kd.qQ | apply Kd.qS)); exact Kd.qZ HO_13.out (fun _ hk => ⟨⟨hk.2.2.1, ⟨hk.2.1, ⟨hk.2.2.2.1, hk.2.2.2.2⟩⟩⟩, hk.1⟩)) hg hat)
               replace BK187 := aM (qi (rB BK187) hg (Kd.qJB HO207.out (fun _ hk => hk.2.2.2.1)))
               replace BK195 := aM (qi (rB BK195) hg (Kd.qJB HO207.out (fun _ hk => hk.2.2.2.2)))
               replace HO210 := aM (Kd.qJA (ok := (fun k_ => some k_ ≠ (.slice (some ad196) x5_1.length co28 : Value).ownBlock ∧ some k_ ≠ (.slice (some ad194) t188.length co6 : Value).ownBlock ∧ k_ ≠ gb187 ∧ k_ ≠ gb195)) (by (with_reducible repeat (first | apply Kd.qO | apply Kd.qQ | apply Kd.qS)); exact Kd.qZ HO210.out (fun _ hk => ⟨⟨hk.2.2.1, ⟨hk.2.1, ⟨hk.2.2.2.1, hk.2.2.2.2⟩⟩⟩, hk.1⟩)) hg hat)
               replace HB := aM (hb)
               clear HO207
               clear ho hb hg hat
               refine hK.out _ _ ⟨bc BK195 0, bc BK195 1, bc BK195 2, bc BK195 3, bc BK195 4, bc BK195 5⟩ (fun hHeld => ?_)
               clear hK K
               refine norm_ (a' := ?_) ?_ ?_
               rotate_left
               ·show Act.put _ (some 42) _ = _
                simp only [Act.put, List.setIfInBounds_toArray, List.set_cons_zero, List.set_cons_succ, i64_w, i32_w]
                rfl
               refine pS (i := 8) (N := some 9) #[true, true, true, true, true, true, true, true, true] HT_ ?_
               refine done_ (qrA HT_.out (by kernel_rfl)) ?_
               have q40 : (x8_2 : Int) ≤ ((x5_1.length : Int) : Int) := of_decide_eq_true am
               obtain ⟨i040, hi040, _, hsz40, _⟩ := info_parts info39
               have hroom40 : x5_1.length ≤ co28 := (Kd.qP HO_5.out).2.1
               have hC40 : Kd.C k39 _ (some ad196) x5_1.length x5_1 := (Kd.qP HO_5.out).2.2
               have q040 : (0 : Int) ≤ (x8_2 : Int) := of_decide_eq_true am
               have hcut40 := cut_from (P := Tryd.prog) 79 39 .i64 Tryd.underlying79 hi040 6 hsz40 (some ad196) x5_1.length co28 x8_2 q040 q40
               have hr40 := Kd.qPE (m := (x8_2 : Int).toNat) (c := co28) hC40 (by omega) hroom40
               obtain ⟨A40, hA40⟩ : ∃ A1, A1 = (if co28 = (x8_2 : Int).toNat then (some ad196) else ((some ad196) : Option Addr).map (·.add ((x8_2 : Int).toNat * 6))) := ⟨_, rfl⟩
               obtain ⟨c40, hc40⟩ : ∃ c1, c1 = co28 - (x8_2 : Int).toNat := ⟨_, rfl⟩
               have hy40 : y214.length = x5_1.length - (x8_2 : Int).toNat := (by rw [Ny214.out, List.length_drop] <;> omega)
               rw [show (x5_1).drop (x8_2 : Int).toNat = y214 from Ny214.out.symm] at hr40
               replace hr40 : Kd.C k39 _ A40 y214.length y214 := (by rw [hA40]; exact hr40)
               rw [← hy40, ← hA40, ← hc40] at hcut40
               have HR217 := aM hr40
               have HC217 := aM (show y214.length ≤ c40 from by rw [hy40, hc40]; exact Nat.sub_le_sub_right hroom40 _)
               clear hr40 hC40 hroom40 hi040 hsz40 hc40
               have KY40 := aM hy40
               have KA40 := aM hA40
               clear hy40 hA40
               have KL40 := aM (show (x8_2 : Int).toNat ≤ x5_1.length from by omega)
               replace q40 := eq_true q40
               try go_wp2_with (first | ((with_reducible refine qpA (b := .append) (xs := #[.tmp 43, .tmp 46]) rfl ?_); at_builtin; refine Kd.qtB k39 (w0 := w) w.heap.size rfl (.tmp 43) (.tmp 46) 79 39 (.agg #[(.int .i64 0), (.int .i64 0), (.int .i64 0), (.int .i64 0), (.int .i64 0), (.int .i64 0)]) 48 rfl Tryd.underlying79 info39 rfl (by decide) (by omega) v212 y211 y214 _ _ _ (fun k_ => some k_ ≠ (.slice (some ad196) x5_1.length co28 : Value).ownBlock ∧ some k_ ≠ (.slice (some ad194) t188.length co6 : Value).ownBlock ∧ some k_ ≠ (.slice Ao39 y208.length co39 : Value).ownBlock ∧ k_ ≠ gb187 ∧ k_ ≠ gb195) (fun _ => False) rfl rfl ?aO ?aR (fun _ _ h => h) (fun _ h => h.elim) ?aF ?aB ?aS ?aL ?_; (case aR => repeat (first | exact (by repeat (first | (with_reducible exact HR217.out) | (with_reducible refine Kd.qW ?_ _) | (with_reducible refine Kd.qV ?_ _) | (with_reducible refine Kd.qe ?_) | exact HR217.out)) | (with_reducible refine Kd.qW ?_ _) | (with_reducible refine Kd.qV ?_ _) | (with_reducible refine Kd.qe ?_))); (case aB => exact bl); (case aF => exact (fun k_ hk => ⟨Kd.fresh' (Kd.R_lt (rR HO_5)) k_ hk, Kd.fresh' (Kd.R_lt (rR HO_13)) k_ hk, Kd.fresh' (Kd.R_lt (rR HO210)) k_ hk, Kd.freshB (rB BK187) k_ hk, Kd.freshB (rB BK195) k_ hk⟩)); (case aO => exact (rR HO213)); (case aS => exact (qL bl)); (case aL => have := LMc26.out; omega); intro v219 w41 ho hb hg hat; rw [← Ny218.out] at ho; have HO220 := aM (ho); replace HO_13 := aM (Kd.qJA (ok := (fun k_ => some k_ ≠ (.slice (some ad196) x5_1.length co28 : Value).ownBlock ∧ some k_ ≠ (.slice Ao39 y208.length co39 : Value).ownBlock ∧ k_ ≠ gb187 ∧ k_ ≠ gb195)) (rR HO_13) hg hat); replace BK187 := aM (qi (rB BK187) hg (Kd.qJB HO213.out (fun _ hk => hk.2.2.2.1))); replace BK195 := aM (qi (rB BK195) hg (Kd.qJB HO213.out (fun _ hk => hk.2.2.2.2))); replace HO210 := aM (Kd.qJA (ok := (fun k_ => some k_ ≠ (.slice (some ad196) x5_1.length co28 : Value).ownBlock ∧ some k_ ≠ (.slice (some ad194) t188.length co6 : Value).ownBlock ∧ k_ ≠ gb187 ∧ k_ ≠ gb195)) (rR HO210) hg hat); replace HB := aM (hb); replace HR217 := aM ((show Kd.C k39 w41 A40 y214.length y214 from by rw [Ny214.out, KA40.out]; exact Kd.qPE (m := (x8_2 : Int).toNat) (c := co28) ((Kd.qP (Kd.qJA (ok := (fun k_ => some k_ ≠ (.slice (some ad194) t188.length co6 : Value).ownBlock ∧ some k_ ≠ (.slice Ao39 y208.length co39 : Value).ownBlock ∧ k_ ≠ gb187 ∧ k_ ≠ gb195)) (rR HO_5) hg hat)).2.2) KL40.out ((Kd.qP (Kd.qJA (ok := (fun k_ => some k_ ≠ (.slice (some ad194) t188.length co6 : Value).ownBlock ∧ some k_ ≠ (.slice Ao39 y208.length co39 : Value).ownBlock ∧ k_ ≠ gb187 ∧ k_ ≠ gb195)) (rR HO_5) hg hat)).2.1))); replace HO_5 := aM (Kd.qJA (ok := (fun k_ => some k_ ≠ (.slice (some ad194) t188.length co6 : Value).ownBlock ∧ some k_ ≠ (.slice Ao39 y208.length co39 : Value).ownBlock ∧ k_ ≠ gb187 ∧ k_ ≠ gb195)) (rR HO_5) hg hat); clear HO213; clear ho hb hg hat))
               go_roundg k2
               case measure => have := HK1.out; have := HK2.out; omega
               case rel => exact ⟨(y218), (wrap64 (x17_1 + 1)), sD, H', ⟨by have := HK1.out; have := HK2.out; omega⟩, ⟨by (with_reducible repeat (first | apply Kd.qO | apply Kd.qQ | apply Kd.qS)); exact Kd.qZ HO220.out (fun _ hk => ⟨hk.2.1, hk.2.2.2.1⟩)⟩, ⟨by (with_reducible repeat (first | apply Kd.qO | apply Kd.qQ | apply Kd.qS)); exact Kd.qZ HO_13.out (fun _ hk => ⟨hk.2, hk.1.2.2.1⟩)⟩, ⟨rB BK187⟩, ⟨bl⟩⟩
              ·rw [if_neg c26] at H
               exact absurd H (by simp)
             ·rw [if_neg c23] at H
              exact absurd H (by simp)
            ·rw [if_neg c22] at H
             exact absurd H (by simp)
           ·rw [if_neg c21] at H
            exact absurd H (by simp)
         ·rw [if_neg c14] at H
          exact absurd H (by simp)
        ·rw [if_neg c13] at H
         have c13b0 := decide_eq_false c13
         clear c13
         replace H := bS H
         obtain ⟨y221, Ny221, H⟩ := H
         by_cases c42 : 0 ≤ x8_2
         ·rw [if_pos c42] at H
          have c42b0 := eq_true c42
          have c42b1 := decide_eq_true c42
          clear c42
          by_cases c43 : x8_2 ≤ (x5_1.length : Int)
          ·rw [if_pos c43] at H
           have c43b0 := eq_true c43
           have c43b1 := decide_eq_true c43
           clear c43
           replace H := bS H
           obtain ⟨y224, Ny224, H⟩ := H
           by_cases c44 : y221.length + y224.length < 2932031007402
           ·rw [if_pos c44] at H
            have LMc44 := aM c44
            clear c44
            replace H := bS H
            obtain ⟨y228, Ny228, H⟩ := H
            replace H := bS H
            obtain ⟨y231, Ny231, H⟩ := H
            by_cases c45 : y228.length + y231.length < 2932031007402
            ·rw [if_pos c45] at H
             have LMc45 := aM c45
             clear c45
             replace H := bS H
             obtain ⟨y234, Ny234, H⟩ := H
             have c46b0 := eq_true (of_decide_eq_true am : 0 ≤ x8_2)
             have c47b0 := eq_true (of_decide_eq_true am : x8_2 ≤ (x5_1.length : Int))
             replace H := bS H
             obtain ⟨y237, Ny237, H⟩ := H
             by_cases c48 : y234.length + y237.length < 2932031007402
             ·rw [if_pos c48] at H
              have LMc48 := aM c48
              clear c48
              obtain ⟨y241, hy241⟩ : ∃ y_ : List (S39), y_ = (y234 ++ y237) := ⟨_, rfl⟩
              replace H : (qR.l0 k2 y241 t188 (t188.length : Int) (wrap64 (x17_1 + 1))) = some r := by first | (rw [hy241]; with_reducible exact H) | (have H2_ := (Option.bind_some _ _).symm.trans H; rw [hy241]; with_reducible exact H2_) | (have H2_ := (Option.bind_some _ _).symm.trans H; with_reducible exact H2_) | with_reducible exact H | (rw [hy241]; exact H) | exact H
              have Ny241 := aM hy241
              clear hy241
              have H' := aM H
              clear H
              try go_wp2
              replace HO_5 := aM (Kd.qS HO_5.out)
              replace HO_13 := aM (Kd.qS HO_13.out)
              replace BK187 := aM (qE BK187.out)
              replace BK195 := aM (qE BK195.out)
              replace HB := aM (qu HB.out)
              obtain ⟨Ao50, co50, eo50⟩ := Kd.qBA HO_5.out
              (first | subst eo50 | (injection eo50 with f1_ f2_ f3_; have f4_ := f1_.symm; have f5_ := f3_.symm; clear f1_ f2_ f3_; subst f4_; subst f5_))
              refine qCB (n := 12) (S := fun w' => True) (ds := []) #[false, false, false, false, false, false, false, false, false, false, false, false] (by kernel_rfl) rfl rfl trivial (fun hHeld => ?_); refine qKA qR.tab7 qR.bits7 (fun HT_ HW_ => ?_)
              generalize wr.drew = w49 at HO_5 HO_13 BK187 BK195 HB hHeld ⊢
              refine pS (i := 0) (N := some 21) #[true, false, false, false, false, false, false, false, false, false, false, false] HT_ ?_
              refine pS (i := 1) (N := some 22) #[true, true, false, false, false, false, false, false, false, false, false, false] HT_ ?_
              refine pS (i := 2) (N := some 23) #[true, true, true, false, false, false, false, false, false, false, false, false] HT_ ?_
              refine pS (i := 3) (N := some 24) #[true, true, true, true, false, false, false, false, false, false, false, false] HT_ ?_
              refine pS (i := 4) (N := some 25) #[true, true, true, true, true, false, false, false, false, false, false, false] HT_ ?_
              refine pure_ (i := 5) (N := some 26) (v := undef) (a' := ?_) #[true, true, true, true, true, true, false, false, false, false, false, false] rfl rfl (qgB HT_.out (by kernel_rfl)) (fun _ _ _ h => h) (Or.inr ⟨by rfl, rfl⟩) ?_ ?_
              rotate_left
              ·simp only [Act.put, List.setIfInBounds_toArray, List.set_cons_zero, List.set_cons_succ, i64_w, i32_w]
               rfl
              refine pure_ (i := 6) (N := some 27) (v := undef) (a' := ?_) #[true, true, true, true, true, true, true, false, false, false, false, false] rfl rfl (qgB HT_.out (by kernel_rfl)) (fun _ _ _ h => h) (Or.inr ⟨by rfl, rfl⟩) ?_ ?_
              rotate_left
              ·simp only [Act.put, List.setIfInBounds_toArray, List.set_cons_zero, List.set_cons_succ, i64_w, i32_w]
               rfl
              refine pure_ (i := 7) (N := some 28) (v := undef) (a' := ?_) #[true, true, true, true, true, true, true, true, false, false, false, false] rfl rfl (qgB HT_.out (by kernel_rfl)) (fun _ _ _ h => h) (Or.inr ⟨by rfl, rfl⟩) ?_ ?_
              rotate_left
              ·simp only [Act.put, List.setIfInBounds_toArray, List.set_cons_zero, List.set_cons_succ, i64_w, i32_w]
               rfl
              refine pure_ (i := 8) (N := some 29) (v := undef) (a' := ?_) #[true, true, true, true, true, true, true, true, true, false, false, false] rfl rfl (qgB HT_.out (by kernel_rfl)) (fun _ _ _ h => h) (Or.inr ⟨by rfl, rfl⟩) ?_ ?_
              rotate_left
              ·simp only [Act.put, List.setIfInBounds_toArray, List.set_cons_zero, List.set_cons_succ, i64_w, i32_w]
               rfl
              refine pure_ (i := 9) (N := some 30) (v := undef) (a' := ?_) #[true, true, true, true, true, true, true, true, true, true, false, false] rfl rfl (qgB HT_.out (by kernel_rfl)) (fun _ _ _ h => h) (Or.inr ⟨by rfl, rfl⟩) ?_ ?_
              rotate_left
              ·simp only [Act.put, List.setIfInBounds_toArray, List.set_cons_zero, List.set_cons_succ, i64_w, i32_w]
               rfl
              refine pure_ (i := 10) (N := some 31) (v := undef) (a' := ?_) #[true, true, true, true, true, true, true, true, true, true, true, false] rfl rfl (qgB HT_.out (by kernel_rfl)) (fun _ _ _ h => h) (Or.inr ⟨by rfl, rfl⟩) ?_ ?_
              rotate_left
              ·simp only [Act.put, List.setIfInBounds_toArray, List.set_cons_zero, List.set_cons_succ, i64_w, i32_w]
               rfl
              refine pS (i := 11) (N := some 32) #[true, true, true, true, true, true, true, true, true, true, true, true] HT_ ?_
              refine done_ (qrA HT_.out (by kernel_rfl)) ?_
              try go_wp2
              replace HO_5 := aM (Kd.qS HO_5.out)
              replace HO_13 := aM (Kd.qS HO_13.out)
              replace BK187 := aM (qE BK187.out)
              replace BK195 := aM (qE BK195.out)
              replace HB := aM (qu HB.out)
              have q52 : (x8_2 : Int) ≤ ((x5_1.length : Int) : Int) := of_decide_eq_true am
              obtain ⟨i052, hi052, _, hsz52, _⟩ := info_parts info39
              have hroom52 : x5_1.length ≤ co50 := (Kd.qP HO_5.out).2.1
              have hC52 : Kd.C k39 _ Ao50 x5_1.length x5_1 := (Kd.qP HO_5.out).2.2
              have hcut52 := qiD (P := Tryd.prog) 79 39 .i64 Tryd.underlying79 hi052 Ao50 x5_1.length co50 x8_2 (of_decide_eq_true am) q52 hroom52
              have hr52 := Kd.qUC (m := (x8_2 : Int).toNat) hC52 (by omega)
              have hy52 : y224.length = (x8_2 : Int).toNat := (by rw [Ny224.out, List.length_take]; omega)
              rw [← Ny224.out] at hr52
              rw [← hy52] at hcut52
              have HR227 := aM hr52
              have HC227 := aM (show y224.length ≤ co50 from by omega)
              clear hr52 hC52 hroom52 hi052 hsz52
              have KY52 := aM hy52
              clear hy52
              have KL52 := aM (show (x8_2 : Int).toNat ≤ x5_1.length from by omega)
              replace q52 := eq_true q52
              refine qCB (n := 9) (S := fun w' => w'.cell? ⟨gb195, 0, none⟩ = some (.int .i64 ((qC t188 x17_1).f0)) ∧ w'.cell? ⟨gb195, 1, none⟩ = some (.int .i64 ((qC t188 x17_1).f1)) ∧ w'.cell? ⟨gb195, 2, none⟩ = some (.int .i64 ((qC t188 x17_1).f2)) ∧ w'.cell? ⟨gb195, 3, none⟩ = some (.int .i64 ((qC t188 x17_1).f3)) ∧ w'.cell? ⟨gb195, 4, none⟩ = some (.int .i64 ((qC t188 x17_1).f4)) ∧ w'.cell? ⟨gb195, 5, none⟩ = some (.int .i64 ((qC t188 x17_1).f5))) (ds := []) #[false, false, false, false, false, false, false, false, false] (by kernel_rfl) rfl rfl ⟨bc BK195 0, bc BK195 1, bc BK195 2, bc BK195 3, bc BK195 4, bc BK195 5⟩ (fun hHeld => ?_); refine qKA qR.tab9 qR.bits9 (fun HT_ HW_ => ?_)
              generalize w49.drew = w51 at HO_5 HO_13 BK187 BK195 HB HR227 hHeld ⊢
              refine pS (i := 1) (N := some 36) #[false, true, false, false, false, false, false, false, false] HT_ ?_
              refine pS (i := 2) (N := some 37) #[false, true, true, false, false, false, false, false, false] HT_ ?_
              refine pS (i := 3) (N := some 38) #[false, true, true, true, false, false, false, false, false] HT_ ?_
              refine tS (i := 5) (N := some 40) #[false, true, true, true, false, true, false, false, false] HT_ HW_ hHeld ?_
              refine join_ (σ := Value × Value × Value) 2 #[true, true, true, true, true, true, true, false, false] (fun s_ => [(35, s_.1), (39, s_.2.1), (41, s_.2.2)]) (fun s_ w' => (w'.cell? ⟨gb195, 0, none⟩ = some (.int .i64 ((qC t188 x17_1).f0)) ∧ w'.cell? ⟨gb195, 1, none⟩ = some (.int .i64 ((qC t188 x17_1).f1)) ∧ w'.cell? ⟨gb195, 2, none⟩ = some (.int .i64 ((qC t188 x17_1).f2)) ∧ w'.cell? ⟨gb195, 3, none⟩ = some (.int .i64 ((qC t188 x17_1).f3)) ∧ w'.cell? ⟨gb195, 4, none⟩ = some (.int .i64 ((qC t188 x17_1).f4)) ∧ w'.cell? ⟨gb195, 5, none⟩ = some (.int .i64 ((qC t188 x17_1).f5))) ∧ (Kd.R k39 39 w' w.heap.size (fun k_ => some k_ ≠ (s_.2.2 : Value).ownBlock ∧ some k_ ≠ (.slice (some ad194) t188.length co6 : Value).ownBlock ∧ some k_ ≠ (.slice Ao50 x5_1.length co50 : Value).ownBlock ∧ k_ ≠ gb187 ∧ k_ ≠ gb195) s_.2.1 y228) ∧ (Kd.R k39 39 w' w.heap.size (fun k_ => some k_ ≠ (s_.2.1 : Value).ownBlock ∧ some k_ ≠ (.slice (some ad194) t188.length co6 : Value).ownBlock ∧ some k_ ≠ (.slice Ao50 x5_1.length co50 : Value).ownBlock ∧ k_ ≠ gb187 ∧ k_ ≠ gb195) s_.2.2 y231) ∧ (Kd.R k39 39 w' w.heap.size (fun k_ => some k_ ≠ (s_.2.1 : Value).ownBlock ∧ some k_ ≠ (s_.2.2 : Value).ownBlock ∧ some k_ ≠ (.slice Ao50 x5_1.length co50 : Value).ownBlock ∧ k_ ≠ gb187 ∧ k_ ≠ gb195) (.slice (some ad194) t188.length co6) t188) ∧ (Kd.R k39 39 w' w.heap.size (fun k_ => some k_ ≠ (s_.2.1 : Value).ownBlock ∧ some k_ ≠ (s_.2.2 : Value).ownBlock ∧ some k_ ≠ (.slice (some ad194) t188.length co6 : Value).ownBlock ∧ k_ ≠ gb187 ∧ k_ ≠ gb195) (.slice Ao50 x5_1.length co50) x5_1) ∧ (w'.heap[gb187]? = some (.cells #[.int .i64 a0_0, .int .i64 a0_1, .int .i64 a0_2, .int .i64 a0_3, .int .i64 a0_4, .int .i64 a0_5] 39 (0, 0))) ∧ (w'.heap[gb195]? = some (.cells #[.int .i64 ((qC t188 x17_1).f0), .int .i64 ((qC t188 x17_1).f1), .int .i64 ((qC t188 x17_1).f2), .int .i64 ((qC t188 x17_1).f3), .int .i64 ((qC t188 x17_1).f4), .int .i64 ((qC t188 x17_1).f5)] 39 (0, 0))) ∧ (Below w.heap.size w w')) ?_ ?_
              rotate_left
              ·intro hCont
               refine two_ (i := 0) (j := 6) (Ni := some 35) (Nj := some 41) #[true, true, true, true, false, true, false, false, false] #[false, true, true, true, false, true, true, false, false] rfl rfl rfl rfl (qvC HT_.out (by kernel_rfl)) (by decide) (by decide) (fun K hK => ?_) (fun K hK => ?_)
               ·skip
                refine Kd.qhA k39 _ 39 ?hg (N := 35) ?hd (xs := ([] : List (S39))) (inner := []) (ok := fun _ => True) (okp := fun _ => True) ?hr ?hp (fun _ hk => hk) trivial (Below.refl _ _) (Nat.le_refl _) (by simp) ?_; (case hd => rfl); (case hg => rfl); (case hr => exact gS); (case hp => exact (Reps.none _ _))
                intro v222 w53 ho54 hb hg_ hnew_
                clear hg_ hnew_
                (first | rw [← Ny221.out] at ho54 | (simp only [Int.reduceToNat] at ho54; rw [← Ny221.out] at ho54))
                have HO223 := aM (Kd.qx (Kd.qNB (Kd.qNB (Kd.qsA (Kd.qsA ho54 (Kd.R_lt (rR HO_5))) (Kd.R_lt (rR HO_13))) (rB BK187)) (rB BK195)) (qL bl))
                replace HO_5 := aM (Kd.qMA (rR HO_5) (Kd.qfA ho54) hb)
                replace HO_13 := aM (Kd.qMA (rR HO_13) (Kd.qfA ho54) hb)
                replace BK187 := aM (bb BK187 hb)
                replace BK195 := aM (bb BK195 hb)
                replace HR227 := aM (Kd.qg (by repeat (first | (with_reducible exact HR227.out) | (with_reducible refine Kd.qW ?_ _) | (with_reducible refine Kd.qV ?_ _) | (with_reducible refine Kd.qe ?_) | exact HR227.out)) hb)
                replace HB := aM (qB bl hb)
                clear hb ho54
                refine hK.out _ _ ⟨bc BK195 0, bc BK195 1, bc BK195 2, bc BK195 3, bc BK195 4, bc BK195 5⟩ (fun hHeld => ?_)
                clear hK K
                refine norm_ (a' := ?_) ?_ ?_
                rotate_left
                ·show Act.put _ (some 35) _ = _
                 simp only [Act.put, List.setIfInBounds_toArray, List.set_cons_zero, List.set_cons_succ, i64_w, i32_w]
                 rfl
                refine two_ (i := 4) (j := 6) (Ni := some 39) (Nj := some 41) #[true, true, true, true, true, true, false, false, false] #[true, true, true, true, false, true, true, false, false] rfl rfl rfl rfl (qvC HT_.out (by kernel_rfl)) (by decide) (by decide) (fun K hK => ?_) (fun K hK => ?_)
                ·skip
                 refine Kd.qDA k39 (w0 := w) w.heap.size (by rfl) (.tmp 35) (.tmp 38) 79 39 (.agg #[(.int .i64 0), (.int .i64 0), (.int .i64 0), (.int .i64 0), (.int .i64 0), (.int .i64 0)]) 48 rfl Tryd.underlying79 info39 rfl (by decide) (by omega) v222 y221 y224 _ _ _ (fun k_ => some k_ ≠ (.slice Ao50 x5_1.length co50 : Value).ownBlock ∧ some k_ ≠ (.slice (some ad194) t188.length co6 : Value).ownBlock ∧ k_ ≠ gb187 ∧ k_ ≠ gb195) (fun _ => False) rfl rfl ?aO ?aR (fun _ _ h => h) (fun _ h => h.elim) ?aF ?aB ?aS ?aL ?_
                 (case aR => repeat (first | exact (by repeat (first | (with_reducible exact HR227.out) | (with_reducible refine Kd.qW ?_ _) | (with_reducible refine Kd.qV ?_ _) | (with_reducible refine Kd.qe ?_) | exact HR227.out)) | (with_reducible refine Kd.qW ?_ _) | (with_reducible refine Kd.qV ?_ _) | (with_reducible refine Kd.qe ?_)))
                 (case aB => exact bl)
                 (case aF => exact (fun k_ hk => ⟨Kd.fresh' (Kd.R_lt (rR HO_5)) k_ hk, Kd.fresh' (Kd.R_lt (rR HO_13)) k_ hk, Kd.freshB (rB BK187) k_ hk, Kd.freshB (rB BK195) k_ hk⟩))
                 (case aO => exact (by (with_reducible repeat (first | apply Kd.qO | apply Kd.qQ | apply Kd.qS)); exact Kd.qZ HO223.out (fun _ hk => ⟨hk.1.1.1.2, ⟨hk.1.1.2, ⟨hk.1.2, hk.2⟩⟩⟩)))
                 (case aS => exact (qL bl))
                 (case aL => have := LMc44.out; omega)
                 intro v229 w55 ho hb hg hat
                 rw [← Ny228.out] at ho
                 have HO230 := aM (ho)
                 replace HO_13 := aM (Kd.qJA (ok := (fun k_ => some k_ ≠ (.slice Ao50 x5_1.length co50 : Value).ownBlock ∧ k_ ≠ gb187 ∧ k_ ≠ gb195)) (rR HO_13) hg hat)
                 replace BK187 := aM (qi (rB BK187) hg (Kd.qJB HO223.out (fun _ hk => hk.1.2)))
                 replace BK195 := aM (qi (rB BK195) hg (Kd.qJB HO223.out (fun _ hk => hk.2)))
                 replace HB := aM (hb)
                 replace HR227 := aM ((show Kd.C k39 w55 Ao50 y224.length y224 from by rw [Ny224.out]; exact Kd.qUC (m := (x8_2 : Int).toNat) ((Kd.qP (Kd.qJA (ok := (fun k_ => some k_ ≠ (.slice (some ad194) t188.length co6 : Value).ownBlock ∧ k_ ≠ gb187 ∧ k_ ≠ gb195)) (rR HO_5) hg hat)).2.2) KL52.out))
                 replace HO_5 := aM (Kd.qJA (ok := (fun k_ => some k_ ≠ (.slice (some ad194) t188.length co6 : Value).ownBlock ∧ k_ ≠ gb187 ∧ k_ ≠ gb195)) (rR HO_5) hg hat)
                 clear HO223
                 clear ho hb hg hat
                 refine hK.out _ _ ⟨bc BK195 0, bc BK195 1, bc BK195 2, bc BK195 3, bc BK195 4, bc BK195 5⟩ (fun hHeld => ?_)
                 clear hK K
                 refine norm_ (a' := ?_) ?_ ?_
                 rotate_left
                 ·show Act.put _ (some 39) _ = _
                  simp only [Act.put, List.setIfInBounds_toArray, List.set_cons_zero, List.set_cons_succ, i64_w, i32_w]
                  rfl
                 refine one_ (i := 6) (N := some 41) #[true, true, true, true, true, true, true, false, false] rfl rfl (qUA HT_.out (by kernel_rfl)) (by decide) (fun K hK => ?_)
                 refine Kd.qhA k39 _ 39 ?hg (N := 41) ?hd (xs := ([(⟨((qC t188 x17_1).f0), ((qC t188 x17_1).f1), ((qC t188 x17_1).f2), ((qC t188 x17_1).f3), ((qC t188 x17_1).f4), ((qC t188 x17_1).f5)⟩ : S39)] : List (S39))) (inner := [.int .i64 ((qC t188 x17_1).f0), .int .i64 ((qC t188 x17_1).f1), .int .i64 ((qC t188 x17_1).f2), .int .i64 ((qC t188 x17_1).f3), .int .i64 ((qC t188 x17_1).f4), .int .i64 ((qC t188 x17_1).f5)]) (ok := fun _ => True) (okp := fun _ => True) ?hr ?hp (fun _ hk => hk) trivial (Below.refl _ _) (Nat.le_refl _) (by simp) ?_; (case hd => rfl); (case hg => rfl); (case hr => exact gS); (case hp => exact (Reps.c6 (show Kd.M k39 _ _ _ (⟨((qC t188 x17_1).f0), ((qC t188 x17_1).f1), ((qC t188 x17_1).f2), ((qC t188 x17_1).f3), ((qC t188 x17_1).f4), ((qC t188 x17_1).f5)⟩ : S39) [.int .i64 ((qC t188 x17_1).f0), .int .i64 ((qC t188 x17_1).f1), .int .i64 ((qC t188 x17_1).f2), .int .i64 ((qC t188 x17_1).f3), .int .i64 ((qC t188 x17_1).f4), .int .i64 ((qC t188 x17_1).f5)] from (qSC _ _ _ (⟨((qC t188 x17_1).f0), ((qC t188 x17_1).f1), ((qC t188 x17_1).f2), ((qC t188 x17_1).f3), ((qC t188 x17_1).f4), ((qC t188 x17_1).f5)⟩ : S39) )) (Reps.none _ _)))
                 intro v232 w56 ho57 hb hg_ hnew_
                 clear hg_ hnew_
                 (first | rw [← Ny231.out] at ho57 | (simp only [Int.reduceToNat] at ho57; rw [← Ny231.out] at ho57))
                 have HO233 := aM (Kd.qx (Kd.qNB (Kd.qNB (Kd.qsA (Kd.qsA (Kd.qsA ho57 (Kd.R_lt (rR HO_5))) (Kd.R_lt (rR HO_13))) (Kd.R_lt (rR HO230))) (rB BK187)) (rB BK195)) (qL bl))
                 replace HO_5 := aM (Kd.qMA (rR HO_5) (Kd.qfA ho57) hb)
                 replace HO_13 := aM (Kd.qMA (rR HO_13) (Kd.qfA ho57) hb)
                 replace HO230 := aM (Kd.qMA (rR HO230) (Kd.qfA ho57) hb)
                 replace BK187 := aM (bb BK187 hb)
                 replace BK195 := aM (bb BK195 hb)
                 replace HR227 := aM (Kd.qg (by repeat (first | (with_reducible exact HR227.out) | (with_reducible refine Kd.qW ?_ _) | (with_reducible refine Kd.qV ?_ _) | (with_reducible refine Kd.qe ?_) | exact HR227.out)) hb)
                 replace HB := aM (qB bl hb)
                 clear hb ho57
                 refine hK.out _ _ ⟨bc BK195 0, bc BK195 1, bc BK195 2, bc BK195 3, bc BK195 4, bc BK195 5⟩ (fun hHeld => ?_)
                 clear hK K
                 refine norm_ (a' := ?_) ?_ ?_
                 rotate_left
                 ·show Act.put _ (some 41) _ = _
                  simp only [Act.put, List.setIfInBounds_toArray, List.set_cons_zero, List.set_cons_succ, i64_w, i32_w]
                  rfl
                 exact norm_ (by simp only [putAll, Act.put, List.setIfInBounds_toArray, List.set_cons_zero, List.set_cons_succ]) (hCont (v222, v229, v232) _ ⟨hHeld, (by (with_reducible repeat (first | apply Kd.qO | apply Kd.qQ | apply Kd.qS)); exact Kd.qZ HO230.out (fun _ hk => ⟨hk.2, ⟨hk.1.2.1, ⟨hk.1.1, ⟨hk.1.2.2.1, hk.1.2.2.2⟩⟩⟩⟩)), (by (with_reducible repeat (first | apply Kd.qO | apply Kd.qQ | apply Kd.qS)); exact Kd.qZ HO233.out (fun _ hk => ⟨hk.1.1.2, ⟨hk.1.1.1.2, ⟨hk.1.1.1.1.2, ⟨hk.1.2, hk.2⟩⟩⟩⟩)), (by (with_reducible repeat (first | apply Kd.qO | apply Kd.qQ | apply Kd.qS)); exact Kd.qZ HO_13.out (fun _ hk => ⟨hk.1.2, ⟨hk.2, ⟨hk.1.1.1, ⟨hk.1.1.2.1, hk.1.1.2.2⟩⟩⟩⟩)), (by (with_reducible repeat (first | apply Kd.qO | apply Kd.qQ | apply Kd.qS)); exact Kd.qZ HO_5.out (fun _ hk => ⟨hk.1.2, ⟨hk.2, ⟨hk.1.1.1, ⟨hk.1.1.2.1, hk.1.1.2.2⟩⟩⟩⟩)), (rB BK187), (rB BK195), bl⟩)
                ·skip
                 refine Kd.qhA k39 _ 39 ?hg (N := 41) ?hd (xs := ([(⟨((qC t188 x17_1).f0), ((qC t188 x17_1).f1), ((qC t188 x17_1).f2), ((qC t188 x17_1).f3), ((qC t188 x17_1).f4), ((qC t188 x17_1).f5)⟩ : S39)] : List (S39))) (inner := [.int .i64 ((qC t188 x17_1).f0), .int .i64 ((qC t188 x17_1).f1), .int .i64 ((qC t188 x17_1).f2), .int .i64 ((qC t188 x17_1).f3), .int .i64 ((qC t188 x17_1).f4), .int .i64 ((qC t188 x17_1).f5)]) (ok := fun _ => True) (okp := fun _ => True) ?hr ?hp (fun _ hk => hk) trivial (Below.refl _ _) (Nat.le_refl _) (by simp) ?_; (case hd => rfl); (case hg => rfl); (case hr => exact gS); (case hp => exact (Reps.c6 (show Kd.M k39 _ _ _ (⟨((qC t188 x17_1).f0), ((qC t188 x17_1).f1), ((qC t188 x17_1).f2), ((qC t188 x17_1).f3), ((qC t188 x17_1).f4), ((qC t188 x17_1).f5)⟩ : S39) [.int .i64 ((qC t188 x17_1).f0), .int .i64 ((qC t188 x17_1).f1), .int .i64 ((qC t188 x17_1).f2), .int .i64 ((qC t188 x17_1).f3), .int .i64 ((qC t188 x17_1).f4), .int .i64 ((qC t188 x17_1).f5)] from (qSC _ _ _ (⟨((qC t188 x17_1).f0), ((qC t188 x17_1).f1), ((qC t188 x17_1).f2), ((qC t188 x17_1).f3), ((qC t188 x17_1).f4), ((qC t188 x17_1).f5)⟩ : S39) )) (Reps.none _ _)))
                 intro v232 w55 ho56 hb hg_ hnew_
                 clear hg_ hnew_
                 (first | rw [← Ny231.out] at ho56 | (simp only [Int.reduceToNat] at ho56; rw [← Ny231.out] at ho56))
                 have HO233 := aM (Kd.qx (Kd.qNB (Kd.qNB (Kd.qsA (Kd.qsA (Kd.qsA ho56 (Kd.R_lt (rR HO_5))) (Kd.R_lt (rR HO_13))) (Kd.R_lt (rR HO223))) (rB BK187)) (rB BK195)) (qL bl))
                 replace HO_5 := aM (Kd.qMA (rR HO_5) (Kd.qfA ho56) hb)
                 replace HO_13 := aM (Kd.qMA (rR HO_13) (Kd.qfA ho56) hb)
                 replace HO223 := aM (Kd.qMA (rR HO223) (Kd.qfA ho56) hb)
                 replace BK187 := aM (bb BK187 hb)
                 replace BK195 := aM (bb BK195 hb)
                 replace HR227 := aM (Kd.qg (by repeat (first | (with_reducible exact HR227.out) | (with_reducible refine Kd.qW ?_ _) | (with_reducible refine Kd.qV ?_ _) | (with_reducible refine Kd.qe ?_) | exact HR227.out)) hb)
                 replace HB := aM (qB bl hb)
                 clear hb ho56
                 refine hK.out _ _ ⟨bc BK195 0, bc BK195 1, bc BK195 2, bc BK195 3, bc BK195 4, bc BK195 5⟩ (fun hHeld => ?_)
                 clear hK K
                 refine norm_ (a' := ?_) ?_ ?_
                 rotate_left
                 ·show Act.put _ (some 41) _ = _
                  simp only [Act.put, List.setIfInBounds_toArray, List.set_cons_zero, List.set_cons_succ, i64_w, i32_w]
                  rfl
                 refine one_ (i := 4) (N := some 39) #[true, true, true, true, true, true, true, false, false] rfl rfl (qUA HT_.out (by kernel_rfl)) (by decide) (fun K hK => ?_)
                 refine Kd.qDA k39 (w0 := w) w.heap.size (by rfl) (.tmp 35) (.tmp 38) 79 39 (.agg #[(.int .i64 0), (.int .i64 0), (.int .i64 0), (.int .i64 0), (.int .i64 0), (.int .i64 0)]) 48 rfl Tryd.underlying79 info39 rfl (by decide) (by omega) v222 y221 y224 _ _ _ (fun k_ => some k_ ≠ (.slice Ao50 x5_1.length co50 : Value).ownBlock ∧ some k_ ≠ (.slice (some ad194) t188.length co6 : Value).ownBlock ∧ some k_ ≠ (v232 : Value).ownBlock ∧ k_ ≠ gb187 ∧ k_ ≠ gb195) (fun _ => False) rfl rfl ?aO ?aR (fun _ _ h => h) (fun _ h => h.elim) ?aF ?aB ?aS ?aL ?_
                 (case aR => repeat (first | exact (by repeat (first | (with_reducible exact HR227.out) | (with_reducible refine Kd.qW ?_ _) | (with_reducible refine Kd.qV ?_ _) | (with_reducible refine Kd.qe ?_) | exact HR227.out)) | (with_reducible refine Kd.qW ?_ _) | (with_reducible refine Kd.qV ?_ _) | (with_reducible refine Kd.qe ?_)))
                 (case aB => exact bl)
                 (case aF => exact (fun k_ hk => ⟨Kd.fresh' (Kd.R_lt (rR HO_5)) k_ hk, Kd.fresh' (Kd.R_lt (rR HO_13)) k_ hk, Kd.fresh' (Kd.R_lt (rR HO233)) k_ hk, Kd.freshB (rB BK187) k_ hk, Kd.freshB (rB BK195) k_ hk⟩))
                 (case aO => exact (by (with_reducible repeat (first | apply Kd.qO | apply Kd.qQ | apply Kd.qS)); exact Kd.qZ HO223.out (fun _ hk => ⟨hk.1.1.1.1.2, ⟨hk.1.1.1.2, ⟨hk.2, ⟨hk.1.1.2, hk.1.2⟩⟩⟩⟩)))
                 (case aS => exact (qL bl))
                 (case aL => have := LMc44.out; omega)
                 intro v229 w57 ho hb hg hat
                 rw [← Ny228.out] at ho
                 have HO230 := aM (ho)
                 replace HO_13 := aM (Kd.qJA (ok := (fun k_ => some k_ ≠ (.slice Ao50 x5_1.length co50 : Value).ownBlock ∧ some k_ ≠ (v232 : Value).ownBlock ∧ k_ ≠ gb187 ∧ k_ ≠ gb195)) (by (with_reducible repeat (first | apply Kd.qO | apply Kd.qQ | apply Kd.qS)); exact Kd.qZ HO_13.out (fun _ hk => ⟨⟨hk.1.1.1, ⟨hk.2, ⟨hk.1.1.2.1, hk.1.1.2.2⟩⟩⟩, hk.1.2⟩)) hg hat)
                 replace BK187 := aM (qi (rB BK187) hg (Kd.qJB HO223.out (fun _ hk => hk.1.1.2)))
                 replace BK195 := aM (qi (rB BK195) hg (Kd.qJB HO223.out (fun _ hk => hk.1.2)))
                 replace HO233 := aM (Kd.qJA (ok := (fun k_ => some k_ ≠ (.slice Ao50 x5_1.length co50 : Value).ownBlock ∧ some k_ ≠ (.slice (some ad194) t188.length co6 : Value).ownBlock ∧ k_ ≠ gb187 ∧ k_ ≠ gb195)) (by (with_reducible repeat (first | apply Kd.qO | apply Kd.qQ | apply Kd.qS)); exact Kd.qZ HO233.out (fun _ hk => ⟨⟨hk.1.1.1.1.2, ⟨hk.1.1.1.2, ⟨hk.1.2, hk.2⟩⟩⟩, hk.1.1.2⟩)) hg hat)
                 replace HB := aM (hb)
                 replace HR227 := aM ((show Kd.C k39 w57 Ao50 y224.length y224 from by rw [Ny224.out]; exact Kd.qUC (m := (x8_2 : Int).toNat) ((Kd.qP (Kd.qJA (ok := (fun k_ => some k_ ≠ (.slice (some ad194) t188.length co6 : Value).ownBlock ∧ some k_ ≠ (v232 : Value).ownBlock ∧ k_ ≠ gb187 ∧ k_ ≠ gb195)) (by (with_reducible repeat (first | apply Kd.qO | apply Kd.qQ | apply Kd.qS)); exact Kd.qZ HO_5.out (fun _ hk => ⟨⟨hk.1.1.1, ⟨hk.2, ⟨hk.1.1.2.1, hk.1.1.2.2⟩⟩⟩, hk.1.2⟩)) hg hat)).2.2) KL52.out))
                 replace HO_5 := aM (Kd.qJA (ok := (fun k_ => some k_ ≠ (.slice (some ad194) t188.length co6 : Value).ownBlock ∧ some k_ ≠ (v232 : Value).ownBlock ∧ k_ ≠ gb187 ∧ k_ ≠ gb195)) (by (with_reducible repeat (first | apply Kd.qO | apply Kd.qQ | apply Kd.qS)); exact Kd.qZ HO_5.out (fun _ hk => ⟨⟨hk.1.1.1, ⟨hk.2, ⟨hk.1.1.2.1, hk.1.1.2.2⟩⟩⟩, hk.1.2⟩)) hg hat)
                 clear HO223
                 clear ho hb hg hat
                 refine hK.out _ _ ⟨bc BK195 0, bc BK195 1, bc BK195 2, bc BK195 3, bc BK195 4, bc BK195 5⟩ (fun hHeld => ?_)
                 clear hK K
                 refine norm_ (a' := ?_) ?_ ?_
                 rotate_left
                 ·show Act.put _ (some 39) _ = _
                  simp only [Act.put, List.setIfInBounds_toArray, List.set_cons_zero, List.set_cons_succ, i64_w, i32_w]
                  rfl
                 exact norm_ (by simp only [putAll, Act.put, List.setIfInBounds_toArray, List.set_cons_zero, List.set_cons_succ]) (hCont (v222, v229, v232) _ ⟨hHeld, (by (with_reducible repeat (first | apply Kd.qO | apply Kd.qQ | apply Kd.qS)); exact Kd.qZ HO230.out (fun _ hk => ⟨hk.2.2.1, ⟨hk.2.1, ⟨hk.1, ⟨hk.2.2.2.1, hk.2.2.2.2⟩⟩⟩⟩)), (by (with_reducible repeat (first | apply Kd.qO | apply Kd.qQ | apply Kd.qS)); exact Kd.qZ HO233.out (fun _ hk => ⟨hk.2, ⟨hk.1.2.1, ⟨hk.1.1, ⟨hk.1.2.2.1, hk.1.2.2.2⟩⟩⟩⟩)), (by (with_reducible repeat (first | apply Kd.qO | apply Kd.qQ | apply Kd.qS)); exact Kd.qZ HO_13.out (fun _ hk => ⟨hk.2, ⟨hk.1.2.1, ⟨hk.1.1, ⟨hk.1.2.2.1, hk.1.2.2.2⟩⟩⟩⟩)), (by (with_reducible repeat (first | apply Kd.qO | apply Kd.qQ | apply Kd.qS)); exact Kd.qZ HO_5.out (fun _ hk => ⟨hk.2, ⟨hk.1.2.1, ⟨hk.1.1, ⟨hk.1.2.2.1, hk.1.2.2.2⟩⟩⟩⟩)), (rB BK187), (rB BK195), bl⟩)
               ·skip
                refine Kd.qhA k39 _ 39 ?hg (N := 41) ?hd (xs := ([(⟨((qC t188 x17_1).f0), ((qC t188 x17_1).f1), ((qC t188 x17_1).f2), ((qC t188 x17_1).f3), ((qC t188 x17_1).f4), ((qC t188 x17_1).f5)⟩ : S39)] : List (S39))) (inner := [.int .i64 ((qC t188 x17_1).f0), .int .i64 ((qC t188 x17_1).f1), .int .i64 ((qC t188 x17_1).f2), .int .i64 ((qC t188 x17_1).f3), .int .i64 ((qC t188 x17_1).f4), .int .i64 ((qC t188 x17_1).f5)]) (ok := fun _ => True) (okp := fun _ => True) ?hr ?hp (fun _ hk => hk) trivial (Below.refl _ _) (Nat.le_refl _) (by simp) ?_; (case hd => rfl); (case hg => rfl); (case hr => exact gS); (case hp => exact (Reps.c6 (show Kd.M k39 _ _ _ (⟨((qC t188 x17_1).f0), ((qC t188 x17_1).f1), ((qC t188 x17_1).f2), ((qC t188 x17_1).f3), ((qC t188 x17_1).f4), ((qC t188 x17_1).f5)⟩ : S39) [.int .i64 ((qC t188 x17_1).f0), .int .i64 ((qC t188 x17_1).f1), .int .i64 ((qC t188 x17_1).f2), .int .i64 ((qC t188 x17_1).f3), .int .i64 ((qC t188 x17_1).f4), .int .i64 ((qC t188 x17_1).f5)] from (qSC _ _ _ (⟨((qC t188 x17_1).f0), ((qC t188 x17_1).f1), ((qC t188 x17_1).f2), ((qC t188 x17_1).f3), ((qC t188 x17_1).f4), ((qC t188 x17_1).f5)⟩ : S39) )) (Reps.none _ _)))
                intro v232 w53 ho54 hb hg_ hnew_
                clear hg_ hnew_
                (first | rw [← Ny231.out] at ho54 | (simp only [Int.reduceToNat] at ho54; rw [← Ny231.out] at ho54))
                have HO233 := aM (Kd.qx (Kd.qNB (Kd.qNB (Kd.qsA (Kd.qsA ho54 (Kd.R_lt (rR HO_5))) (Kd.R_lt (rR HO_13))) (rB BK187)) (rB BK195)) (qL bl))
                replace HO_5 := aM (Kd.qMA (rR HO_5) (Kd.qfA ho54) hb)
                replace HO_13 := aM (Kd.qMA (rR HO_13) (Kd.qfA ho54) hb)
                replace BK187 := aM (bb BK187 hb)
                replace BK195 := aM (bb BK195 hb)
                replace HR227 := aM (Kd.qg (by repeat (first | (with_reducible exact HR227.out) | (with_reducible refine Kd.qW ?_ _) | (with_reducible refine Kd.qV ?_ _) | (with_reducible refine Kd.qe ?_) | exact HR227.out)) hb)
                replace HB := aM (qB bl hb)
                clear hb ho54
                refine hK.out _ _ ⟨bc BK195 0, bc BK195 1, bc BK195 2, bc BK195 3, bc BK195 4, bc BK195 5⟩ (fun hHeld => ?_)
                clear hK K
                refine norm_ (a' := ?_) ?_ ?_
                rotate_left
                ·show Act.put _ (some 41) _ = _
                 simp only [Act.put, List.setIfInBounds_toArray, List.set_cons_zero, List.set_cons_succ, i64_w, i32_w]
                 rfl
                refine one_ (i := 0) (N := some 35) #[true, true, true, true, false, true, true, false, false] rfl rfl (qUA HT_.out (by kernel_rfl)) (by decide) (fun K hK => ?_)
                refine Kd.qhA k39 _ 39 ?hg (N := 35) ?hd (xs := ([] : List (S39))) (inner := []) (ok := fun _ => True) (okp := fun _ => True) ?hr ?hp (fun _ hk => hk) trivial (Below.refl _ _) (Nat.le_refl _) (by simp) ?_; (case hd => rfl); (case hg => rfl); (case hr => exact gS); (case hp => exact (Reps.none _ _))
                intro v222 w55 ho56 hb hg_ hnew_
                clear hg_ hnew_
                (first | rw [← Ny221.out] at ho56 | (simp only [Int.reduceToNat] at ho56; rw [← Ny221.out] at ho56))
                have HO223 := aM (Kd.qx (Kd.qNB (Kd.qNB (Kd.qsA (Kd.qsA (Kd.qsA ho56 (Kd.R_lt (rR HO_5))) (Kd.R_lt (rR HO_13))) (Kd.R_lt (rR HO233))) (rB BK187)) (rB BK195)) (qL bl))
                replace HO_5 := aM (Kd.qMA (rR HO_5) (Kd.qfA ho56) hb)
                replace HO_13 := aM (Kd.qMA (rR HO_13) (Kd.qfA ho56) hb)
                replace HO233 := aM (Kd.qMA (rR HO233) (Kd.qfA ho56) hb)
                replace BK187 := aM (bb BK187 hb)
                replace BK195 := aM (bb BK195 hb)
                replace HR227 := aM (Kd.qg (by repeat (first | (with_reducible exact HR227.out) | (with_reducible refine Kd.qW ?_ _) | (with_reducible refine Kd.qV ?_ _) | (with_reducible refine Kd.qe ?_) | exact HR227.out)) hb)
                replace HB := aM (qB bl hb)
                clear hb ho56
                refine hK.out _ _ ⟨bc BK195 0, bc BK195 1, bc BK195 2, bc BK195 3, bc BK195 4, bc BK195 5⟩ (fun hHeld => ?_)
                clear hK K
                refine norm_ (a' := ?_) ?_ ?_
                rotate_left
                ·show Act.put _ (some 35) _ = _
                 simp only [Act.put, List.setIfInBounds_toArray, List.set_cons_zero, List.set_cons_succ, i64_w, i32_w]
                 rfl
                refine one_ (i := 4) (N := some 39) #[true, true, true, true, true, true, true, false, false] rfl rfl (qUA HT_.out (by kernel_rfl)) (by decide) (fun K hK => ?_)
                refine Kd.qDA k39 (w0 := w) w.heap.size (by rfl) (.tmp 35) (.tmp 38) 79 39 (.agg #[(.int .i64 0), (.int .i64 0), (.int .i64 0), (.int .i64 0), (.int .i64 0), (.int .i64 0)]) 48 rfl Tryd.underlying79 info39 rfl (by decide) (by omega) v222 y221 y224 _ _ _ (fun k_ => some k_ ≠ (.slice Ao50 x5_1.length co50 : Value).ownBlock ∧ some k_ ≠ (.slice (some ad194) t188.length co6 : Value).ownBlock ∧ some k_ ≠ (v232 : Value).ownBlock ∧ k_ ≠ gb187 ∧ k_ ≠ gb195) (fun _ => False) rfl rfl ?aO ?aR (fun _ _ h => h) (fun _ h => h.elim) ?aF ?aB ?aS ?aL ?_
                (case aR => repeat (first | exact (by repeat (first | (with_reducible exact HR227.out) | (with_reducible refine Kd.qW ?_ _) | (with_reducible refine Kd.qV ?_ _) | (with_reducible refine Kd.qe ?_) | exact HR227.out)) | (with_reducible refine Kd.qW ?_ _) | (with_reducible refine Kd.qV ?_ _) | (with_reducible refine Kd.qe ?_)))
                (case aB => exact bl)
                (case aF => exact (fun k_ hk => ⟨Kd.fresh' (Kd.R_lt (rR HO_5)) k_ hk, Kd.fresh' (Kd.R_lt (rR HO_13)) k_ hk, Kd.fresh' (Kd.R_lt (rR HO233)) k_ hk, Kd.freshB (rB BK187) k_ hk, Kd.freshB (rB BK195) k_ hk⟩))
                (case aO => exact (by (with_reducible repeat (first | apply Kd.qO | apply Kd.qQ | apply Kd.qS)); exact Kd.qZ HO223.out (fun _ hk => ⟨hk.1.1.1.1.2, ⟨hk.1.1.1.2, ⟨hk.1.1.2, ⟨hk.1.2, hk.2⟩⟩⟩⟩)))
                (case aS => exact (qL bl))
                (case aL => have := LMc44.out; omega)
                intro v229 w57 ho hb hg hat
                rw [← Ny228.out] at ho
                have HO230 := aM (ho)
                replace HO_13 := aM (Kd.qJA (ok := (fun k_ => some k_ ≠ (.slice Ao50 x5_1.length co50 : Value).ownBlock ∧ some k_ ≠ (v232 : Value).ownBlock ∧ k_ ≠ gb187 ∧ k_ ≠ gb195)) (by (with_reducible repeat (first | apply Kd.qO | apply Kd.qQ | apply Kd.qS)); exact Kd.qZ HO_13.out (fun _ hk => ⟨⟨hk.1.1.1, ⟨hk.1.2, ⟨hk.1.1.2.1, hk.1.1.2.2⟩⟩⟩, hk.2⟩)) hg hat)
                replace BK187 := aM (qi (rB BK187) hg (Kd.qJB HO223.out (fun _ hk => hk.1.2)))
                replace BK195 := aM (qi (rB BK195) hg (Kd.qJB HO223.out (fun _ hk => hk.2)))
                replace HO233 := aM (Kd.qJA (ok := (fun k_ => some k_ ≠ (.slice Ao50 x5_1.length co50 : Value).ownBlock ∧ some k_ ≠ (.slice (some ad194) t188.length co6 : Value).ownBlock ∧ k_ ≠ gb187 ∧ k_ ≠ gb195)) (by (with_reducible repeat (first | apply Kd.qO | apply Kd.qQ | apply Kd.qS)); exact Kd.qZ HO233.out (fun _ hk => ⟨⟨hk.1.1.1.1.2, ⟨hk.1.1.1.2, ⟨hk.1.1.2, hk.1.2⟩⟩⟩, hk.2⟩)) hg hat)
                replace HB := aM (hb)
                replace HR227 := aM ((show Kd.C k39 w57 Ao50 y224.length y224 from by rw [Ny224.out]; exact Kd.qUC (m := (x8_2 : Int).toNat) ((Kd.qP (Kd.qJA (ok := (fun k_ => some k_ ≠ (.slice (some ad194) t188.length co6 : Value).ownBlock ∧ some k_ ≠ (v232 : Value).ownBlock ∧ k_ ≠ gb187 ∧ k_ ≠ gb195)) (by (with_reducible repeat (first | apply Kd.qO | apply Kd.qQ | apply Kd.qS)); exact Kd.qZ HO_5.out (fun _ hk => ⟨⟨hk.1.1.1, ⟨hk.1.2, ⟨hk.1.1.2.1, hk.1.1.2.2⟩⟩⟩, hk.2⟩)) hg hat)).2.2) KL52.out))
                replace HO_5 := aM (Kd.qJA (ok := (fun k_ => some k_ ≠ (.slice (some ad194) t188.length co6 : Value).ownBlock ∧ some k_ ≠ (v232 : Value).ownBlock ∧ k_ ≠ gb187 ∧ k_ ≠ gb195)) (by (with_reducible repeat (first | apply Kd.qO | apply Kd.qQ | apply Kd.qS)); exact Kd.qZ HO_5.out (fun _ hk => ⟨⟨hk.1.1.1, ⟨hk.1.2, ⟨hk.1.1.2.1, hk.1.1.2.2⟩⟩⟩, hk.2⟩)) hg hat)
                clear HO223
                clear ho hb hg hat
                refine hK.out _ _ ⟨bc BK195 0, bc BK195 1, bc BK195 2, bc BK195 3, bc BK195 4, bc BK195 5⟩ (fun hHeld => ?_)
                clear hK K
                refine norm_ (a' := ?_) ?_ ?_
                rotate_left
                ·show Act.put _ (some 39) _ = _
                 simp only [Act.put, List.setIfInBounds_toArray, List.set_cons_zero, List.set_cons_succ, i64_w, i32_w]
                 rfl
                exact norm_ (by simp only [putAll, Act.put, List.setIfInBounds_toArray, List.set_cons_zero, List.set_cons_succ]) (hCont (v222, v229, v232) _ ⟨hHeld, (by (with_reducible repeat (first | apply Kd.qO | apply Kd.qQ | apply Kd.qS)); exact Kd.qZ HO230.out (fun _ hk => ⟨hk.2.2.1, ⟨hk.2.1, ⟨hk.1, ⟨hk.2.2.2.1, hk.2.2.2.2⟩⟩⟩⟩)), (by (with_reducible repeat (first | apply Kd.qO | apply Kd.qQ | apply Kd.qS)); exact Kd.qZ HO233.out (fun _ hk => ⟨hk.2, ⟨hk.1.2.1, ⟨hk.1.1, ⟨hk.1.2.2.1, hk.1.2.2.2⟩⟩⟩⟩)), (by (with_reducible repeat (first | apply Kd.qO | apply Kd.qQ | apply Kd.qS)); exact Kd.qZ HO_13.out (fun _ hk => ⟨hk.2, ⟨hk.1.2.1, ⟨hk.1.1, ⟨hk.1.2.2.1, hk.1.2.2.2⟩⟩⟩⟩)), (by (with_reducible repeat (first | apply Kd.qO | apply Kd.qQ | apply Kd.qS)); exact Kd.qZ HO_5.out (fun _ hk => ⟨hk.2, ⟨hk.1.2.1, ⟨hk.1.1, ⟨hk.1.2.2.1, hk.1.2.2.2⟩⟩⟩⟩)), (rB BK187), (rB BK195), bl⟩)
              rintro ⟨v222, v229, v232⟩ w58 ⟨hS_, h0_, h1_, h2_, h3_, h4_, h5_, h6_⟩
              have n0_ : Aside0 (Kd.R k39 39 w58 w.heap.size (fun k_ => some k_ ≠ (v232 : Value).ownBlock ∧ some k_ ≠ (.slice (some ad194) t188.length co6 : Value).ownBlock ∧ some k_ ≠ (.slice Ao50 x5_1.length co50 : Value).ownBlock ∧ k_ ≠ gb187 ∧ k_ ≠ gb195) v229 y228) := ⟨h0_⟩
              have n1_ : Aside0 (Kd.R k39 39 w58 w.heap.size (fun k_ => some k_ ≠ (v229 : Value).ownBlock ∧ some k_ ≠ (.slice (some ad194) t188.length co6 : Value).ownBlock ∧ some k_ ≠ (.slice Ao50 x5_1.length co50 : Value).ownBlock ∧ k_ ≠ gb187 ∧ k_ ≠ gb195) v232 y231) := ⟨h1_⟩
              have n2_ : Aside0 (Kd.R k39 39 w58 w.heap.size (fun k_ => some k_ ≠ (v229 : Value).ownBlock ∧ some k_ ≠ (v232 : Value).ownBlock ∧ some k_ ≠ (.slice Ao50 x5_1.length co50 : Value).ownBlock ∧ k_ ≠ gb187 ∧ k_ ≠ gb195) (.slice (some ad194) t188.length co6) t188) := ⟨h2_⟩
              have n3_ : Aside0 (Kd.R k39 39 w58 w.heap.size (fun k_ => some k_ ≠ (v229 : Value).ownBlock ∧ some k_ ≠ (v232 : Value).ownBlock ∧ some k_ ≠ (.slice (some ad194) t188.length co6 : Value).ownBlock ∧ k_ ≠ gb187 ∧ k_ ≠ gb195) (.slice Ao50 x5_1.length co50) x5_1) := ⟨h3_⟩
              have n4_ : Aside0 (w58.heap[gb187]? = some (.cells #[.int .i64 a0_0, .int .i64 a0_1, .int .i64 a0_2, .int .i64 a0_3, .int .i64 a0_4, .int .i64 a0_5] 39 (0, 0))) := ⟨h4_⟩
              have n5_ : Aside0 (w58.heap[gb195]? = some (.cells #[.int .i64 ((qC t188 x17_1).f0), .int .i64 ((qC t188 x17_1).f1), .int .i64 ((qC t188 x17_1).f2), .int .i64 ((qC t188 x17_1).f3), .int .i64 ((qC t188 x17_1).f4), .int .i64 ((qC t188 x17_1).f5)] 39 (0, 0))) := ⟨h5_⟩
              have n6_ : Aside0 (Below w.heap.size w w58) := ⟨h6_⟩
              clear HO_5 HO_13 BK187 BK195 HB h0_ h1_ h2_ h3_ h4_ h5_ h6_
              have HO230 := n0_
              have HO233 := n1_
              have HO_13 := n2_
              have HO_5 := n3_
              have BK187 := n4_
              have BK195 := n5_
              have HB := n6_
              clear n0_ n1_ n2_ n3_ n4_ n5_ n6_
              have hHeld : w58.cell? ⟨gb195, 0, none⟩ = some (.int .i64 ((qC t188 x17_1).f0)) ∧ w58.cell? ⟨gb195, 1, none⟩ = some (.int .i64 ((qC t188 x17_1).f1)) ∧ w58.cell? ⟨gb195, 2, none⟩ = some (.int .i64 ((qC t188 x17_1).f2)) ∧ w58.cell? ⟨gb195, 3, none⟩ = some (.int .i64 ((qC t188 x17_1).f3)) ∧ w58.cell? ⟨gb195, 4, none⟩ = some (.int .i64 ((qC t188 x17_1).f4)) ∧ w58.cell? ⟨gb195, 5, none⟩ = some (.int .i64 ((qC t188 x17_1).f5)) := hS_
              obtain ⟨Ao60, co60, eo60⟩ := Kd.qBA HO233.out
              (first | subst eo60 | (injection eo60 with f1_ f2_ f3_; have f4_ := f1_.symm; have f5_ := f3_.symm; clear f1_ f2_ f3_; subst f4_; subst f5_))
              refine norm_ (a' := ?_) ?_ ?_
              rotate_left
              ·simp only [putAll, Act.put, List.setIfInBounds_toArray, List.set_cons_zero, List.set_cons_succ]
               rfl
              refine one_ (i := 7) (N := some 42) #[true, true, true, true, true, true, true, true, false] rfl rfl (qUA HT_.out (by kernel_rfl)) (by decide) (fun K hK => ?_)
              refine Kd.qDA k39 (w0 := w) w.heap.size (by rfl) (.tmp 39) (.tmp 41) 79 39 (.agg #[(.int .i64 0), (.int .i64 0), (.int .i64 0), (.int .i64 0), (.int .i64 0), (.int .i64 0)]) 48 rfl Tryd.underlying79 info39 rfl (by decide) (by omega) v229 y228 y231 _ _ _ (fun k_ => some k_ ≠ (.slice Ao50 x5_1.length co50 : Value).ownBlock ∧ some k_ ≠ (.slice (some ad194) t188.length co6 : Value).ownBlock ∧ some k_ ≠ (.slice Ao60 y231.length co60 : Value).ownBlock ∧ k_ ≠ gb187 ∧ k_ ≠ gb195) (fun _ => False) rfl rfl ?aO ?aR (fun _ _ h => h) (fun _ h => h.elim) ?aF ?aB ?aS ?aL ?_
              (case aR => repeat (first | exact (Kd.qP HO233.out).2.2 | (with_reducible refine Kd.qW ?_ _) | (with_reducible refine Kd.qV ?_ _) | (with_reducible refine Kd.qe ?_)))
              (case aB => exact bl)
              (case aF => exact (fun k_ hk => ⟨Kd.fresh' (Kd.R_lt (rR HO_5)) k_ hk, Kd.fresh' (Kd.R_lt (rR HO_13)) k_ hk, Kd.fresh' (Kd.R_lt (rR HO233)) k_ hk, Kd.freshB (rB BK187) k_ hk, Kd.freshB (rB BK195) k_ hk⟩))
              (case aO => exact (by (with_reducible repeat (first | apply Kd.qO | apply Kd.qQ | apply Kd.qS)); exact Kd.qZ HO230.out (fun _ hk => ⟨hk.2.2.1, ⟨hk.2.1, ⟨hk.1, ⟨hk.2.2.2.1, hk.2.2.2.2⟩⟩⟩⟩)))
              (case aS => exact (qL bl))
              (case aL => have := LMc45.out; omega)
              intro v235 w59 ho hb hg hat
              rw [← Ny234.out] at ho
              have HO236 := aM (ho)
              replace HO_5 := aM (Kd.qJA (ok := (fun k_ => some k_ ≠ (.slice (some ad194) t188.length co6 : Value).ownBlock ∧ some k_ ≠ (.slice Ao60 y231.length co60 : Value).ownBlock ∧ k_ ≠ gb187 ∧ k_ ≠ gb195)) (by (with_reducible repeat (first | apply Kd.qO | apply Kd.qQ | apply Kd.qS)); exact Kd.qZ HO_5.out (fun _ hk => ⟨⟨hk.2.2.1, ⟨hk.2.1, ⟨hk.2.2.2.1, hk.2.2.2.2⟩⟩⟩, hk.1⟩)) hg hat)
              replace HO_13 := aM (Kd.qJA (ok := (fun k_ => some k_ ≠ (.slice Ao50 x5_1.length co50 : Value).ownBlock ∧ some k_ ≠ (.slice Ao60 y231.length co60 : Value).ownBlock ∧ k_ ≠ gb187 ∧ k_ ≠ gb195)) (by (with_reducible repeat (first | apply Kd.qO | apply Kd.qQ | apply Kd.qS)); exact Kd.qZ HO_13.out (fun _ hk => ⟨⟨hk.2.2.1, ⟨hk.2.1, ⟨hk.2.2.2.1, hk.2.2.2.2⟩⟩⟩, hk.1⟩)) hg hat)
              replace BK187 := aM (qi (rB BK187) hg (Kd.qJB HO230.out (fun _ hk => hk.2.2.2.1)))
              replace BK195 := aM (qi (rB BK195) hg (Kd.qJB HO230.out (fun _ hk => hk.2.2.2.2)))
              replace HO233 := aM (Kd.qJA (ok := (fun k_ => some k_ ≠ (.slice Ao50 x5_1.length co50 : Value).ownBlock ∧ some k_ ≠ (.slice (some ad194) t188.length co6 : Value).ownBlock ∧ k_ ≠ gb187 ∧ k_ ≠ gb195)) (by (with_reducible repeat (first | apply Kd.qO | apply Kd.qQ | apply Kd.qS)); exact Kd.qZ HO233.out (fun _ hk => ⟨⟨hk.2.2.1, ⟨hk.2.1, ⟨hk.2.2.2.1, hk.2.2.2.2⟩⟩⟩, hk.1⟩)) hg hat)
              replace HB := aM (hb)
              clear HO230
              clear ho hb hg hat
              refine hK.out _ _ ⟨bc BK195 0, bc BK195 1, bc BK195 2, bc BK195 3, bc BK195 4, bc BK195 5⟩ (fun hHeld => ?_)
              clear hK K
              refine norm_ (a' := ?_) ?_ ?_
              rotate_left
              ·show Act.put _ (some 42) _ = _
               simp only [Act.put, List.setIfInBounds_toArray, List.set_cons_zero, List.set_cons_succ, i64_w, i32_w]
               rfl
              refine pS (i := 8) (N := some 9) #[true, true, true, true, true, true, true, true, true] HT_ ?_
              refine done_ (qrA HT_.out (by kernel_rfl)) ?_
              have q61 : (x8_2 : Int) ≤ ((x5_1.length : Int) : Int) := of_decide_eq_true am
              obtain ⟨i061, hi061, _, hsz61, _⟩ := info_parts info39
              have hroom61 : x5_1.length ≤ co50 := (Kd.qP HO_5.out).2.1
              have hC61 : Kd.C k39 _ Ao50 x5_1.length x5_1 := (Kd.qP HO_5.out).2.2
              have q061 : (0 : Int) ≤ (x8_2 : Int) := of_decide_eq_true am
              have hcut61 := cut_from (P := Tryd.prog) 79 39 .i64 Tryd.underlying79 hi061 6 hsz61 Ao50 x5_1.length co50 x8_2 q061 q61
              have hr61 := Kd.qPE (m := (x8_2 : Int).toNat) (c := co50) hC61 (by omega) hroom61
              obtain ⟨A61, hA61⟩ : ∃ A1, A1 = (if co50 = (x8_2 : Int).toNat then Ao50 else (Ao50 : Option Addr).map (·.add ((x8_2 : Int).toNat * 6))) := ⟨_, rfl⟩
              obtain ⟨c61, hc61⟩ : ∃ c1, c1 = co50 - (x8_2 : Int).toNat := ⟨_, rfl⟩
              have hy61 : y237.length = x5_1.length - (x8_2 : Int).toNat := (by rw [Ny237.out, List.length_drop] <;> omega)
              rw [show (x5_1).drop (x8_2 : Int).toNat = y237 from Ny237.out.symm] at hr61
              replace hr61 : Kd.C k39 _ A61 y237.length y237 := (by rw [hA61]; exact hr61)
              rw [← hy61, ← hA61, ← hc61] at hcut61
              have HR240 := aM hr61
              have HC240 := aM (show y237.length ≤ c61 from by rw [hy61, hc61]; exact Nat.sub_le_sub_right hroom61 _)
              clear hr61 hC61 hroom61 hi061 hsz61 hc61
              have KY61 := aM hy61
              have KA61 := aM hA61
              clear hy61 hA61
              have KL61 := aM (show (x8_2 : Int).toNat ≤ x5_1.length from by omega)
              replace q61 := eq_true q61
              try go_wp2_with (first | ((with_reducible refine qpA (b := .append) (xs := #[.tmp 43, .tmp 46]) rfl ?_); at_builtin; refine Kd.qtB k39 (w0 := w) w.heap.size rfl (.tmp 43) (.tmp 46) 79 39 (.agg #[(.int .i64 0), (.int .i64 0), (.int .i64 0), (.int .i64 0), (.int .i64 0), (.int .i64 0)]) 48 rfl Tryd.underlying79 info39 rfl (by decide) (by omega) v235 y234 y237 _ _ _ (fun k_ => some k_ ≠ (.slice Ao50 x5_1.length co50 : Value).ownBlock ∧ some k_ ≠ (.slice (some ad194) t188.length co6 : Value).ownBlock ∧ some k_ ≠ (.slice Ao60 y231.length co60 : Value).ownBlock ∧ k_ ≠ gb187 ∧ k_ ≠ gb195) (fun _ => False) rfl rfl ?aO ?aR (fun _ _ h => h) (fun _ h => h.elim) ?aF ?aB ?aS ?aL ?_; (case aR => repeat (first | exact (by repeat (first | (with_reducible exact HR240.out) | (with_reducible refine Kd.qW ?_ _) | (with_reducible refine Kd.qV ?_ _) | (with_reducible refine Kd.qe ?_) | exact HR240.out)) | (with_reducible refine Kd.qW ?_ _) | (with_reducible refine Kd.qV ?_ _) | (with_reducible refine Kd.qe ?_))); (case aB => exact bl); (case aF => exact (fun k_ hk => ⟨Kd.fresh' (Kd.R_lt (rR HO_5)) k_ hk, Kd.fresh' (Kd.R_lt (rR HO_13)) k_ hk, Kd.fresh' (Kd.R_lt (rR HO233)) k_ hk, Kd.freshB (rB BK187) k_ hk, Kd.freshB (rB BK195) k_ hk⟩)); (case aO => exact (rR HO236)); (case aS => exact (qL bl)); (case aL => have := LMc48.out; omega); intro v242 w62 ho hb hg hat; rw [← Ny241.out] at ho; have HO243 := aM (ho); replace HO_13 := aM (Kd.qJA (ok := (fun k_ => some k_ ≠ (.slice Ao50 x5_1.length co50 : Value).ownBlock ∧ some k_ ≠ (.slice Ao60 y231.length co60 : Value).ownBlock ∧ k_ ≠ gb187 ∧ k_ ≠ gb195)) (rR HO_13) hg hat); replace BK187 := aM (qi (rB BK187) hg (Kd.qJB HO236.out (fun _ hk => hk.2.2.2.1))); replace BK195 := aM (qi (rB BK195) hg (Kd.qJB HO236.out (fun _ hk => hk.2.2.2.2))); replace HO233 := aM (Kd.qJA (ok := (fun k_ => some k_ ≠ (.slice Ao50 x5_1.length co50 : Value).ownBlock ∧ some k_ ≠ (.slice (some ad194) t188.length co6 : Value).ownBlock ∧ k_ ≠ gb187 ∧ k_ ≠ gb195)) (rR HO233) hg hat); replace HB := aM (hb); replace HR240 := aM ((show Kd.C k39 w62 A61 y237.length y237 from by rw [Ny237.out, KA61.out]; exact Kd.qPE (m := (x8_2 : Int).toNat) (c := co50) ((Kd.qP (Kd.qJA (ok := (fun k_ => some k_ ≠ (.slice (some ad194) t188.length co6 : Value).ownBlock ∧ some k_ ≠ (.slice Ao60 y231.length co60 : Value).ownBlock ∧ k_ ≠ gb187 ∧ k_ ≠ gb195)) (rR HO_5) hg hat)).2.2) KL61.out ((Kd.qP (Kd.qJA (ok := (fun k_ => some k_ ≠ (.slice (some ad194) t188.length co6 : Value).ownBlock ∧ some k_ ≠ (.slice Ao60 y231.length co60 : Value).ownBlock ∧ k_ ≠ gb187 ∧ k_ ≠ gb195)) (rR HO_5) hg hat)).2.1))); replace HO_5 := aM (Kd.qJA (ok := (fun k_ => some k_ ≠ (.slice (some ad194) t188.length co6 : Value).ownBlock ∧ some k_ ≠ (.slice Ao60 y231.length co60 : Value).ownBlock ∧ k_ ≠ gb187 ∧ k_ ≠ gb195)) (rR HO_5) hg hat); clear HO236; clear ho hb hg hat))
              go_roundg k2
              case measure => have := HK1.out; have := HK2.out; omega
              case rel => exact ⟨(y241), (wrap64 (x17_1 + 1)), sD, H', ⟨by have := HK1.out; have := HK2.out; omega⟩, ⟨by (with_reducible repeat (first | apply Kd.qO | apply Kd.qQ | apply Kd.qS)); exact Kd.qZ HO243.out (fun _ hk => ⟨hk.2.1, hk.2.2.2.1⟩)⟩, ⟨by (with_reducible repeat (first | apply Kd.qO | apply Kd.qQ | apply Kd.qS)); exact Kd.qZ HO_13.out (fun _ hk => ⟨hk.2, hk.1.2.2.1⟩)⟩, ⟨rB BK187⟩, ⟨bl⟩⟩
             ·rw [if_neg c48] at H
              exact absurd H (by simp)
            ·rw [if_neg c45] at H
             exact absurd H (by simp)
           ·rw [if_neg c44] at H
            exact absurd H (by simp)
          ·rw [if_neg c43] at H
           exact absurd H (by simp)
         ·rw [if_neg c42] at H
          exact absurd H (by simp)
     ·rw [if_neg c9] at H
      exact absurd H (by simp)
    ·rw [if_neg c8] at H
     exact absurd H (by simp)
   ·rw [if_neg c7] at H
    have c7b0 := decide_eq_false c7
    clear c7
    obtain rfl := Option.some.inj H
    go_wp2
    go_ret
    exact ⟨_, sR, by (with_reducible repeat (first | apply Kd.qO | apply Kd.qQ | apply Kd.qS)); exact Kd.qZ HO_5.out (fun _ hk => trivial), bl⟩
def qHA.l0 : Nat → Int → List Int → Int → Int → Option (Int)
 | 0, _, _, _, _ => none
 | k + 1, x5, x18, x19, x20 => if x20 < x19 then (if 0 ≤ x20 then (if x20 < (x18.length : Int) then (qHA.l0 k (wrap64 ((wrap64 (10 * x5)) + (rd x18 x20))) x18 x19 (wrap64 (x20 + 1))) else (none)) else (none)) else (some x5)
def qHA.f (k : Nat) (a0_0 : Int) (a0_1 : Int) (l0_2 : List Int) (a1_0 : Int) (a1_1 : Int) (a1_2 : Int) (a1_3 : Int) (a1_4 : Int) (a1_5 : Int) (a1_6 : Int) (a1_7 : Int) : Option (Int) := (qGA.f a1_2 a1_3 a1_4 a1_5 a1_6 a1_7).bind fun t246 => (qHA.l0 k (wrap64 ((wrap64 (a1_1 * a0_0)) + a1_0)) t246 (t246.length : Int) 0)
set_option maxHeartbeats 8000000 in
set_option maxRecDepth 100000 in
theorem qHA.calls (k : Nat) (a0_0 : Int) (a0_1 : Int) (A0_2 : Option Addr) (c0_2 : Nat) (l0_2 : List Int) (a1_0 : Int) (a1_1 : Int) (a1_2 : Int) (a1_3 : Int) (a1_4 : Int) (a1_5 : Int) (a1_6 : Int) (a1_7 : Int) (r : Int) (w : World) (hr0_2 : Kd.C (Kd.int .u8) w A0_2 l0_2.length l0_2) (hc0_2 : l0_2.length ≤ c0_2) (h : qHA.f k a0_0 a0_1 l0_2 a1_0 a1_1 a1_2 a1_3 a1_4 a1_5 a1_6 a1_7 = some r) :
  Calls Tryd.prog 30 #[.agg #[.int .i64 a0_0, .int .i64 a0_1, .slice A0_2 l0_2.length c0_2], .agg #[.int .i64 a1_0, .int .i64 a1_1, .int .i64 a1_2, .int .i64 a1_3, .int .i64 a1_4, .int .i64 a1_5, .int .i64 a1_6, .int .i64 a1_7]] w fun e w' => e = .returned (.int .i64 r) ∧ Below w.heap.size w w' := by
 have hu32 := Tryd.underlying32
 have hu41 := Tryd.underlying41
 have hu39 := Tryd.underlying39
 have HR0_2 := aM hr0_2
 have HC0_2 := aM hc0_2
 clear hr0_2 hc0_2
 have HB := aM (Below.refl w.heap.size w)
 have H : ((qGA.f a1_2 a1_3 a1_4 a1_5 a1_6 a1_7).bind fun t246 => (qHA.l0 k (wrap64 ((wrap64 (a1_1 * a0_0)) + a1_0)) t246 (t246.length : Int) 0)) = some r := h
 clear h
 replace H := bO H
 obtain ⟨t246, A3, H⟩ := H
 have H' := aM H
 clear H
 go_enter Tryd.func30, Tryd.ntmps30
 go_wp2_with (first | ((with_reducible refine qK (N := 2) rfl ?_); refine qH ?hg (N := 2) ?hd (cs := #[.int .i64 a0_0, .int .i64 a0_1, .slice A0_2 l0_2.length c0_2]) (t := 32) ?hr ?_; (case hd => rfl); (case hg => rfl); (case hr => exact gS); intro gb244 hg w4 hbox hb; have BK244 := aM (hbox); have GW244 := aM ((gg hg)); have GE244 := aM ((gg hg)); replace HB := aM (qB bl hb); clear hb hbox hg) | ((with_reducible refine qK (N := 3) rfl ?_); refine qH ?hg (N := 3) ?hd (cs := #[.int .i64 a1_0, .int .i64 a1_1, .int .i64 a1_2, .int .i64 a1_3, .int .i64 a1_4, .int .i64 a1_5, .int .i64 a1_6, .int .i64 a1_7]) (t := 41) ?hr ?_; (case hd => rfl); (case hg => rfl); (case hr => exact gS); intro gb245 hg w5 hbox hb; have BK245 := aM (hbox); have GW245 := aM ((gg hg)); have GE245 := aM ((gg hg)); have NB244_245 := aM ((nl BK244 hg)); have NB245_244 := aM ((nr BK244 hg)); replace BK244 := aM (bb BK244 hb); replace HB := aM (qB bl hb); clear hb hbox hg; have hnb6 := NB245_244.out; have hnc6 := NB244_245.out; (refine cb8 BK245 ?_; intro hcz7_0 hcz7_1 hcz7_2 hcz7_3 hcz7_4 hcz7_5 hcz7_6 hcz7_7); (refine cz8 BK245 ?_; intro hfz7_0 hfz7_1 hfz7_2 hfz7_3 hfz7_4 hfz7_5 hfz7_6 hfz7_7); (refine cb3 BK244 ?_; intro hcz8_0 hcz8_1 hcz8_2); (refine cz3 BK244 ?_; intro hfz8_0 hfz8_1 hfz8_2)) | ((with_reducible refine qJ (f := 47) rfl ?_); refine qr (some 18) rfl rfl Tryd.func47 (by kernel_rfl) rfl #[.agg #[.int .i64 a1_2, .int .i64 a1_3, .int .i64 a1_4, .int .i64 a1_5, .int .i64 a1_6, .int .i64 a1_7]] rfl gA ?_; (with_reducible refine (qGA.calls a1_2 a1_3 a1_4 a1_5 a1_6 a1_7 t246 _ A3.out).mono ?_); rintro e w9 ⟨v247, rfl, ho0, hb⟩; refine ⟨_, rfl, ?_⟩; have HO248 := aM (Kd.qx ho0 (qL bl)); replace BK244 := aM (bb BK244 hb); replace BK245 := aM (bb BK245 hb); replace HB := aM (qB bl hb); (try clear hb); (try clear hb2); (try clear hk); (try clear hi); (try clear ho0); obtain ⟨Ao10, co10, eo10⟩ := Kd.qBA HO248.out; subst eo10))
 go_loopg [5, 20] k (fun kq v5 v20 w' => ∃ (x5_1 : Int) (x20_1 : Int), v5 = .int .i64 x5_1 ∧ v20 = .int .i64 x20_1 ∧ Aside0 (qHA.l0 kq x5_1 t246 (t246.length : Int) x20_1 = some r) ∧ Aside0 (kq ≤ k) ∧ Aside0 (Kd.R (Kd.int .i64) 3 w' w.heap.size (fun _ => True) (.slice Ao10 t246.length co10) t246) ∧ Aside0 (w'.heap[gb244]? = some (.cells #[.int .i64 a0_0, .int .i64 a0_1, (.slice A0_2 l0_2.length c0_2)] 32 (0, 0))) ∧ Aside0 (w'.heap[gb245]? = some (.cells #[.int .i64 a1_0, .int .i64 a1_1, .int .i64 a1_2, .int .i64 a1_3, .int .i64 a1_4, .int .i64 a1_5, .int .i64 a1_6, .int .i64 a1_7] 41 (0, 0))) ∧ Aside0 (Below w.heap.size w w'))
 case atStart => exact ⟨(wrap64 ((wrap64 (a1_1 * a0_0)) + a1_0)), (0), sD, sD, H', ⟨Nat.le_refl _⟩, ⟨rR HO248⟩, ⟨rB BK244⟩, ⟨rB BK245⟩, ⟨bl⟩⟩
 case round =>
  clear H'; (try clear p2); (try clear c3); (try clear c4); (try clear c6); (try clear p6); (try clear hcz7_0); (try clear hcz7_1); (try clear hcz7_2); (try clear hcz7_3); (try clear hcz7_4); (try clear hcz7_5); (try clear hcz7_6); (try clear hcz7_7); (try clear hcz8_0); (try clear hcz8_1); (try clear hcz8_2); (try clear hfz7_0); (try clear hfz7_1); (try clear hfz7_2); (try clear hfz7_3); (try clear hfz7_4); (try clear hfz7_5); (try clear hfz7_6); (try clear hfz7_7); (try clear hfz8_0); (try clear hfz8_1); (try clear hfz8_2)
  obtain ⟨x5_1, x20_1, rfl, rfl, HA, HK1, HO_18, BK244, BK245, HB⟩ := hrel
  cases gk with
  | zero => exact absurd HA.out (by simp [qHA.l0])
  | succ k1 =>
   have H := HA.out
   clear HA
   simp only [qHA.l0] at H
   by_cases c11 : x20_1 < (t246.length : Int)
   ·rw [if_pos c11] at H
    have c11b0 := decide_eq_true c11
    clear c11
    by_cases c12 : 0 ≤ x20_1
    ·rw [if_pos c12] at H
     have c12b0 := decide_eq_true c12
     clear c12
     by_cases c13 : x20_1 < (t246.length : Int)
     ·rw [if_pos c13] at H
      have c13b0 := decide_eq_true c13
      clear c13
      have H' := aM H
      clear H
      have p249 : 0 ≤ (x20_1 : Int) := of_decide_eq_true am
      have q249 : x20_1 < (t246.length : Int) := of_decide_eq_true am
      obtain ⟨ad249, e249, hx249_0⟩ := Kd.qFC (Kd.qP HO_18.out).2.2 x20_1 p249 q249
      cases e249
      replace p249 := eq_true p249
      replace q249 := eq_true q249
      go_wp2
      go_roundg k1
      case measure => have := HK1.out; omega
      case rel => exact ⟨(wrap64 ((wrap64 (10 * x5_1)) + (rd t246 x20_1))), (wrap64 (x20_1 + 1)), sD, sD, H', ⟨by have := HK1.out; omega⟩, ⟨rR HO_18⟩, ⟨rB BK244⟩, ⟨rB BK245⟩, ⟨bl⟩⟩
     ·rw [if_neg c13] at H
      exact absurd H (by simp)
    ·rw [if_neg c12] at H
     exact absurd H (by simp)
   ·rw [if_neg c11] at H
    have c11b0 := decide_eq_false c11
    clear c11
    obtain rfl := Option.some.inj H
    go_wp2
    go_ret
    exact ⟨sR, bl⟩
end Go.Proofs.YthhiiceligjleaaDoor.P
