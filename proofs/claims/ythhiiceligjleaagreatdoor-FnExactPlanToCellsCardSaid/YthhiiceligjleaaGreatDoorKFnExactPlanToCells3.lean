/- The program's PlanToCells returns what the reference's returns, for all texts, dice and cells (the law lets longer ones by). No further condition. -/
import Derived.Test.YthhiiceligjleaaGreatDoorKFnExactPlanToCells2
import Derived.Deep.QuietTactic
import Derived.BigQuiet
import Derived.Deep.MidRow
import Derived.Lib.SlBuf
import Derived.Maps.OwnSet
import Derived.DeepKeys4
import Derived.Shelf.SlGeneric
import Derived.Shelf.Small.Strs
import Derived.Shelf.Strings.Search1
import Derived.Ground.NamesProg
import Derived.Shelf.Strings.Split
import Derived.Shelf.Strings.Count
import Derived.Shelf.Strings.SlTrimAscii
import Derived.Test.YthhiiceligjleaaGreatDoorProg
import Derived.Lib.Strings
import Derived.Lib.SplitLaws

namespace Go.Proofs.YthhiiceligjleaaGreatDoor.P
open Go.RowKit Go.Proofs.YthhiiceligjleaaGreatDoorW.PrintWords Go.Proofs.YthhiiceligjleaaGreatDoorW.PrintLast Go.Proofs.YthhiiceligjleaaGreatDoorW.PrintMore
attribute [local go_sem] qh qf qr qq qZ qY qg qe
set_option linter.unusedVariables false
set_option linter.unusedSimpArgs false
mutual
def qP.l0 : Nat → List (S53) → List (List Int) → Int → Int → Int → Int → Int → List Int → Option ((List (S48)) × Bool)
 | 0, _, _, _, _, _, _, _, _ => none
 | k + 1, x1, x6, x7, x21, x22, x310000, x310001, x310002 => if x22 < x21 then (if 0 ≤ x22 then (if x22 < (x1.length : Int) then ((qZA.f k x310000 x310001 x310002 ((qA x1 x22).f0) ((qA x1 x22).f1) ((qA x1 x22).f2.f0) ((qA x1 x22).f2.f1) ((qA x1 x22).f2.f2) ((qA x1 x22).f2.f3) ((qA x1 x22).f2.f4) ((qA x1 x22).f2.f5)).bind fun t312 => (if x6.length < 5864062014805 then (qP.l0 k x1 (x6 ++ [t312]) (wrap64 (x7 * (wrap64 ((x310002.length : Int) * 24)))) x21 (wrap64 (x22 + 1)) x310000 x310001 x310002) else (none))) else (none)) else (none)) else (if 0 ≤ x7 then (if (x7 : Int).toNat ≤ 281474976710656 then ((some (List.replicate (x7 : Int).toNat false : List Bool)).bind fun y318 => ((qy.f k x310000 x310001 x310002 x6 x1).bind fun t321 => (if 0 ≤ t321 then (if t321 < (y318.length : Int) then (qP.l1 k x1 x6 (([(⟨x1, (-1), (⟨#[]⟩ : ByteArray)⟩ : S48)] : List (S48))) 0 (y318.set (t321 : Int).toNat true) x310000 x310001 x310002) else (none)) else (none)))) else (none)) else (none))
def qP.l1 : Nat → List (S53) → List (List Int) → List (S48) → Int → List Bool → Int → Int → List Int → Option ((List (S48)) × Bool)
 | 0, _, _, _, _, _, _, _, _ => none
 | k + 1, x1, x6, x11, x12, x40, x310000, x310001, x310002 => if x12 < (x11.length : Int) then (qP.l2 k x1 x6 x11 x12 x40 (x1.length : Int) 0 x310000 x310001 x310002) else (some (x11, true))
def qP.l2 : Nat → List (S53) → List (List Int) → List (S48) → Int → List Bool → Int → Int → Int → Int → List Int → Option ((List (S48)) × Bool)
 | 0, _, _, _, _, _, _, _, _, _, _ => none
 | k + 1, x1, x6, x11, x12, x40, x57, x58, x310000, x310001, x310002 => if x58 < x57 then (qP.l3 k x1 x6 x11 x12 x58 0 x40 x57 x58 x310000 x310001 x310002) else (qP.l1 k x1 x6 x11 (wrap64 (x12 + 1)) x40 x310000 x310001 x310002)
def qP.l3 : Nat → List (S53) → List (List Int) → List (S48) → Int → Int → Int → List Bool → Int → Int → Int → Int → List Int → Option ((List (S48)) × Bool)
 | 0, _, _, _, _, _, _, _, _, _, _, _, _ => none
 | k + 1, x1, x6, x11, x12, x13, x14, x40, x57, x58, x310000, x310001, x310002 => if x14 < 4 then (if 0 ≤ x12 then (if x12 < (x11.length : Int) then ((qTA.f k x310000 x310001 x310002 ((qMB x11 x12).f0) x13 x14).bind fun bt327 => (if bt327.2 = true then ((qy.f k x310000 x310001 x310002 x6 bt327.1).bind fun t331 => (if 0 ≤ t331 then (if t331 < (x40.length : Int) then (qP.j4 k x1 x6 x40 x11 x12 x13 x14 bt327.1 x57 x58 (rdOf false x40 t331) x310000 x310001 x310002) else (none)) else (none))) else (qP.j4 k x1 x6 x40 x11 x12 x13 x14 bt327.1 x57 x58 true x310000 x310001 x310002))) else (none)) else (none)) else (qP.l2 k x1 x6 x11 x12 x40 x57 (wrap64 (x58 + 1)) x310000 x310001 x310002)
def qP.j4 : Nat → List (S53) → List (List Int) → List Bool → List (S48) → Int → Int → Int → List (S53) → Int → Int → Bool → Int → Int → List Int → Option ((List (S48)) × Bool)
 | 0, _, _, _, _, _, _, _, _, _, _, _, _, _, _ => none
 | k + 1, x1, x6, x10, x11, x12, x13, x14, x15, x57, x58, x87, x310000, x310001, x310002 => if x87 = true then (qP.l3 k x1 x6 x11 x12 x13 (wrap64 (x14 + 1)) x10 x57 x58 x310000 x310001 x310002) else (if (x11.length : Int) = 6000 then (some (([] : List (S48)), false)) else ((qy.f k x310000 x310001 x310002 x6 x15).bind fun t333 => (if 0 ≤ t333 then (if t333 < (x10.length : Int) then ((qmB.f k x13 x14).bind fun t335 => (if x11.length < 2932031007402 then (qP.l3 k x1 x6 (x11 ++ [(⟨x15, x12, t335⟩ : S48)]) x12 x13 (wrap64 (x14 + 1)) (x10.set (t333 : Int).toNat true) x57 x58 x310000 x310001 x310002) else (none))) else (none)) else (none))))
end
def qP.f (k : Nat) (a0_0 : Int) (a0_1 : Int) (l0_2 : List Int) (l1 : List (S53)) : Option ((List (S48)) × Bool) := if (l1.length : Int) > 2 then (some (([] : List (S48)), false)) else (qP.l0 k l1 ([] : List (List Int)) 1 (l1.length : Int) 0 a0_0 a0_1 l0_2)
def qP.T23 : Bool × List (List Nat × List Nat) := (true, [([], []), ([], []), ([], []), ([1, 2], [1, 2]), ([3], [3]), ([4], [4]), ([], []), ([], []), ([0, 5, 6, 7], [0, 5, 6, 7]), ([8], [8]), ([9], [9]), ([9], [9]), ([10, 8, 0, 1, 2, 3, 4, 5, 6, 7, 8, 9, 10], [10]), ([11, 12, 0, 1, 2, 3, 4, 5, 6, 7, 8, 9, 10, 11, 12], [11])])
def qP.B23 : List Nat := [0, 0, 0, 6, 14, 30, 0, 0, 255, 511, 1023, 1023, 2047, 8191]
theorem qP.tab23 : rtab .any (opsOf Tryz.f20 23) = qP.T23 := by kernel_rfl
theorem qP.bits23 : waitsOk qP.T23.2 qP.B23 = true := by kernel_rfl
set_option maxHeartbeats 8000000 in
set_option maxRecDepth 100000 in
theorem qP.calls (k : Nat) (a0_0 : Int) (a0_1 : Int) (A0_2 : Option Addr) (c0_2 : Nat) (l0_2 : List Int) (P1_ : Nat → Prop) (A1 : Option Addr) (c1 : Nat) (l1 : List (S53)) (r1 : List (S48)) (r2 : Bool) (w : World) (hr0_2 : Kd.C (Kd.int .u8) w A0_2 l0_2.length l0_2) (hc0_2 : l0_2.length ≤ c0_2) (hs1 : Kd.V k53 53 w w.heap.size (fun k_ => P1_ k_) (.slice A1 l1.length c1) l1) (h : qP.f k a0_0 a0_1 l0_2 l1 = some (r1, r2)) :
  Calls Tryz.prog 20 #[.agg #[.int .i64 a0_0, .int .i64 a0_1, .slice A0_2 l0_2.length c0_2], .slice A1 l1.length c1] w fun e w' => ∃ v0_ : Value, e = .returned (.tuple #[v0_, .bool r2]) ∧ Kd.N k48 48 w' w.heap.size (fun k_ => (P1_ k_ ∨ w.heap.size ≤ k_)) v0_ r1 ∧ Below w.heap.size w w' := by
 have hu40 := Tryz.underlying40
 have hu53 := Tryz.underlying53
 have hu48 := Tryz.underlying48
 have HR0_2 := aM hr0_2
 have HC0_2 := aM hc0_2
 clear hr0_2 hc0_2
 have HO1 := aM (show Kd.V k53 53 w w.heap.size (fun k_ => (P1_ k_ ∨ w.heap.size ≤ k_)) (.slice A1 l1.length c1) l1 from Kd.qNC hs1 (fun k_ hk => .inl hk))
 have HB := aM (Below.refl w.heap.size w)
 have H : (if (l1.length : Int) > 2 then (some (([] : List (S48)), false)) else (qP.l0 k l1 ([] : List (List Int)) 1 (l1.length : Int) 0 a0_0 a0_1 l0_2)) = some (r1, r2) := h
 clear h
 by_cases c3 : (l1.length : Int) > 2
 ·rw [if_pos c3] at H
  have c3b0 := decide_eq_true c3
  have c3b1 : decide (2 < l1.length) = true := decide_eq_true (by omega)
  clear c3
  simp only [Option.some.injEq, Prod.mk.injEq] at H
  obtain ⟨rfl, rfl⟩ := H
  go_enter Tryz.func20, Tryz.ntmps20
  go_wp2_with (first | ((with_reducible refine qH (N := 2) rfl ?_); refine bE (N := 2) (cs := #[.int .i64 a0_0, .int .i64 a0_1, .slice A0_2 l0_2.length c0_2]) (t := 40) ?_; intro gb309 hg w4 hbox hb; have BK309 := aM (hbox); have GW309 := aM ((gg hg)); have GE309 := aM ((gg hg)); replace HO1 := aM (Kd.qoC (Kd.qZE (rV HO1) gb309 (Nat.le_of_eq hg.symm)) hb); replace HB := aM (qB bl hb); clear hb hbox hg))
  go_ret2
  exact ⟨_, sR, nK, bl⟩
 ·rw [if_neg c3] at H
  have c3b0 := decide_eq_false c3
  have c3b1 : decide (2 < l1.length) = false := decide_eq_false (by omega)
  clear c3
  have H' := aM H
  clear H
  go_enter Tryz.func20, Tryz.ntmps20
  go_wp2_with (first | ((with_reducible refine qH (N := 2) rfl ?_); refine bE (N := 2) (cs := #[.int .i64 a0_0, .int .i64 a0_1, .slice A0_2 l0_2.length c0_2]) (t := 40) ?_; intro gb309 hg w5 hbox hb; have BK309 := aM (hbox); have GW309 := aM ((gg hg)); have GE309 := aM ((gg hg)); replace HO1 := aM (Kd.qoC (Kd.qZE (rV HO1) gb309 (Nat.le_of_eq hg.symm)) hb); replace HB := aM (qB bl hb); clear hb hbox hg))
  go_loopg [6, 7, 22] k (fun kq v6 v7 v22 w' => ∃ (x6_1 : List (List Int)) (x7_1 : Int) (x22_1 : Int), v7 = .int .i64 x7_1 ∧ v22 = .int .i64 x22_1 ∧ Aside0 (qP.l0 kq l1 x6_1 x7_1 (l1.length : Int) x22_1 a0_0 a0_1 l0_2 = some (r1, r2)) ∧ Aside0 (kq ≤ k) ∧ Aside0 (Kd.V k53 53 w' w.heap.size (fun k_ => (P1_ k_ ∨ w.heap.size ≤ k_) ∧ some k_ ≠ (v6 : Value).ownBlock ∧ k_ ≠ gb309) (.slice A1 l1.length c1) l1) ∧ Aside0 (Kd.N (Kd.slice 3 (Kd.int .i64)) 69 w' w.heap.size (fun k_ => (P1_ k_ ∨ w.heap.size ≤ k_) ∧ k_ ≠ gb309) v6 x6_1) ∧ Aside0 (w'.heap[gb309]? = some (.cells #[.int .i64 a0_0, .int .i64 a0_1, (.slice A0_2 l0_2.length c0_2)] 40 (0, 0))) ∧ Aside0 (Below w.heap.size w w'))
  case atStart => exact ⟨(([] : List (List Int))), (1), (0), sD, sD, H', ⟨Nat.le_refl _⟩, ⟨by (with_reducible repeat (first | apply Kd.qhB | apply Kd.qgB | apply Kd.qCC)); exact Kd.qNC HO1.out (fun _ hk => ⟨hk.1, ⟨(by simp [Value.ownBlock]), hk.2⟩⟩)⟩, ⟨nK⟩, ⟨rB BK309⟩, ⟨bl⟩⟩
  case round =>
   clear H'; (try clear c1); (try clear c2); (try clear p2); (try clear c3); (try clear c3b0); (try clear c3b1)
   obtain ⟨x6_1, x7_1, x22_1, rfl, rfl, HA, HK1, HO_1, HO_6, BK309, HB⟩ := hrel
   cases gk with
   | zero => exact absurd HA.out (by simp [qP.l0])
   | succ k1 =>
    have H := HA.out
    clear HA
    simp only [qP.l0] at H
    by_cases c6 : x22_1 < (l1.length : Int)
    ·rw [if_pos c6] at H
     have c6b0 := decide_eq_true c6
     clear c6
     by_cases c7 : 0 ≤ x22_1
     case neg => exact nN c7 H
     rw [if_pos c7] at H
     have c7b0 := decide_eq_true c7
     clear c7
     by_cases c8 : x22_1 < (l1.length : Int)
     case neg => exact nN c8 H
     rw [if_pos c8] at H
     have c8b0 := decide_eq_true c8
     clear c8
     replace H := bO H
     obtain ⟨t312, A9, H⟩ := H
     by_cases c10 : x6_1.length < 5864062014805
     case neg => exact nN c10 H
     rw [if_pos c10] at H
     have LMc10 := aM c10
     clear c10
     obtain ⟨y315, hy315⟩ : ∃ y_ : List (List Int), y_ = (x6_1 ++ [t312]) := ⟨_, rfl⟩
     replace H : (qP.l0 k1 l1 y315 (wrap64 (x7_1 * (wrap64 ((l0_2.length : Int) * 24)))) (l1.length : Int) (wrap64 (x22_1 + 1)) a0_0 a0_1 l0_2) = some (r1, r2) := by first | (rw [hy315]; with_reducible exact H) | (have H2_ := (Option.bind_some _ _).symm.trans H; rw [hy315]; with_reducible exact H2_) | (have H2_ := (Option.bind_some _ _).symm.trans H; with_reducible exact H2_) | with_reducible exact H | (rw [hy315]; exact H) | exact H
     have Ny315 := aM hy315
     clear hy315
     have H' := aM H
     clear H
     have p310 : 0 ≤ (x22_1 : Int) := of_decide_eq_true am
     have q310 : x22_1 < (l1.length : Int) := of_decide_eq_true am
     obtain ⟨ad310, e310, hx310_0, hx310_1, hx310_2, hx310_3, hx310_4, hx310_5, hx310_6, hx310_7⟩ := qYB (Kd.qfD HO_1.out).2.2 x22_1 p310 q310
     cases e310
     replace p310 := eq_true p310
     replace q310 := eq_true q310
     go_wp2_with (first | ((with_reducible refine qH (N := 9) rfl ?_); refine bE (N := 9) (cs := #[.int .i64 0, .int .i64 0, .int .i64 0, .int .i64 0, .int .i64 0, .int .i64 0, .int .i64 0, .int .i64 0]) (t := 53) ?_; intro gb311 hg w11 hbox hb; have BK311 := aM (hbox); have GW311 := aM ((gg hg)); have GE311 := aM ((gg hg)); have NB309_311 := aM ((nl BK309 hg)); have NB311_309 := aM ((nr BK309 hg)); replace HO_1 := aM (Kd.qoC (Kd.qZE (rV HO_1) gb311 (Nat.le_of_eq hg.symm)) hb); replace HO_6 := aM (Kd.qDC (Kd.N_elderB (rN HO_6) gb311 (Nat.le_of_eq hg.symm)) hb); replace BK309 := aM (bb BK309 hb); replace HB := aM (qB bl hb); clear hb hbox hg; have hnb12 := NB311_309.out; have hnc12 := NB309_311.out; (refine cb8 BK311 ?_; intro hcz13_0 hcz13_1 hcz13_2 hcz13_3 hcz13_4 hcz13_5 hcz13_6 hcz13_7); (refine cz8 BK311 ?_; intro hfz13_0 hfz13_1 hfz13_2 hfz13_3 hfz13_4 hfz13_5 hfz13_6 hfz13_7); (refine cb3 BK309 ?_; intro hcz14_0 hcz14_1 hcz14_2); (refine cz3 BK309 ?_; intro hfz14_0 hfz14_1 hfz14_2)) | ((with_reducible refine qE (f := 45) rfl ?_); refine qm (some 29) rfl rfl Tryz.func45 (by kernel_rfl) rfl #[.agg #[.int .i64 a0_0, .int .i64 a0_1, .slice A0_2 l0_2.length c0_2], .agg #[.int .i64 ((qA l1 x22_1).f0), .int .i64 ((qA l1 x22_1).f1), .int .i64 ((qA l1 x22_1).f2.f0), .int .i64 ((qA l1 x22_1).f2.f1), .int .i64 ((qA l1 x22_1).f2.f2), .int .i64 ((qA l1 x22_1).f2.f3), .int .i64 ((qA l1 x22_1).f2.f4), .int .i64 ((qA l1 x22_1).f2.f5)]] rfl gA ?_; (with_reducible refine (qZA.calls k1 a0_0 a0_1 _ _ l0_2 ((qA l1 x22_1).f0) ((qA l1 x22_1).f1) ((qA l1 x22_1).f2.f0) ((qA l1 x22_1).f2.f1) ((qA l1 x22_1).f2.f2) ((qA l1 x22_1).f2.f3) ((qA l1 x22_1).f2.f4) ((qA l1 x22_1).f2.f5) t312 _ ?side1 ?side2 A9.out).mono ?_); (case side1 => exact Kd.qV HR0_2.out bl); (case side2 => exact HC0_2.out); rintro e w15 ⟨v313, rfl, ho0, hb⟩; refine ⟨_, rfl, ?_⟩; have HO314 := aM (Kd.qz (Kd.qyE (M := fun k_ => (w.heap.size ≤ k_)) ho0 (qJ bl) (fun k_ h_ => h_)) (qJ bl)); replace HO_1 := aM (Kd.qQD (by (with_reducible repeat (first | apply Kd.qhB | apply Kd.qgB | apply Kd.qCC)); exact (Kd.qNC (Kd.V_far (p := ⟨gb311, 7, none⟩) (Kd.V_far (p := ⟨gb311, 6, none⟩) (Kd.V_far (p := ⟨gb311, 5, none⟩) (Kd.V_far (p := ⟨gb311, 4, none⟩) (Kd.V_far (p := ⟨gb311, 3, none⟩) (Kd.V_far (p := ⟨gb311, 2, none⟩) (Kd.V_far (p := ⟨gb311, 1, none⟩) (Kd.V_far (p := ⟨gb311, 0, none⟩) (Kd.qNC HO_1.out (fun k_ hk => (⟨hk, hk.2⟩ : _ ∧ k_ ≠ gb311))) (fun _ hk => hk.2) (.int .i64 ((qA l1 x22_1).f0))) (fun _ hk => hk.2) (.int .i64 ((qA l1 x22_1).f1))) (fun _ hk => hk.2) (.int .i64 ((qA l1 x22_1).f2.f0))) (fun _ hk => hk.2) (.int .i64 ((qA l1 x22_1).f2.f1))) (fun _ hk => hk.2) (.int .i64 ((qA l1 x22_1).f2.f2))) (fun _ hk => hk.2) (.int .i64 ((qA l1 x22_1).f2.f3))) (fun _ hk => hk.2) (.int .i64 ((qA l1 x22_1).f2.f4))) (fun _ hk => hk.2) (.int .i64 ((qA l1 x22_1).f2.f5))) (fun _ h_ => h_.1))) (Kd.qkA ho0) hb); replace HO_6 := aM (Kd.qRD (by (with_reducible repeat (first | apply Kd.qxA | apply Kd.qwA | apply Kd.qOB)); exact (Kd.qtB (Kd.N_far (p := ⟨gb311, 7, none⟩) (Kd.N_far (p := ⟨gb311, 6, none⟩) (Kd.N_far (p := ⟨gb311, 5, none⟩) (Kd.N_far (p := ⟨gb311, 4, none⟩) (Kd.N_far (p := ⟨gb311, 3, none⟩) (Kd.N_far (p := ⟨gb311, 2, none⟩) (Kd.N_far (p := ⟨gb311, 1, none⟩) (Kd.N_far (p := ⟨gb311, 0, none⟩) (Kd.qtB HO_6.out (fun k_ hk => (⟨hk, hk.2⟩ : _ ∧ k_ ≠ gb311))) (fun _ hk => hk.2) (.int .i64 ((qA l1 x22_1).f0))) (fun _ hk => hk.2) (.int .i64 ((qA l1 x22_1).f1))) (fun _ hk => hk.2) (.int .i64 ((qA l1 x22_1).f2.f0))) (fun _ hk => hk.2) (.int .i64 ((qA l1 x22_1).f2.f1))) (fun _ hk => hk.2) (.int .i64 ((qA l1 x22_1).f2.f2))) (fun _ hk => hk.2) (.int .i64 ((qA l1 x22_1).f2.f3))) (fun _ hk => hk.2) (.int .i64 ((qA l1 x22_1).f2.f4))) (fun _ hk => hk.2) (.int .i64 ((qA l1 x22_1).f2.f5))) (fun _ h_ => h_.1))) (Kd.qkA ho0) hb); replace BK309 := aM (qCA (g := gb309) (o := .cells #[.int .i64 a0_0, .int .i64 a0_1, .slice A0_2 l0_2.length c0_2] 40 (0, 0)) (bF BK309 NB309_311) hb); replace BK311 := aM (qCA (g := gb311) (o := .cells #[.int .i64 ((qA l1 x22_1).f0), .int .i64 ((qA l1 x22_1).f1), .int .i64 ((qA l1 x22_1).f2.f0), .int .i64 ((qA l1 x22_1).f2.f1), .int .i64 ((qA l1 x22_1).f2.f2), .int .i64 ((qA l1 x22_1).f2.f3), .int .i64 ((qA l1 x22_1).f2.f4), .int .i64 ((qA l1 x22_1).f2.f5)] 53 (0, 0)) (by (with_reducible repeat (first | refine qG ?_ _ | refine qD ?_ | refine qF ?_ _)); exact bP8 BK311) hb); replace HB := aM (qB bl hb); (try clear hb); (try clear hb2); (try clear hk); (try clear hi); (try clear ho0); obtain ⟨Ao17, co17, eo17⟩ := Kd.qDA HO314.out; subst eo17) | ((with_reducible refine qEB (b := .append) (xs := #[.tmp 26, .tmp 30]) rfl ?_); at_builtin; refine Kd.N_append (Kd.slice 3 (Kd.int .i64)) (w0 := w) w.heap.size rfl (.tmp 26) (.tmp 30) 32 69 (.slice none 0 0) 24 rfl Tryz.underlying32 info69 rfl (by decide) (by omega) u6 x6_1 t312 [.slice Ao17 t312.length co17] (fun k_ => (P1_ k_ ∨ w.heap.size ≤ k_) ∧ k_ ≠ gb309 ∧ k_ ≠ gb311) (fun k_ => ((fun k_ => (P1_ k_ ∨ w.heap.size ≤ k_) ∧ k_ ≠ gb309 ∧ k_ ≠ gb311)) k_ ∧ some k_ ≠ (u6 : Value).ownBlock) rfl rfl ?aP (fun _ hk => hk) ?aF ?aO ?aB ?aS ?aL ?_; (case aP => exact (Kd.FK_slice_mk (Kd.qO (Kd.qa (ok' := (fun k_ => ((fun k_ => (P1_ k_ ∨ w.heap.size ≤ k_) ∧ k_ ≠ gb309 ∧ k_ ≠ gb311)) k_ ∧ some k_ ≠ (u6 : Value).ownBlock)) (Kd.qLB (Kd.qLB (Kd.qwB (HO314.out) (Kd.qHD HO_6.out) (by decide)) BK309.out (by decide)) BK311.out (by decide)) (fun k_ hk => ⟨⟨(.inr (hk.1.1.1.1)), ⟨hk.1.2, hk.2⟩⟩, hk.1.1.2⟩))).2.1 (Kd.R_F (Kd.qa (ok' := (fun k_ => ((fun k_ => (P1_ k_ ∨ w.heap.size ≤ k_) ∧ k_ ≠ gb309 ∧ k_ ≠ gb311)) k_ ∧ some k_ ≠ (u6 : Value).ownBlock)) (Kd.qLB (Kd.qLB (Kd.qwB (HO314.out) (Kd.qHD HO_6.out) (by decide)) BK309.out (by decide)) BK311.out (by decide)) (fun k_ hk => ⟨⟨(.inr (hk.1.1.1.1)), ⟨hk.1.2, hk.2⟩⟩, hk.1.1.2⟩))))); (case aB => exact bl); (case aF => exact (fun k_ hk => ⟨(.inr (Nat.le_trans (qJ bl) hk)), Kd.freshB (rB BK309) k_ hk, Kd.freshB (rB BK311) k_ hk⟩)); (case aO => exact (by (with_reducible repeat (first | apply Kd.qxA | apply Kd.qwA | apply Kd.qOB)); exact Kd.qtB HO_6.out (fun _ hk => ⟨hk.1.1.1, ⟨hk.1.1.2, hk.1.2⟩⟩))); (case aS => exact (qJ bl)); (case aL => have := LMc10.out; omega); intro v316 w16 ho hb hg hat; rw [← Ny315.out] at ho; have HO317 := aM (ho); replace HO_1 := aM (Kd.qgD (ok := (fun k_ => (P1_ k_ ∨ w.heap.size ≤ k_) ∧ some k_ ≠ (.slice Ao17 t312.length co17 : Value).ownBlock ∧ k_ ≠ gb309 ∧ k_ ≠ gb311)) (by (with_reducible repeat (first | apply Kd.qhB | apply Kd.qgB | apply Kd.qCC)); exact Kd.qNC HO_1.out (fun _ hk => ⟨⟨hk.1.1.1, ⟨hk.2, ⟨hk.1.1.2.2, hk.1.2⟩⟩⟩, hk.1.1.2.1⟩)) hg hat); replace BK309 := aM (qn (rB BK309) hg (Kd.N_ne HO_6.out BK309.out (by decide))); replace BK311 := aM (qn (rB BK311) hg (Kd.N_ne HO_6.out BK311.out (by decide))); replace HB := aM (hb); clear HO_6; clear HO314; clear ho hb hg hat; (refine cb3 BK309 ?_; intro hcz18_0 hcz18_1 hcz18_2); (refine cz3 BK309 ?_; intro hfz18_0 hfz18_1 hfz18_2)))
     go_roundg k1
     case measure => have := HK1.out; omega
     case rel => exact ⟨(y315), (wrap64 (x7_1 * (wrap64 ((l0_2.length : Int) * 24)))), (wrap64 (x22_1 + 1)), sD, sD, H', ⟨by have := HK1.out; omega⟩, ⟨by (with_reducible repeat (first | apply Kd.qhB | apply Kd.qgB | apply Kd.qCC)); exact Kd.qNC HO_1.out (fun _ hk => ⟨hk.1.1, ⟨hk.2, hk.1.2.2.1⟩⟩)⟩, ⟨by (with_reducible repeat (first | apply Kd.qxA | apply Kd.qwA | apply Kd.qOB)); exact Kd.qtB HO317.out (fun _ hk => ⟨hk.1, hk.2.1⟩)⟩, ⟨rB BK309⟩, ⟨bl⟩⟩
    ·rw [if_neg c6] at H
     have c6b0 := decide_eq_false c6
     clear c6
     by_cases c19 : 0 ≤ x7_1
     ·rw [if_pos c19] at H
      have c19b0 := eq_true c19
      have c19b1 := decide_eq_true c19
      clear c19
      by_cases c20 : (x7_1 : Int).toNat ≤ 281474976710656
      case neg => exact nN c20 H
      rw [if_pos c20] at H
      have c20b0 := eq_true c20
      have c20b1 := decide_eq_true c20
      clear c20
      replace H := bS H
      obtain ⟨y318, Ny318, H⟩ := H
      replace H := bO H
      obtain ⟨t321, A21, H⟩ := H
      by_cases c22 : 0 ≤ t321
      case neg => exact nN c22 H
      rw [if_pos c22] at H
      have c22b0 := decide_eq_true c22
      clear c22
      by_cases c23 : t321 < (y318.length : Int)
      case neg => exact nN c23 H
      rw [if_pos c23] at H
      have c23b0 := decide_eq_true c23
      clear c23
      obtain ⟨y322, hy322⟩ : ∃ y_ : List Bool, y_ = (y318.set (t321 : Int).toNat true) := ⟨_, rfl⟩
      replace H : (qP.l1 k1 l1 x6_1 (([(⟨l1, (-1), (⟨#[]⟩ : ByteArray)⟩ : S48)] : List (S48))) 0 y322 a0_0 a0_1 l0_2) = some (r1, r2) := by first | (rw [hy322]; with_reducible exact H) | (have H2_ := (Option.bind_some _ _).symm.trans H; rw [hy322]; with_reducible exact H2_) | (have H2_ := (Option.bind_some _ _).symm.trans H; with_reducible exact H2_) | with_reducible exact H | (rw [hy322]; exact H) | exact H
      have Ny322 := aM hy322
      clear hy322
      obtain ⟨y323, hy323⟩ : ∃ y_ : List (S48), y_ = (([(⟨l1, (-1), (⟨#[]⟩ : ByteArray)⟩ : S48)] : List (S48))) := ⟨_, rfl⟩
      replace H : (qP.l1 k1 l1 x6_1 y323 0 y322 a0_0 a0_1 l0_2) = some (r1, r2) := by first | (rw [hy323]; with_reducible exact H) | (have H2_ := (Option.bind_some _ _).symm.trans H; rw [hy323]; with_reducible exact H2_) | (have H2_ := (Option.bind_some _ _).symm.trans H; with_reducible exact H2_) | with_reducible exact H | (rw [hy323]; exact H) | exact H
      have Ny323 := aM hy323
      clear hy323
      have H' := aM H
      clear H
      go_wp2_with (first | ((with_reducible refine qH (N := 40) rfl ?_); refine Kd.qpE Kd.bool _ 4 rfl (N := 40) rfl 83 _ _ rfl x7_1 rfl rfl Tryz.underlying83 (.bool false) 1 info4 rfl (by decide) (by omega) false (ok := fun _ => True) (okp := fun _ => True) rfl (fun _ hk => hk) trivial (of_decide_eq_true am) (Nat.le_trans (Nat.mul_le_mul_right _ (of_decide_eq_true am : x7_1.toNat ≤ 281474976710656)) (by omega)) (Below.refl _ _) (Nat.le_refl _) ?_; intro v319 w25 ho26 hb hg_ hnew_; clear hg_ hnew_; (first | rw [← Ny318.out] at ho26 | (simp only [Int.reduceToNat] at ho26; rw [← Ny318.out] at ho26)); have HO320 := aM (Kd.qz (Kd.qyE (M := fun k_ => (w.heap.size ≤ k_)) ho26 (qJ bl) (fun k_ h_ => h_)) (qJ bl)); replace HO_1 := aM (Kd.qQD (rV HO_1) (Kd.qkA ho26) hb); replace HO_6 := aM (Kd.qRD (rN HO_6) (Kd.qkA ho26) hb); replace BK309 := aM (bb BK309 hb); replace HB := aM (qB bl hb); clear hb ho26; (refine cb3 BK309 ?_; intro hcz27_0 hcz27_1 hcz27_2); (refine cz3 BK309 ?_; intro hfz27_0 hfz27_1 hfz27_2); obtain ⟨Ao28, co28, eo28⟩ := Kd.qBE HO_6.out; subst eo28) | ((with_reducible refine qE (f := 46) rfl ?_); refine qm (some 45) rfl rfl Tryz.func46 (by kernel_rfl) rfl #[.agg #[.int .i64 a0_0, .int .i64 a0_1, .slice A0_2 l0_2.length c0_2], .slice Ao28 x6_1.length co28, .slice A1 l1.length c1] rfl gA ?_; (with_reducible refine (qy.calls k1 a0_0 a0_1 _ _ l0_2 _ _ x6_1 _ _ l1 t321 _ ?side1 ?side2 ?side3 ?side4 ?side5 ?side6 A21.out).mono ?_); (case side1 => repeat (first | exact (Kd.qV HR0_2.out HB.out) | (with_reducible refine Kd.qL ?_ _) | (with_reducible refine Kd.qK ?_ _) | (with_reducible refine Kd.qX ?_))); (case side2 => exact HC0_2.out); (case side3 => repeat (first | exact (Kd.qGC HO_6.out).2.2 | (with_reducible refine Kd.qL ?_ _) | (with_reducible refine Kd.qK ?_ _) | (with_reducible refine Kd.qX ?_))); (case side4 => exact (Kd.qGC HO_6.out).2.1); (case side5 => repeat (first | exact (Kd.qfD HO_1.out).2.2 | (with_reducible refine Kd.qL ?_ _) | (with_reducible refine Kd.qK ?_ _) | (with_reducible refine Kd.qX ?_))); (case side6 => exact (Kd.qfD HO_1.out).2.1); rintro e w29 ⟨rfl, hb⟩; refine ⟨_, rfl, ?_⟩; replace HO_1 := aM (Kd.qoC (rV HO_1) hb); replace HO_6 := aM (Kd.qDC (rN HO_6) hb); replace HO320 := aM (Kd.qc (rR HO320) hb); replace BK309 := aM (bb BK309 hb); replace HB := aM (qB bl hb); (try clear hb); (try clear hb2); (try clear hk); (try clear hi); have p24 : 0 ≤ (t321 : Int) := of_decide_eq_true am; have q24 : (t321 : Int) < ((y318.length : Int) : Int) := of_decide_eq_true am; obtain ⟨go24, co24, eo24, gb24, gl24, cl24, HG24⟩ := Kd.qIE HO320.out (by omega); (first | cases eo24 | (injection eo24 with ea_ en_ ec_; (first | subst ea_ | (injection ea_ with ea_; subst ea_)); subst ec_; clear en_)); have GB24 := aM gb24; have GG24 := aM HG24; clear gb24 gl24 HG24; obtain ⟨hx24_0, hf24_0⟩ := Kd.qAE false HO320.out (t321 : Int) p24 q24; replace p24 := eq_true p24; replace q24 := eq_true q24; have n_ := aM (Kd.qa (ok' := (fun k_ => (w.heap.size ≤ k_))) HO320.out (fun k_ hk => hk.1)); clear HO320; have HO320 := n_; clear n_; obtain ⟨hy30_, hz30_⟩ := Kd.qAE false HO320.out (t321 : Int) (of_decide_eq_true am) (of_decide_eq_true am); have HP30 := Kd.qxE HO320.out (t321 : Int) true) | ((with_reducible refine qsB (t := 4) (p := 46) rfl ?_); refine qlB (t := 4) (p := 46) (v := ?vo_w31) (w1 := (w29.setCell ⟨go24, (t321 : Int).toNat, none⟩ (.bool true))) ?hg ?ho ?hn ?hr ?_; (case ho => rfl); (case hg => rfl); (case hn => rfl); (case hr => exact gS); intro w31 hw; have hg : w29.grownBy w31 (some go24) := (by rw [hw]; exact HP30.2); have hp_ : Kd.R Kd.bool 4 w31 w.heap.size (fun k_ => (w.heap.size ≤ k_)) (.slice (some ⟨go24, 0, none⟩) y318.length co24) y322 := (by rw [hw, Ny322.out]; exact HP30.1); clear HP30; replace HO_1 := aM (Kd.qgD (v := (.slice (some ⟨go24, 0, none⟩) y318.length co24)) (v1 := (.slice (some ⟨go24, 0, none⟩) y318.length co24)) (ok := (fun k_ => (P1_ k_ ∨ w.heap.size ≤ k_) ∧ some k_ ≠ (.slice Ao28 x6_1.length co28 : Value).ownBlock ∧ k_ ≠ gb309)) (rV HO_1) hg (.inl rfl)); replace HO_6 := aM (Kd.qjD (v := (.slice (some ⟨go24, 0, none⟩) y318.length co24)) (v1 := (.slice (some ⟨go24, 0, none⟩) y318.length co24)) (ok := (fun k_ => (P1_ k_ ∨ w.heap.size ≤ k_) ∧ k_ ≠ gb309)) (rN HO_6) hg (.inl rfl)); replace BK309 := aM (qn (rB BK309) hg (Kd.R_ne HO320.out BK309.out (by decide))); replace HO320 := aM (hp_); replace HB := aM ((by rw [hw]; exact qBA (HB.out) GB24.out : Below w.heap.size w w31)); clear hg hw hp_) | ((with_reducible refine qH (N := 49) rfl ?_); refine Kd.N_lit k48 _ 48 ?hg (N' := 49) ?hd (xs := ([(⟨l1, (-1), (⟨#[]⟩ : ByteArray)⟩ : S48)] : List (S48))) (inner := [.slice A1 l1.length c1, .int .i64 (-1), .string (⟨#[]⟩ : ByteArray)]) (ok := (fun k_ => (P1_ k_ ∨ w.heap.size ≤ k_) ∧ some k_ ≠ (.slice Ao28 x6_1.length co28 : Value).ownBlock ∧ some k_ ≠ (.slice (some ⟨go24, 0, none⟩) y318.length co24 : Value).ownBlock ∧ k_ ≠ gb309)) (okp := (fun k_ => (P1_ k_ ∨ w.heap.size ≤ k_) ∧ some k_ ≠ (.slice Ao28 x6_1.length co28 : Value).ownBlock ∧ some k_ ≠ (.slice (some ⟨go24, 0, none⟩) y318.length co24 : Value).ownBlock ∧ k_ ≠ gb309)) ?hr ?hp (fun _ hk => hk) ((show ∀ k_, w31.heap.size ≤ k_ → (fun k_ => (P1_ k_ ∨ w.heap.size ≤ k_) ∧ some k_ ≠ (.slice Ao28 x6_1.length co28 : Value).ownBlock ∧ some k_ ≠ (.slice (some ⟨go24, 0, none⟩) y318.length co24 : Value).ownBlock ∧ k_ ≠ gb309) k_ from fun k_ hk => ⟨(.inr (Nat.le_trans (qJ bl) hk)), Kd.fresh' (Kd.N_lt (rN HO_6)) k_ hk, Kd.fresh' (Kd.R_lt (rR HO320)) k_ hk, Kd.freshB (rB BK309) k_ hk⟩) _ (Nat.le_refl _)) (Below.refl _ _) (Nat.le_refl _) (by simp) ?_; (case hd => rfl); (case hg => rfl); (case hr => exact gS); (case hp => exact (Reps.c3 (show Kd.FK k48 _ _ (⟨l1, (-1), (⟨#[]⟩ : ByteArray)⟩ : S48) [.slice A1 l1.length c1, .int .i64 (-1), .string (⟨#[]⟩ : ByteArray)] from (k48_mkF _ _ (⟨l1, (-1), (⟨#[]⟩ : ByteArray)⟩ : S48) (Kd.qfD (Kd.qNC (ok' := (fun k_ => (P1_ k_ ∨ w.heap.size ≤ k_) ∧ some k_ ≠ (.slice Ao28 x6_1.length co28 : Value).ownBlock ∧ some k_ ≠ (.slice (some ⟨go24, 0, none⟩) y318.length co24 : Value).ownBlock ∧ k_ ≠ gb309)) (HO_1.out) (fun k_ hk => ⟨hk.1.1, ⟨hk.1.2.1, ⟨hk.2, hk.1.2.2⟩⟩⟩))).2.1 (Kd.V_F (Kd.qNC (ok' := (fun k_ => (P1_ k_ ∨ w.heap.size ≤ k_) ∧ some k_ ≠ (.slice Ao28 x6_1.length co28 : Value).ownBlock ∧ some k_ ≠ (.slice (some ⟨go24, 0, none⟩) y318.length co24 : Value).ownBlock ∧ k_ ≠ gb309)) (HO_1.out) (fun k_ hk => ⟨hk.1.1, ⟨hk.1.2.1, ⟨hk.2, hk.1.2.2⟩⟩⟩))))) (Reps.none _ _))); intro v324 w32 ho33 hb hg_ hnew_; clear hg_ hnew_; (first | rw [← Ny323.out] at ho33 | (simp only [Int.reduceToNat] at ho33; rw [← Ny323.out] at ho33)); have HO325 := aM (Kd.N_lower ho33 (qJ bl)); replace HO_1 := aM (Kd.qQD (rV HO_1) (Kd.N_base ho33) hb); replace HO_6 := aM (Kd.qRD (rN HO_6) (Kd.N_base ho33) hb); replace HO320 := aM (Kd.qc (rR HO320) hb); replace BK309 := aM (bb BK309 hb); replace HB := aM (qB bl hb); clear hb ho33))
      go_loopg [11, 12] k1 (fun kq v11 v12 w' => ∃ (x11_2 : List (S48)) (x12_2 : Int) (x40_2 : List Bool), v12 = .int .i64 x12_2 ∧ Aside0 (qP.l1 kq l1 x6_1 x11_2 x12_2 x40_2 a0_0 a0_1 l0_2 = some (r1, r2)) ∧ Aside0 (kq ≤ k1) ∧ Aside0 (Kd.V k53 53 w' w.heap.size (fun k_ => (P1_ k_ ∨ w.heap.size ≤ k_) ∧ some k_ ≠ ((.slice Ao28 x6_1.length co28) : Value).ownBlock ∧ some k_ ≠ (v11 : Value).ownBlock ∧ some k_ ≠ ((.slice (some ⟨go24, 0, none⟩) y318.length co24) : Value).ownBlock ∧ k_ ≠ gb309) (.slice A1 l1.length c1) l1) ∧ Aside0 (Kd.N (Kd.slice 3 (Kd.int .i64)) 69 w' w.heap.size (fun k_ => (P1_ k_ ∨ w.heap.size ≤ k_) ∧ some k_ ≠ (v11 : Value).ownBlock ∧ some k_ ≠ ((.slice (some ⟨go24, 0, none⟩) y318.length co24) : Value).ownBlock ∧ k_ ≠ gb309) (.slice Ao28 x6_1.length co28) x6_1) ∧ Aside0 (Kd.N k48 48 w' w.heap.size (fun k_ => (P1_ k_ ∨ w.heap.size ≤ k_) ∧ some k_ ≠ ((.slice Ao28 x6_1.length co28) : Value).ownBlock ∧ some k_ ≠ ((.slice (some ⟨go24, 0, none⟩) y318.length co24) : Value).ownBlock ∧ k_ ≠ gb309) v11 x11_2) ∧ Aside0 (Kd.R Kd.bool 4 w' w.heap.size (fun k_ => (w.heap.size ≤ k_)) (.slice (some ⟨go24, 0, none⟩) y318.length co24) x40_2) ∧ Aside0 (w'.heap[gb309]? = some (.cells #[.int .i64 a0_0, .int .i64 a0_1, (.slice A0_2 l0_2.length c0_2)] 40 (0, 0))) ∧ Aside0 (Below w.heap.size w w'))
      case atStart => exact ⟨(y323), (0), (y322), sD, H', ⟨Nat.le_refl _⟩, ⟨by (with_reducible repeat (first | apply Kd.qhB | apply Kd.qgB | apply Kd.qCC)); exact Kd.qNC HO_1.out (fun _ hk => ⟨hk.1.1.1, ⟨hk.1.1.2.1, ⟨hk.2, ⟨hk.1.2, hk.1.1.2.2⟩⟩⟩⟩)⟩, ⟨by (with_reducible repeat (first | apply Kd.qxA | apply Kd.qwA | apply Kd.qOB)); exact Kd.qtB HO_6.out (fun _ hk => ⟨hk.1.1.1, ⟨hk.2, ⟨hk.1.2, hk.1.1.2⟩⟩⟩)⟩, ⟨rN HO325⟩, ⟨rR HO320⟩, ⟨rB BK309⟩, ⟨bl⟩⟩
      case round =>
       clear H'; (try clear c1); (try clear c2); (try clear p2); (try clear q2); (try clear hx2); (try clear hf2); (try clear c3); (try clear c3b0); (try clear c3b1); (try clear p3); (try clear q3); (try clear hx3); (try clear c4); (try clear c6); (try clear c6b0); (try clear p6); (try clear c7); (try clear c7b0); (try clear c8); (try clear c8b0); (try clear c10); (try clear c12); (try clear c19); (try clear c19b0); (try clear c19b1); (try clear c20); (try clear c20b0); (try clear c20b1); (try clear c22); (try clear c22b0); (try clear c23); (try clear c23b0); (try clear p24); (try clear q24); (try clear hx24); (try clear hf24); (try clear p31); (try clear q31); (try clear hx31); (try clear hcz13_0 hcz13_1 hcz13_2 hcz13_3 hcz13_4 hcz13_5 hcz13_6 hcz13_7); (try clear hcz14_0 hcz14_1 hcz14_2); (try clear hcz18_0 hcz18_1 hcz18_2); (try clear hcz27_0 hcz27_1 hcz27_2); (try clear hfz13_0 hfz13_1 hfz13_2 hfz13_3 hfz13_4 hfz13_5 hfz13_6 hfz13_7); (try clear hfz14_0 hfz14_1 hfz14_2); (try clear hfz18_0 hfz18_1 hfz18_2); (try clear hfz27_0 hfz27_1 hfz27_2); (try clear hx24_0); (try clear hx310_0); (try clear hx310_1); (try clear hx310_2); (try clear hx310_3); (try clear hx310_4); (try clear hx310_5); (try clear hx310_6); (try clear hx310_7); (try clear p2); (try clear p24); (try clear p310); (try clear q24); (try clear q310)
       obtain ⟨x11_2, x12_2, x40_2, rfl, HA, HK2, HO_1, HO_6, HO_11, HO_40, BK309, HB⟩ := hrel
       have hl40_2 := (Kd.qO HO_40.out).1
       rw [hl40_2] at HO_40
       (try simp only [hl40_2])
       (try simp only [hl40_2] at BK309)
       (try simp only [hl40_2] at HO_1)
       (try simp only [hl40_2] at HO_6)
       (try simp only [hl40_2] at HO_11)
       cases gk with
       | zero => exact absurd HA.out (by simp [qP.l1])
       | succ k2 =>
        have H := HA.out
        clear HA
        simp only [qP.l1] at H
        by_cases c34 : x12_2 < (x11_2.length : Int)
        ·rw [if_pos c34] at H
         have c34b0 := decide_eq_true c34
         (try (have c34b0_hl40_2 := c34b0; simp only [hl40_2] at c34b0_hl40_2))
         clear c34
         have H' := aM H
         clear H
         obtain ⟨Ao35, co35, eo35⟩ := Kd.qBE HO_11.out
         subst eo35
         go_wp2
         go_loopg [11, 58] k2 (fun kq v11 v58 w' => ∃ (x11_3 : List (S48)) (x40_3 : List Bool) (x58_3 : Int), v58 = .int .i64 x58_3 ∧ Aside0 (qP.l2 kq l1 x6_1 x11_3 x12_2 x40_3 (l1.length : Int) x58_3 a0_0 a0_1 l0_2 = some (r1, r2)) ∧ Aside0 (kq ≤ k2) ∧ Aside0 (Kd.V k53 53 w' w.heap.size (fun k_ => (P1_ k_ ∨ w.heap.size ≤ k_) ∧ some k_ ≠ ((.slice Ao28 x6_1.length co28) : Value).ownBlock ∧ some k_ ≠ (v11 : Value).ownBlock ∧ some k_ ≠ ((.slice (some ⟨go24, 0, none⟩) x40_2.length co24) : Value).ownBlock ∧ k_ ≠ gb309) (.slice A1 l1.length c1) l1) ∧ Aside0 (Kd.N (Kd.slice 3 (Kd.int .i64)) 69 w' w.heap.size (fun k_ => (P1_ k_ ∨ w.heap.size ≤ k_) ∧ some k_ ≠ (v11 : Value).ownBlock ∧ some k_ ≠ ((.slice (some ⟨go24, 0, none⟩) x40_2.length co24) : Value).ownBlock ∧ k_ ≠ gb309) (.slice Ao28 x6_1.length co28) x6_1) ∧ Aside0 (Kd.N k48 48 w' w.heap.size (fun k_ => (P1_ k_ ∨ w.heap.size ≤ k_) ∧ some k_ ≠ ((.slice Ao28 x6_1.length co28) : Value).ownBlock ∧ some k_ ≠ ((.slice (some ⟨go24, 0, none⟩) x40_2.length co24) : Value).ownBlock ∧ k_ ≠ gb309) v11 x11_3) ∧ Aside0 (Kd.R Kd.bool 4 w' w.heap.size (fun k_ => (w.heap.size ≤ k_)) (.slice (some ⟨go24, 0, none⟩) x40_2.length co24) x40_3) ∧ Aside0 (w'.heap[gb309]? = some (.cells #[.int .i64 a0_0, .int .i64 a0_1, (.slice A0_2 l0_2.length c0_2)] 40 (0, 0))) ∧ Aside0 (Below w.heap.size w w'))
         case atStart => exact ⟨(x11_2), (x40_2), (0), sD, H', ⟨Nat.le_refl _⟩, ⟨by (try simp only [hl40_2]); (with_reducible repeat (first | apply Kd.qhB | apply Kd.qgB | apply Kd.qCC)); exact HO_1.out⟩, ⟨by (try simp only [hl40_2]); (with_reducible repeat (first | apply Kd.qxA | apply Kd.qwA | apply Kd.qOB)); exact HO_6.out⟩, ⟨by (try simp only [hl40_2]); (with_reducible repeat (first | apply Kd.qxA | apply Kd.qwA | apply Kd.qOB)); exact HO_11.out⟩, ⟨by (try simp only [hl40_2]); (with_reducible repeat (first | apply Kd.qQ | apply Kd.qR | apply Kd.qS)); exact HO_40.out⟩, ⟨by (try simp only [hl40_2]); (with_reducible repeat (first | refine qG ?_ _ | refine qD ?_ | refine qF ?_ _)); exact BK309.out⟩, ⟨bl⟩⟩
         case round =>
          clear H'; (try clear c1); (try clear c2); (try clear p2); (try clear q2); (try clear hx2); (try clear hf2); (try clear c3); (try clear c3b0); (try clear c3b1); (try clear p3); (try clear q3); (try clear hx3); (try clear c4); (try clear c6); (try clear c6b0); (try clear p6); (try clear c7); (try clear c7b0); (try clear c8); (try clear c8b0); (try clear c10); (try clear c12); (try clear c19); (try clear c19b0); (try clear c19b1); (try clear c20); (try clear c20b0); (try clear c20b1); (try clear c22); (try clear c22b0); (try clear c23); (try clear c23b0); (try clear p24); (try clear q24); (try clear hx24); (try clear hf24); (try clear p31); (try clear q31); (try clear hx31); (try clear c34); (try clear c34b0); (try clear hcz13_0 hcz13_1 hcz13_2 hcz13_3 hcz13_4 hcz13_5 hcz13_6 hcz13_7); (try clear hcz14_0 hcz14_1 hcz14_2); (try clear hcz18_0 hcz18_1 hcz18_2); (try clear hcz27_0 hcz27_1 hcz27_2); (try clear hfz13_0 hfz13_1 hfz13_2 hfz13_3 hfz13_4 hfz13_5 hfz13_6 hfz13_7); (try clear hfz14_0 hfz14_1 hfz14_2); (try clear hfz18_0 hfz18_1 hfz18_2); (try clear hfz27_0 hfz27_1 hfz27_2); (try clear hx24_0); (try clear hx310_0); (try clear hx310_1); (try clear hx310_2); (try clear hx310_3); (try clear hx310_4); (try clear hx310_5); (try clear hx310_6); (try clear hx310_7); (try clear p2); (try clear p24); (try clear p3); (try clear p31); (try clear p310); (try clear p6); (try clear q2); (try clear q24); (try clear q3); (try clear q31); (try clear q310)
          obtain ⟨x11_3, x40_3, x58_3, rfl, HA, HK3, HO_1, HO_6, HO_11, HO_40, BK309, HB⟩ := hrel
          have hl40_3 := (Kd.qO HO_40.out).1
          rw [hl40_3] at HO_40
          (try simp only [hl40_3])
          (try simp only [hl40_3] at BK309)
          (try simp only [hl40_3] at HO_1)
          (try simp only [hl40_3] at HO_6)
          (try simp only [hl40_3] at HO_11)
          cases gk with
          | zero => exact absurd HA.out (by simp [qP.l2])
          | succ k3 =>
           have H := HA.out
           clear HA
           simp only [qP.l2] at H
           by_cases c36 : x58_3 < (l1.length : Int)
           ·rw [if_pos c36] at H
            have c36b0 := decide_eq_true c36
            (try (have c36b0_hl40_2 := c36b0; simp only [hl40_2] at c36b0_hl40_2))
            (try (have c36b0_hl40_3 := c36b0; simp only [hl40_3] at c36b0_hl40_3))
            clear c36
            have H' := aM H
            clear H
            go_wp2
            go_loopg [11, 14] k3 (fun kq v11 v14 w' => ∃ (x11_4 : List (S48)) (x14_4 : Int) (x40_4 : List Bool), v14 = .int .i64 x14_4 ∧ Aside0 (qP.l3 kq l1 x6_1 x11_4 x12_2 x58_3 x14_4 x40_4 (l1.length : Int) x58_3 a0_0 a0_1 l0_2 = some (r1, r2)) ∧ Aside0 (kq ≤ k3) ∧ Aside0 (Kd.V k53 53 w' w.heap.size (fun k_ => (P1_ k_ ∨ w.heap.size ≤ k_) ∧ some k_ ≠ ((.slice Ao28 x6_1.length co28) : Value).ownBlock ∧ some k_ ≠ (v11 : Value).ownBlock ∧ some k_ ≠ ((.slice (some ⟨go24, 0, none⟩) x40_3.length co24) : Value).ownBlock ∧ k_ ≠ gb309) (.slice A1 l1.length c1) l1) ∧ Aside0 (Kd.N (Kd.slice 3 (Kd.int .i64)) 69 w' w.heap.size (fun k_ => (P1_ k_ ∨ w.heap.size ≤ k_) ∧ some k_ ≠ (v11 : Value).ownBlock ∧ some k_ ≠ ((.slice (some ⟨go24, 0, none⟩) x40_3.length co24) : Value).ownBlock ∧ k_ ≠ gb309) (.slice Ao28 x6_1.length co28) x6_1) ∧ Aside0 (Kd.N k48 48 w' w.heap.size (fun k_ => (P1_ k_ ∨ w.heap.size ≤ k_) ∧ some k_ ≠ ((.slice Ao28 x6_1.length co28) : Value).ownBlock ∧ some k_ ≠ ((.slice (some ⟨go24, 0, none⟩) x40_3.length co24) : Value).ownBlock ∧ k_ ≠ gb309) v11 x11_4) ∧ Aside0 (Kd.R Kd.bool 4 w' w.heap.size (fun k_ => (w.heap.size ≤ k_)) (.slice (some ⟨go24, 0, none⟩) x40_3.length co24) x40_4) ∧ Aside0 (w'.heap[gb309]? = some (.cells #[.int .i64 a0_0, .int .i64 a0_1, (.slice A0_2 l0_2.length c0_2)] 40 (0, 0))) ∧ Aside0 (Below w.heap.size w w'))
            case atStart => exact ⟨(x11_3), (0), (x40_3), sD, H', ⟨Nat.le_refl _⟩, ⟨by (try simp only [hl40_2]); (try simp only [hl40_3]); (with_reducible repeat (first | apply Kd.qhB | apply Kd.qgB | apply Kd.qCC)); exact HO_1.out⟩, ⟨by (try simp only [hl40_2]); (try simp only [hl40_3]); (with_reducible repeat (first | apply Kd.qxA | apply Kd.qwA | apply Kd.qOB)); exact HO_6.out⟩, ⟨by (try simp only [hl40_2]); (try simp only [hl40_3]); (with_reducible repeat (first | apply Kd.qxA | apply Kd.qwA | apply Kd.qOB)); exact HO_11.out⟩, ⟨by (try simp only [hl40_2]); (try simp only [hl40_3]); (with_reducible repeat (first | apply Kd.qQ | apply Kd.qR | apply Kd.qS)); exact HO_40.out⟩, ⟨by (try simp only [hl40_2]); (try simp only [hl40_3]); (with_reducible repeat (first | refine qG ?_ _ | refine qD ?_ | refine qF ?_ _)); exact BK309.out⟩, ⟨bl⟩⟩
            case round =>
             clear H'; (try clear c1); (try clear c2); (try clear p2); (try clear q2); (try clear hx2); (try clear hf2); (try clear c3); (try clear c3b0); (try clear c3b1); (try clear p3); (try clear q3); (try clear hx3); (try clear c4); (try clear c6); (try clear c6b0); (try clear p6); (try clear c7); (try clear c7b0); (try clear c8); (try clear c8b0); (try clear c10); (try clear c12); (try clear c19); (try clear c19b0); (try clear c19b1); (try clear c20); (try clear c20b0); (try clear c20b1); (try clear c22); (try clear c22b0); (try clear c23); (try clear c23b0); (try clear p24); (try clear q24); (try clear hx24); (try clear hf24); (try clear p31); (try clear q31); (try clear hx31); (try clear c34); (try clear c34b0); (try clear c36); (try clear c36b0); (try clear hcz13_0 hcz13_1 hcz13_2 hcz13_3 hcz13_4 hcz13_5 hcz13_6 hcz13_7); (try clear hcz14_0 hcz14_1 hcz14_2); (try clear hcz18_0 hcz18_1 hcz18_2); (try clear hcz27_0 hcz27_1 hcz27_2); (try clear hfz13_0 hfz13_1 hfz13_2 hfz13_3 hfz13_4 hfz13_5 hfz13_6 hfz13_7); (try clear hfz14_0 hfz14_1 hfz14_2); (try clear hfz18_0 hfz18_1 hfz18_2); (try clear hfz27_0 hfz27_1 hfz27_2); (try clear hx24_0); (try clear hx310_0); (try clear hx310_1); (try clear hx310_2); (try clear hx310_3); (try clear hx310_4); (try clear hx310_5); (try clear hx310_6); (try clear hx310_7); (try clear p2); (try clear p24); (try clear p3); (try clear p31); (try clear p310); (try clear p6); (try clear q2); (try clear q24); (try clear q3); (try clear q31); (try clear q310)
             obtain ⟨x11_4, x14_4, x40_4, rfl, HA, HK4, HO_1, HO_6, HO_11, HO_40, BK309, HB⟩ := hrel
             have hl40_4 := (Kd.qO HO_40.out).1
             rw [hl40_4] at HO_40
             (try simp only [hl40_4])
             (try simp only [hl40_4] at BK309)
             (try simp only [hl40_4] at HO_1)
             (try simp only [hl40_4] at HO_6)
             (try simp only [hl40_4] at HO_11)
             cases gk with
             | zero => exact absurd HA.out (by simp [qP.l3])
             | succ k4 =>
              have H := HA.out
              clear HA
              simp only [qP.l3] at H
              by_cases c37 : x14_4 < 4
              ·rw [if_pos c37] at H
               have c37b0 := decide_eq_true c37
               clear c37
               by_cases c38 : 0 ≤ x12_2
               case neg => exact nN c38 H
               rw [if_pos c38] at H
               have c38b0 := decide_eq_true c38
               clear c38
               by_cases c39 : x12_2 < (x11_4.length : Int)
               case neg => exact nN c39 H
               rw [if_pos c39] at H
               have c39b0 := decide_eq_true c39
               (try (have c39b0_hl40_2 := c39b0; simp only [hl40_2] at c39b0_hl40_2))
               (try (have c39b0_hl40_3 := c39b0; simp only [hl40_3] at c39b0_hl40_3))
               (try (have c39b0_hl40_4 := c39b0; simp only [hl40_4] at c39b0_hl40_4))
               clear c39
               replace H := bO H
               obtain ⟨⟨t327, t330⟩, A40, H⟩ := H
               dsimp only at H A40
               have HC41 := aM H
               clear H
               try go_wp2
               replace HO_1 := aM (Kd.qCC HO_1.out)
               replace HO_6 := aM (Kd.qOB HO_6.out)
               replace HO_11 := aM (Kd.qOB HO_11.out)
               replace HO_40 := aM (Kd.qS HO_40.out)
               replace BK309 := aM (qD BK309.out)
               replace HB := aM (qi HB.out)
               obtain ⟨Ao43, co43, eo43⟩ := Kd.qBE HO_11.out
               (first | subst eo43 | (injection eo43 with f1_ f2_ f3_; have f4_ := f1_.symm; have f5_ := f3_.symm; clear f1_ f2_ f3_; subst f4_; subst f5_))
               have p326 : 0 ≤ (x12_2 : Int) := of_decide_eq_true am
               have q326 : x12_2 < (x11_4.length : Int) := of_decide_eq_true am
               obtain ⟨ad326, A326_0, c326_0, e326, hx326_0, hx326_1, hx326_2, hl326_0, hi326_0⟩ := qFE (Kd.qGC HO_11.out).2.2 x12_2 p326 q326
               cases e326
               obtain ⟨ce326, hce326, hMe326, hcc326⟩ := Kd.N_get HO_11.out z48 x12_2 p326 (by first | exact q326 | exact of_decide_eq_true am | (have e_ := (Kd.qGC HO_11.out).1; omega))
               obtain ⟨ua326_0, uc326_0, rfl, ul326_0, ge326_0⟩ := k48_openF hMe326
               have hv326_0 := hcc326 0 _ rfl
               rw [Nat.add_zero] at hv326_0
               replace hv326_0 := Option.some.inj (hv326_0.symm.trans hx326_0)
               injection hv326_0 with hva_ hvn_ hvc_
               rw [hva_] at ge326_0
               rw [hvc_] at ul326_0
               have HL326_0 := aM (show Kd.V k53 53 _ w.heap.size _ _ ((qMB x11_4 x12_2).f0) from Kd.V_mk ul326_0 ge326_0)
               clear hva_ hvn_ hvc_ ge326_0 ul326_0 hcc326 hce326
               have HR326_0 := aM hi326_0
               have HC326_0 := aM hl326_0
               clear hi326_0 hl326_0
               replace p326 := eq_true p326
               replace q326 := eq_true q326
               refine qJB (n := 14) (S := fun w' => w'.cell? ⟨gb309, 0, none⟩ = some (.int .i64 a0_0) ∧ w'.cell? ⟨gb309, 1, none⟩ = some (.int .i64 a0_1) ∧ w'.cell? ⟨gb309, 2, none⟩ = some (.slice A0_2 l0_2.length c0_2) ∧ w'.cell? (ad326.add ((x12_2).toNat * 3)) = some (.slice A326_0 ((qMB x11_4 x12_2).f0).length c326_0) ∧ w'.cell? ⟨(ad326.add ((x12_2).toNat * 3)).block, (ad326.add ((x12_2).toNat * 3)).off + 1, none⟩ = some (.int .i64 ((qMB x11_4 x12_2).f1)) ∧ w'.cell? ⟨(ad326.add ((x12_2).toNat * 3)).block, (ad326.add ((x12_2).toNat * 3)).off + 2, none⟩ = some (.string ((qMB x11_4 x12_2).f2))) (ds := []) #[false, false, false, false, false, false, false, false, false, false, false, false, false, false] (by kernel_rfl) rfl rfl ⟨bc BK309 0, bc BK309 1, bc BK309 2, hx326_0, hx326_1, hx326_2⟩ (fun hHeld => ?_); refine qNA qP.tab23 qP.bits23 (fun HT_ HW_ => ?_)
               generalize wr.drew = w42 at HO_1 HO_6 HO_11 HO_40 BK309 HB HL326_0 HR326_0 hx326_0 hx326_1 hx326_2 hHeld ⊢
               refine pS (i := 1) (N := some 67) #[false, true, false, false, false, false, false, false, false, false, false, false, false, false] HT_ ?_
               refine pS (i := 2) (N := some 68) #[false, true, true, false, false, false, false, false, false, false, false, false, false, false] HT_ ?_
               refine pS (i := 3) (N := some 69) #[false, true, true, true, false, false, false, false, false, false, false, false, false, false] HT_ ?_
               refine pS (i := 4) (N := some 70) #[false, true, true, true, true, false, false, false, false, false, false, false, false, false] HT_ ?_
               refine pS (i := 6) (N := some 72) #[false, true, true, true, true, false, true, false, false, false, false, false, false, false] HT_ ?_
               refine pS (i := 7) (N := some 73) #[false, true, true, true, true, false, true, true, false, false, false, false, false, false] HT_ ?_
               refine tS (i := 0) (N := some 66) #[true, true, true, true, true, false, true, true, false, false, false, false, false, false] HT_ HW_ hHeld ?_
               refine tS (i := 5) (N := some 71) #[true, true, true, true, true, true, true, true, false, false, false, false, false, false] HT_ HW_ hHeld ?_
               refine one_ (i := 8) (N := some 74) #[true, true, true, true, true, true, true, true, true, false, false, false, false, false] rfl rfl (qcA HT_.out (by kernel_rfl)) (by decide) (fun K hK => ?_)
               refine goes_ Tryz.func47 (by kernel_rfl) rfl #[.agg #[.int .i64 a0_0, .int .i64 a0_1, .slice A0_2 l0_2.length c0_2], .slice A326_0 ((qMB x11_4 x12_2).f0).length c326_0, .int .i64 x58_3, .int .i64 x14_4] (by rfl) rfl rfl gA ?_
               with_reducible refine (qTA.calls k4 a0_0 a0_1 _ _ l0_2 _ _ ((qMB x11_4 x12_2).f0) x58_3 x14_4 t327 t330 _ ?side1 ?side2 ?side3 ?side4 A40.out).mono ?_
               (case side1 => repeat (first | exact (Kd.qV HR0_2.out HB.out) | (with_reducible refine Kd.qL ?_ _) | (with_reducible refine Kd.qK ?_ _) | (with_reducible refine Kd.qX ?_)))
               (case side2 => exact HC0_2.out)
               (case side3 => repeat (first | exact (by repeat (first | (with_reducible exact HR326_0.out) | (with_reducible refine Kd.qL ?_ _) | (with_reducible refine Kd.qK ?_ _) | (with_reducible refine Kd.qX ?_) | exact HR326_0.out)) | (with_reducible refine Kd.qL ?_ _) | (with_reducible refine Kd.qK ?_ _) | (with_reducible refine Kd.qX ?_)))
               (case side4 => exact HC326_0.out)
               rintro e w44 ⟨v328, rfl, ho0, hb⟩
               have HS3_ := (hb.cell (World.block_lt_of_cell? _ _ (hHeld.2.2.2.1))).trans (hHeld.2.2.2.1)
               have HS4_ := (hb.cell (World.block_lt_of_cell? _ _ (hHeld.2.2.2.2.1))).trans (hHeld.2.2.2.2.1)
               have HS5_ := (hb.cell (World.block_lt_of_cell? _ _ (hHeld.2.2.2.2.2))).trans (hHeld.2.2.2.2.2)
               refine ⟨_, rfl, ?_⟩
               have HO329 := aM (Kd.qz (Kd.qyE (M := fun k_ => (w.heap.size ≤ k_)) ho0 (qJ bl) (fun k_ h_ => h_)) (qJ bl))
               replace HO_1 := aM (Kd.qQD (rV HO_1) (Kd.qkA ho0) hb)
               replace HO_6 := aM (Kd.qRD (rN HO_6) (Kd.qkA ho0) hb)
               replace HO_11 := aM (Kd.qRD (rN HO_11) (Kd.qkA ho0) hb)
               replace HO_40 := aM (Kd.qc (rR HO_40) hb)
               replace HL326_0 := aM (Kd.qQD (rV HL326_0) (Kd.qkA ho0) hb)
               replace BK309 := aM (bb BK309 hb)
               replace HR326_0 := aM (Kd.qV (by repeat (first | (with_reducible exact HR326_0.out) | (with_reducible refine Kd.qL ?_ _) | (with_reducible refine Kd.qK ?_ _) | (with_reducible refine Kd.qX ?_) | exact HR326_0.out)) hb)
               replace HB := aM (qB bl hb); (try clear hb); (try clear hb2); (try clear hk); (try clear hi); (try clear ho0)
               refine hK.out _ _ ⟨bc BK309 0, bc BK309 1, bc BK309 2, HS3_, HS4_, HS5_⟩ (fun hHeld => ?_)
               clear hK K
               refine norm_ (a' := ?_) ?_ ?_
               rotate_left
               ·show Act.put _ (some 74) _ = _
                simp only [Act.put, List.setIfInBounds_toArray, List.set_cons_zero, List.set_cons_succ, i64_w, i32_w]
                rfl
               refine pS (i := 9) (N := some 65) #[true, true, true, true, true, true, true, true, true, true, false, false, false, false] HT_ ?_
               refine pS (i := 10) (N := some 75) #[true, true, true, true, true, true, true, true, true, true, true, false, false, false] HT_ ?_
               refine pS (i := 11) (N := some 76) #[true, true, true, true, true, true, true, true, true, true, true, true, false, false] HT_ ?_
               refine pS (i := 12) (N := some 15) #[true, true, true, true, true, true, true, true, true, true, true, true, true, false] HT_ ?_
               refine pS (i := 13) (N := some 16) #[true, true, true, true, true, true, true, true, true, true, true, true, true, true] HT_ ?_
               refine done_ (qvA HT_.out (by kernel_rfl)) ?_
               go_upto_region 24 with (fail)
               go_cut [87] (fun v87 wc => ∃ (kq : Nat) (x87_40 : Bool), v87 = .bool x87_40 ∧ Aside0 (qP.j4 kq l1 x6_1 x40_4 x11_4 x12_2 x58_3 x14_4 t327 (l1.length : Int) x58_3 x87_40 a0_0 a0_1 l0_2 = some (r1, r2)) ∧ Aside0 (kq ≤ k4) ∧ Aside0 (Kd.V k53 53 wc w.heap.size (fun k_ => (P1_ k_ ∨ w.heap.size ≤ k_) ∧ some k_ ≠ ((.slice Ao28 x6_1.length co28) : Value).ownBlock ∧ some k_ ≠ ((.slice (some ⟨go24, 0, none⟩) x40_4.length co24) : Value).ownBlock ∧ some k_ ≠ ((.slice (some ad326) x11_4.length co43) : Value).ownBlock ∧ some k_ ≠ (v328 : Value).ownBlock ∧ k_ ≠ gb309) (.slice A1 l1.length c1) l1) ∧ Aside0 (Kd.N (Kd.slice 3 (Kd.int .i64)) 69 wc w.heap.size (fun k_ => (P1_ k_ ∨ w.heap.size ≤ k_) ∧ some k_ ≠ ((.slice (some ⟨go24, 0, none⟩) x40_4.length co24) : Value).ownBlock ∧ some k_ ≠ ((.slice (some ad326) x11_4.length co43) : Value).ownBlock ∧ some k_ ≠ (v328 : Value).ownBlock ∧ k_ ≠ gb309) (.slice Ao28 x6_1.length co28) x6_1) ∧ Aside0 (Kd.R Kd.bool 4 wc w.heap.size (fun k_ => (w.heap.size ≤ k_)) (.slice (some ⟨go24, 0, none⟩) x40_4.length co24) x40_4) ∧ Aside0 (Kd.N k48 48 wc w.heap.size (fun k_ => (P1_ k_ ∨ w.heap.size ≤ k_) ∧ some k_ ≠ ((.slice Ao28 x6_1.length co28) : Value).ownBlock ∧ some k_ ≠ ((.slice (some ⟨go24, 0, none⟩) x40_4.length co24) : Value).ownBlock ∧ some k_ ≠ (v328 : Value).ownBlock ∧ k_ ≠ gb309) (.slice (some ad326) x11_4.length co43) x11_4) ∧ Aside0 (Kd.R k53 53 wc w.heap.size (fun k_ => (w.heap.size ≤ k_)) v328 t327) ∧ Aside0 (wc.heap[gb309]? = some (.cells #[.int .i64 a0_0, .int .i64 a0_1, (.slice A0_2 l0_2.length c0_2)] 40 (0, 0))) ∧ Aside0 (Kd.C k53 wc A326_0 ((qMB x11_4 x12_2).f0).length ((qMB x11_4 x12_2).f0)) ∧ Aside0 (Below w.heap.size w wc))
               case first =>
                have H := HC41.out
                clear HC41
                by_cases c45 : t330 = true
                ·subst c45
                 replace H := iT H
                 replace H := bO H
                 obtain ⟨t331, A46, H⟩ := H
                 by_cases c47 : 0 ≤ t331
                 case neg => exact nN c47 H
                 rw [if_pos c47] at H
                 have c47b0 := decide_eq_true c47
                 clear c47
                 (first | rw [c47b0] | (simp only [i64_w, i32_w]; rw [c47b0]) | skip)
                 by_cases c48 : t331 < (x40_4.length : Int)
                 case neg => exact nN c48 H
                 rw [if_pos c48] at H
                 have c48b0 := decide_eq_true c48
                 (try (have c48b0_hl40_2 := c48b0; simp only [hl40_2] at c48b0_hl40_2))
                 (try (have c48b0_hl40_3 := c48b0; simp only [hl40_3] at c48b0_hl40_3))
                 (try (have c48b0_hl40_4 := c48b0; simp only [hl40_4] at c48b0_hl40_4))
                 clear c48
                 have H' := aM H
                 clear H
                 (refine cb3 BK309 ?_; intro hcz49_0 hcz49_1 hcz49_2)
                 (refine cz3 BK309 ?_; intro hfz49_0 hfz49_1 hfz49_2)
                 obtain ⟨Ao50, co50, eo50⟩ := Kd.qDA HO329.out
                 subst eo50
                 go_wp2_with (first | (go_at_call 46; (with_reducible refine (qy.calls k4 a0_0 a0_1 _ _ l0_2 _ _ x6_1 _ _ t327 t331 _ ?side1 ?side2 ?side3 ?side4 ?side5 ?side6 A46.out).mono ?_); (case side1 => repeat (first | exact (Kd.qV HR0_2.out HB.out) | (with_reducible refine Kd.qL ?_ _) | (with_reducible refine Kd.qK ?_ _) | (with_reducible refine Kd.qX ?_))); (case side2 => exact HC0_2.out); (case side3 => repeat (first | exact (Kd.qGC HO_6.out).2.2 | (with_reducible refine Kd.qL ?_ _) | (with_reducible refine Kd.qK ?_ _) | (with_reducible refine Kd.qX ?_))); (case side4 => exact (Kd.qGC HO_6.out).2.1); (case side5 => repeat (first | exact (Kd.qO HO329.out).2.2 | (with_reducible refine Kd.qL ?_ _) | (with_reducible refine Kd.qK ?_ _) | (with_reducible refine Kd.qX ?_))); (case side6 => exact (Kd.qO HO329.out).2.1); rintro e w51 ⟨rfl, hb⟩; replace HO_1 := aM (Kd.qoC (rV HO_1) hb); replace HO_6 := aM (Kd.qDC (rN HO_6) hb); replace HO_11 := aM (Kd.qDC (rN HO_11) hb); replace HO_40 := aM (Kd.qc (rR HO_40) hb); replace HL326_0 := aM (Kd.qoC (rV HL326_0) hb); replace HO329 := aM (Kd.qc (rR HO329) hb); replace BK309 := aM (bb BK309 hb); replace HR326_0 := aM (Kd.qV (by repeat (first | (with_reducible exact HR326_0.out) | (with_reducible refine Kd.qL ?_ _) | (with_reducible refine Kd.qK ?_ _) | (with_reducible refine Kd.qX ?_) | exact HR326_0.out)) hb); replace HB := aM (qB bl hb); (try clear hb); (try clear hb2); (try clear hk); (try clear hi); have p332 : 0 ≤ (t331 : Int) := of_decide_eq_true am; have q332 : t331 < (x40_4.length : Int) := of_decide_eq_true am; obtain ⟨ad332, e332, hx332_0⟩ := Kd.at_bool (Kd.qO HO_40.out).2.2 t331 p332 q332; obtain rfl : (⟨go24, 0, none⟩ : Addr) = ad332 := (by injection e332); (first | simp only [qnC] at hx332_0 | simp only [add_at] at hx332_0 | simp only [Addr.add, Nat.zero_add] at hx332_0 | skip); replace p332 := eq_true p332; replace q332 := eq_true q332))
                 go_meet
                 case rel => exact ⟨_, (rdOf false x40_4 t331), sD, H', ⟨by have := HK1.out; have := HK2.out; have := HK3.out; have := HK4.out; first | omega | exact Nat.le_refl _⟩, ⟨by (try simp only [hl40_2]); (try simp only [hl40_3]); (try simp only [hl40_4]); (with_reducible repeat (first | apply Kd.qhB | apply Kd.qgB | apply Kd.qCC)); exact Kd.qNC HO_1.out (fun _ hk => ⟨hk.1.1, ⟨hk.1.2.1, ⟨hk.1.2.2.2.1, ⟨hk.1.2.2.1, ⟨hk.2, hk.1.2.2.2.2⟩⟩⟩⟩⟩)⟩, ⟨by (try simp only [hl40_2]); (try simp only [hl40_3]); (try simp only [hl40_4]); (with_reducible repeat (first | apply Kd.qxA | apply Kd.qwA | apply Kd.qOB)); exact Kd.qtB HO_6.out (fun _ hk => ⟨hk.1.1, ⟨hk.1.2.2.1, ⟨hk.1.2.1, ⟨hk.2, hk.1.2.2.2⟩⟩⟩⟩)⟩, ⟨by (try simp only [hl40_2]); (try simp only [hl40_3]); (try simp only [hl40_4]); (with_reducible repeat (first | apply Kd.qQ | apply Kd.qR | apply Kd.qS)); exact HO_40.out⟩, ⟨by (try simp only [hl40_2]); (try simp only [hl40_3]); (try simp only [hl40_4]); (with_reducible repeat (first | apply Kd.qxA | apply Kd.qwA | apply Kd.qOB)); exact Kd.qtB HO_11.out (fun _ hk => ⟨hk.1.1, ⟨hk.1.2.1, ⟨hk.1.2.2.1, ⟨hk.2, hk.1.2.2.2⟩⟩⟩⟩)⟩, ⟨by (try simp only [hl40_2]); (try simp only [hl40_3]); (try simp only [hl40_4]); (with_reducible repeat (first | apply Kd.qQ | apply Kd.qR | apply Kd.qS)); exact Kd.qa HO329.out (fun _ hk => hk.1)⟩, ⟨by (try simp only [hl40_2]); (try simp only [hl40_3]); (try simp only [hl40_4]); (with_reducible repeat (first | refine qG ?_ _ | refine qD ?_ | refine qF ?_ _)); exact BK309.out⟩, ⟨by repeat (first | (with_reducible exact HR326_0.out) | (with_reducible refine Kd.qL ?_ _) | (with_reducible refine Kd.qK ?_ _) | (with_reducible refine Kd.qX ?_) | exact HR326_0.out)⟩, ⟨bl⟩⟩
                ·replace c45 := Bool.eq_false_iff.mpr c45
                 subst c45
                 replace H := iF H
                 have H' := aM H
                 clear H
                 go_wp2
                 go_meet
                 case rel => exact ⟨_, (true), sD, H', ⟨by have := HK1.out; have := HK2.out; have := HK3.out; have := HK4.out; first | omega | exact Nat.le_refl _⟩, ⟨by (try simp only [hl40_2]); (try simp only [hl40_3]); (try simp only [hl40_4]); (with_reducible repeat (first | apply Kd.qhB | apply Kd.qgB | apply Kd.qCC)); exact Kd.qNC HO_1.out (fun _ hk => ⟨hk.1.1, ⟨hk.1.2.1, ⟨hk.1.2.2.2.1, ⟨hk.1.2.2.1, ⟨hk.2, hk.1.2.2.2.2⟩⟩⟩⟩⟩)⟩, ⟨by (try simp only [hl40_2]); (try simp only [hl40_3]); (try simp only [hl40_4]); (with_reducible repeat (first | apply Kd.qxA | apply Kd.qwA | apply Kd.qOB)); exact Kd.qtB HO_6.out (fun _ hk => ⟨hk.1.1, ⟨hk.1.2.2.1, ⟨hk.1.2.1, ⟨hk.2, hk.1.2.2.2⟩⟩⟩⟩)⟩, ⟨by (try simp only [hl40_2]); (try simp only [hl40_3]); (try simp only [hl40_4]); (with_reducible repeat (first | apply Kd.qQ | apply Kd.qR | apply Kd.qS)); exact HO_40.out⟩, ⟨by (try simp only [hl40_2]); (try simp only [hl40_3]); (try simp only [hl40_4]); (with_reducible repeat (first | apply Kd.qxA | apply Kd.qwA | apply Kd.qOB)); exact Kd.qtB HO_11.out (fun _ hk => ⟨hk.1.1, ⟨hk.1.2.1, ⟨hk.1.2.2.1, ⟨hk.2, hk.1.2.2.2⟩⟩⟩⟩)⟩, ⟨by (try simp only [hl40_2]); (try simp only [hl40_3]); (try simp only [hl40_4]); (with_reducible repeat (first | apply Kd.qQ | apply Kd.qR | apply Kd.qS)); exact Kd.qa HO329.out (fun _ hk => hk.1)⟩, ⟨by (try simp only [hl40_2]); (try simp only [hl40_3]); (try simp only [hl40_4]); (with_reducible repeat (first | refine qG ?_ _ | refine qD ?_ | refine qF ?_ _)); exact BK309.out⟩, ⟨by repeat (first | (with_reducible exact HR326_0.out) | (with_reducible refine Kd.qL ?_ _) | (with_reducible refine Kd.qK ?_ _) | (with_reducible refine Kd.qX ?_) | exact HR326_0.out)⟩, ⟨bl⟩⟩
               case rest =>
                clear HC41; (try clear c1); (try clear c2); (try clear p2); (try clear q2); (try clear hx2); (try clear hf2); (try clear c3); (try clear c3b0); (try clear c3b1); (try clear p3); (try clear q3); (try clear hx3); (try clear c4); (try clear c6); (try clear c6b0); (try clear p6); (try clear c7); (try clear c7b0); (try clear c8); (try clear c8b0); (try clear c10); (try clear c12); (try clear c19); (try clear c19b0); (try clear c19b1); (try clear c20); (try clear c20b0); (try clear c20b1); (try clear c22); (try clear c22b0); (try clear c23); (try clear c23b0); (try clear p24); (try clear q24); (try clear hx24); (try clear hf24); (try clear p31); (try clear q31); (try clear hx31); (try clear c32); (try clear p32); (try clear q32); (try clear hx32); (try clear p33); (try clear q33); (try clear hx33); (try clear c34); (try clear c34b0); (try clear c36); (try clear c36b0); (try clear c37); (try clear c37b0); (try clear c38); (try clear c38b0); (try clear c39); (try clear c39b0); (try clear c45); (try clear c47); (try clear c47b0); (try clear c48); (try clear c48b0); (try clear hcz13_0 hcz13_1 hcz13_2 hcz13_3 hcz13_4 hcz13_5 hcz13_6 hcz13_7); (try clear hcz14_0 hcz14_1 hcz14_2); (try clear hcz18_0 hcz18_1 hcz18_2); (try clear hcz27_0 hcz27_1 hcz27_2); (try clear hcz49_0 hcz49_1 hcz49_2); (try clear hfz13_0 hfz13_1 hfz13_2 hfz13_3 hfz13_4 hfz13_5 hfz13_6 hfz13_7); (try clear hfz14_0 hfz14_1 hfz14_2); (try clear hfz18_0 hfz18_1 hfz18_2); (try clear hfz27_0 hfz27_1 hfz27_2); (try clear hfz49_0 hfz49_1 hfz49_2); (try clear hx24_0); (try clear hx310_0); (try clear hx310_1); (try clear hx310_2); (try clear hx310_3); (try clear hx310_4); (try clear hx310_5); (try clear hx310_6); (try clear hx310_7); (try clear hx326_0); (try clear hx326_1); (try clear hx326_2); (try clear hx332_0); (try clear p2); (try clear p24); (try clear p3); (try clear p31); (try clear p310); (try clear p326); (try clear p332); (try clear p6); (try clear q2); (try clear q24); (try clear q3); (try clear q31); (try clear q310); (try clear q326); (try clear q332)
                obtain ⟨kq, x87_40, rfl, HA, HJ40, HO_1, HO_6, HO_10, HO_11, HO_15, BK309, HR326_0, HB⟩ := hcut
                cases kq with
                | zero => exact absurd HA.out (by simp [qP.j4])
                | succ kj40 =>
                 have H := HA.out
                 clear HA
                 simp only [qP.j4] at H
                 by_cases c52 : x87_40 = true
                 ·subst c52
                  replace H := iT H
                  have H' := aM H
                  clear H
                  go_wp2
                  (try simp only [← hl40_4])
                  go_roundg kj40
                  case measure => have := HK1.out; have := HK2.out; have := HK3.out; have := HK4.out; have := HJ40.out; omega
                  case rel => exact ⟨(x11_4), (wrap64 (x14_4 + 1)), (x40_4), sD, H', ⟨by have := HK1.out; have := HK2.out; have := HK3.out; have := HK4.out; have := HJ40.out; omega⟩, ⟨by (try simp only [hl40_2]); (try simp only [hl40_3]); (try simp only [hl40_4]); (with_reducible repeat (first | apply Kd.qhB | apply Kd.qgB | apply Kd.qCC)); exact Kd.qNC HO_1.out (fun _ hk => ⟨hk.1, ⟨hk.2.1, ⟨hk.2.2.2.1, ⟨hk.2.2.1, hk.2.2.2.2.2⟩⟩⟩⟩)⟩, ⟨by (try simp only [hl40_2]); (try simp only [hl40_3]); (try simp only [hl40_4]); (with_reducible repeat (first | apply Kd.qxA | apply Kd.qwA | apply Kd.qOB)); exact Kd.qtB HO_6.out (fun _ hk => ⟨hk.1, ⟨hk.2.2.1, ⟨hk.2.1, hk.2.2.2.2⟩⟩⟩)⟩, ⟨by (try simp only [hl40_2]); (try simp only [hl40_3]); (try simp only [hl40_4]); (with_reducible repeat (first | apply Kd.qxA | apply Kd.qwA | apply Kd.qOB)); exact Kd.qtB HO_11.out (fun _ hk => ⟨hk.1, ⟨hk.2.1, ⟨hk.2.2.1, hk.2.2.2.2⟩⟩⟩)⟩, ⟨by (try simp only [hl40_2]); (try simp only [hl40_3]); (try simp only [hl40_4]); (with_reducible repeat (first | apply Kd.qQ | apply Kd.qR | apply Kd.qS)); exact HO_10.out⟩, ⟨by (try simp only [hl40_2]); (try simp only [hl40_3]); (try simp only [hl40_4]); (with_reducible repeat (first | refine qG ?_ _ | refine qD ?_ | refine qF ?_ _)); exact BK309.out⟩, ⟨bl⟩⟩
                 ·replace c52 := Bool.eq_false_iff.mpr c52
                  subst c52
                  replace H := iF H
                  by_cases c53 : (x11_4.length : Int) = 6000
                  ·rw [if_pos c53] at H
                   have c53b0 := beq_iff_eq.mpr c53
                   have c53b1 := bne_eq_false_iff_eq.mpr c53
                   clear c53
                   simp only [Option.some.injEq, Prod.mk.injEq] at H
                   obtain ⟨rfl, rfl⟩ := H
                   go_wp2
                   go_ret2
                   exact ⟨_, sR, nK, bl⟩
                  ·rw [if_neg c53] at H
                   have c53b0 := beq_eq_false_iff_ne.mpr c53
                   have c53b1 := bne_iff_ne.mpr c53
                   replace H := bO H
                   obtain ⟨t333, A54, H⟩ := H
                   by_cases c55 : 0 ≤ t333
                   case neg => exact nN c55 H
                   rw [if_pos c55] at H
                   have c55b0 := decide_eq_true c55
                   clear c55
                   by_cases c56 : t333 < (x40_4.length : Int)
                   case neg => exact nN c56 H
                   rw [if_pos c56] at H
                   have c56b0 := decide_eq_true c56
                   (try (have c56b0_hl40_2 := c56b0; simp only [hl40_2] at c56b0_hl40_2))
                   (try (have c56b0_hl40_3 := c56b0; simp only [hl40_3] at c56b0_hl40_3))
                   (try (have c56b0_hl40_4 := c56b0; simp only [hl40_4] at c56b0_hl40_4))
                   clear c56
                   obtain ⟨y334, hy334⟩ : ∃ y_ : List Bool, y_ = (x40_4.set (t333 : Int).toNat true) := ⟨_, rfl⟩
                   replace H : ((qmB.f kj40 x58_3 x14_4).bind fun t335 => (if x11_4.length < 2932031007402 then (qP.l3 kj40 l1 x6_1 (x11_4 ++ [(⟨t327, x12_2, t335⟩ : S48)]) x12_2 x58_3 (wrap64 (x14_4 + 1)) y334 (l1.length : Int) x58_3 a0_0 a0_1 l0_2) else (none))) = some (r1, r2) := by first | (rw [hy334]; with_reducible exact H) | (have H2_ := (Option.bind_some _ _).symm.trans H; rw [hy334]; with_reducible exact H2_) | (have H2_ := (Option.bind_some _ _).symm.trans H; with_reducible exact H2_) | with_reducible exact H | (rw [hy334]; exact H) | exact H
                   have Ny334 := aM hy334
                   clear hy334
                   replace H := bO H
                   obtain ⟨t335, A58, H⟩ := H
                   by_cases c59 : x11_4.length < 2932031007402
                   case neg => exact nN c59 H
                   rw [if_pos c59] at H
                   have LMc59 := aM c59
                   clear c59
                   obtain ⟨y336, hy336⟩ : ∃ y_ : List (S48), y_ = (x11_4 ++ [(⟨t327, x12_2, t335⟩ : S48)]) := ⟨_, rfl⟩
                   replace H : (qP.l3 kj40 l1 x6_1 y336 x12_2 x58_3 (wrap64 (x14_4 + 1)) y334 (l1.length : Int) x58_3 a0_0 a0_1 l0_2) = some (r1, r2) := by first | (rw [hy336]; with_reducible exact H) | (have H2_ := (Option.bind_some _ _).symm.trans H; rw [hy336]; with_reducible exact H2_) | (have H2_ := (Option.bind_some _ _).symm.trans H; with_reducible exact H2_) | with_reducible exact H | (rw [hy336]; exact H) | exact H
                   have Ny336 := aM hy336
                   clear hy336
                   have H' := aM H
                   clear H
                   (refine cb3 BK309 ?_; intro _ _ _)
                   (refine cz3 BK309 ?_; intro _ _ _)
                   obtain ⟨Ao61, co61, eo61⟩ := Kd.qDA HO_15.out
                   subst eo61
                   go_wp2_with (first | ((with_reducible refine qE (f := 46) rfl ?_); refine qm (some 95) rfl rfl Tryz.func46 (by kernel_rfl) rfl #[.agg #[.int .i64 a0_0, .int .i64 a0_1, .slice A0_2 l0_2.length c0_2], .slice Ao28 x6_1.length co28, .slice Ao61 t327.length co61] rfl gA ?_; (with_reducible refine (qy.calls kj40 a0_0 a0_1 _ _ l0_2 _ _ x6_1 _ _ t327 t333 _ ?side1 ?side2 ?side3 ?side4 ?side5 ?side6 A54.out).mono ?_); (case side1 => repeat (first | exact (Kd.qV HR0_2.out HB.out) | (with_reducible refine Kd.qL ?_ _) | (with_reducible refine Kd.qK ?_ _) | (with_reducible refine Kd.qX ?_))); (case side2 => exact HC0_2.out); (case side3 => repeat (first | exact (Kd.qGC HO_6.out).2.2 | (with_reducible refine Kd.qL ?_ _) | (with_reducible refine Kd.qK ?_ _) | (with_reducible refine Kd.qX ?_))); (case side4 => exact (Kd.qGC HO_6.out).2.1); (case side5 => repeat (first | exact (Kd.qO HO_15.out).2.2 | (with_reducible refine Kd.qL ?_ _) | (with_reducible refine Kd.qK ?_ _) | (with_reducible refine Kd.qX ?_))); (case side6 => exact (Kd.qO HO_15.out).2.1); rintro e w62 ⟨rfl, hb⟩; refine ⟨_, rfl, ?_⟩; replace HO_1 := aM (Kd.qoC (rV HO_1) hb); replace HO_6 := aM (Kd.qDC (rN HO_6) hb); replace HO_10 := aM (Kd.qc (rR HO_10) hb); replace HO_11 := aM (Kd.qDC (rN HO_11) hb); replace HO_15 := aM (Kd.qc (rR HO_15) hb); replace BK309 := aM (bb BK309 hb); replace HR326_0 := aM (Kd.qV (by repeat (first | (with_reducible exact HR326_0.out) | (with_reducible refine Kd.qL ?_ _) | (with_reducible refine Kd.qK ?_ _) | (with_reducible refine Kd.qX ?_) | exact HR326_0.out)) hb); replace HB := aM (qB bl hb); (try clear hb); (try clear hb2); (try clear hk); (try clear hi); have p57 : 0 ≤ (t333 : Int) := of_decide_eq_true am; have q57 : (t333 : Int) < ((x40_4.length : Int) : Int) := of_decide_eq_true am; obtain ⟨hx57_0, hf57_0⟩ := Kd.qAE false HO_10.out (t333 : Int) p57 q57; replace p57 := eq_true p57; replace q57 := eq_true q57; obtain ⟨hy63_, hz63_⟩ := Kd.qAE false HO_10.out (t333 : Int) (of_decide_eq_true am) (of_decide_eq_true am); have HP63 := Kd.qxE HO_10.out (t333 : Int) true) | ((with_reducible refine qsB (t := 4) (p := 96) rfl ?_); refine qlB (t := 4) (p := 96) (v := ?vo_w64) (w1 := (w62.setCell ⟨go24, (t333 : Int).toNat, none⟩ (.bool true))) ?hg ?ho ?hn ?hr ?_; (case ho => rfl); (case hg => rfl); (case hn => rfl); (case hr => exact gS); intro w64 hw; have hg : w62.grownBy w64 (some go24) := (by rw [hw]; exact HP63.2); have hp_ : Kd.R Kd.bool 4 w64 w.heap.size (fun k_ => (w.heap.size ≤ k_)) (.slice (some ⟨go24, 0, none⟩) x40_4.length co24) y334 := (by rw [hw, Ny334.out]; exact HP63.1); clear HP63; replace HO_1 := aM (Kd.qgD (v := (.slice (some ⟨go24, 0, none⟩) x40_4.length co24)) (v1 := (.slice (some ⟨go24, 0, none⟩) x40_4.length co24)) (ok := (fun k_ => (P1_ k_ ∨ w.heap.size ≤ k_) ∧ some k_ ≠ (.slice Ao28 x6_1.length co28 : Value).ownBlock ∧ some k_ ≠ (.slice (some ad326) x11_4.length co43 : Value).ownBlock ∧ some k_ ≠ (.slice Ao61 t327.length co61 : Value).ownBlock ∧ k_ ≠ gb309)) (by (with_reducible repeat (first | apply Kd.qhB | apply Kd.qgB | apply Kd.qCC)); exact Kd.qNC HO_1.out (fun _ hk => ⟨⟨hk.1, ⟨hk.2.1, ⟨hk.2.2.2.1, ⟨hk.2.2.2.2.1, hk.2.2.2.2.2⟩⟩⟩⟩, hk.2.2.1⟩)) hg (.inl rfl)); replace HO_6 := aM (Kd.qjD (v := (.slice (some ⟨go24, 0, none⟩) x40_4.length co24)) (v1 := (.slice (some ⟨go24, 0, none⟩) x40_4.length co24)) (ok := (fun k_ => (P1_ k_ ∨ w.heap.size ≤ k_) ∧ some k_ ≠ (.slice (some ad326) x11_4.length co43 : Value).ownBlock ∧ some k_ ≠ (.slice Ao61 t327.length co61 : Value).ownBlock ∧ k_ ≠ gb309)) (by (with_reducible repeat (first | apply Kd.qxA | apply Kd.qwA | apply Kd.qOB)); exact Kd.qtB HO_6.out (fun _ hk => ⟨⟨hk.1, ⟨hk.2.2.1, ⟨hk.2.2.2.1, hk.2.2.2.2⟩⟩⟩, hk.2.1⟩)) hg (.inl rfl)); replace HO_11 := aM (Kd.qjD (v := (.slice (some ⟨go24, 0, none⟩) x40_4.length co24)) (v1 := (.slice (some ⟨go24, 0, none⟩) x40_4.length co24)) (ok := (fun k_ => (P1_ k_ ∨ w.heap.size ≤ k_) ∧ some k_ ≠ (.slice Ao28 x6_1.length co28 : Value).ownBlock ∧ some k_ ≠ (.slice Ao61 t327.length co61 : Value).ownBlock ∧ k_ ≠ gb309)) (by (with_reducible repeat (first | apply Kd.qxA | apply Kd.qwA | apply Kd.qOB)); exact Kd.qtB HO_11.out (fun _ hk => ⟨⟨hk.1, ⟨hk.2.1, ⟨hk.2.2.2.1, hk.2.2.2.2⟩⟩⟩, hk.2.2.1⟩)) hg (.inl rfl)); replace HO_15 := aM (Kd.qXB (v := (.slice (some ⟨go24, 0, none⟩) x40_4.length co24)) (rR HO_15) (Kd.qIB HO_10.out) (by decide) hg); replace BK309 := aM (qn (rB BK309) hg (Kd.R_ne HO_10.out BK309.out (by decide))); replace HO_10 := aM (hp_); replace HB := aM ((by rw [hw]; exact qBA (HB.out) GB24.out : Below w.heap.size w w64)); clear hg hw hp_) | ((with_reducible refine qE (f := 48) rfl ?_); refine qm (some 102) rfl rfl Tryz.func48 (by kernel_rfl) rfl #[.int .i64 x58_3, .int .i64 x14_4] rfl gA ?_; (with_reducible refine (qmB.calls kj40 x58_3 x14_4 t335 _ A58.out).mono ?_); rintro e w65 ⟨rfl, hb⟩; refine ⟨_, rfl, ?_⟩; replace HO_1 := aM (Kd.qoC (rV HO_1) hb); replace HO_6 := aM (Kd.qDC (rN HO_6) hb); replace HO_10 := aM (Kd.qc (rR HO_10) hb); replace HO_11 := aM (Kd.qDC (rN HO_11) hb); replace HO_15 := aM (Kd.qc (rR HO_15) hb); replace BK309 := aM (bb BK309 hb); replace HB := aM (qB bl hb); (try clear hb); (try clear hb2); (try clear hk); (try clear hi)) | ((with_reducible refine qEB (b := .append) (xs := #[.tmp 97, .tmp 104]) rfl ?_); at_builtin; refine Kd.N_append k48 (w0 := w) w.heap.size rfl (.tmp 97) (.tmp 104) 44 48 (.agg #[(.slice none 0 0), (.int .i64 0), (.string ⟨#[]⟩)]) 48 rfl Tryz.underlying44 info48 rfl (by decide) (by omega) (.slice (some ad326) x11_4.length co43) x11_4 (⟨t327, x12_2, t335⟩ : S48) [.slice Ao61 t327.length co61, .int .i64 x12_2, .string t335] (fun k_ => (P1_ k_ ∨ w.heap.size ≤ k_) ∧ some k_ ≠ (.slice Ao28 x6_1.length co28 : Value).ownBlock ∧ some k_ ≠ (.slice (some ⟨go24, 0, none⟩) x40_4.length co24 : Value).ownBlock ∧ k_ ≠ gb309) (fun k_ => ((fun k_ => (P1_ k_ ∨ w.heap.size ≤ k_) ∧ some k_ ≠ (.slice Ao28 x6_1.length co28 : Value).ownBlock ∧ some k_ ≠ (.slice (some ⟨go24, 0, none⟩) x40_4.length co24 : Value).ownBlock ∧ k_ ≠ gb309)) k_ ∧ some k_ ≠ (.slice (some ad326) x11_4.length co43 : Value).ownBlock) rfl rfl ?aP (fun _ hk => hk) ?aF ?aO ?aB ?aS ?aL ?_; (case aP => exact (k48_mkF _ _ (⟨t327, x12_2, t335⟩ : S48) (Kd.qO (Kd.qa (ok' := (fun k_ => ((fun k_ => (P1_ k_ ∨ w.heap.size ≤ k_) ∧ some k_ ≠ (.slice Ao28 x6_1.length co28 : Value).ownBlock ∧ some k_ ≠ (.slice (some ⟨go24, 0, none⟩) x40_4.length co24 : Value).ownBlock ∧ k_ ≠ gb309)) k_ ∧ some k_ ≠ (.slice (some ad326) x11_4.length co43 : Value).ownBlock)) (Kd.qLB (Kd.qwB (Kd.qwB (Kd.qwB (HO_15.out) (Kd.qHD HO_6.out) (by decide)) (Kd.qIB HO_10.out) (by decide)) (Kd.qHD HO_11.out) (by decide)) BK309.out (by decide)) (fun k_ hk => ⟨⟨(.inr (hk.1.1.1.1)), ⟨hk.1.1.1.2, ⟨hk.1.1.2, hk.2⟩⟩⟩, hk.1.2⟩))).2.1 (Kd.R_F (Kd.qa (ok' := (fun k_ => ((fun k_ => (P1_ k_ ∨ w.heap.size ≤ k_) ∧ some k_ ≠ (.slice Ao28 x6_1.length co28 : Value).ownBlock ∧ some k_ ≠ (.slice (some ⟨go24, 0, none⟩) x40_4.length co24 : Value).ownBlock ∧ k_ ≠ gb309)) k_ ∧ some k_ ≠ (.slice (some ad326) x11_4.length co43 : Value).ownBlock)) (Kd.qLB (Kd.qwB (Kd.qwB (Kd.qwB (HO_15.out) (Kd.qHD HO_6.out) (by decide)) (Kd.qIB HO_10.out) (by decide)) (Kd.qHD HO_11.out) (by decide)) BK309.out (by decide)) (fun k_ hk => ⟨⟨(.inr (hk.1.1.1.1)), ⟨hk.1.1.1.2, ⟨hk.1.1.2, hk.2⟩⟩⟩, hk.1.2⟩))))); (case aB => exact bl); (case aF => exact (fun k_ hk => ⟨(.inr (Nat.le_trans (qJ bl) hk)), Kd.fresh' (Kd.N_lt (rN HO_6)) k_ hk, Kd.fresh' (Kd.R_lt (rR HO_10)) k_ hk, Kd.freshB (rB BK309) k_ hk⟩)); (case aO => exact (by (with_reducible repeat (first | apply Kd.qxA | apply Kd.qwA | apply Kd.qOB)); exact Kd.qtB HO_11.out (fun _ hk => ⟨hk.1.1, ⟨hk.1.2.1, ⟨hk.2, hk.1.2.2.2⟩⟩⟩))); (case aS => exact (qJ bl)); (case aL => have := LMc59.out; omega); intro v337 w66 ho hb hg hat; rw [← Ny336.out] at ho; have HO338 := aM (ho); replace HO_1 := aM (Kd.qgD (ok := (fun k_ => (P1_ k_ ∨ w.heap.size ≤ k_) ∧ some k_ ≠ (.slice Ao28 x6_1.length co28 : Value).ownBlock ∧ some k_ ≠ (.slice (some ⟨go24, 0, none⟩) x40_4.length co24 : Value).ownBlock ∧ some k_ ≠ (.slice Ao61 t327.length co61 : Value).ownBlock ∧ k_ ≠ gb309)) (by (with_reducible repeat (first | apply Kd.qhB | apply Kd.qgB | apply Kd.qCC)); exact Kd.qNC HO_1.out (fun _ hk => ⟨⟨hk.1.1, ⟨hk.1.2.1, ⟨hk.2, ⟨hk.1.2.2.2.1, hk.1.2.2.2.2⟩⟩⟩⟩, hk.1.2.2.1⟩)) hg hat); replace HO_6 := aM (Kd.qjD (ok := (fun k_ => (P1_ k_ ∨ w.heap.size ≤ k_) ∧ some k_ ≠ (.slice (some ⟨go24, 0, none⟩) x40_4.length co24 : Value).ownBlock ∧ some k_ ≠ (.slice Ao61 t327.length co61 : Value).ownBlock ∧ k_ ≠ gb309)) (by (with_reducible repeat (first | apply Kd.qxA | apply Kd.qwA | apply Kd.qOB)); exact Kd.qtB HO_6.out (fun _ hk => ⟨⟨hk.1.1, ⟨hk.2, ⟨hk.1.2.2.1, hk.1.2.2.2⟩⟩⟩, hk.1.2.1⟩)) hg hat); replace HO_10 := aM (Kd.qXB (rR HO_10) (Kd.qHD (rN HO_11)) (by decide) hg); replace BK309 := aM (qn (rB BK309) hg (Kd.N_ne HO_11.out BK309.out (by decide))); replace HB := aM (hb); clear HO_11; clear HO_15; clear ho hb hg hat))
                   (try simp only [← hl40_4])
                   go_roundg kj40
                   case measure => have := HK1.out; have := HK2.out; have := HK3.out; have := HK4.out; have := HJ40.out; omega
                   case rel => exact ⟨(y336), (wrap64 (x14_4 + 1)), (y334), sD, H', ⟨by have := HK1.out; have := HK2.out; have := HK3.out; have := HK4.out; have := HJ40.out; omega⟩, ⟨by (try simp only [hl40_2]); (try simp only [hl40_3]); (try simp only [hl40_4]); (with_reducible repeat (first | apply Kd.qhB | apply Kd.qgB | apply Kd.qCC)); exact Kd.qNC HO_1.out (fun _ hk => ⟨hk.1.1, ⟨hk.1.2.1, ⟨hk.2, ⟨hk.1.2.2.1, hk.1.2.2.2.2⟩⟩⟩⟩)⟩, ⟨by (try simp only [hl40_2]); (try simp only [hl40_3]); (try simp only [hl40_4]); (with_reducible repeat (first | apply Kd.qxA | apply Kd.qwA | apply Kd.qOB)); exact Kd.qtB HO_6.out (fun _ hk => ⟨hk.1.1, ⟨hk.2, ⟨hk.1.2.1, hk.1.2.2.2⟩⟩⟩)⟩, ⟨by (try simp only [hl40_2]); (try simp only [hl40_3]); (try simp only [hl40_4]); (with_reducible repeat (first | apply Kd.qxA | apply Kd.qwA | apply Kd.qOB)); exact HO338.out⟩, ⟨by (try simp only [hl40_2]); (try simp only [hl40_3]); (try simp only [hl40_4]); (with_reducible repeat (first | apply Kd.qQ | apply Kd.qR | apply Kd.qS)); exact HO_10.out⟩, ⟨by (try simp only [hl40_2]); (try simp only [hl40_3]); (try simp only [hl40_4]); (with_reducible repeat (first | refine qG ?_ _ | refine qD ?_ | refine qF ?_ _)); exact BK309.out⟩, ⟨bl⟩⟩
              ·rw [if_neg c37] at H
               have c37b0 := decide_eq_false c37
               clear c37
               have H' := aM H
               clear H
               go_wp2
               (try simp only [← hl40_3, ← hl40_4])
               go_roundg k4
               case measure => have := HK1.out; have := HK2.out; have := HK3.out; have := HK4.out; omega
               case rel => exact ⟨(x11_4), (x40_4), (wrap64 (x58_3 + 1)), sD, H', ⟨by have := HK1.out; have := HK2.out; have := HK3.out; have := HK4.out; omega⟩, ⟨by (try simp only [hl40_2]); (try simp only [hl40_3]); (try simp only [hl40_4]); (with_reducible repeat (first | apply Kd.qhB | apply Kd.qgB | apply Kd.qCC)); exact HO_1.out⟩, ⟨by (try simp only [hl40_2]); (try simp only [hl40_3]); (try simp only [hl40_4]); (with_reducible repeat (first | apply Kd.qxA | apply Kd.qwA | apply Kd.qOB)); exact HO_6.out⟩, ⟨by (try simp only [hl40_2]); (try simp only [hl40_3]); (try simp only [hl40_4]); (with_reducible repeat (first | apply Kd.qxA | apply Kd.qwA | apply Kd.qOB)); exact HO_11.out⟩, ⟨by (try simp only [hl40_2]); (try simp only [hl40_3]); (try simp only [hl40_4]); (with_reducible repeat (first | apply Kd.qQ | apply Kd.qR | apply Kd.qS)); exact HO_40.out⟩, ⟨by (try simp only [hl40_2]); (try simp only [hl40_3]); (try simp only [hl40_4]); (with_reducible repeat (first | refine qG ?_ _ | refine qD ?_ | refine qF ?_ _)); exact BK309.out⟩, ⟨bl⟩⟩
           ·rw [if_neg c36] at H
            have c36b0 := decide_eq_false c36
            (try (have c36b0_hl40_2 := c36b0; simp only [hl40_2] at c36b0_hl40_2))
            (try (have c36b0_hl40_3 := c36b0; simp only [hl40_3] at c36b0_hl40_3))
            clear c36
            have H' := aM H
            clear H
            go_wp2
            (try simp only [← hl40_2, ← hl40_3])
            go_roundg k3
            case measure => have := HK1.out; have := HK2.out; have := HK3.out; omega
            case rel => exact ⟨(x11_3), (wrap64 (x12_2 + 1)), (x40_3), sD, H', ⟨by have := HK1.out; have := HK2.out; have := HK3.out; omega⟩, ⟨by (try simp only [hl40_2]); (try simp only [hl40_3]); (with_reducible repeat (first | apply Kd.qhB | apply Kd.qgB | apply Kd.qCC)); exact HO_1.out⟩, ⟨by (try simp only [hl40_2]); (try simp only [hl40_3]); (with_reducible repeat (first | apply Kd.qxA | apply Kd.qwA | apply Kd.qOB)); exact HO_6.out⟩, ⟨by (try simp only [hl40_2]); (try simp only [hl40_3]); (with_reducible repeat (first | apply Kd.qxA | apply Kd.qwA | apply Kd.qOB)); exact HO_11.out⟩, ⟨by (try simp only [hl40_2]); (try simp only [hl40_3]); (with_reducible repeat (first | apply Kd.qQ | apply Kd.qR | apply Kd.qS)); exact HO_40.out⟩, ⟨by (try simp only [hl40_2]); (try simp only [hl40_3]); (with_reducible repeat (first | refine qG ?_ _ | refine qD ?_ | refine qF ?_ _)); exact BK309.out⟩, ⟨bl⟩⟩
        ·rw [if_neg c34] at H
         have c34b0 := decide_eq_false c34
         (try (have c34b0_hl40_2 := c34b0; simp only [hl40_2] at c34b0_hl40_2))
         clear c34
         simp only [Option.some.injEq, Prod.mk.injEq] at H
         obtain ⟨rfl, rfl⟩ := H
         obtain ⟨Ao67, co67, eo67⟩ := Kd.qBE HO_11.out
         subst eo67
         go_wp2
         go_ret2
         exact ⟨_, sR, by (with_reducible repeat (first | apply Kd.qxA | apply Kd.qwA | apply Kd.qOB)); exact Kd.qtB HO_11.out (fun _ hk => hk.1), bl⟩
     ·rw [if_neg c19] at H
      exact absurd H (by simp)
def qoA.l0 : Nat → ByteArray → Int → Option (Int)
 | 0, _, _ => none
 | k + 1, x0, x3 => if x3 < 4 then ((qsA.f).bind fun t341 => (if 0 ≤ x3 then (if x3 ≤ (wrap64 (x3 + 1)) then (if (wrap64 (x3 + 1)) ≤ (t341.size : Int) then (if x0.toList = (t341.extract (x3 : Int).toNat ((wrap64 (x3 + 1)) : Int).toNat).toList then (some x3) else (qoA.l0 k x0 (wrap64 (x3 + 1)))) else (none)) else (none)) else (none))) else (some (-1))
def qoA.f (k : Nat) (a0 : ByteArray) : Option (Int) := qoA.l0 k a0 0
set_option maxHeartbeats 8000000 in
set_option maxRecDepth 100000 in
theorem qoA.calls (k : Nat) (a0 : ByteArray) (r : Int) (w : World) (h : qoA.f k a0 = some r) :
  Calls Tryz.prog 68 #[.string a0] w fun e w' => e = .returned (.int .i64 r) ∧ Drawn0 w w' := by
 have H : (qoA.l0 k a0 0) = some r := h
 clear h
 have H' := aM H
 clear H
 go_enter Tryz.func68, Tryz.ntmps68
 go_wp2
 go_loopg [3] k (fun kq v3 w' => ∃ (x3_1 : Int), v3 = .int .i64 x3_1 ∧ Aside0 (qoA.l0 kq a0 x3_1 = some r) ∧ Aside0 (kq ≤ k) ∧ Drawn0 w w')
 case atStart => exact ⟨(0), sD, H', ⟨Nat.le_refl _⟩, dR⟩
 case round =>
  clear H'
  obtain ⟨x3_1, rfl, HA, HK1, ⟨m1, rfl⟩⟩ := hrel
  cases gk with
  | zero => exact absurd HA.out (by simp [qoA.l0])
  | succ k1 =>
   have H := HA.out
   clear HA
   simp only [qoA.l0] at H
   by_cases c2 : x3_1 < 4
   ·rw [if_pos c2] at H
    have c2b0 := decide_eq_true c2
    clear c2
    replace H := bO H
    obtain ⟨t341, A3, H⟩ := H
    by_cases c4 : 0 ≤ x3_1
    case neg => exact nN c4 H
    rw [if_pos c4] at H
    have c4b0 := eq_true c4
    have c4b1 := decide_eq_true c4
    clear c4
    by_cases c5 : x3_1 ≤ (wrap64 (x3_1 + 1))
    case neg => exact nN c5 H
    rw [if_pos c5] at H
    have c5b0 := eq_true c5
    have c5b1 := decide_eq_true c5
    by_cases c6 : (wrap64 (x3_1 + 1)) ≤ (t341.size : Int)
    case neg => exact nN c6 H
    rw [if_pos c6] at H
    have c6b0 := eq_true c6
    have c6b1 := decide_eq_true c6
    by_cases c7 : a0.toList = (t341.extract (x3_1 : Int).toNat ((wrap64 (x3_1 + 1)) : Int).toNat).toList
    ·rw [if_pos c7] at H
     have c7b0 := beq_iff_eq.mpr c7
     have c7b1 := bne_eq_false_iff_eq.mpr c7
     clear c7
     obtain rfl := Option.some.inj H
     go_wp2_with (first | ((with_reducible refine qE (f := 67) rfl ?_); refine qm (some 9) rfl rfl Tryz.func67 (by kernel_rfl) rfl #[] rfl gA ?_; (with_reducible refine (qsA.calls  t341 _ A3.out).mono ?_); rintro e w' ⟨rfl, ⟨nd, rfl⟩⟩; refine ⟨_, rfl, ?_⟩))
     go_ret
     exact ⟨by first | rfl | (simp; done) | (simp [*]; done), dR⟩
    ·rw [if_neg c7] at H
     have c7b0 := beq_eq_false_iff_ne.mpr c7
     have c7b1 := bne_iff_ne.mpr c7
     have H' := aM H
     clear H
     go_wp2_with (first | ((with_reducible refine qE (f := 67) rfl ?_); refine qm (some 9) rfl rfl Tryz.func67 (by kernel_rfl) rfl #[] rfl gA ?_; (with_reducible refine (qsA.calls  t341 _ A3.out).mono ?_); rintro e w' ⟨rfl, ⟨nd, rfl⟩⟩; refine ⟨_, rfl, ?_⟩))
     go_roundg k1
     case measure => have := HK1.out; omega
     case rel => exact ⟨(wrap64 (x3_1 + 1)), sD, H', ⟨by have := HK1.out; omega⟩, dR⟩
   ·rw [if_neg c2] at H
    have c2b0 := decide_eq_false c2
    clear c2
    obtain rfl := Option.some.inj H
    go_wp2
    go_ret
    exact ⟨by first | rfl | (simp; done) | (simp [*]; done), dR⟩
mutual
def qAA.j0 : Nat → ByteArray → Bool → Option (Bool)
 | 0, _, _ => none
 | k + 1, x0, x12 => if x12 = true then (some false) else (qAA.l0 k x0 0)
def qAA.l0 : Nat → ByteArray → Int → Option (Bool)
 | 0, _, _ => none
 | k + 1, x0, x3 => if x3 < (x0.size : Int) then (if 0 ≤ x3 then (if (bt x0 x3) < 48 then (some false) else (if (bt x0 x3) ≥ 51 then (some false) else (if 0 ≤ (wrap64 (x3 + 1)) then (if (wrap64 (x3 + 1)) ≤ (wrap64 (x3 + 2)) then (if (wrap64 (x3 + 2)) ≤ (x0.size : Int) then ((qoA.f k (x0.extract ((wrap64 (x3 + 1)) : Int).toNat ((wrap64 (x3 + 2)) : Int).toNat)).bind fun t342 => (if t342 < 0 then (some false) else (qAA.l0 k x0 (wrap64 (x3 + 2))))) else (none)) else (none)) else (none)))) else (none)) else (some true)
end
def qAA.f (k : Nat) (a0 : ByteArray) : Option (Bool) := if ((a0.size : Int) % 2) = 0 then (qAA.j0 k a0 (decide ((a0.size : Int) > 120))) else (qAA.j0 k a0 true)
set_option maxHeartbeats 8000000 in
set_option maxRecDepth 100000 in
theorem qAA.calls (k : Nat) (a0 : ByteArray) (r : Bool) (w : World) (h : qAA.f k a0 = some r) :
  Calls Tryz.prog 49 #[.string a0] w fun e w' => e = .returned (.bool r) ∧ Drawn0 w w' := by
 have H : (if ((a0.size : Int) % 2) = 0 then (qAA.j0 k a0 (decide ((a0.size : Int) > 120))) else (qAA.j0 k a0 true)) = some r := h
 clear h
 have HC2 := aM H
 clear H
 go_enter Tryz.func49, Tryz.ntmps49
 go_upto_region 1 with (fail)
 go_cut [12] (fun v12 wc => ∃ (kq : Nat) (x12_1 : Bool), v12 = .bool x12_1 ∧ Aside0 (qAA.j0 kq a0 x12_1 = some r) ∧ Aside0 (kq ≤ k) ∧ Drawn0 w wc)
 case first =>
  have H := HC2.out
  clear HC2
  by_cases c3 : ((a0.size : Int) % 2) = 0
  ·rw [if_pos c3] at H
   have c3b0 := beq_iff_eq.mpr c3
   have c3b1 := bne_eq_false_iff_eq.mpr c3
   clear c3
   (first | rw [c3b0] | (simp only [i64_w, i32_w]; rw [c3b0]) | skip)
   have H' := aM H
   clear H
   go_wp2
   go_meet
   case rel => exact ⟨_, (decide ((a0.size : Int) > 120)), sD, H', ⟨by first | omega | exact Nat.le_refl _⟩, dR⟩
  ·rw [if_neg c3] at H
   have c3b0 := beq_eq_false_iff_ne.mpr c3
   have c3b1 := bne_iff_ne.mpr c3
   (first | rw [c3b0] | (simp only [i64_w, i32_w]; rw [c3b0]) | skip)
   have H' := aM H
   clear H
   go_wp2
   go_meet
   case rel => exact ⟨_, (true), sD, H', ⟨by first | omega | exact Nat.le_refl _⟩, dR⟩
 case rest =>
  clear HC2; (try clear p2); (try clear c3); (try clear c3b0); (try clear c3b1)
  obtain ⟨kq, x12_1, rfl, HA, HJ1, ⟨mc1, rfl⟩⟩ := hcut
  cases kq with
  | zero => exact absurd HA.out (by simp [qAA.j0])
  | succ kj1 =>
   have H := HA.out
   clear HA
   simp only [qAA.j0] at H
   by_cases c4 : x12_1 = true
   ·subst c4
    replace H := iT H
    obtain rfl := Option.some.inj H
    go_wp2
    go_ret
    exact ⟨by first | rfl | (simp; done) | (simp [*]; done), dR⟩
   ·replace c4 := Bool.eq_false_iff.mpr c4
    subst c4
    replace H := iF H
    have H' := aM H
    clear H
    go_wp2
    go_loopg [3] kj1 (fun kq v3 w' => ∃ (x3_2 : Int), v3 = .int .i64 x3_2 ∧ Aside0 (qAA.l0 kq a0 x3_2 = some r) ∧ Aside0 (kq ≤ kj1) ∧ Drawn0 w w')
    case atStart => exact ⟨(0), sD, H', ⟨Nat.le_refl _⟩, dR⟩
    case round =>
     clear H'; (try clear c1); (try clear p2); (try clear c3); (try clear c3b0); (try clear c3b1); (try clear c4); (try clear p2)
     obtain ⟨x3_2, rfl, HA, HK2, ⟨m2, rfl⟩⟩ := hrel
     cases gk with
     | zero => exact absurd HA.out (by simp [qAA.l0])
     | succ k2 =>
      have H := HA.out
      clear HA
      simp only [qAA.l0] at H
      by_cases c5 : x3_2 < (a0.size : Int)
      ·rw [if_pos c5] at H
       have c5b0 := decide_eq_true c5
       clear c5
       by_cases c6 : 0 ≤ x3_2
       case neg => exact nN c6 H
       rw [if_pos c6] at H
       have c6b0 := decide_eq_true c6
       clear c6
       by_cases c8 : (bt a0 x3_2) < 48
       ·rw [if_pos c8] at H
        have c8b0 := decide_eq_true c8
        clear c8
        obtain rfl := Option.some.inj H
        have p7 : 0 ≤ (x3_2 : Int) := of_decide_eq_true am
        have q7 : x3_2 < (a0.size : Int) := of_decide_eq_true am
        have hx7 := bt_at a0 x3_2
        replace p7 := eq_true p7
        replace q7 := eq_true q7
        go_wp2
        go_ret
        exact ⟨by first | rfl | (simp; done) | (simp [*]; done), dR⟩
       ·rw [if_neg c8] at H
        have c8b0 := decide_eq_false c8
        clear c8
        by_cases c10 : (bt a0 x3_2) ≥ 51
        ·rw [if_pos c10] at H
         have c10b0 := decide_eq_true c10
         clear c10
         obtain rfl := Option.some.inj H
         have p7 : 0 ≤ (x3_2 : Int) := of_decide_eq_true am
         have q7 : x3_2 < (a0.size : Int) := of_decide_eq_true am
         have hx7 := bt_at a0 x3_2
         replace p7 := eq_true p7
         replace q7 := eq_true q7
         have p9 : 0 ≤ (x3_2 : Int) := of_decide_eq_true am
         have q9 : x3_2 < (a0.size : Int) := of_decide_eq_true am
         have hx9 := bt_at a0 x3_2
         replace p9 := eq_true p9
         replace q9 := eq_true q9
         go_wp2
         go_ret
         exact ⟨by first | rfl | (simp; done) | (simp [*]; done), dR⟩
        ·rw [if_neg c10] at H
         have c10b0 := decide_eq_false c10
         clear c10
         obtain ⟨ji11, hji11⟩ : ∃ j_ : Int, (wrap64 (x3_2 + 1)) = j_ := ⟨_, rfl⟩
         replace H : (if 0 ≤ (ji11) then (if (ji11) ≤ (wrap64 (x3_2 + 2)) then (if (wrap64 (x3_2 + 2)) ≤ (a0.size : Int) then ((qoA.f k2 (a0.extract ((ji11) : Int).toNat ((wrap64 (x3_2 + 2)) : Int).toNat)).bind fun t342 => (if t342 < 0 then (some false) else (qAA.l0 k2 a0 (wrap64 (x3_2 + 2))))) else (none)) else (none)) else (none)) = some r := by first | (rw [hji11] at H; exact H) | (simp only [hji11] at H ⊢; exact H)
         have hji11w : (IntKind.i64.wrap (x3_2 + 1)) = ji11 := (i64_w _).trans hji11
         by_cases c12 : 0 ≤ (ji11)
         case neg => exact nN c12 H
         rw [if_pos c12] at H
         have c12b0 := eq_true c12
         have c12b1 := decide_eq_true c12
         clear c12
         by_cases c13 : (ji11) ≤ (wrap64 (x3_2 + 2))
         case neg => exact nN c13 H
         rw [if_pos c13] at H
         have c13b0 := eq_true c13
         have c13b1 := decide_eq_true c13
         by_cases c14 : (wrap64 (x3_2 + 2)) ≤ (a0.size : Int)
         case neg => exact nN c14 H
         rw [if_pos c14] at H
         have c14b0 := eq_true c14
         have c14b1 := decide_eq_true c14
         replace H := bO H
         obtain ⟨t342, A15, H⟩ := H
         by_cases c16 : t342 < 0
         ·rw [if_pos c16] at H
          have c16b0 := decide_eq_true c16
          clear c16
          obtain rfl := Option.some.inj H
          have p7 : 0 ≤ (x3_2 : Int) := of_decide_eq_true am
          have q7 : x3_2 < (a0.size : Int) := of_decide_eq_true am
          have hx7 := bt_at a0 x3_2
          replace p7 := eq_true p7
          replace q7 := eq_true q7
          have p9 : 0 ≤ (x3_2 : Int) := of_decide_eq_true am
          have q9 : x3_2 < (a0.size : Int) := of_decide_eq_true am
          have hx9 := bt_at a0 x3_2
          replace p9 := eq_true p9
          replace q9 := eq_true q9
          go_wp2_with (first | (go_at_call 68; (with_reducible refine (qoA.calls k2 (a0.extract ((ji11) : Int).toNat ((wrap64 (x3_2 + 2)) : Int).toNat) t342 _ A15.out).mono ?_); rintro e w' ⟨rfl, ⟨nd, rfl⟩⟩))
          go_ret
          exact ⟨by first | rfl | (simp; done) | (simp only [← hji11] <;> (first | rfl | simp)) | (simp [*]; done), dR⟩
         ·rw [if_neg c16] at H
          have c16b0 := decide_eq_false c16
          clear c16
          have H' := aM H
          clear H
          have p7 : 0 ≤ (x3_2 : Int) := of_decide_eq_true am
          have q7 : x3_2 < (a0.size : Int) := of_decide_eq_true am
          have hx7 := bt_at a0 x3_2
          replace p7 := eq_true p7
          replace q7 := eq_true q7
          have p9 : 0 ≤ (x3_2 : Int) := of_decide_eq_true am
          have q9 : x3_2 < (a0.size : Int) := of_decide_eq_true am
          have hx9 := bt_at a0 x3_2
          replace p9 := eq_true p9
          replace q9 := eq_true q9
          go_wp2_with (first | (go_at_call 68; (with_reducible refine (qoA.calls k2 (a0.extract ((ji11) : Int).toNat ((wrap64 (x3_2 + 2)) : Int).toNat) t342 _ A15.out).mono ?_); rintro e w' ⟨rfl, ⟨nd, rfl⟩⟩))
          go_roundg k2
          case measure => have := HJ1.out; have := HK2.out; omega
          case rel => exact ⟨(wrap64 (x3_2 + 2)), sD, H', ⟨by have := HJ1.out; have := HK2.out; omega⟩, dR⟩
      ·rw [if_neg c5] at H
       have c5b0 := decide_eq_false c5
       clear c5
       obtain rfl := Option.some.inj H
       go_wp2
       go_ret
       exact ⟨by first | rfl | (simp; done) | (simp [*]; done), dR⟩
def qfA.l0 : Nat → List (S48) → Int → ByteArray → Option (ByteArray × Bool)
 | 0, _, _, _ => none
 | k + 1, x0, x1, x6 => if 0 ≤ x1 then (if x1 < (x0.length : Int) then (if ((qMB x0 x1).f1) ≥ 0 then (if ((qMB x0 x1).f2).size + x6.size ≤ 9223372036854775807 then (qfA.l0 k x0 ((qMB x0 x1).f1) (((qMB x0 x1).f2) ++ x6)) else (none)) else ((qAA.f k x6).bind fun t346 => (some (x6, t346)))) else (none)) else (none)
def qfA.f (k : Nat) (l0 : List (S48)) (a1 : Int) : Option (ByteArray × Bool) := qfA.l0 k l0 a1 (⟨#[]⟩ : ByteArray)
set_option maxHeartbeats 8000000 in
set_option maxRecDepth 100000 in
theorem qfA.calls (k : Nat) (A0 : Option Addr) (c0 : Nat) (l0 : List (S48)) (a1 : Int) (r1 : ByteArray) (r2 : Bool) (w : World) (hr0 : Kd.C k48 w A0 l0.length l0) (hc0 : l0.length ≤ c0) (h : qfA.f k l0 a1 = some (r1, r2)) :
  Calls Tryz.prog 22 #[.slice A0 l0.length c0, .int .i64 a1] w fun e w' => e = .returned (.tuple #[.string r1, .bool r2]) ∧ Drawn0 w w' := by
 have HR0 := aM hr0
 have HC0 := aM hc0
 clear hr0 hc0
 have H : (qfA.l0 k l0 a1 (⟨#[]⟩ : ByteArray)) = some (r1, r2) := h
 clear h
 have H' := aM H
 clear H
 go_enter Tryz.func22, Tryz.ntmps22
 go_wp2
 go_loopg [1, 6] k (fun kq v1 v6 w' => ∃ (x1_1 : Int) (x6_1 : ByteArray), v1 = .int .i64 x1_1 ∧ v6 = .string x6_1 ∧ Aside0 (qfA.l0 kq l0 x1_1 x6_1 = some (r1, r2)) ∧ Aside0 (kq ≤ k) ∧ Drawn0 w w')
 case atStart => exact ⟨(a1), ((⟨#[]⟩ : ByteArray)), sD, sD, H', ⟨Nat.le_refl _⟩, dR⟩
 case round =>
  clear H'; (try clear c2); (try clear p2)
  obtain ⟨x1_1, x6_1, rfl, rfl, HA, HK1, ⟨m1, rfl⟩⟩ := hrel
  cases gk with
  | zero => exact absurd HA.out (by simp [qfA.l0])
  | succ k1 =>
   have H := HA.out
   clear HA
   simp only [qfA.l0] at H
   by_cases c3 : 0 ≤ x1_1
   ·rw [if_pos c3] at H
    have c3b0 := decide_eq_true c3
    clear c3
    by_cases c4 : x1_1 < (l0.length : Int)
    case neg => exact nN c4 H
    rw [if_pos c4] at H
    have c4b0 := decide_eq_true c4
    clear c4
    by_cases c5 : ((qMB l0 x1_1).f1) ≥ 0
    ·rw [if_pos c5] at H
     have c5b0 := decide_eq_true c5
     clear c5
     by_cases c6 : ((qMB l0 x1_1).f2).size + x6_1.size ≤ 9223372036854775807
     case neg => exact nN c6 H
     rw [if_pos c6] at H
     have c6b0 := eq_true c6
     have c6b1 := decide_eq_true c6
     try have c6b2 : (9223372036854775807 < ((qMB l0 x1_1).f2).size + x6_1.size) = False := eq_false (Nat.not_lt.2 c6)
     have H' := aM H
     clear H
     have p343 : 0 ≤ (x1_1 : Int) := of_decide_eq_true am
     have q343 : x1_1 < (l0.length : Int) := of_decide_eq_true am
     obtain ⟨ad343, A343_0, c343_0, e343, hx343_0, hx343_1, hx343_2, hl343_0, hi343_0⟩ := qFE HR0.out x1_1 p343 q343
     cases e343
     have HR343_0 := aM hi343_0
     have HC343_0 := aM hl343_0
     clear hi343_0 hl343_0
     replace p343 := eq_true p343
     replace q343 := eq_true q343
     have p344 : 0 ≤ (x1_1 : Int) := of_decide_eq_true am
     have q344 : x1_1 < (l0.length : Int) := of_decide_eq_true am
     obtain ⟨ad344, A344_0, c344_0, e344, hx344_0, hx344_1, hx344_2, hl344_0, hi344_0⟩ := qFE HR0.out x1_1 p344 q344
     obtain rfl : ad343 = ad344 := (by injection e344)
     have HR344_0 := aM hi344_0
     have HC344_0 := aM hl344_0
     clear hi344_0 hl344_0
     replace p344 := eq_true p344
     replace q344 := eq_true q344
     have ea_ := Option.some.inj (hx343_0.symm.trans hx344_0)
     injection ea_ with ea_ en_ ec_
     subst ea_
     subst ec_
     clear en_
     have p345 : 0 ≤ (x1_1 : Int) := of_decide_eq_true am
     have q345 : x1_1 < (l0.length : Int) := of_decide_eq_true am
     obtain ⟨ad345, A345_0, c345_0, e345, hx345_0, hx345_1, hx345_2, hl345_0, hi345_0⟩ := qFE HR0.out x1_1 p345 q345
     obtain rfl : ad343 = ad345 := (by injection e345)
     have HR345_0 := aM hi345_0
     have HC345_0 := aM hl345_0
     clear hi345_0 hl345_0
     replace p345 := eq_true p345
     replace q345 := eq_true q345
     have ea_ := Option.some.inj (hx343_0.symm.trans hx345_0)
     injection ea_ with ea_ en_ ec_
     subst ea_
     subst ec_
     clear en_
     go_wp2
     go_roundg k1
     case measure => have := HK1.out; omega
     case rel => exact ⟨((qMB l0 x1_1).f1), (((qMB l0 x1_1).f2) ++ x6_1), sD, sD, H', ⟨by have := HK1.out; omega⟩, dR⟩
    ·rw [if_neg c5] at H
     have c5b0 := decide_eq_false c5
     clear c5
     replace H := bO H
     obtain ⟨t346, A7, H⟩ := H
     simp only [Option.some.injEq, Prod.mk.injEq] at H
     obtain ⟨rfl, rfl⟩ := H
     have p343 : 0 ≤ (x1_1 : Int) := of_decide_eq_true am
     have q343 : x1_1 < (l0.length : Int) := of_decide_eq_true am
     obtain ⟨ad343, A343_0, c343_0, e343, hx343_0, hx343_1, hx343_2, hl343_0, hi343_0⟩ := qFE HR0.out x1_1 p343 q343
     cases e343
     have HR343_0 := aM hi343_0
     have HC343_0 := aM hl343_0
     clear hi343_0 hl343_0
     replace p343 := eq_true p343
     replace q343 := eq_true q343
     go_wp2_with (first | ((with_reducible refine qE (f := 49) rfl ?_); refine qm (some 27) rfl rfl Tryz.func49 (by kernel_rfl) rfl #[.string x6_1] rfl gA ?_; (with_reducible refine (qAA.calls k1 x6_1 t346 _ A7.out).mono ?_); rintro e w' ⟨rfl, ⟨nd, rfl⟩⟩; refine ⟨_, rfl, ?_⟩))
     go_ret2
     exact ⟨by first | rfl | (simp; done) | (simp [*]; done), dR⟩
   ·rw [if_neg c3] at H
    exact absurd H (by simp)
end Go.Proofs.YthhiiceligjleaaGreatDoor.P
namespace Go.Proofs.YthhiiceligjleaaGreatDoor
open Go.RowKit Go.Proofs.YthhiiceligjleaaGreatDoor.P Go.Proofs.YthhiiceligjleaaGreatDoorW.PrintWords Go.Proofs.YthhiiceligjleaaGreatDoorW.PrintLast Go.Proofs.YthhiiceligjleaaGreatDoorW.PrintMore
set_option linter.unusedVariables false
set_option linter.unusedSimpArgs false
theorem rd_getNode (l : List S48) (j : Nat) (h : j < l.length) : qMB l (j : Int) = l[j] := by
 unfold qMB
 simp [h]
def findC (k : Nat) (all : List S48) (ts : List (List Int)) : List S48 → Nat → Option (ByteArray × Bool)
 | [], _ => some ((⟨#[]⟩ : ByteArray), false)
 | n :: r, i => if n.f0.length ≤ ts.length then (if atAll n.f0 ts = true then (qfA.f k all (i : Int)).bind fun bt => some (if bt.2 = true then (bt.1, true) else ((⟨#[]⟩ : ByteArray), false)) else findC k all ts r (i + 1)) else none
namespace P
def qbB.f (k : Nat) (a0_0 a0_1 : Int) (l0_2 : List Int) (l1 : List S53) (l2 : List (List Int)) : Option (ByteArray × Bool) :=
 (qP.f k a0_0 a0_1 l0_2 l1).bind fun bt => if bt.2 = true then (if l2.all (fun c => decide (c.length = 2)) = true then findC k bt.1 l2 bt.1 0 else none) else some ((⟨#[]⟩ : ByteArray), false)
set_option maxHeartbeats 4000000 in
set_option maxRecDepth 100000 in
theorem qbB.calls (k : Nat) (a0_0 : Int) (a0_1 : Int) (A0_2 : Option Addr) (c0_2 : Nat) (l0_2 : List Int) (A1 : Option Addr) (c1 : Nat) (l1 : List S53) (A2 : Option Addr) (c2 : Nat) (l2 : List (List Int)) (r1 : ByteArray) (r2 : Bool) (w : World) (hr0_2 : Kd.C (Kd.int .u8) w A0_2 l0_2.length l0_2) (hc0_2 : l0_2.length ≤ c0_2) (hr1 : Kd.C k53 w A1 l1.length l1) (hc1 : l1.length ≤ c1) (hr2 : Kd.C (Kd.slice 3 (Kd.int .i64)) w A2 l2.length l2) (hc2 : l2.length ≤ c2) (h : qbB.f k a0_0 a0_1 l0_2 l1 l2 = some (r1, r2)) :
    Calls Tryz.prog 30 #[.agg #[.int .i64 a0_0, .int .i64 a0_1, .slice A0_2 l0_2.length c0_2], .slice A1 l1.length c1, .slice A2 l2.length c2] w fun e w' => e = .returned (.tuple #[.string r1, .bool r2]) ∧ Below w.heap.size w w' := by
  have hu40 := Tryz.underlying40
  have hu48 := Tryz.underlying48
  have hu53 := Tryz.underlying53
  unfold qbB.f at h
  obtain ⟨⟨L, ok⟩, hall, h⟩ := Option.bind_eq_some_iff.mp h
  simp only at h
  have HALL := Lib.hid (fun (W : World) (hb : Below w.heap.size w W) => qP.calls k a0_0 a0_1 A0_2 c0_2 l0_2 (fun k_ => k_ < w.heap.size) A1 c1 l1 L ok W (Kd.qV hr0_2 hb) hc0_2 (Kd.V_mk hc1 (Kd.qCE (Kd.C_F k53_heap hr1) hb)) hall)
  have HR2 := Lib.hid hr2
  clear hall hr0_2 hc0_2 hr1 hc1 hr2 hc2
  cases ok with
  | false =>
    rw [if_neg (by decide)] at h
    simp only [Option.some.injEq, Prod.mk.injEq] at h
    obtain ⟨rfl, rfl⟩ := h
    go_enter Tryz.func30, Tryz.ntmps30
    go_wp2_with (first
      | ((with_reducible refine qH (N := 3) rfl ?_); go_loud (refine bE (N := 3) (cs := #[.int .i64 a0_0, .int .i64 a0_1, .slice A0_2 l0_2.length c0_2]) (t := 40) ?_; intro gb hgb w1 hbox hb; have B1 := Lib.hid hb; have z0 := (qw hbox 0).trans rfl; have z1 := (qw hbox 1).trans rfl; have z2 := (qw hbox 2).trans rfl; clear hbox hb hgb))
      | (go_at_call 20; go_loud (refine (HALL.out _ B1.out).mono ?_; rintro e w2 ⟨v0, rfl, ho, hb⟩; have B2 := Lib.hid (qB B1.out hb); clear hb ho z0 z1 z2 B1)))
    go_ret2
    exact ⟨rfl, B2.out⟩
  | true =>
    rw [if_pos rfl] at h
    by_cases hts : l2.all (fun c => decide (c.length = 2)) = true
    · rw [if_pos hts] at h
      have H2 := Lib.hid (fun (c : List Int) (hc : c ∈ l2) => of_decide_eq_true (List.all_eq_true.1 hts c hc))
      have HF := aM h
      clear h hts
      go_enter Tryz.func30, Tryz.ntmps30
      go_wp2_with (first
        | ((with_reducible refine qH (N := 3) rfl ?_); go_loud (refine bE (N := 3) (cs := #[.int .i64 a0_0, .int .i64 a0_1, .slice A0_2 l0_2.length c0_2]) (t := 40) ?_; intro gb hgb w1 hbox hb; have B1 := Lib.hid hb; have z0 := (qw hbox 0).trans rfl; have z1 := (qw hbox 1).trans rfl; have z2 := (qw hbox 2).trans rfl; clear hbox hb hgb))
        | (go_at_call 20; go_loud (refine (HALL.out _ B1.out).mono ?_; rintro e w2 ⟨v0, rfl, ho, hb⟩; obtain ⟨Ao, co, eo⟩ := Kd.qBE ho; subst eo; have HN := Lib.hid (Kd.qGC ho); have B2 := Lib.hid (qB B1.out hb); clear hb ho z0 z1 z2 B1)))
      have hn : L.length ≤ 9223372036854775807 := HN.out.2.2.2.1
      go_loopg [27] L.length (fun gg s27 wr => ∃ kk : Nat, kk ≤ L.length ∧ L.length - kk ≤ gg ∧ s27 = .int .i64 kk ∧ Aside0 (Below w2.heap.size w2 wr) ∧ Aside0 (findC k L l2 (L.drop kk) kk = some (r1, r2)))
      case atStart => exact ⟨0, Nat.zero_le _, by omega, rfl, ⟨Below.refl _ _⟩, HF⟩
      case round =>
        obtain ⟨kk, hkk, hg, rfl, BW, HA⟩ := hrel
        rename World => wr
        clear HF
        by_cases hlt : kk < L.length
        · have hltz : (kk : Int) < (L.length : Int) := by omega
          obtain ⟨ad, A0, c0, e, h0, h1, h2, hl, hi⟩ := qFE (Kd.qV HN.out.2.2 BW.out) (kk : Int) (by omega) hltz
          cases e
          simp only [rd_getNode L kk hlt, Int.toNat_natCast] at h0 h1 h2 hl hi
          have hf := HA.out
          rw [List.drop_eq_getElem_cons hlt, findC] at hf
          generalize hy : L[kk] = n at h0 h1 h2 hl hi hf
          clear hy HA
          by_cases hle : n.f0.length ≤ l2.length
          · rw [if_pos hle] at hf
            have HFF := aM hf
            have HLN := Lib.hid hle
            clear hf hle
            go_wp2
            obtain ⟨w3, hw3⟩ : ∃ w3, wr.alloc (.cells #[.slice A0 n.f0.length c0, .int .i64 n.f1, .string n.f2] 48) = w3 := ⟨_, rfl⟩
            have hbl : Below wr.heap.size wr w3 := by rw [← hw3]; exact qt (Below.refl _ _) _
            have B3 := Lib.hid (qB B2.out (qEA BW.out BW.out.size hbl))
            have BB := Lib.hid (qEA BW.out BW.out.size hbl)
            have HI := Lib.hid (Kd.qV hi hbl)
            have hn2 : n.f0.length ≤ 9223372036854775807 := hi.2.1
            (try rw [hw3])
            clear hw3 h0 h1 h2 hl hi hbl BW
            go_loopg [12, 35] n.f0.length (fun gg s12 s35 wq => ∃ (jj : Nat) (q : Bool), jj ≤ n.f0.length ∧ n.f0.length - jj ≤ gg ∧ s12 = .bool q ∧ s35 = .int .i64 jj ∧ Aside0 (Below w3.heap.size w3 wq) ∧ Aside0 ((q && atAll (n.f0.drop jj) (l2.drop jj)) = atAll n.f0 l2))
            case atStart => exact ⟨0, true, Nat.zero_le _, by omega, rfl, rfl, ⟨Below.refl _ _⟩, ⟨by rw [Bool.true_and]; rfl⟩⟩
            case round =>
             obtain ⟨jj, q, hjj, hg2, rfl, rfl, BW2, HA2⟩ := hrel
             rename World => wq
             by_cases hlt : jj < n.f0.length
             · have hltz : (jj : Int) < (n.f0.length : Int) := by omega
               have hlc : jj < l2.length := Nat.lt_of_lt_of_le hlt HLN.out
               have hlcz : (jj : Int) < (l2.length : Int) := by omega
               obtain ⟨ad, e, h0, h1, h2, h3, h4, h5, h6, h7⟩ := qYB (Kd.qV HI.out BW2.out) (jj : Int) (by omega) hltz
               cases e
               simp only [qCD n.f0 jj hlt, Int.toNat_natCast] at h0 h1 h2 h3 h4 h5 h6 h7
               have hst := HA2.out
               rw [atAll_step n.f0 l2 jj hlt hlc] at hst
               have hl2 : l2[jj].length = 2 := H2.out _ (List.getElem_mem hlc)
               generalize hy : n.f0[jj] = y at h0 h1 h2 h3 h4 h5 h6 h7 hst
               clear hy HA2
               obtain ⟨ad1, A3, c3, e1, i0, i1, i2⟩ := atII (Kd.qV (Kd.qV HR2.out B3.out) BW2.out) jj hlc
               cases e1
               generalize l2[jj] = z at hl2 i0 i1 i2 hst
               have p0 : (0 : Int) ≤ 0 := by decide
               have p1 : (0 : Int) ≤ 1 := by decide
               have q0 : (0 : Int) < (z.length : Int) := by omega
               have q1 : (1 : Int) < (z.length : Int) := by omega
               obtain ⟨ad2, e2, hx0⟩ := Kd.qHB i2 0 p0 q0
               obtain ⟨ad3, e3, hx1⟩ := Kd.qHB i2 1 p1 q1
               cases e2
               cases e3
               rw [show (0 : Int).toNat = 0 from rfl, Addr.add_zero'] at hx0
               rw [show (1 : Int).toNat = 1 from rfl] at hx1
               have hx2 : wq.cell? ⟨ad2.block, ad2.off + 1, none⟩ = some (.int .i64 (rd z 1)) := hx1
               have qi0 : (0 < z.length) = True := eq_true (by omega)
               have qi1 : (1 < z.length) = True := eq_true (by omega)
               clear i1 i2 hl2
               go_wp2
               obtain ⟨w4, hw4⟩ : ∃ w4, wq.alloc (.cells #[.int .i64 y.f0, .int .i64 y.f1, .int .i64 y.f2.f0, .int .i64 y.f2.f1, .int .i64 y.f2.f2, .int .i64 y.f2.f3, .int .i64 y.f2.f4, .int .i64 y.f2.f5] 53) = w4 := ⟨_, rfl⟩
               have hbl : Below wq.heap.size wq w4 := by rw [← hw4]; exact qt (Below.refl _ _) _
               have hbk : w4.heap[wq.heap.size]? = some (.cells #[.int .i64 y.f0, .int .i64 y.f1, .int .i64 y.f2.f0, .int .i64 y.f2.f1, .int .i64 y.f2.f2, .int .i64 y.f2.f3, .int .i64 y.f2.f4, .int .i64 y.f2.f5] 53 (0, 0)) := by rw [← hw4]; exact Array.getElem?_push_size
               have HB4 := Lib.hid (qEA BW2.out BW2.out.size hbl)
               rw [hw4]
               clear hw4
               replace i0 := qFA hbl i0
               replace hx0 := qFA hbl hx0
               replace hx2 := qFA hbl hx2
               have n0 : w4.cell? ⟨wq.heap.size, 0, none⟩ = some (.int .i64 y.f0) := (qw hbk 0).trans rfl
               have n1 : w4.cell? ⟨wq.heap.size, 1, none⟩ = some (.int .i64 y.f1) := (qw hbk 1).trans rfl
               have n2 : w4.cell? ⟨wq.heap.size, 2, none⟩ = some (.int .i64 y.f2.f0) := (qw hbk 2).trans rfl
               have n3 : w4.cell? ⟨wq.heap.size, 3, none⟩ = some (.int .i64 y.f2.f1) := (qw hbk 3).trans rfl
               have n4 : w4.cell? ⟨wq.heap.size, 4, none⟩ = some (.int .i64 y.f2.f2) := (qw hbk 4).trans rfl
               have n5 : w4.cell? ⟨wq.heap.size, 5, none⟩ = some (.int .i64 y.f2.f3) := (qw hbk 5).trans rfl
               have n6 : w4.cell? ⟨wq.heap.size, 6, none⟩ = some (.int .i64 y.f2.f4) := (qw hbk 6).trans rfl
               have n7 : w4.cell? ⟨wq.heap.size, 7, none⟩ = some (.int .i64 y.f2.f5) := (qw hbk 7).trans rfl
               clear h0 h1 h2 h3 h4 h5 h6 h7 hx1 hbl hbk BW2
               generalize wq.heap.size = gg2 at n0 n1 n2 n3 n4 n5 n6 n7 ⊢
               cases q with
               | false =>
                 have HST : Aside0 ((false && atAll (n.f0.drop (jj + 1)) (l2.drop (jj + 1))) = atAll n.f0 l2) := ⟨hst⟩
                 clear hst
                 go_quiet (fail)
                 try go_wp2
                 go_roundg (n.f0.length - (jj + 1))
                 case measure => omega
                 case rel => exact ⟨jj + 1, false, by omega, by omega, rfl, by go_num, ⟨qB HB4.out (by repeat (first | exact Below.refl _ _ | apply qIA | apply qi))⟩, HST⟩
               | true =>
                 by_cases hX : y.f0 = rd z 0
                 · by_cases hY : y.f1 = rd z 1
                   · have HST : Aside0 ((true && atAll (n.f0.drop (jj + 1)) (l2.drop (jj + 1))) = atAll n.f0 l2) := ⟨by rw [decide_eq_true hX, decide_eq_true hY] at hst; exact hst⟩
                     have bx := beq_iff_eq.mpr hX
                     have by_ := beq_iff_eq.mpr hY
                     clear hst hX hY
                     go_quiet (fail)
                     try go_wp2
                     go_roundg (n.f0.length - (jj + 1))
                     case measure => omega
                     case rel => exact ⟨jj + 1, true, by omega, by omega, rfl, by go_num, ⟨qB HB4.out (by repeat (first | exact Below.refl _ _ | apply qIA | apply qi))⟩, HST⟩
                   · have HST : Aside0 ((false && atAll (n.f0.drop (jj + 1)) (l2.drop (jj + 1))) = atAll n.f0 l2) := ⟨by rw [decide_eq_true hX, decide_eq_false hY] at hst; exact hst⟩
                     have bx := beq_iff_eq.mpr hX
                     have by_ := beq_eq_false_iff_ne.mpr hY
                     clear hst hX hY
                     go_quiet (fail)
                     try go_wp2
                     go_roundg (n.f0.length - (jj + 1))
                     case measure => omega
                     case rel => exact ⟨jj + 1, false, by omega, by omega, rfl, by go_num, ⟨qB HB4.out (by repeat (first | exact Below.refl _ _ | apply qIA | apply qi))⟩, HST⟩
                 · have HST : Aside0 ((false && atAll (n.f0.drop (jj + 1)) (l2.drop (jj + 1))) = atAll n.f0 l2) := ⟨by rw [decide_eq_false hX] at hst; exact hst⟩
                   have bx := beq_eq_false_iff_ne.mpr hX
                   clear hst hX
                   go_quiet (fail)
                   try go_wp2
                   go_roundg (n.f0.length - (jj + 1))
                   case measure => omega
                   case rel => exact ⟨jj + 1, false, by omega, by omega, rfl, by go_num, ⟨qB HB4.out (by repeat (first | exact Below.refl _ _ | apply qIA | apply qi))⟩, HST⟩
             · have hje : jj = n.f0.length := by omega
               have hst := HA2.out
               subst hje
               rw [List.drop_length, show ∀ x, atAll [] x = true from fun x => by cases x <;> rfl, Bool.and_true] at hst
               rw [← hst] at HFF
               clear HA2 hst
               cases q with
               | false =>
                 rw [if_neg (by decide)] at HFF
                 go_wp2
                 go_roundg (L.length - (kk + 1))
                 case measure => omega
                 case rel => exact ⟨kk + 1, by omega, by omega, by go_num, ⟨qEA BB.out BB.out.size BW2.out⟩, HFF⟩
               | true =>
                 rw [if_pos rfl] at HFF
                 obtain ⟨⟨wd, ok⟩, hwd, hf⟩ := Option.bind_eq_some_iff.mp HFF.out
                 have HWD := Lib.hid (fun (W : World) (hb : Below w2.heap.size w2 W) => qfA.calls k (some ad) co L (kk : Int) wd ok W (Kd.qV HN.out.2.2 hb) HN.out.2.1 hwd)
                 have BE := Lib.hid (qEA BB.out BB.out.size BW2.out)
                 have BF := Lib.hid (qB B3.out BW2.out)
                 simp only [Option.some.injEq] at hf
                 clear HFF hwd
                 cases ok with
                 | false =>
                   rw [if_neg (by decide)] at hf
                   simp only [Prod.mk.injEq] at hf
                   obtain ⟨rfl, rfl⟩ := hf
                   go_wp2_with (first | (go_at_call 22; go_loud (refine (HWD.out _ BE.out).mono ?_; rintro e w5 ⟨rfl, ⟨nd, rfl⟩⟩)))
                   go_ret2
                   exact ⟨rfl, qIA BF.out nd⟩
                 | true =>
                   rw [if_pos rfl] at hf
                   simp only [Prod.mk.injEq] at hf
                   obtain ⟨rfl, rfl⟩ := hf
                   go_wp2_with (first | (go_at_call 22; go_loud (refine (HWD.out _ BE.out).mono ?_; rintro e w5 ⟨rfl, ⟨nd, rfl⟩⟩)))
                   go_ret2
                   exact ⟨rfl, qIA BF.out nd⟩
          · rw [if_neg hle] at hf
            cases hf
        · have : kk = L.length := by omega
          subst this
          have hf := HA.out
          rw [List.drop_length, findC] at hf
          simp only [Option.some.injEq, Prod.mk.injEq] at hf
          obtain ⟨rfl, rfl⟩ := hf
          clear HA
          go_wp2
          go_ret2
          exact ⟨rfl, qB B2.out BW.out⟩
    · rw [if_neg hts] at h
      cases h
end P
end Go.Proofs.YthhiiceligjleaaGreatDoor
namespace Go.Proofs.YthhiiceligjleaaGreatDoor.P
open Go.RowKit Go.Proofs.YthhiiceligjleaaGreatDoorW.PrintWords Go.Proofs.YthhiiceligjleaaGreatDoorW.PrintLast Go.Proofs.YthhiiceligjleaaGreatDoorW.PrintMore
attribute [local go_sem] qh qf qr qq qZ qY qg qe
set_option linter.unusedVariables false
set_option linter.unusedSimpArgs false
mutual
def qM.j0 : Nat → List (S53) → List (List Int) → Bool → Int → Int → List Int → Option (ByteArray × Bool)
 | 0, _, _, _, _, _, _ => none
 | k + 1, x1, x2, x26, x578000, x578001, x578002 => if x26 = true then (some ((⟨#[]⟩ : ByteArray), false)) else (qM.l0 k x1 x2 x2 (x2.length : Int) 0 x578000 x578001 x578002)
def qM.l0 : Nat → List (S53) → List (List Int) → List (List Int) → Int → Int → Int → Int → List Int → Option (ByteArray × Bool)
 | 0, _, _, _, _, _, _, _, _ => none
 | k + 1, x1, x2, x27, x28, x29, x578000, x578001, x578002 => if x29 < x28 then (if 0 ≤ x29 then (if x29 < (x27.length : Int) then (if ((rd_L7 x27 x29).length : Int) = 2 then (if 0 < ((rd_L7 x27 x29).length : Int) then (if 1 < ((rd_L7 x27 x29).length : Int) then ((qGB.f x578000 x578001 x578002 (rd (rd_L7 x27 x29) 0) (rd (rd_L7 x27 x29) 1)).bind fun t581 => (if t581 = true then (qM.l0 k x1 x2 x27 x28 (wrap64 (x29 + 1)) x578000 x578001 x578002) else (some ((⟨#[]⟩ : ByteArray), false)))) else (none)) else (none)) else (some ((⟨#[]⟩ : ByteArray), false))) else (none)) else (none)) else ((qbB.f k x578000 x578001 x578002 x1 x2).bind fun bt582 => (some (bt582.1, bt582.2)))
end
def qM.f (k : Nat) (a0 : ByteArray) (l1 : List (S53)) (l2 : List (List Int)) : Option (ByteArray × Bool) := (qOA.f k a0 l1).bind fun bt571 => (if bt571.2.2.2 = true then (qM.j0 k l1 l2 ((l2.length : Int) != (l1.length : Int)) bt571.1 bt571.2.1 bt571.2.2.1) else (qM.j0 k l1 l2 true bt571.1 bt571.2.1 bt571.2.2.1))
def qM.T7 : Bool × List (List Nat × List Nat) := (true, [([], []), ([0], [0]), ([1], [1]), ([2], [2]), ([3], [3]), ([3], [3]), ([5, 3], [3, 5]), ([6, 3], [3, 6]), ([3], [3]), ([8, 3], [3, 8]), ([9, 3], [3, 9]), ([4, 7, 10, 3, 3], [3, 4, 7, 10]), ([11, 3], [3, 11]), ([3, 12], [3, 12])])
def qM.B7 : List Nat := [0, 1, 3, 7, 15, 15, 47, 111, 15, 271, 783, 2047, 4095, 8191]
theorem qM.tab7 : rtab .any (opsOf Tryz.f14 7) = qM.T7 := by kernel_rfl
theorem qM.bits7 : waitsOk qM.T7.2 qM.B7 = true := by kernel_rfl
set_option maxHeartbeats 8000000 in
set_option maxRecDepth 100000 in
theorem qM.calls (k : Nat) (a0 : ByteArray) (A1 : Option Addr) (c1 : Nat) (l1 : List (S53)) (A2 : Option Addr) (c2 : Nat) (l2 : List (List Int)) (r1 : ByteArray) (r2 : Bool) (w : World) (hr1 : Kd.C k53 w A1 l1.length l1) (hc1 : l1.length ≤ c1) (hr2 : Kd.C (Kd.slice 3 (Kd.int .i64)) w A2 l2.length l2) (hc2 : l2.length ≤ c2) (h : qM.f k a0 l1 l2 = some (r1, r2)) :
  Calls Tryz.prog 14 #[.string a0, .slice A1 l1.length c1, .slice A2 l2.length c2] w fun e w' => e = .returned (.tuple #[.string r1, .bool r2]) ∧ Below w.heap.size w w' := by
 have hu40 := Tryz.underlying40
 have HR1 := aM hr1
 have HC1 := aM hc1
 clear hr1 hc1
 have HR2 := aM hr2
 have HC2 := aM hc2
 clear hr2 hc2
 have HB := aM (Below.refl w.heap.size w)
 have H : ((qOA.f k a0 l1).bind fun bt571 => (if bt571.2.2.2 = true then (qM.j0 k l1 l2 ((l2.length : Int) != (l1.length : Int)) bt571.1 bt571.2.1 bt571.2.2.1) else (qM.j0 k l1 l2 true bt571.1 bt571.2.1 bt571.2.2.1))) = some (r1, r2) := h
 clear h
 replace H := bO H
 obtain ⟨⟨t571, t572, t573, t576⟩, A4, H⟩ := H
 dsimp only at H A4
 have HC5 := aM H
 clear H
 go_enter Tryz.func14, Tryz.ntmps14
 go_upto_region 2 with (first | ((with_reducible refine qE (f := 18) rfl ?_); refine qm (some 15) rfl rfl Tryz.func18 (by kernel_rfl) rfl #[.string a0, .slice A1 l1.length c1] rfl gA ?_; (with_reducible refine (qOA.calls k a0 _ _ l1 t571 t572 t573 t576 _ ?side1 ?side2 A4.out).mono ?_); (case side1 => repeat (first | exact HR1.out | (with_reducible refine Kd.qL ?_ _) | (with_reducible refine Kd.qK ?_ _) | (with_reducible refine Kd.qX ?_))); (case side2 => exact HC1.out); rintro e w6 ⟨v574, rfl, ho0, hb⟩; refine ⟨_, rfl, ?_⟩; have HO575 := aM (Kd.qz ho0 (qJ bl)); replace HB := aM (qB bl hb); (try clear hb); (try clear hb2); (try clear hk); (try clear hi); (try clear ho0)) | ((with_reducible refine qH (N := 8) rfl ?_); (try (refine qYC (by rfl) ?_; dsimp only)); refine bE (N := 8) (cs := #[.int .i64 0, .int .i64 0, .slice none 0 0]) (t := 40) ?_; intro gb577 hg w7 hbox hb; have BK577 := aM (hbox); have GW577 := aM ((gg hg)); have GE577 := aM ((gg hg)); replace HO575 := aM (Kd.qc (rR HO575) hb); replace HB := aM (qB bl hb); clear hb hbox hg; (refine cb3 BK577 ?_; intro hcz8_0 hcz8_1 hcz8_2); (refine cz3 BK577 ?_; intro hfz8_0 hfz8_1 hfz8_2); obtain ⟨Ao9, co9, eo9⟩ := Kd.qDA HO575.out; subst eo9))
 (try simp only [Act.put, List.setIfInBounds_toArray, List.set_cons_zero, List.set_cons_succ])
 go_cut [26] (fun v26 wc => ∃ (kq : Nat) (x26_4 : Bool), v26 = .bool x26_4 ∧ Aside0 (qM.j0 kq l1 l2 x26_4 t571 t572 t573 = some (r1, r2)) ∧ Aside0 (kq ≤ k) ∧ Aside0 (Kd.R (Kd.int .u8) 5 wc w.heap.size (fun _ => True) (.slice Ao9 t573.length co9) t573) ∧ Aside0 (wc.heap[gb577]? = some (.cells #[.int .i64 t571, .int .i64 t572, (.slice Ao9 t573.length co9)] 40 (0, 0))) ∧ Aside0 (Below w.heap.size w wc))
 case first =>
  have H := HC5.out
  clear HC5
  by_cases c10 : t576 = true
  ·subst c10
   replace H := iT H
   have H' := aM H
   clear H
   go_wp2
   go_meet
   case rel => exact ⟨_, (((l2.length : Int) != (l1.length : Int))), sD, H', ⟨by first | omega | exact Nat.le_refl _⟩, ⟨by (with_reducible repeat (first | apply Kd.qQ | apply Kd.qR | apply Kd.qS)); exact Kd.qa (Kd.R_far (p := ⟨gb577, 2, none⟩) (Kd.R_far (p := ⟨gb577, 1, none⟩) (Kd.R_far (p := ⟨gb577, 0, none⟩) (Kd.qLB HO575.out BK577.out (by decide)) (fun _ hk => hk.2) (.int .i64 t571)) (fun _ hk => hk.2) (.int .i64 t572)) (fun _ hk => hk.2) (.slice Ao9 t573.length co9)) (fun _ hk => trivial)⟩, ⟨by (with_reducible repeat (first | refine qG ?_ _ | refine qD ?_ | refine qF ?_ _)); exact bP3 BK577⟩, ⟨bl⟩⟩
  ·replace c10 := Bool.eq_false_iff.mpr c10
   subst c10
   replace H := iF H
   have H' := aM H
   clear H
   go_wp2
   go_meet
   case rel => exact ⟨_, (true), sD, H', ⟨by first | omega | exact Nat.le_refl _⟩, ⟨by (with_reducible repeat (first | apply Kd.qQ | apply Kd.qR | apply Kd.qS)); exact Kd.qa (Kd.R_far (p := ⟨gb577, 2, none⟩) (Kd.R_far (p := ⟨gb577, 1, none⟩) (Kd.R_far (p := ⟨gb577, 0, none⟩) (Kd.qLB HO575.out BK577.out (by decide)) (fun _ hk => hk.2) (.int .i64 t571)) (fun _ hk => hk.2) (.int .i64 t572)) (fun _ hk => hk.2) (.slice Ao9 t573.length co9)) (fun _ hk => trivial)⟩, ⟨by (with_reducible repeat (first | refine qG ?_ _ | refine qD ?_ | refine qF ?_ _)); exact bP3 BK577⟩, ⟨bl⟩⟩
 case rest =>
  clear HC5; (try clear c1); (try clear c2); (try clear p2); (try clear c10); (try clear hcz8_0 hcz8_1 hcz8_2); (try clear hfz8_0 hfz8_1 hfz8_2)
  obtain ⟨kq, x26_4, rfl, HA, HJ4, HO_578002, BK577, HB⟩ := hcut
  cases kq with
  | zero => exact absurd HA.out (by simp [qM.j0])
  | succ kj4 =>
   have H := HA.out
   clear HA
   simp only [qM.j0] at H
   by_cases c11 : x26_4 = true
   ·subst c11
    replace H := iT H
    simp only [Option.some.injEq, Prod.mk.injEq] at H
    obtain ⟨rfl, rfl⟩ := H
    go_wp2
    go_ret2
    exact ⟨sR, bl⟩
   ·replace c11 := Bool.eq_false_iff.mpr c11
    subst c11
    replace H := iF H
    have H' := aM H
    clear H
    go_wp2
    go_loopg [29] kj4 (fun kq v29 w' => ∃ (x29_2 : Int), v29 = .int .i64 x29_2 ∧ Aside0 (qM.l0 kq l1 l2 l2 (l2.length : Int) x29_2 t571 t572 t573 = some (r1, r2)) ∧ Aside0 (kq ≤ kj4) ∧ Aside0 (Kd.R (Kd.int .u8) 5 w' w.heap.size (fun _ => True) (.slice Ao9 t573.length co9) t573) ∧ Aside0 (w'.heap[gb577]? = some (.cells #[.int .i64 t571, .int .i64 t572, (.slice Ao9 t573.length co9)] 40 (0, 0))) ∧ Aside0 (Below w.heap.size w w'))
    case atStart => exact ⟨(0), sD, H', ⟨Nat.le_refl _⟩, ⟨rR HO_578002⟩, ⟨rB BK577⟩, ⟨bl⟩⟩
    case round =>
     clear H'; (try clear c1); (try clear c2); (try clear p2); (try clear c10); (try clear c11); (try clear hcz8_0 hcz8_1 hcz8_2); (try clear hfz8_0 hfz8_1 hfz8_2); (try clear p2)
     obtain ⟨x29_2, rfl, HA, HK2, HO_578002, BK577, HB⟩ := hrel
     cases gk with
     | zero => exact absurd HA.out (by simp [qM.l0])
     | succ k2 =>
      have H := HA.out
      clear HA
      simp only [qM.l0] at H
      by_cases c12 : x29_2 < (l2.length : Int)
      ·rw [if_pos c12] at H
       have c12b0 := decide_eq_true c12
       clear c12
       by_cases c13 : 0 ≤ x29_2
       case neg => exact nN c13 H
       rw [if_pos c13] at H
       have c13b0 := decide_eq_true c13
       clear c13
       by_cases c14 : x29_2 < (l2.length : Int)
       case neg => exact nN c14 H
       rw [if_pos c14] at H
       have c14b0 := decide_eq_true c14
       clear c14
       by_cases c15 : ((rd_L7 l2 x29_2).length : Int) = 2
       ·rw [if_pos c15] at H
        have c15b0 := beq_iff_eq.mpr c15
        have c15b1 := bne_eq_false_iff_eq.mpr c15
        clear c15
        by_cases c16 : 0 < ((rd_L7 l2 x29_2).length : Int)
        case neg => exact nN c16 H
        rw [if_pos c16] at H
        have c16b0 := decide_eq_true c16
        have c16b1 : decide (0 < (rd_L7 l2 x29_2).length) = true := decide_eq_true (by omega)
        clear c16
        by_cases c17 : 1 < ((rd_L7 l2 x29_2).length : Int)
        case neg => exact nN c17 H
        rw [if_pos c17] at H
        have c17b0 := decide_eq_true c17
        have c17b1 : decide (1 < (rd_L7 l2 x29_2).length) = true := decide_eq_true (by omega)
        clear c17
        replace H := bO H
        obtain ⟨t581, A18, H⟩ := H
        by_cases c19 : t581 = true
        ·subst c19
         replace H := iT H
         have H' := aM H
         clear H
         have p578 : 0 ≤ (x29_2 : Int) := of_decide_eq_true am
         have q578 : x29_2 < (l2.length : Int) := of_decide_eq_true am
         obtain ⟨ad578, A578_0, c578_0, e578, hx578_0, hl578_0, hi578_0⟩ := at_L7 HR2.out x29_2 p578 q578
         cases e578
         replace hx578_0 := hB HB hx578_0
         have HR578_0 := aM hi578_0
         have HC578_0 := aM hl578_0
         clear hi578_0 hl578_0
         replace p578 := eq_true p578
         replace q578 := eq_true q578
         try go_wp2
         replace HO_578002 := aM (Kd.qS HO_578002.out)
         replace BK577 := aM (qD BK577.out)
         replace HB := aM (qi HB.out)
         have p579 : 0 ≤ (0 : Int) := (by omega)
         have q579 : 0 < ((rd_L7 l2 x29_2).length : Int) := of_decide_eq_true am
         obtain ⟨ad579, e579, hx579_0⟩ := Kd.qHB HR578_0.out 0 p579 q579
         have hw579_0 := hx579_0
         (try rw [show ((0 : Int)).toNat = 0 from rfl] at hw579_0)
         (try rw [show 0 * 1 = 0 from rfl] at hw579_0)
         (try rw [Addr.add_zero'] at hw579_0)
         cases e579
         have qi579 : (0 < (rd_L7 l2 x29_2).length) = True := eq_true (by omega)
         (try rw [show ((0 : Int)).toNat = 0 from rfl] at hx579_0)
         (try rw [Addr.add_zero'] at hx579_0)
         replace hx579_0 := hB HB hx579_0
         replace p579 := eq_true p579
         replace q579 := eq_true q579
         have p580 : 0 ≤ (1 : Int) := (by omega)
         have q580 : 1 < ((rd_L7 l2 x29_2).length : Int) := of_decide_eq_true am
         obtain ⟨ad580, e580, hx580_0⟩ := Kd.qHB HR578_0.out 1 p580 q580
         have hw580_0 := hx580_0
         (try rw [show ((1 : Int)).toNat = 1 from rfl] at hw580_0)
         (try rw [show 1 * 1 = 1 from rfl] at hw580_0)
         (try simp only [Nat.reduceMul, Nat.reduceEqDiff, Go.Addr.add, ↓reduceIte] at hw580_0)
         obtain rfl : ad579 = ad580 := (by injection e580)
         (try simp only [show (1 : Int).toNat = 1 from rfl, Nat.reduceMul, Nat.reduceEqDiff, Go.Addr.add, ↓reduceIte] at hx580_0)
         have qi580 : (1 < (rd_L7 l2 x29_2).length) = True := eq_true (by omega)
         (try rw [show ((1 : Int)).toNat = 1 from rfl] at hx580_0)
         replace hx580_0 := hB HB hx580_0
         replace p580 := eq_true p580
         replace q580 := eq_true q580
         refine qJB (n := 14) (S := fun w' => w'.cell? ⟨gb577, 0, none⟩ = some (.int .i64 t571) ∧ w'.cell? ⟨gb577, 1, none⟩ = some (.int .i64 t572) ∧ w'.cell? ⟨gb577, 2, none⟩ = some (.slice Ao9 t573.length co9) ∧ w'.cell? ad579 = some (.int .i64 (rd (rd_L7 l2 x29_2) 0)) ∧ w'.cell? ⟨ad579.block, ad579.off + 1, none⟩ = some (.int .i64 (rd (rd_L7 l2 x29_2) 1))) (ds := []) #[false, false, false, false, false, false, false, false, false, false, false, false, false, false] (by kernel_rfl) rfl rfl ⟨bc BK577 0, bc BK577 1, bc BK577 2, (hB HB hw579_0 :), (hB HB hw580_0 :)⟩ (fun hHeld => ?_); refine qNA qM.tab7 qM.bits7 (fun HT_ HW_ => ?_)
         generalize wr.drew = w20 at HO_578002 BK577 HB hx579_0 hx580_0 hHeld ⊢
         refine pS (i := 0) (N := some 33) #[true, false, false, false, false, false, false, false, false, false, false, false, false, false] HT_ ?_
         refine pS (i := 1) (N := some 34) #[true, true, false, false, false, false, false, false, false, false, false, false, false, false] HT_ ?_
         refine pS (i := 2) (N := some 35) #[true, true, true, false, false, false, false, false, false, false, false, false, false, false] HT_ ?_
         refine pS (i := 3) (N := some 36) #[true, true, true, true, false, false, false, false, false, false, false, false, false, false] HT_ ?_
         refine pS (i := 5) (N := some 38) #[true, true, true, true, false, true, false, false, false, false, false, false, false, false] HT_ ?_
         refine pS (i := 6) (N := some 39) #[true, true, true, true, false, true, true, false, false, false, false, false, false, false] HT_ ?_
         refine pS (i := 8) (N := some 41) #[true, true, true, true, false, true, true, false, true, false, false, false, false, false] HT_ ?_
         refine pS (i := 9) (N := some 42) #[true, true, true, true, false, true, true, false, true, true, false, false, false, false] HT_ ?_
         refine tS (i := 4) (N := some 37) #[true, true, true, true, true, true, true, false, true, true, false, false, false, false] HT_ HW_ hHeld ?_
         refine tS (i := 7) (N := some 40) #[true, true, true, true, true, true, true, true, true, true, false, false, false, false] HT_ HW_ hHeld ?_
         refine tS (i := 10) (N := some 43) #[true, true, true, true, true, true, true, true, true, true, true, false, false, false] HT_ HW_ hHeld ?_
         refine one_ (i := 11) (N := some 44) #[true, true, true, true, true, true, true, true, true, true, true, true, false, false] rfl rfl (qcA HT_.out (by kernel_rfl)) (by decide) (fun K hK => ?_)
         refine goes_ Tryz.func32 (by kernel_rfl) rfl #[.agg #[.int .i64 t571, .int .i64 t572, .slice Ao9 t573.length co9], .int .i64 (rd (rd_L7 l2 x29_2) 0), .int .i64 (rd (rd_L7 l2 x29_2) 1)] (by rfl) rfl rfl gA ?_
         with_reducible refine (qGB.calls t571 t572 _ _ t573 (rd (rd_L7 l2 x29_2) 0) (rd (rd_L7 l2 x29_2) 1) true _ ?side1 ?side2 A18.out).mono ?_
         (case side1 => repeat (first | exact (Kd.qO HO_578002.out).2.2 | (with_reducible refine Kd.qL ?_ _) | (with_reducible refine Kd.qK ?_ _) | (with_reducible refine Kd.qX ?_)))
         (case side2 => exact (Kd.qO HO_578002.out).2.1)
         rintro e w21 ⟨rfl, hb⟩
         refine ⟨_, rfl, ?_⟩
         replace HO_578002 := aM (Kd.qc (rR HO_578002) hb)
         replace BK577 := aM (bb BK577 hb)
         replace HB := aM (qB bl hb); (try clear hb); (try clear hb2); (try clear hk); (try clear hi)
         refine hK.out _ _ ⟨bc BK577 0, bc BK577 1, bc BK577 2, (hB HB hw579_0 :), (hB HB hw580_0 :)⟩ (fun hHeld => ?_)
         clear hK K
         refine norm_ (a' := ?_) ?_ ?_
         rotate_left
         ·show Act.put _ (some 44) _ = _
          simp only [Act.put, List.setIfInBounds_toArray, List.set_cons_zero, List.set_cons_succ, i64_w, i32_w]
          rfl
         refine pS (i := 12) (N := some 45) #[true, true, true, true, true, true, true, true, true, true, true, true, true, false] HT_ ?_
         refine pS (i := 13) (N := some 46) #[true, true, true, true, true, true, true, true, true, true, true, true, true, true] HT_ ?_
         refine done_ (qvA HT_.out (by kernel_rfl)) ?_
         try go_wp2
         go_roundg k2
         case measure => have := HJ4.out; have := HK2.out; omega
         case rel => exact ⟨(wrap64 (x29_2 + 1)), sD, H', ⟨by have := HJ4.out; have := HK2.out; omega⟩, ⟨rR HO_578002⟩, ⟨rB BK577⟩, ⟨bl⟩⟩
        ·replace c19 := Bool.eq_false_iff.mpr c19
         subst c19
         replace H := iF H
         simp only [Option.some.injEq, Prod.mk.injEq] at H
         obtain ⟨rfl, rfl⟩ := H
         have p578 : 0 ≤ (x29_2 : Int) := of_decide_eq_true am
         have q578 : x29_2 < (l2.length : Int) := of_decide_eq_true am
         obtain ⟨ad578, A578_0, c578_0, e578, hx578_0, hl578_0, hi578_0⟩ := at_L7 HR2.out x29_2 p578 q578
         cases e578
         replace hx578_0 := hB HB hx578_0
         have HR578_0 := aM hi578_0
         have HC578_0 := aM hl578_0
         clear hi578_0 hl578_0
         replace p578 := eq_true p578
         replace q578 := eq_true q578
         try go_wp2
         replace HO_578002 := aM (Kd.qS HO_578002.out)
         replace BK577 := aM (qD BK577.out)
         replace HB := aM (qi HB.out)
         have p579 : 0 ≤ (0 : Int) := (by omega)
         have q579 : 0 < ((rd_L7 l2 x29_2).length : Int) := of_decide_eq_true am
         obtain ⟨ad579, e579, hx579_0⟩ := Kd.qHB HR578_0.out 0 p579 q579
         have hw579_0 := hx579_0
         (try rw [show ((0 : Int)).toNat = 0 from rfl] at hw579_0)
         (try rw [show 0 * 1 = 0 from rfl] at hw579_0)
         (try rw [Addr.add_zero'] at hw579_0)
         cases e579
         have qi579 : (0 < (rd_L7 l2 x29_2).length) = True := eq_true (by omega)
         (try rw [show ((0 : Int)).toNat = 0 from rfl] at hx579_0)
         (try rw [Addr.add_zero'] at hx579_0)
         replace hx579_0 := hB HB hx579_0
         replace p579 := eq_true p579
         replace q579 := eq_true q579
         have p580 : 0 ≤ (1 : Int) := (by omega)
         have q580 : 1 < ((rd_L7 l2 x29_2).length : Int) := of_decide_eq_true am
         obtain ⟨ad580, e580, hx580_0⟩ := Kd.qHB HR578_0.out 1 p580 q580
         have hw580_0 := hx580_0
         (try rw [show ((1 : Int)).toNat = 1 from rfl] at hw580_0)
         (try rw [show 1 * 1 = 1 from rfl] at hw580_0)
         (try simp only [Nat.reduceMul, Nat.reduceEqDiff, Go.Addr.add, ↓reduceIte] at hw580_0)
         obtain rfl : ad579 = ad580 := (by injection e580)
         (try simp only [show (1 : Int).toNat = 1 from rfl, Nat.reduceMul, Nat.reduceEqDiff, Go.Addr.add, ↓reduceIte] at hx580_0)
         have qi580 : (1 < (rd_L7 l2 x29_2).length) = True := eq_true (by omega)
         (try rw [show ((1 : Int)).toNat = 1 from rfl] at hx580_0)
         replace hx580_0 := hB HB hx580_0
         replace p580 := eq_true p580
         replace q580 := eq_true q580
         refine qJB (n := 14) (S := fun w' => w'.cell? ⟨gb577, 0, none⟩ = some (.int .i64 t571) ∧ w'.cell? ⟨gb577, 1, none⟩ = some (.int .i64 t572) ∧ w'.cell? ⟨gb577, 2, none⟩ = some (.slice Ao9 t573.length co9) ∧ w'.cell? ad579 = some (.int .i64 (rd (rd_L7 l2 x29_2) 0)) ∧ w'.cell? ⟨ad579.block, ad579.off + 1, none⟩ = some (.int .i64 (rd (rd_L7 l2 x29_2) 1))) (ds := []) #[false, false, false, false, false, false, false, false, false, false, false, false, false, false] (by kernel_rfl) rfl rfl ⟨bc BK577 0, bc BK577 1, bc BK577 2, (hB HB hw579_0 :), (hB HB hw580_0 :)⟩ (fun hHeld => ?_); refine qNA qM.tab7 qM.bits7 (fun HT_ HW_ => ?_)
         generalize wr.drew = w22 at HO_578002 BK577 HB hx579_0 hx580_0 hHeld ⊢
         refine pS (i := 0) (N := some 33) #[true, false, false, false, false, false, false, false, false, false, false, false, false, false] HT_ ?_
         refine pS (i := 1) (N := some 34) #[true, true, false, false, false, false, false, false, false, false, false, false, false, false] HT_ ?_
         refine pS (i := 2) (N := some 35) #[true, true, true, false, false, false, false, false, false, false, false, false, false, false] HT_ ?_
         refine pS (i := 3) (N := some 36) #[true, true, true, true, false, false, false, false, false, false, false, false, false, false] HT_ ?_
         refine pS (i := 5) (N := some 38) #[true, true, true, true, false, true, false, false, false, false, false, false, false, false] HT_ ?_
         refine pS (i := 6) (N := some 39) #[true, true, true, true, false, true, true, false, false, false, false, false, false, false] HT_ ?_
         refine pS (i := 8) (N := some 41) #[true, true, true, true, false, true, true, false, true, false, false, false, false, false] HT_ ?_
         refine pS (i := 9) (N := some 42) #[true, true, true, true, false, true, true, false, true, true, false, false, false, false] HT_ ?_
         refine tS (i := 4) (N := some 37) #[true, true, true, true, true, true, true, false, true, true, false, false, false, false] HT_ HW_ hHeld ?_
         refine tS (i := 7) (N := some 40) #[true, true, true, true, true, true, true, true, true, true, false, false, false, false] HT_ HW_ hHeld ?_
         refine tS (i := 10) (N := some 43) #[true, true, true, true, true, true, true, true, true, true, true, false, false, false] HT_ HW_ hHeld ?_
         refine one_ (i := 11) (N := some 44) #[true, true, true, true, true, true, true, true, true, true, true, true, false, false] rfl rfl (qcA HT_.out (by kernel_rfl)) (by decide) (fun K hK => ?_)
         refine goes_ Tryz.func32 (by kernel_rfl) rfl #[.agg #[.int .i64 t571, .int .i64 t572, .slice Ao9 t573.length co9], .int .i64 (rd (rd_L7 l2 x29_2) 0), .int .i64 (rd (rd_L7 l2 x29_2) 1)] (by rfl) rfl rfl gA ?_
         with_reducible refine (qGB.calls t571 t572 _ _ t573 (rd (rd_L7 l2 x29_2) 0) (rd (rd_L7 l2 x29_2) 1) false _ ?side1 ?side2 A18.out).mono ?_
         (case side1 => repeat (first | exact (Kd.qO HO_578002.out).2.2 | (with_reducible refine Kd.qL ?_ _) | (with_reducible refine Kd.qK ?_ _) | (with_reducible refine Kd.qX ?_)))
         (case side2 => exact (Kd.qO HO_578002.out).2.1)
         rintro e w23 ⟨rfl, hb⟩
         refine ⟨_, rfl, ?_⟩
         replace HO_578002 := aM (Kd.qc (rR HO_578002) hb)
         replace BK577 := aM (bb BK577 hb)
         replace HB := aM (qB bl hb); (try clear hb); (try clear hb2); (try clear hk); (try clear hi)
         refine hK.out _ _ ⟨bc BK577 0, bc BK577 1, bc BK577 2, (hB HB hw579_0 :), (hB HB hw580_0 :)⟩ (fun hHeld => ?_)
         clear hK K
         refine norm_ (a' := ?_) ?_ ?_
         rotate_left
         ·show Act.put _ (some 44) _ = _
          simp only [Act.put, List.setIfInBounds_toArray, List.set_cons_zero, List.set_cons_succ, i64_w, i32_w]
          rfl
         refine pS (i := 12) (N := some 45) #[true, true, true, true, true, true, true, true, true, true, true, true, true, false] HT_ ?_
         refine pS (i := 13) (N := some 46) #[true, true, true, true, true, true, true, true, true, true, true, true, true, true] HT_ ?_
         refine done_ (qvA HT_.out (by kernel_rfl)) ?_
         try go_wp2
         go_ret2
         exact ⟨sR, bl⟩
       ·rw [if_neg c15] at H
        have c15b0 := beq_eq_false_iff_ne.mpr c15
        have c15b1 := bne_iff_ne.mpr c15
        simp only [Option.some.injEq, Prod.mk.injEq] at H
        obtain ⟨rfl, rfl⟩ := H
        have p578 : 0 ≤ (x29_2 : Int) := of_decide_eq_true am
        have q578 : x29_2 < (l2.length : Int) := of_decide_eq_true am
        obtain ⟨ad578, A578_0, c578_0, e578, hx578_0, hl578_0, hi578_0⟩ := at_L7 HR2.out x29_2 p578 q578
        cases e578
        replace hx578_0 := hB HB hx578_0
        have HR578_0 := aM hi578_0
        have HC578_0 := aM hl578_0
        clear hi578_0 hl578_0
        replace p578 := eq_true p578
        replace q578 := eq_true q578
        try go_wp2
        replace HO_578002 := aM (Kd.qS HO_578002.out)
        replace BK577 := aM (qD BK577.out)
        replace HB := aM (qi HB.out)
        refine qJB (n := 14) (S := fun w' => True) (ds := []) #[false, false, false, false, false, false, false, false, false, false, false, false, false, false] (by kernel_rfl) rfl rfl trivial (fun hHeld => ?_); refine qNA qM.tab7 qM.bits7 (fun HT_ HW_ => ?_)
        generalize wr.drew = w24 at HO_578002 BK577 HB hHeld ⊢
        refine pS (i := 0) (N := some 33) #[true, false, false, false, false, false, false, false, false, false, false, false, false, false] HT_ ?_
        refine pS (i := 1) (N := some 34) #[true, true, false, false, false, false, false, false, false, false, false, false, false, false] HT_ ?_
        refine pS (i := 2) (N := some 35) #[true, true, true, false, false, false, false, false, false, false, false, false, false, false] HT_ ?_
        refine pS (i := 3) (N := some 36) #[true, true, true, true, false, false, false, false, false, false, false, false, false, false] HT_ ?_
        refine pure_ (i := 4) (N := some 37) (v := undef) (a' := ?_) #[true, true, true, true, true, false, false, false, false, false, false, false, false, false] rfl rfl (qNB HT_.out (by kernel_rfl)) (fun _ _ _ h => h) (Or.inr ⟨by rfl, rfl⟩) ?_ ?_
        rotate_left
        ·simp only [Act.put, List.setIfInBounds_toArray, List.set_cons_zero, List.set_cons_succ, i64_w, i32_w]
         rfl
        refine pure_ (i := 5) (N := some 38) (v := undef) (a' := ?_) #[true, true, true, true, true, true, false, false, false, false, false, false, false, false] rfl rfl (qNB HT_.out (by kernel_rfl)) (fun _ _ _ h => h) (Or.inr ⟨by rfl, rfl⟩) ?_ ?_
        rotate_left
        ·simp only [Act.put, List.setIfInBounds_toArray, List.set_cons_zero, List.set_cons_succ, i64_w, i32_w]
         rfl
        refine pure_ (i := 6) (N := some 39) (v := undef) (a' := ?_) #[true, true, true, true, true, true, true, false, false, false, false, false, false, false] rfl rfl (qNB HT_.out (by kernel_rfl)) (fun _ _ _ h => h) (Or.inr ⟨by rfl, rfl⟩) ?_ ?_
        rotate_left
        ·simp only [Act.put, List.setIfInBounds_toArray, List.set_cons_zero, List.set_cons_succ, i64_w, i32_w]
         rfl
        refine pure_ (i := 7) (N := some 40) (v := undef) (a' := ?_) #[true, true, true, true, true, true, true, true, false, false, false, false, false, false] rfl rfl (qNB HT_.out (by kernel_rfl)) (fun _ _ _ h => h) (Or.inr ⟨by rfl, rfl⟩) ?_ ?_
        rotate_left
        ·simp only [Act.put, List.setIfInBounds_toArray, List.set_cons_zero, List.set_cons_succ, i64_w, i32_w]
         rfl
        refine pure_ (i := 8) (N := some 41) (v := undef) (a' := ?_) #[true, true, true, true, true, true, true, true, true, false, false, false, false, false] rfl rfl (qNB HT_.out (by kernel_rfl)) (fun _ _ _ h => h) (Or.inr ⟨by rfl, rfl⟩) ?_ ?_
        rotate_left
        ·simp only [Act.put, List.setIfInBounds_toArray, List.set_cons_zero, List.set_cons_succ, i64_w, i32_w]
         rfl
        refine pure_ (i := 9) (N := some 42) (v := undef) (a' := ?_) #[true, true, true, true, true, true, true, true, true, true, false, false, false, false] rfl rfl (qNB HT_.out (by kernel_rfl)) (fun _ _ _ h => h) (Or.inr ⟨by rfl, rfl⟩) ?_ ?_
        rotate_left
        ·simp only [Act.put, List.setIfInBounds_toArray, List.set_cons_zero, List.set_cons_succ, i64_w, i32_w]
         rfl
        refine pure_ (i := 10) (N := some 43) (v := undef) (a' := ?_) #[true, true, true, true, true, true, true, true, true, true, true, false, false, false] rfl rfl (qNB HT_.out (by kernel_rfl)) (fun _ _ _ h => h) (Or.inr ⟨by rfl, rfl⟩) ?_ ?_
        rotate_left
        ·simp only [Act.put, List.setIfInBounds_toArray, List.set_cons_zero, List.set_cons_succ, i64_w, i32_w]
         rfl
        refine pure_ (i := 11) (N := some 44) (v := undef) (a' := ?_) #[true, true, true, true, true, true, true, true, true, true, true, true, false, false] rfl rfl (qNB HT_.out (by kernel_rfl)) (fun _ _ _ h => h) (Or.inr ⟨by rfl, rfl⟩) ?_ ?_
        rotate_left
        ·simp only [Act.put, List.setIfInBounds_toArray, List.set_cons_zero, List.set_cons_succ, i64_w, i32_w]
         rfl
        refine pure_ (i := 12) (N := some 45) (v := undef) (a' := ?_) #[true, true, true, true, true, true, true, true, true, true, true, true, true, false] rfl rfl (qNB HT_.out (by kernel_rfl)) (fun _ _ _ h => h) (Or.inr ⟨by rfl, rfl⟩) ?_ ?_
        rotate_left
        ·simp only [Act.put, List.setIfInBounds_toArray, List.set_cons_zero, List.set_cons_succ, i64_w, i32_w]
         rfl
        refine pS (i := 13) (N := some 46) #[true, true, true, true, true, true, true, true, true, true, true, true, true, true] HT_ ?_
        refine done_ (qvA HT_.out (by kernel_rfl)) ?_
        try go_wp2
        go_ret2
        exact ⟨sR, bl⟩
      ·rw [if_neg c12] at H
       have c12b0 := decide_eq_false c12
       clear c12
       replace H := bO H
       obtain ⟨⟨t582, t583⟩, A25, H⟩ := H
       dsimp only at H A25
       simp only [Option.some.injEq, Prod.mk.injEq] at H
       obtain ⟨rfl, rfl⟩ := H
       (refine cb3 BK577 ?_; intro _ _ _)
       (refine cz3 BK577 ?_; intro _ _ _)
       go_wp2_with (first | ((with_reducible refine qE (f := 30) rfl ?_); refine qm (some 51) rfl rfl Tryz.func30 (by kernel_rfl) rfl #[.agg #[.int .i64 t571, .int .i64 t572, .slice Ao9 t573.length co9], .slice A1 l1.length c1, .slice A2 l2.length c2] rfl gA ?_; (with_reducible refine (qbB.calls k2 t571 t572 _ _ t573 _ _ l1 _ _ l2 t582 t583 _ ?side1 ?side2 ?side3 ?side4 ?side5 ?side6 A25.out).mono ?_); (case side1 => repeat (first | exact (Kd.qO HO_578002.out).2.2 | (with_reducible refine Kd.qL ?_ _) | (with_reducible refine Kd.qK ?_ _) | (with_reducible refine Kd.qX ?_))); (case side2 => exact (Kd.qO HO_578002.out).2.1); (case side3 => repeat (first | exact (Kd.qV HR1.out HB.out) | (with_reducible refine Kd.qL ?_ _) | (with_reducible refine Kd.qK ?_ _) | (with_reducible refine Kd.qX ?_))); (case side4 => exact HC1.out); (case side5 => repeat (first | exact (Kd.qV HR2.out HB.out) | (with_reducible refine Kd.qL ?_ _) | (with_reducible refine Kd.qK ?_ _) | (with_reducible refine Kd.qX ?_))); (case side6 => exact HC2.out); rintro e w27 ⟨rfl, hb⟩; refine ⟨_, rfl, ?_⟩; replace HO_578002 := aM (Kd.qc (rR HO_578002) hb); replace BK577 := aM (bb BK577 hb); replace HB := aM (qB bl hb); (try clear hb); (try clear hb2); (try clear hk); (try clear hi)))
       go_ret2
       exact ⟨sR, bl⟩
def qXA.l0 : Nat → List Int → Int → List Int → Option (List Int)
 | 0, _, _, _ => none
 | k + 1, x0, x4, x7 => if x4 < (x0.length : Int) then (if 0 ≤ x4 then (if x4 < (x7.length : Int) then (qXA.l0 k x0 (wrap64 (x4 + 1)) (x7.set (x4 : Int).toNat (rd x0 x4))) else (none)) else (none)) else (some x7)
def qXA.f (k : Nat) (l0 : List Int) : Option (List Int) := if 0 ≤ (l0.length : Int) then (if ((l0.length : Int) : Int).toNat ≤ 35184372088832 then (qXA.l0 k l0 0 (List.replicate ((l0.length : Int) : Int).toNat 0)) else (none)) else (none)
set_option maxHeartbeats 8000000 in
set_option maxRecDepth 100000 in
theorem qXA.calls (k : Nat) (A0 : Option Addr) (c0 : Nat) (l0 : List Int) (r : List Int) (w : World) (hr0 : Kd.C (Kd.int .i64) w A0 l0.length l0) (hc0 : l0.length ≤ c0) (h : qXA.f k l0 = some r) :
  Calls Tryz.prog 33 #[.slice A0 l0.length c0] w fun e w' => ∃ v0_ : Value, e = .returned (v0_) ∧ Kd.R (Kd.int .i64) 3 w' w.heap.size (fun _ => True) v0_ r ∧ Below w.heap.size w w' := by
 have HR0 := aM hr0
 have HC0 := aM hc0
 clear hr0 hc0
 have HB := aM (Below.refl w.heap.size w)
 have H : (if 0 ≤ (l0.length : Int) then (if ((l0.length : Int) : Int).toNat ≤ 35184372088832 then (qXA.l0 k l0 0 (List.replicate ((l0.length : Int) : Int).toNat 0)) else (none)) else (none)) = some r := h
 clear h
 by_cases c2 : 0 ≤ (l0.length : Int)
 ·rw [if_pos c2] at H
  have c2b0 := eq_true c2
  have c2b1 := decide_eq_true c2
  clear c2
  by_cases c3 : ((l0.length : Int) : Int).toNat ≤ 35184372088832
  case neg => exact nN c3 H
  rw [if_pos c3] at H
  have c3b0 := eq_true c3
  have c3b1 := decide_eq_true c3
  clear c3
  obtain ⟨y584, hy584⟩ : ∃ y_ : List Int, y_ = (List.replicate ((l0.length : Int) : Int).toNat 0) := ⟨_, rfl⟩
  replace H : (qXA.l0 k l0 0 y584) = some r := by first | (rw [hy584]; with_reducible exact H) | (have H2_ := (Option.bind_some _ _).symm.trans H; rw [hy584]; with_reducible exact H2_) | (have H2_ := (Option.bind_some _ _).symm.trans H; with_reducible exact H2_) | with_reducible exact H | (rw [hy584]; exact H) | exact H
  have Ny584 := aM hy584
  clear hy584
  have H' := aM H
  clear H
  go_enter Tryz.func33, Tryz.ntmps33
  go_wp2_with (first | ((with_reducible refine qH (N := 7) rfl ?_); refine Kd.qpE (Kd.int .i64) _ 3 rfl (N := 7) rfl 69 _ _ rfl (l0.length : Int) rfl rfl Tryz.underlying69 (.int .i64 0) 8 info3 rfl (by decide) (by omega) 0 (ok := fun _ => True) (okp := fun _ => True) rfl (fun _ hk => hk) trivial (of_decide_eq_true am) (Nat.le_trans (Nat.mul_le_mul_right _ (of_decide_eq_true am : (l0.length : Int).toNat ≤ 35184372088832)) (by omega)) (Below.refl _ _) (Nat.le_refl _) ?_; intro v585 w4 ho5 hb hg_ hnew_; clear hg_ hnew_; (first | rw [← Ny584.out] at ho5 | (simp only [Int.reduceToNat] at ho5; rw [← Ny584.out] at ho5)); have HO586 := aM (Kd.qz ho5 (qJ bl)); replace HB := aM (qB bl hb); clear hb ho5))
  go_loopg [4] k (fun kq v4 w' => ∃ (x4_1 : Int) (x7_1 : List Int), v4 = .int .i64 x4_1 ∧ Aside0 (qXA.l0 kq l0 x4_1 x7_1 = some r) ∧ Aside0 (kq ≤ k) ∧ Aside0 (Kd.R (Kd.int .i64) 3 w' w.heap.size (fun _ => True) v585 x7_1) ∧ Aside0 (Below w.heap.size w w'))
  case atStart => exact ⟨(0), (y584), sD, H', ⟨Nat.le_refl _⟩, ⟨rR HO586⟩, ⟨bl⟩⟩
  case round =>
   clear H'; (try clear c2); (try clear c2b0); (try clear c2b1); (try clear p2); (try clear c3); (try clear c3b0); (try clear c3b1)
   obtain ⟨x4_1, x7_1, rfl, HA, HK1, HO_7, HB⟩ := hrel
   cases gk with
   | zero => exact absurd HA.out (by simp [qXA.l0])
   | succ k1 =>
    have H := HA.out
    clear HA
    simp only [qXA.l0] at H
    by_cases c6 : x4_1 < (l0.length : Int)
    ·rw [if_pos c6] at H
     have c6b0 := decide_eq_true c6
     clear c6
     by_cases c7 : 0 ≤ x4_1
     case neg => exact nN c7 H
     rw [if_pos c7] at H
     have c7b0 := decide_eq_true c7
     clear c7
     by_cases c8 : x4_1 < (x7_1.length : Int)
     case neg => exact nN c8 H
     rw [if_pos c8] at H
     have c8b0 := decide_eq_true c8
     clear c8
     obtain ⟨y588, hy588⟩ : ∃ y_ : List Int, y_ = (x7_1.set (x4_1 : Int).toNat (rd l0 x4_1)) := ⟨_, rfl⟩
     replace H : (qXA.l0 k1 l0 (wrap64 (x4_1 + 1)) y588) = some r := by first | (rw [hy588]; with_reducible exact H) | (have H2_ := (Option.bind_some _ _).symm.trans H; rw [hy588]; with_reducible exact H2_) | (have H2_ := (Option.bind_some _ _).symm.trans H; with_reducible exact H2_) | with_reducible exact H | (rw [hy588]; exact H) | exact H
     have Ny588 := aM hy588
     clear hy588
     have H' := aM H
     clear H
     have p587 : 0 ≤ (x4_1 : Int) := of_decide_eq_true am
     have q587 : x4_1 < (l0.length : Int) := of_decide_eq_true am
     obtain ⟨ad587, e587, hx587_0⟩ := Kd.qHB HR0.out x4_1 p587 q587
     cases e587
     replace hx587_0 := hB HB hx587_0
     replace p587 := eq_true p587
     replace q587 := eq_true q587
     have p9 : 0 ≤ (x4_1 : Int) := of_decide_eq_true am
     have q9 : (x4_1 : Int) < ((x7_1.length : Int) : Int) := of_decide_eq_true am
     obtain ⟨go9, co9, eo9, gb9, gl9, cl9, HG9⟩ := Kd.qIE HO_7.out (by omega)
     (first | cases eo9 | (injection eo9 with ea_ en_ ec_; (first | subst ea_ | (injection ea_ with ea_; subst ea_)); subst ec_; clear en_))
     have GB9 := aM gb9
     have GG9 := aM HG9
     clear gb9 gl9 HG9
     obtain ⟨hx9_0, hf9_0⟩ := Kd.qAE 0 HO_7.out (x4_1 : Int) p9 q9
     replace p9 := eq_true p9
     replace q9 := eq_true q9
     have HP10 := Kd.qxE HO_7.out (x4_1 : Int) (rd l0 x4_1)
     go_wp2_with (first | ((with_reducible refine qsB (t := 3) (p := 20) rfl ?_); refine qlB (t := 3) (p := 20) (v := ?vo_w11) (w1 := (wr.setCell ⟨go9, (x4_1 : Int).toNat, none⟩ (.int .i64 (rd l0 x4_1)))) ?hg ?ho ?hn ?hr ?_; (case ho => rfl); (case hg => rfl); (case hn => rfl); (case hr => exact gS); intro w11 hw; have hg : wr.grownBy w11 (some go9) := (by rw [hw]; exact HP10.2); have hp_ : Kd.R (Kd.int .i64) 3 w11 w.heap.size (fun _ => True) (.slice (some ⟨go9, 0, none⟩) x7_1.length co9) y588 := (by rw [hw, Ny588.out]; exact HP10.1); clear HP10; replace HO_7 := aM (hp_); replace HB := aM ((by rw [hw]; exact qBA (HB.out) GB9.out : Below w.heap.size w w11)); clear hg hw hp_))
     go_roundg k1
     case measure => have := HK1.out; omega
     case rel => exact ⟨(wrap64 (x4_1 + 1)), (y588), sD, H', ⟨by have := HK1.out; omega⟩, ⟨rR HO_7⟩, ⟨bl⟩⟩
    ·rw [if_neg c6] at H
     have c6b0 := decide_eq_false c6
     clear c6
     obtain rfl := Option.some.inj H
     go_wp2
     go_ret
     exact ⟨_, sR, by (with_reducible repeat (first | apply Kd.qQ | apply Kd.qR | apply Kd.qS)); exact HO_7.out, bl⟩
 ·rw [if_neg c2] at H
  exact absurd H (by simp)
def qx.l0 : Nat → List (List Int) → Int → List (List Int) → Option ((List (List Int)))
 | 0, _, _, _ => none
 | k + 1, x0, x4, x7 => if x4 < (x0.length : Int) then (if 0 ≤ x4 then ((qXA.f k (rd_L7 x0 x4)).bind fun t593 => (if x4 < (x7.length : Int) then (qx.l0 k x0 (wrap64 (x4 + 1)) (x7.set (x4 : Int).toNat t593)) else (none))) else (none)) else (some x7)
def qx.f (k : Nat) (l0 : List (List Int)) : Option ((List (List Int))) := if 0 ≤ (l0.length : Int) then (if ((l0.length : Int) : Int).toNat ≤ 11728124029610 then (qx.l0 k l0 0 (List.replicate ((l0.length : Int) : Int).toNat [])) else (none)) else (none)
set_option maxHeartbeats 8000000 in
set_option maxRecDepth 100000 in
theorem qx.calls (k : Nat) (A0 : Option Addr) (c0 : Nat) (l0 : List (List Int)) (r : List (List Int)) (w : World) (hr0 : Kd.C (Kd.slice 3 (Kd.int .i64)) w A0 l0.length l0) (hc0 : l0.length ≤ c0) (h : qx.f k l0 = some r) :
  Calls Tryz.prog 15 #[.slice A0 l0.length c0] w fun e w' => ∃ v0_ : Value, e = .returned (v0_) ∧ Kd.S (Kd.slice 3 (Kd.int .i64)) 69 w' w.heap.size (fun _ => True) v0_ r ∧ Below w.heap.size w w' := by
 have HR0 := aM hr0
 have HC0 := aM hc0
 clear hr0 hc0
 have HB := aM (Below.refl w.heap.size w)
 have H : (if 0 ≤ (l0.length : Int) then (if ((l0.length : Int) : Int).toNat ≤ 11728124029610 then (qx.l0 k l0 0 (List.replicate ((l0.length : Int) : Int).toNat [])) else (none)) else (none)) = some r := h
 clear h
 by_cases c2 : 0 ≤ (l0.length : Int)
 ·rw [if_pos c2] at H
  have c2b0 := eq_true c2
  have c2b1 := decide_eq_true c2
  clear c2
  by_cases c3 : ((l0.length : Int) : Int).toNat ≤ 11728124029610
  case neg => exact nN c3 H
  rw [if_pos c3] at H
  have c3b0 := eq_true c3
  have c3b1 := decide_eq_true c3
  clear c3
  obtain ⟨y589, hy589⟩ : ∃ y_ : List (List Int), y_ = (List.replicate ((l0.length : Int) : Int).toNat []) := ⟨_, rfl⟩
  replace H : (qx.l0 k l0 0 y589) = some r := by first | (rw [hy589]; with_reducible exact H) | (have H2_ := (Option.bind_some _ _).symm.trans H; rw [hy589]; with_reducible exact H2_) | (have H2_ := (Option.bind_some _ _).symm.trans H; with_reducible exact H2_) | with_reducible exact H | (rw [hy589]; exact H) | exact H
  have Ny589 := aM hy589
  clear hy589
  have H' := aM H
  clear H
  go_enter Tryz.func15, Tryz.ntmps15
  go_wp2_with (first | ((with_reducible refine qH (N := 7) rfl ?_); refine Kd.S_make (Kd.slice 3 (Kd.int .i64)) _ 69 rfl (N := 7) rfl 32 _ _ rfl (l0.length : Int) rfl rfl Tryz.underlying32 (.slice none 0 0) 24 info69 rfl (by decide) (by omega) [] (ok := fun _ => True) (okp := fun _ => True) ⟨_, rfl, Kd.R_nil _ _ _ _ _⟩ (fun _ hk => hk) trivial (of_decide_eq_true am) (Nat.le_trans (Nat.mul_le_mul_right _ (of_decide_eq_true am : (l0.length : Int).toNat ≤ 11728124029610)) (by omega)) (Below.refl _ _) (Nat.le_refl _) ?_; intro v590 w4 ho5 hb hg_ hnew_; clear hg_ hnew_; (first | rw [← Ny589.out] at ho5 | (simp only [Int.reduceToNat] at ho5; rw [← Ny589.out] at ho5)); have HO591 := aM (Kd.qxD ho5 (qJ bl)); replace HB := aM (qB bl hb); clear hb ho5))
  go_loopg [4] k (fun kq v4 w' => ∃ (x4_1 : Int) (x7_1 : List (List Int)), v4 = .int .i64 x4_1 ∧ Aside0 (qx.l0 kq l0 x4_1 x7_1 = some r) ∧ Aside0 (kq ≤ k) ∧ Aside0 (Kd.S (Kd.slice 3 (Kd.int .i64)) 69 w' w.heap.size (fun _ => True) v590 x7_1) ∧ Aside0 (Below w.heap.size w w'))
  case atStart => exact ⟨(0), (y589), sD, H', ⟨Nat.le_refl _⟩, ⟨rS HO591⟩, ⟨bl⟩⟩
  case round =>
   clear H'; (try clear c1); (try clear c2); (try clear c2b0); (try clear c2b1); (try clear p2); (try clear c3); (try clear c3b0); (try clear c3b1)
   obtain ⟨x4_1, x7_1, rfl, HA, HK1, HO_7, HB⟩ := hrel
   cases gk with
   | zero => exact absurd HA.out (by simp [qx.l0])
   | succ k1 =>
    have H := HA.out
    clear HA
    simp only [qx.l0] at H
    by_cases c6 : x4_1 < (l0.length : Int)
    ·rw [if_pos c6] at H
     have c6b0 := decide_eq_true c6
     clear c6
     by_cases c7 : 0 ≤ x4_1
     case neg => exact nN c7 H
     rw [if_pos c7] at H
     have c7b0 := decide_eq_true c7
     clear c7
     replace H := bO H
     obtain ⟨t593, A8, H⟩ := H
     by_cases c9 : x4_1 < (x7_1.length : Int)
     case neg => exact nN c9 H
     rw [if_pos c9] at H
     have c9b0 := decide_eq_true c9
     clear c9
     obtain ⟨y596, hy596⟩ : ∃ y_ : List (List Int), y_ = (x7_1.set (x4_1 : Int).toNat t593) := ⟨_, rfl⟩
     replace H : (qx.l0 k1 l0 (wrap64 (x4_1 + 1)) y596) = some r := by first | (rw [hy596]; with_reducible exact H) | (have H2_ := (Option.bind_some _ _).symm.trans H; rw [hy596]; with_reducible exact H2_) | (have H2_ := (Option.bind_some _ _).symm.trans H; with_reducible exact H2_) | with_reducible exact H | (rw [hy596]; exact H) | exact H
     have Ny596 := aM hy596
     clear hy596
     have H' := aM H
     clear H
     have p592 : 0 ≤ (x4_1 : Int) := of_decide_eq_true am
     have q592 : x4_1 < (l0.length : Int) := of_decide_eq_true am
     obtain ⟨ad592, A592_0, c592_0, e592, hx592_0, hl592_0, hi592_0⟩ := at_L7 HR0.out x4_1 p592 q592
     cases e592
     replace hx592_0 := hB HB hx592_0
     have HR592_0 := aM hi592_0
     have HC592_0 := aM hl592_0
     clear hi592_0 hl592_0
     replace p592 := eq_true p592
     replace q592 := eq_true q592
     go_wp2_with (first | ((with_reducible refine qE (f := 33) rfl ?_); refine qm (some 20) rfl rfl Tryz.func33 (by kernel_rfl) rfl #[.slice A592_0 (rd_L7 l0 x4_1).length c592_0] rfl gA ?_; (with_reducible refine (qXA.calls k1 _ _ (rd_L7 l0 x4_1) t593 _ ?side1 ?side2 A8.out).mono ?_); (case side1 => repeat (first | exact (Kd.qV HR592_0.out HB.out) | (with_reducible refine Kd.qL ?_ _) | (with_reducible refine Kd.qK ?_ _) | (with_reducible refine Kd.qX ?_))); (case side2 => exact HC592_0.out); rintro e w11 ⟨v594, rfl, ho0, hb⟩; obtain ⟨Ao99, co99, eo99⟩ := Kd.qDA ho0; subst eo99; refine ⟨_, rfl, ?_⟩; have HO595 := aM (Kd.qz ho0 (qJ bl)); replace HO_7 := aM (Kd.qhD (rS HO_7) (Kd.qkA ho0) hb); replace HB := aM (qB bl hb); (try clear hb); (try clear hb2); (try clear hk); (try clear hi); (try clear ho0); have p10 : 0 ≤ (x4_1 : Int) := of_decide_eq_true am; have q10 : (x4_1 : Int) < ((x7_1.length : Int) : Int) := of_decide_eq_true am; obtain ⟨go10, co10, eo10, gb10, gl10, cl10, HG10⟩ := Kd.S_form HO_7.out (by omega); (first | cases eo10 | (injection eo10 with ea_ en_ ec_; (first | subst ea_ | (injection ea_ with ea_; subst ea_)); subst ec_; clear en_)); have GB10 := aM gb10; have GG10 := aM HG10; clear gb10 gl10 HG10; obtain ⟨_, ce10, hcl10, hM10, hcc10, hfr10, _, _⟩ := Kd.S_elem HO_7.out [] (x4_1 : Int) p10 q10; obtain ⟨ve10_0, rfl, ge10_0⟩ := hM10; have hx10_0 := hcc10 0 _ rfl; have hf10_0 := hfr10 0; (try simp only [show ((Kd.slice 3 (Kd.int .i64))).sz = 1 from rfl, Nat.mul_one, Nat.add_zero] at hx10_0); (try simp only [show ((Kd.slice 3 (Kd.int .i64))).sz = 1 from rfl, Nat.mul_one, Nat.add_zero] at hf10_0); clear hcl10 hcc10 hfr10; (try clear hM10); replace p10 := eq_true p10; replace q10 := eq_true q10; have n_ := aM (Kd.qfE (ok' := (fun k_ => some k_ ≠ ((.slice Ao99 t593.length co99) : Value).ownBlock)) HO_7.out (fun k_ hk => hk.2)); clear HO_7; have HO_7 := n_; clear n_; have HX12 := aM (show Kd.S (Kd.slice 3 (Kd.int .i64)) 69 w11 w.heap.size (fun k_ => ((fun _ => True)) k_ ∧ ¬ ((fun k_ => some k_ = ((.slice Ao99 t593.length co99) : Value).ownBlock)) k_) (.slice (some ⟨go10, 0, none⟩) x7_1.length co10) x7_1 from (by (with_reducible repeat (first | apply Kd.qzD | apply Kd.qyD | apply Kd.qgE)); exact Kd.qfE HO_7.out (fun k_ hk => ⟨trivial, fun e_ => hk e_⟩))); obtain ⟨oki12, ce12, hcl12, hM12, hcc12, hfr12, hoki12, hH12⟩ := Kd.S_elem HX12.out [] (x4_1 : Int) (of_decide_eq_true am) (by have h_ : (x4_1 : Int) < ((x7_1.length : Int) : Int) := of_decide_eq_true am; first | exact h_ | (have e_ := (Kd.qZB HO_7.out).1; omega) | simpa using h_); obtain ⟨ve12_0, rfl, ge12_0⟩ := hM12; have HP12 := Kd.S_seg hH12 (of_decide_eq_true am) (by have h_ : (x4_1 : Int) < ((x7_1.length : Int) : Int) := of_decide_eq_true am; first | exact h_ | (have e_ := (Kd.qZB HO_7.out).1; omega) | simpa using h_) (seg := [(.slice Ao99 t593.length co99)]) (j := 0) (show 1 ≤ 1 from by decide) (x' := t593) (Kd.M_row (Kd.qa (Kd.R_tight rfl (Kd.qa (ok' := fun k_ => ((fun _ => True)) k_ ∧ k_ ≠ go10) (Kd.qwB (HO595.out) (Kd.S_typed HO_7.out) (by decide)) (fun k_ hk => ⟨trivial, fun e_ => (hk.2) (by rw [e_]; rfl)⟩))) (fun _ h_ => Or.inr (h_)))) (fun _ hk => hk) (fun k_ hk_ => ((Kd.qa (ok' := fun k_ => ((fun _ => True)) k_ ∧ k_ ≠ go10) (Kd.qwB (HO595.out) (Kd.S_typed HO_7.out) (by decide)) (fun k_ hk => ⟨trivial, fun e_ => (hk.2) (by rw [e_]; rfl)⟩))).1 k_ hk_.symm); have hx12_0 := hcc12 0 _ rfl; (try simp only [show ((Kd.slice 3 (Kd.int .i64))).sz = 1 from rfl, Nat.mul_one, Nat.add_zero] at hx12_0); have hf12_0 := hfr12 0; (try simp only [show ((Kd.slice 3 (Kd.int .i64))).sz = 1 from rfl, Nat.mul_one, Nat.add_zero] at hf12_0); clear hcl12 hcc12 hfr12 hoki12 hH12; (try clear hM12); (try simp only [show ((Kd.slice 3 (Kd.int .i64))).sz = 1 from rfl, Nat.mul_one, Nat.add_zero] at HP12)) | ((with_reducible refine qsB (t := 69) (p := 21) rfl ?_); refine qlB (t := 69) (p := 21) (v := ?vo_w13) (w1 := (w11.setCell ⟨go10, (x4_1 : Int).toNat, none⟩ ((.slice Ao99 t593.length co99)))) ?hg ?ho ?hn ?hr ?_; (case ho => rfl); (case hg => rfl); (case hn => rfl); (case hr => exact gS); intro w13 hw; have hg : w11.grownBy w13 (some go10) := (by rw [hw]; exact HP12.2); have hp_ : Kd.S (Kd.slice 3 (Kd.int .i64)) 69 w13 w.heap.size (fun _ => True) (.slice (some ⟨go10, 0, none⟩) x7_1.length co10) y596 := (by rw [hw, Ny596.out]; exact HP12.1); clear HP12; replace HO_7 := aM (hp_); replace HB := aM ((by rw [hw]; exact qBA (HB.out) GB10.out : Below w.heap.size w w13)); clear HO595; clear hg hw hp_))
     go_roundg k1
     case measure => have := HK1.out; omega
     case rel => exact ⟨(wrap64 (x4_1 + 1)), (y596), sD, H', ⟨by have := HK1.out; omega⟩, ⟨rS HO_7⟩, ⟨bl⟩⟩
    ·rw [if_neg c6] at H
     have c6b0 := decide_eq_false c6
     clear c6
     obtain rfl := Option.some.inj H
     go_wp2
     go_ret
     exact ⟨_, sR, by (with_reducible repeat (first | apply Kd.qzD | apply Kd.qyD | apply Kd.qgE)); exact HO_7.out, bl⟩
 ·rw [if_neg c2] at H
  exact absurd H (by simp)
def qLA.l0 : Nat → List Int → List Int → Int → Option (Bool)
 | 0, _, _, _ => none
 | k + 1, x0, x1, x5 => if x5 < (x0.length : Int) then (if 0 ≤ x5 then (if x5 < (x1.length : Int) then (if (rd x0 x5) = (rd x1 x5) then (qLA.l0 k x0 x1 (wrap64 (x5 + 1))) else (some false)) else (none)) else (none)) else (some true)
def qLA.f (k : Nat) (l0 : List Int) (l1 : List Int) : Option (Bool) := if (l0.length : Int) = (l1.length : Int) then (qLA.l0 k l0 l1 0) else (some false)
set_option maxHeartbeats 8000000 in
set_option maxRecDepth 100000 in
theorem qLA.calls (k : Nat) (A0 : Option Addr) (c0 : Nat) (l0 : List Int) (A1 : Option Addr) (c1 : Nat) (l1 : List Int) (r : Bool) (w : World) (hr0 : Kd.C (Kd.int .i64) w A0 l0.length l0) (hc0 : l0.length ≤ c0) (hr1 : Kd.C (Kd.int .i64) w A1 l1.length l1) (hc1 : l1.length ≤ c1) (h : qLA.f k l0 l1 = some r) :
  Calls Tryz.prog 40 #[.slice A0 l0.length c0, .slice A1 l1.length c1] w fun e w' => e = .returned (.bool r) ∧ Drawn0 w w' := by
 have HR0 := aM hr0
 have HC0 := aM hc0
 clear hr0 hc0
 have HR1 := aM hr1
 have HC1 := aM hc1
 clear hr1 hc1
 have H : (if (l0.length : Int) = (l1.length : Int) then (qLA.l0 k l0 l1 0) else (some false)) = some r := h
 clear h
 by_cases c3 : (l0.length : Int) = (l1.length : Int)
 ·rw [if_pos c3] at H
  have c3b0 := beq_iff_eq.mpr c3
  have c3b1 := bne_eq_false_iff_eq.mpr c3
  have c3b2 : (l0.length == l1.length) = true := by first | simpa using c3 | (simp at c3 ⊢; omega)
  clear c3
  have H' := aM H
  clear H
  go_enter Tryz.func40, Tryz.ntmps40
  go_wp2
  repeat (go_quiet (fail); try go_wp2)
  go_loopg [5] k (fun kq v5 w' => ∃ (x5_1 : Int), v5 = .int .i64 x5_1 ∧ Aside0 (qLA.l0 kq l0 l1 x5_1 = some r) ∧ Aside0 (kq ≤ k) ∧ Drawn0 w w')
  case atStart => exact ⟨(0), sD, H', ⟨Nat.le_refl _⟩, dR⟩
  case round =>
   clear H'; (try clear c1); (try clear p2); (try clear c3); (try clear c3b0); (try clear c3b1); (try clear c3b2)
   obtain ⟨x5_1, rfl, HA, HK1, ⟨m1, rfl⟩⟩ := hrel
   cases gk with
   | zero => exact absurd HA.out (by simp [qLA.l0])
   | succ k1 =>
    have H := HA.out
    clear HA
    simp only [qLA.l0] at H
    by_cases c4 : x5_1 < (l0.length : Int)
    ·rw [if_pos c4] at H
     have c4b0 := decide_eq_true c4
     clear c4
     by_cases c5 : 0 ≤ x5_1
     case neg => exact nN c5 H
     rw [if_pos c5] at H
     have c5b0 := decide_eq_true c5
     clear c5
     by_cases c6 : x5_1 < (l1.length : Int)
     case neg => exact nN c6 H
     rw [if_pos c6] at H
     have c6b0 := decide_eq_true c6
     clear c6
     by_cases c7 : (rd l0 x5_1) = (rd l1 x5_1)
     ·rw [if_pos c7] at H
      have c7b0 := beq_iff_eq.mpr c7
      have c7b1 := bne_eq_false_iff_eq.mpr c7
      clear c7
      have H' := aM H
      clear H
      have p597 : 0 ≤ (x5_1 : Int) := of_decide_eq_true am
      have q597 : x5_1 < (l0.length : Int) := of_decide_eq_true am
      obtain ⟨ad597, e597, hx597_0⟩ := Kd.qHB HR0.out x5_1 p597 q597
      cases e597
      replace p597 := eq_true p597
      replace q597 := eq_true q597
      have p598 : 0 ≤ (x5_1 : Int) := of_decide_eq_true am
      have q598 : x5_1 < (l1.length : Int) := of_decide_eq_true am
      obtain ⟨ad598, e598, hx598_0⟩ := Kd.qHB HR1.out x5_1 p598 q598
      cases e598
      replace p598 := eq_true p598
      replace q598 := eq_true q598
      go_wp2
      repeat (go_quiet (fail); try go_wp2)
      go_roundg k1
      case measure => have := HK1.out; omega
      case rel => exact ⟨(wrap64 (x5_1 + 1)), sD, H', ⟨by have := HK1.out; omega⟩, dR⟩
     ·rw [if_neg c7] at H
      have c7b0 := beq_eq_false_iff_ne.mpr c7
      have c7b1 := bne_iff_ne.mpr c7
      obtain rfl := Option.some.inj H
      have p597 : 0 ≤ (x5_1 : Int) := of_decide_eq_true am
      have q597 : x5_1 < (l0.length : Int) := of_decide_eq_true am
      obtain ⟨ad597, e597, hx597_0⟩ := Kd.qHB HR0.out x5_1 p597 q597
      cases e597
      replace p597 := eq_true p597
      replace q597 := eq_true q597
      have p598 : 0 ≤ (x5_1 : Int) := of_decide_eq_true am
      have q598 : x5_1 < (l1.length : Int) := of_decide_eq_true am
      obtain ⟨ad598, e598, hx598_0⟩ := Kd.qHB HR1.out x5_1 p598 q598
      cases e598
      replace p598 := eq_true p598
      replace q598 := eq_true q598
      go_wp2
      repeat (go_quiet (fail); try go_wp2)
      go_ret
      exact ⟨by first | rfl | (simp; done) | (simp [*]; done), dR⟩
    ·rw [if_neg c4] at H
     have c4b0 := decide_eq_false c4
     clear c4
     obtain rfl := Option.some.inj H
     go_wp2
     repeat (go_quiet (fail); try go_wp2)
     go_ret
     exact ⟨by first | rfl | (simp; done) | (simp [*]; done), dR⟩
 ·rw [if_neg c3] at H
  have c3b0 := beq_eq_false_iff_ne.mpr c3
  have c3b1 := bne_iff_ne.mpr c3
  have c3b2 : (l0.length == l1.length) = false := by first | simpa using c3 | (simp at c3 ⊢; omega)
  obtain rfl := Option.some.inj H
  go_enter Tryz.func40, Tryz.ntmps40
  go_wp2
  repeat (go_quiet (fail); try go_wp2)
  go_ret
  exact ⟨by first | rfl | (simp; done) | (simp [*]; done), dR⟩
def qRA.l0 : Nat → List (List Int) → List (List Int) → Int → Option (Bool)
 | 0, _, _, _ => none
 | k + 1, x0, x1, x5 => if x5 < (x0.length : Int) then (if 0 ≤ x5 then (if x5 < (x1.length : Int) then ((qLA.f k (rd_L7 x0 x5) (rd_L7 x1 x5)).bind fun t601 => (if t601 = true then (qRA.l0 k x0 x1 (wrap64 (x5 + 1))) else (some false))) else (none)) else (none)) else (some true)
def qRA.f (k : Nat) (l0 : List (List Int)) (l1 : List (List Int)) : Option (Bool) := if (l0.length : Int) = (l1.length : Int) then (qRA.l0 k l0 l1 0) else (some false)
set_option maxHeartbeats 8000000 in
set_option maxRecDepth 100000 in
theorem qRA.calls (k : Nat) (A0 : Option Addr) (c0 : Nat) (l0 : List (List Int)) (A1 : Option Addr) (c1 : Nat) (l1 : List (List Int)) (r : Bool) (w : World) (hr0 : Kd.C (Kd.slice 3 (Kd.int .i64)) w A0 l0.length l0) (hc0 : l0.length ≤ c0) (hr1 : Kd.C (Kd.slice 3 (Kd.int .i64)) w A1 l1.length l1) (hc1 : l1.length ≤ c1) (h : qRA.f k l0 l1 = some r) :
  Calls Tryz.prog 17 #[.slice A0 l0.length c0, .slice A1 l1.length c1] w fun e w' => e = .returned (.bool r) ∧ Drawn0 w w' := by
 have HR0 := aM hr0
 have HC0 := aM hc0
 clear hr0 hc0
 have HR1 := aM hr1
 have HC1 := aM hc1
 clear hr1 hc1
 have H : (if (l0.length : Int) = (l1.length : Int) then (qRA.l0 k l0 l1 0) else (some false)) = some r := h
 clear h
 by_cases c3 : (l0.length : Int) = (l1.length : Int)
 ·rw [if_pos c3] at H
  have c3b0 := beq_iff_eq.mpr c3
  have c3b1 := bne_eq_false_iff_eq.mpr c3
  have c3b2 : (l0.length == l1.length) = true := by first | simpa using c3 | (simp at c3 ⊢; omega)
  clear c3
  have H' := aM H
  clear H
  go_enter Tryz.func17, Tryz.ntmps17
  go_wp2
  repeat (go_quiet (fail); try go_wp2)
  go_loopg [5] k (fun kq v5 w' => ∃ (x5_1 : Int), v5 = .int .i64 x5_1 ∧ Aside0 (qRA.l0 kq l0 l1 x5_1 = some r) ∧ Aside0 (kq ≤ k) ∧ Drawn0 w w')
  case atStart => exact ⟨(0), sD, H', ⟨Nat.le_refl _⟩, dR⟩
  case round =>
   clear H'; (try clear c1); (try clear p2); (try clear c3); (try clear c3b0); (try clear c3b1); (try clear c3b2)
   obtain ⟨x5_1, rfl, HA, HK1, ⟨m1, rfl⟩⟩ := hrel
   cases gk with
   | zero => exact absurd HA.out (by simp [qRA.l0])
   | succ k1 =>
    have H := HA.out
    clear HA
    simp only [qRA.l0] at H
    by_cases c4 : x5_1 < (l0.length : Int)
    ·rw [if_pos c4] at H
     have c4b0 := decide_eq_true c4
     clear c4
     by_cases c5 : 0 ≤ x5_1
     case neg => exact nN c5 H
     rw [if_pos c5] at H
     have c5b0 := decide_eq_true c5
     clear c5
     by_cases c6 : x5_1 < (l1.length : Int)
     case neg => exact nN c6 H
     rw [if_pos c6] at H
     have c6b0 := decide_eq_true c6
     clear c6
     replace H := bO H
     obtain ⟨t601, A7, H⟩ := H
     by_cases c8 : t601 = true
     ·subst c8
      replace H := iT H
      have H' := aM H
      clear H
      have p599 : 0 ≤ (x5_1 : Int) := of_decide_eq_true am
      have q599 : x5_1 < (l0.length : Int) := of_decide_eq_true am
      obtain ⟨ad599, A599_0, c599_0, e599, hx599_0, hl599_0, hi599_0⟩ := at_L7 HR0.out x5_1 p599 q599
      cases e599
      have HR599_0 := aM hi599_0
      have HC599_0 := aM hl599_0
      clear hi599_0 hl599_0
      replace p599 := eq_true p599
      replace q599 := eq_true q599
      have p600 : 0 ≤ (x5_1 : Int) := of_decide_eq_true am
      have q600 : x5_1 < (l1.length : Int) := of_decide_eq_true am
      obtain ⟨ad600, A600_0, c600_0, e600, hx600_0, hl600_0, hi600_0⟩ := at_L7 HR1.out x5_1 p600 q600
      cases e600
      have HR600_0 := aM hi600_0
      have HC600_0 := aM hl600_0
      clear hi600_0 hl600_0
      replace p600 := eq_true p600
      replace q600 := eq_true q600
      go_wp2_with (first | (go_at_call 40; (with_reducible refine (qLA.calls k1 _ _ (rd_L7 l0 x5_1) _ _ (rd_L7 l1 x5_1) true _ ?side1 ?side2 ?side3 ?side4 A7.out).mono ?_); (case side1 => repeat (first | exact HR599_0.out | (with_reducible refine Kd.qL ?_ _) | (with_reducible refine Kd.qK ?_ _) | (with_reducible refine Kd.qX ?_))); (case side2 => exact HC599_0.out); (case side3 => repeat (first | exact HR600_0.out | (with_reducible refine Kd.qL ?_ _) | (with_reducible refine Kd.qK ?_ _) | (with_reducible refine Kd.qX ?_))); (case side4 => exact HC600_0.out); rintro e w' ⟨rfl, ⟨nd, rfl⟩⟩; (try first | exact ⟨rfl, _, World.drewN_drewN _ _ _⟩ | exact ⟨rfl, _, Eq.trans (World.drewN_drewN _ _ _) (congrArg (World.drewN _) (Nat.add_assoc _ _ _))⟩)))
      repeat (go_quiet (first | (go_at_call 40; (with_reducible refine (qLA.calls k1 _ _ (rd_L7 l0 x5_1) _ _ (rd_L7 l1 x5_1) true _ ?side1 ?side2 ?side3 ?side4 A7.out).mono ?_); (case side1 => repeat (first | exact HR599_0.out | (with_reducible refine Kd.qL ?_ _) | (with_reducible refine Kd.qK ?_ _) | (with_reducible refine Kd.qX ?_))); (case side2 => exact HC599_0.out); (case side3 => repeat (first | exact HR600_0.out | (with_reducible refine Kd.qL ?_ _) | (with_reducible refine Kd.qK ?_ _) | (with_reducible refine Kd.qX ?_))); (case side4 => exact HC600_0.out); rintro e w' ⟨rfl, ⟨nd, rfl⟩⟩; (try first | exact ⟨rfl, _, World.drewN_drewN _ _ _⟩ | exact ⟨rfl, _, Eq.trans (World.drewN_drewN _ _ _) (congrArg (World.drewN _) (Nat.add_assoc _ _ _))⟩))); try go_wp2_with (first | (go_at_call 40; (with_reducible refine (qLA.calls k1 _ _ (rd_L7 l0 x5_1) _ _ (rd_L7 l1 x5_1) true _ ?side1 ?side2 ?side3 ?side4 A7.out).mono ?_); (case side1 => repeat (first | exact HR599_0.out | (with_reducible refine Kd.qL ?_ _) | (with_reducible refine Kd.qK ?_ _) | (with_reducible refine Kd.qX ?_))); (case side2 => exact HC599_0.out); (case side3 => repeat (first | exact HR600_0.out | (with_reducible refine Kd.qL ?_ _) | (with_reducible refine Kd.qK ?_ _) | (with_reducible refine Kd.qX ?_))); (case side4 => exact HC600_0.out); rintro e w' ⟨rfl, ⟨nd, rfl⟩⟩; (try first | exact ⟨rfl, _, World.drewN_drewN _ _ _⟩ | exact ⟨rfl, _, Eq.trans (World.drewN_drewN _ _ _) (congrArg (World.drewN _) (Nat.add_assoc _ _ _))⟩))))
      go_roundg k1
      case measure => have := HK1.out; omega
      case rel => exact ⟨(wrap64 (x5_1 + 1)), sD, H', ⟨by have := HK1.out; omega⟩, dR⟩
     ·replace c8 := Bool.eq_false_iff.mpr c8
      subst c8
      replace H := iF H
      obtain rfl := Option.some.inj H
      have p599 : 0 ≤ (x5_1 : Int) := of_decide_eq_true am
      have q599 : x5_1 < (l0.length : Int) := of_decide_eq_true am
      obtain ⟨ad599, A599_0, c599_0, e599, hx599_0, hl599_0, hi599_0⟩ := at_L7 HR0.out x5_1 p599 q599
      cases e599
      have HR599_0 := aM hi599_0
      have HC599_0 := aM hl599_0
      clear hi599_0 hl599_0
      replace p599 := eq_true p599
      replace q599 := eq_true q599
      have p600 : 0 ≤ (x5_1 : Int) := of_decide_eq_true am
      have q600 : x5_1 < (l1.length : Int) := of_decide_eq_true am
      obtain ⟨ad600, A600_0, c600_0, e600, hx600_0, hl600_0, hi600_0⟩ := at_L7 HR1.out x5_1 p600 q600
      cases e600
      have HR600_0 := aM hi600_0
      have HC600_0 := aM hl600_0
      clear hi600_0 hl600_0
      replace p600 := eq_true p600
      replace q600 := eq_true q600
      go_wp2_with (first | (go_at_call 40; (with_reducible refine (qLA.calls k1 _ _ (rd_L7 l0 x5_1) _ _ (rd_L7 l1 x5_1) false _ ?side1 ?side2 ?side3 ?side4 A7.out).mono ?_); (case side1 => repeat (first | exact HR599_0.out | (with_reducible refine Kd.qL ?_ _) | (with_reducible refine Kd.qK ?_ _) | (with_reducible refine Kd.qX ?_))); (case side2 => exact HC599_0.out); (case side3 => repeat (first | exact HR600_0.out | (with_reducible refine Kd.qL ?_ _) | (with_reducible refine Kd.qK ?_ _) | (with_reducible refine Kd.qX ?_))); (case side4 => exact HC600_0.out); rintro e w' ⟨rfl, ⟨nd, rfl⟩⟩; (try first | exact ⟨rfl, _, World.drewN_drewN _ _ _⟩ | exact ⟨rfl, _, Eq.trans (World.drewN_drewN _ _ _) (congrArg (World.drewN _) (Nat.add_assoc _ _ _))⟩)))
      repeat (go_quiet (first | (go_at_call 40; (with_reducible refine (qLA.calls k1 _ _ (rd_L7 l0 x5_1) _ _ (rd_L7 l1 x5_1) false _ ?side1 ?side2 ?side3 ?side4 A7.out).mono ?_); (case side1 => repeat (first | exact HR599_0.out | (with_reducible refine Kd.qL ?_ _) | (with_reducible refine Kd.qK ?_ _) | (with_reducible refine Kd.qX ?_))); (case side2 => exact HC599_0.out); (case side3 => repeat (first | exact HR600_0.out | (with_reducible refine Kd.qL ?_ _) | (with_reducible refine Kd.qK ?_ _) | (with_reducible refine Kd.qX ?_))); (case side4 => exact HC600_0.out); rintro e w' ⟨rfl, ⟨nd, rfl⟩⟩; (try first | exact ⟨rfl, _, World.drewN_drewN _ _ _⟩ | exact ⟨rfl, _, Eq.trans (World.drewN_drewN _ _ _) (congrArg (World.drewN _) (Nat.add_assoc _ _ _))⟩))); try go_wp2_with (first | (go_at_call 40; (with_reducible refine (qLA.calls k1 _ _ (rd_L7 l0 x5_1) _ _ (rd_L7 l1 x5_1) false _ ?side1 ?side2 ?side3 ?side4 A7.out).mono ?_); (case side1 => repeat (first | exact HR599_0.out | (with_reducible refine Kd.qL ?_ _) | (with_reducible refine Kd.qK ?_ _) | (with_reducible refine Kd.qX ?_))); (case side2 => exact HC599_0.out); (case side3 => repeat (first | exact HR600_0.out | (with_reducible refine Kd.qL ?_ _) | (with_reducible refine Kd.qK ?_ _) | (with_reducible refine Kd.qX ?_))); (case side4 => exact HC600_0.out); rintro e w' ⟨rfl, ⟨nd, rfl⟩⟩; (try first | exact ⟨rfl, _, World.drewN_drewN _ _ _⟩ | exact ⟨rfl, _, Eq.trans (World.drewN_drewN _ _ _) (congrArg (World.drewN _) (Nat.add_assoc _ _ _))⟩))))
      go_ret
      exact ⟨by first | rfl | (simp; done) | (simp [*]; done), dR⟩
    ·rw [if_neg c4] at H
     have c4b0 := decide_eq_false c4
     clear c4
     obtain rfl := Option.some.inj H
     go_wp2
     repeat (go_quiet (fail); try go_wp2)
     go_ret
     exact ⟨by first | rfl | (simp; done) | (simp [*]; done), dR⟩
 ·rw [if_neg c3] at H
  have c3b0 := beq_eq_false_iff_ne.mpr c3
  have c3b1 := bne_iff_ne.mpr c3
  have c3b2 : (l0.length == l1.length) = false := by first | simpa using c3 | (simp at c3 ⊢; omega)
  obtain rfl := Option.some.inj H
  go_enter Tryz.func17, Tryz.ntmps17
  go_wp2
  repeat (go_quiet (fail); try go_wp2)
  go_ret
  exact ⟨by first | rfl | (simp; done) | (simp [*]; done), dR⟩
end Go.Proofs.YthhiiceligjleaaGreatDoor.P
namespace Go.Proofs.YthhiiceligjleaaGreatDoor
open Go.RowKit Go.Proofs.YthhiiceligjleaaGreatDoorW.PrintWords Go.Proofs.YthhiiceligjleaaGreatDoorW.PrintLast
set_option linter.unusedVariables false
set_option linter.unusedSimpArgs false
theorem Ev.at_ {α : Type} {g : Nat → Option α} {r : α} (n : Nat) (h : ∀ k, g (k + n) = some r) : Ev g r := ⟨n, fun k hk => by
 obtain ⟨m, rfl⟩ : ∃ m, k = m + n := ⟨k - n, by omega⟩
 exact h m⟩
theorem Ev.pos {α : Type} {c : Prop} [Decidable c] {g f : Nat → Option α} {r : α} (hc : c) (h : Ev g r) : Ev (fun k => if c then g k else f k) r := h.congr fun k => if_pos hc
theorem Ev.neg {α : Type} {c : Prop} [Decidable c] {g f : Nat → Option α} {r : α} (hc : ¬ c) (h : Ev f r) : Ev (fun k => if c then g k else f k) r := h.congr fun k => if_neg hc
theorem Ev.some_ {α : Type} {a r : α} (h : a = r) : Ev (fun _ => some a) r := ⟨0, fun _ _ => by rw [h]⟩
theorem Ev.bindc {α β : Type} {o : Option α} {f : Nat → α → Option β} {a : α} {r : β} (h : o = some a) (k : Ev (fun n => f n a) r) : Ev (fun n => o.bind (f n)) r := k.congr fun n => by rw [h]; rfl
theorem w64 {i : Int} (h0 : -9223372036854775808 ≤ i) (h1 : i ≤ 9223372036854775807) : wrap64 i = i := by unfold wrap64; omega
end Go.Proofs.YthhiiceligjleaaGreatDoor
namespace Go.Proofs.YthhiiceligjleaaGreatDoor
open Go.RowKit Go.Proofs.YthhiiceligjleaaGreatDoor.P Go.Proofs.YthhiiceligjleaaGreatDoorW.PrintWords Go.Proofs.YthhiiceligjleaaGreatDoorW.PrintLast
set_option linter.unusedVariables false
set_option linter.unusedSimpArgs false
abbrev XS := S53
theorem rdXS (l : List XS) (i : Nat) (h : i < l.length) : qA l (i : Int) = l[i] := by
 unfold qA
 rw [Int.toNat_natCast, List.getD_eq_getElem?_getD, List.getElem?_eq_getElem h]; rfl
theorem eqState_rfl (a b c d e f g h : Int) : qdB.f a b c d e f g h a b c d e f g h = some true := by
 unfold qdB.f qyB.f
 simp
theorem eqStateS_loop (a : List XS) (ha : a.length ≤ 140737488355328) (d : Nat) : ∀ i : Nat, i ≤ a.length → a.length - i = d → Ev (fun k => qk.l0 k a a (i : Int)) true := by
 induction d with
 | zero =>
  intro i hi hd
  exact Ev.step (f := fun k => _) (fun k => by rw [qk.l0]) (Ev.neg (by omega) (Ev.now _))
 | succ d ih =>
  intro i hi hd
  refine Ev.step (f := fun k => _) (fun k => by rw [qk.l0]) (Ev.pos (by omega) (Ev.pos (by omega) (Ev.pos (by omega) (Ev.bindc (eqState_rfl _ _ _ _ _ _ _ _) (Ev.pos rfl ?_)))))
  rw [show wrap64 ((i : Int) + 1) = ((i + 1 : Nat) : Int) by unfold wrap64; omega]
  exact ih (i + 1) (by omega) (by omega)
theorem eqStateS_refl (a : List XS) (ha : a.length ≤ 140737488355328) : Ev (fun k => qk.f k a a) true := by
 unfold qk.f
 exact Ev.pos rfl (eqStateS_loop a ha a.length 0 (by omega) (by omega))
abbrev LS := S57
def convS (x : LS) : XS := ⟨x.f0, x.f1, ⟨x.f2.f0, x.f2.f1, x.f2.f2, x.f2.f3, x.f2.f4, x.f2.f5⟩⟩
theorem rdLS (l : List LS) (i : Nat) (h : i < l.length) : qzA l (i : Int) = l[i] := by
 unfold qzA
 rw [Int.toNat_natCast, List.getD_eq_getElem?_getD, List.getElem?_eq_getElem h]; rfl
theorem toStateS_loop (l : List LS) (ha : l.length ≤ 2000000) (d : Nat) : ∀ (i : Nat) (t : List XS), i ≤ l.length → l.length - i = d → t.length = l.length - i →
  Ev (fun k => qp.l0 k l (i : Int) ((l.take i).map convS ++ t)) (l.map convS) := by
 induction d with
 | zero =>
  intro i t hi hd ht
  obtain rfl : i = l.length := by omega
  obtain rfl : t = [] := List.eq_nil_of_length_eq_zero (by omega)
  exact Ev.step (f := fun k => _) (fun k => by rw [qp.l0]) (Ev.neg (by omega) (Ev.some_ (by simp)))
 | succ d ih =>
  intro i t hi hd ht
  have h : i < l.length := by omega
  cases t with
  | nil => simp at ht; omega
  | cons t0 t =>
   refine Ev.step (f := fun k => _) (fun k => by rw [qp.l0]) (Ev.pos (by omega) (Ev.pos (by omega) (Ev.bindc (show qBC.f _ _ _ _ _ _ _ _ = some _ from rfl) (Ev.pos ?_ ?_))))
   ·simp; omega
   ·rw [show wrap64 ((i : Int) + 1) = ((i + 1 : Nat) : Int) by unfold wrap64; omega, rdLS l i h]
    have := ih (i + 1) t (by omega) (by omega) (by simp at ht; omega)
    rw [List.take_succ_eq_append_getElem h, List.map_append, List.append_assoc] at this
    have e : ((l.take i).map convS ++ t0 :: t).set ((i : Int).toNat) (convS l[i]) = (l.take i).map convS ++ ([l[i]].map convS ++ t) := by
     rw [Int.toNat_natCast, List.set_append_right _ _ (by simp; omega)]
     simp [show i - min i l.length = 0 by omega]
    rw [← e] at this
    exact this
theorem toStateS_ev (l : List LS) (ha : l.length ≤ 2000000) : Ev (fun k => qp.f k l) (l.map convS) := by
 unfold qp.f
 refine Ev.pos (by omega) (Ev.pos (by omega) ?_)
 have := toStateS_loop l ha l.length 0 (List.replicate l.length z53) (by omega) (by omega) (by simp)
 simpa using this
end Go.Proofs.YthhiiceligjleaaGreatDoor
namespace Go.Proofs.YthhiiceligjleaaGreatDoor
open Go.RowKit Go.Proofs.YthhiiceligjleaaGreatDoor.P Go.Proofs.YthhiiceligjleaaGreatDoorW.PrintWords Go.Proofs.YthhiiceligjleaaGreatDoorW.PrintLast Go.Proofs.YthhiiceligjleaaGreatDoorW.PrintMore
set_option linter.unusedVariables false
set_option linter.unusedSimpArgs false
def numsX (x : XS) : List Int := [x.f0, x.f1, x.f2.f0, x.f2.f1, x.f2.f2, x.f2.f3, x.f2.f4, x.f2.f5]
def flatS (l : List XS) : List Int := l.flatMap numsX
theorem qUC (x : XS) : (numsX x).length = 8 := rfl
theorem qjB : ∀ l : List XS, (flatS l).length = l.length * 8
 | [] => rfl
 | x :: l => by
  have := qjB l
  unfold flatS at this ⊢
  rw [List.flatMap_cons, List.length_append, this, qUC, List.length_cons]; omega
def keyL (l : List XS) : List Int := flatS l ++ List.replicate (16 - l.length * 8) 0
theorem qtC (l : List XS) (h : l.length ≤ 2) : (keyL l).length = 16 := by
 unfold keyL
 rw [List.length_append, qjB, List.length_replicate]; omega
abbrev kyC (m : List Int) : Array Value := (m.map (Value.int .i64)).toArray
theorem key_is (l : List XS) : flatS l ++ (List.replicate 16 (0 : Int)).drop (flatS l).length = keyL l := by
 unfold keyL
 rw [qjB, List.drop_replicate]
def encK (l : List XS) : Value := .agg (kyC (keyL l))
theorem flatS_get : ∀ (l : List XS) (j : Nat) (x : XS) (i : Nat) (v : Int), l[j]? = some x → (numsX x)[i]? = some v → (flatS l)[j * 8 + i]? = some v
 | [], j, x, i, v, h, _ => by simp at h
 | y :: l, 0, x, i, v, h, hv => by
  injection h with h
  subst h
  have hi := (List.getElem?_eq_some_iff.1 hv).1
  unfold flatS
  rw [List.flatMap_cons, Nat.zero_mul, Nat.zero_add, List.getElem?_append_left hi]
  exact hv
 | y :: l, j + 1, x, i, v, h, hv => by
  have := flatS_get l j x i v h hv
  unfold flatS at this ⊢
  rw [List.flatMap_cons, List.getElem?_append_right (by rw [qUC]; omega), qUC, show (j + 1) * 8 + i - 8 = j * 8 + i by omega]
  exact this
theorem numsX_enc {w : World} {x : XS} {cs : List Value} (h : k53.K w x cs) : cs = (numsX x).map (Value.int .i64) := k53_open h
theorem cells_flat {w : World} {ad : Addr} {l : List XS} (h : Kd.C k53 w (some ad) l.length l) (j : Nat) (v : Value) (hv : ((flatS l).map (Value.int .i64))[j]? = some v) : w.cell? (ad.add j) = some v := by
 have hj := (List.getElem?_eq_some_iff.1 hv).1
 rw [List.length_map, qjB] at hj
 have hjl : j / 8 < l.length := by omega
 obtain ⟨ad', e, hc⟩ := h.2.2 (by omega)
 injection e with e
 subst e
 obtain ⟨c, hcl, hK, hcell⟩ := hc (j / 8) _ (List.getElem?_eq_getElem hjl)
 have hc8 := numsX_enc hK
 have hi : j % 8 < (numsX l[j / 8]).length := by rw [qUC]; omega
 have h1 := flatS_get l (j / 8) _ (j % 8) _ (List.getElem?_eq_getElem hjl) (List.getElem?_eq_getElem hi)
 have h2 := hcell (j % 8) (.int .i64 (numsX l[j / 8])[j % 8]) (by rw [hc8, List.getElem?_map, List.getElem?_eq_getElem hi]; rfl)
 rw [List.getElem?_map, show j = j / 8 * 8 + j % 8 by omega, h1] at hv
 injection hv with hv
 rw [← hv, ← h2]
 have e8 : k53.sz = 8 := rfl
 rw [e8, show j / 8 * 8 + j % 8 = j by omega]
structure KyIs (w w' : World) (g1 g2 : Nat) (m o : List Int) : Prop where
 tab : w'.heap[g1]? = some (.cells (kyC m) 94 (0, 0))
 opp : w'.heap[g2]? = some (.cells (kyC o) 94 (0, 0))
 ne : g1 ≠ g2
 ge : w.heap.size ≤ g1
 ge2 : w.heap.size ≤ g2
 below : Below w.heap.size w w'
theorem kyC_at (m : List Int) (j : Nat) (hj : j < m.length) : (kyC m)[j]? = some (.int .i64 (m.getD j 0)) := by
 rw [List.getD_eq_getElem?_getD, List.getElem?_eq_getElem hj]
 simp [kyC, hj]
theorem kyC_one (m : List Int) : (kyC m).all (·.oneCell') = true := all_oneCell_toArray (cs := m.map (Value.int .i64)) fun v hv => by obtain ⟨x, _, rfl⟩ := List.mem_map.1 hv; rfl
theorem KyIs.range2 {w w' : World} {g1 g2 : Nat} {m o : List Int} (h : KyIs w w' g1 g2 m o) : w'.rangeAt g2 0 (o.map (Value.int .i64)) := fun j v hv => by
 have hj := (List.getElem?_eq_some_iff.1 hv).1
 rw [Nat.zero_add, qw h.opp j]
 simpa [kyC] using hv
theorem KyIs.there1 {w w' : World} {g1 g2 : Nat} {m o : List Int} (h : KyIs w w' g1 g2 m o) (n : Nat) (hn : n ≤ m.length) : w'.there g1 0 n := fun j hj => by
 rw [Nat.zero_add, qw h.tab j, kyC_at m j (by omega)]
 exact ⟨rfl, qb h.tab j⟩
theorem KyIs.there2 {w w' : World} {g1 g2 : Nat} {m o : List Int} (h : KyIs w w' g1 g2 m o) (n : Nat) (hn : n ≤ o.length) : w'.there g2 0 n := fun j hj => by
 rw [Nat.zero_add, qw h.opp j, kyC_at o j (by omega)]
 exact ⟨rfl, qb h.opp j⟩
def kySet : List Int → Nat → List Int → List Int
 | m, _, [] => m
 | m, j, v :: vs => kySet (m.set j v) (j + 1) vs
theorem qRE : ∀ (vs m : List Int) (j : Nat), j + vs.length ≤ m.length → kySet m j vs = m.take j ++ vs ++ m.drop (j + vs.length)
 | [], m, j, h => by simp [kySet]
 | v :: vs, m, j, h => by
  simp only [List.length_cons] at h
  rw [kySet, qRE vs (m.set j v) (j + 1) (by rw [List.length_set]; omega)]
  have e1 : (m.set j v).take (j + 1) = m.take j ++ [v] := by
   rw [List.take_succ_eq_append_getElem (by rw [List.length_set]; omega), List.getElem_set_self, List.take_set_of_le (Nat.le_refl _)]
  have e2 : (m.set j v).drop (j + 1 + vs.length) = m.drop (j + (v :: vs).length) := by
   rw [List.drop_set_of_lt (by omega)]
   congr 1
   simp only [List.length_cons]; omega
  rw [e1, e2]
  simp
theorem KyIs.put {w w' : World} {g1 g2 : Nat} {m o : List Int} (h : KyIs w w' g1 g2 m o) (j : Nat) (v : Int) : KyIs w (w'.setCell ⟨g1, j, none⟩ (.int .i64 v)) g1 g2 (m.set j v) o := by
 refine ⟨qHA h.tab j _ ?_, qUB h.opp (fun e => h.ne e.symm) _, h.ne, h.ge, h.ge2, qBA h.below h.ge⟩
 simp [kyC, List.map_set]
theorem KyIs.put2 {w w' : World} {g1 g2 : Nat} {m o : List Int} (h : KyIs w w' g1 g2 m o) (j : Nat) (v : Int) : KyIs w (w'.setCell ⟨g2, j, none⟩ (.int .i64 v)) g1 g2 m (o.set j v) := by
 refine ⟨qUB h.tab h.ne _, qHA h.opp j _ ?_, h.ne, h.ge, h.ge2, qBA h.below h.ge2⟩
 simp [kyC, List.map_set]
theorem KyIs.puts {w : World} {g1 g2 : Nat} : ∀ (vs : List Int) (j : Nat) (m o : List Int) (w' : World), KyIs w w' g1 g2 m o → KyIs w (w'.setCells g1 j (vs.map (Value.int .i64))) g1 g2 (kySet m j vs) o
 | [], j, m, o, w', h => h
 | v :: vs, j, m, o, w', h => KyIs.puts vs (j + 1) _ o _ (h.put j v)
theorem KyIs.puts2 {w : World} {g1 g2 : Nat} : ∀ (vs : List Int) (j : Nat) (m o : List Int) (w' : World), KyIs w w' g1 g2 m o → KyIs w (w'.setCells g2 j (vs.map (Value.int .i64))) g1 g2 m (kySet o j vs)
 | [], j, m, o, w', h => h
 | v :: vs, j, m, o, w', h => KyIs.puts2 vs (j + 1) m _ _ (h.put2 j v)
theorem KyIs.whole {w w' W : World} {g1 g2 : Nat} {m o vs : List Int} (h : KyIs w w' g1 g2 m o) (hW : w'.setCells g1 0 (kyC vs).toList = W) (hl : vs.length = m.length) : KyIs w W g1 g2 vs o := by
 have := KyIs.puts vs 0 m o w' h
 rw [qRE vs m 0 (by omega), List.take_zero, List.nil_append, Nat.zero_add, hl, List.drop_length, List.append_nil] at this
 rw [← hW]
 exact this
theorem KyIs.front2 {w w' W : World} {g1 g2 : Nat} {m o vs : List Int} (h : KyIs w w' g1 g2 m o) (hW : w'.setCells g2 0 (vs.map (Value.int .i64)) = W) (hl : vs.length ≤ o.length) : KyIs w W g1 g2 m (vs ++ o.drop vs.length) := by
 have := KyIs.puts2 vs 0 m o w' h
 rw [qRE vs o 0 (by omega), List.take_zero, List.nil_append, Nat.zero_add] at this
 rw [← hW]
 exact this
theorem KyIs.start (w : World) : KyIs w ((w.alloc (.cells (kyC (List.replicate 16 0)) 94)).alloc (.cells (kyC (List.replicate 16 0)) 94)) w.heap.size (w.heap.size + 1) (List.replicate 16 0) (List.replicate 16 0) := by
 refine ⟨qF (qvD w _) _, ?_, by omega, Nat.le_refl _, by omega, qt (qt (Below.refl _ _) _) _⟩
 have := qvD (w.alloc (.cells (kyC (List.replicate 16 0)) 94 (0, 0))) (.cells (kyC (List.replicate 16 0)) 94 (0, 0))
 rw [show (w.alloc (.cells (kyC (List.replicate 16 0)) 94 (0, 0))).heap.size = w.heap.size + 1 by simp] at this
 exact this
section
variable {P : Program}
theorem run_copy_wide (w : World) (dT sT ty elem : TypeId) (s b o dLen dCap : Nat) (a : Addr) (sLen sCap : Nat) (cs : List Value)
  (hu : P.underlying dT = some (.slice elem)) (hs : (P.info? elem).map (·.size) = some s) (hn : cs.length = Nat.min sLen dLen * s)
  (hsrc : ∀ j v, cs[j]? = some v → w.cell? (a.add j) = some v) (hc : ∀ j, j < cs.length → (w.cell? ⟨b, o + j, none⟩).isSome = true) (hf : ∀ j, j < cs.length → w.frozen? ⟨b, o + j, none⟩ = false) (h1 : ∀ v ∈ cs, v.oneCell' = true) :
  (Builtin.copy_ #[dT, sT] ty #[.slice (some ⟨b, o, none⟩) dLen dCap, .slice (some a) sLen sCap]).run P w = .ok (goInt (Nat.min sLen dLen)) (w.setCells b o cs) := by
 have hl := run_loadCells_list (P := P) w a cs hsrc
 have hst := run_storeCells_cells (P := P) b o cs 0 w (by simpa using hc) (by simpa using hf) h1
 rw [hn] at hl
 cases hq : P.info? elem with
 | none => simp [hq] at hs
 | some i =>
  have hi : i.size = s := by simpa [hq] using hs
  simp [Builtin.copy_, run_underlying hu, Builtin.lenOf, Builtin.firstCells, sizeOf, typeInfo, hq, hi, hl, hst]
end
theorem qSE : (Tryz.prog.info? 94).map (·.size) = some 16 := by kernel_rfl
set_option maxHeartbeats 8000000 in
set_option maxRecDepth 100000 in
theorem qqD (A0 : Option Addr) (c0 : Nat) (l0 : List XS) (w : World) (hr0 : Kd.C k53 w A0 l0.length l0) (hp : 1 ≤ l0.length) (hl : l0.length ≤ 2) :
  Calls Tryz.prog 51 #[.slice A0 l0.length c0] w fun e w' => e = .returned (encK l0) ∧ Below w.heap.size w w' := by
 have hu71 := Tryz.underlying94
 obtain ⟨ad, rfl, _⟩ := hr0.2.2 hp
 have HR := aM hr0
 have HPL := aM (And.intro hp hl)
 clear hr0 hp hl
 have IS := aM (KyIs.start w)
 go_enter Tryz.func51, Tryz.ntmps51
 go_wp2_with (first
  | ((with_reducible refine qEB (b := .copy) (xs := #[.tmp 5, .tmp 6]) rfl ?_); go_loud (refine Lib.wpList_copy_run _ rfl (.tmp 5) (.tmp 6) 26 26 rfl _ _ rfl rfl (run_copy_wide _ 26 26 _ 53 8 (w.heap.size + 1) 0 2 2 ad l0.length c0 ((flatS l0).map (Value.int .i64)) Tryz.underlying26 (by kernel_rfl) ?hn ?hsrc ?hc ?hf ?h1) ?_; (case hn => have := HPL.out; rw [List.length_map, qjB]; show _ = min l0.length 2 * 8; omega); (case hsrc => exact cells_flat (Kd.qV HR.out IS.out.below)); (case hc => intro j hj; rw [List.length_map, qjB] at hj; have h_ := HPL.out; exact (IS.out.there2 16 (by decide) j (by omega)).1); (case hf => intro j hj; rw [List.length_map, qjB] at hj; have h_ := HPL.out; exact (IS.out.there2 16 (by decide) j (by omega)).2); (case h1 => intro v hv; obtain ⟨x, _, rfl⟩ := List.mem_map.1 hv; rfl); generalize hW : World.setCells _ _ _ _ = W; have n_ := aM (KyIs.front2 (vs := flatS l0) IS.out hW (by rw [qjB, List.length_replicate]; have := HPL.out; omega)); clear IS hW; have IS := n_; clear n_))
  | ((with_reducible refine qH (N := 8) rfl ?_); go_loud (refine wpList_load_mid (by rfl) 94 (.tmp 3) (by rfl) (w.heap.size + 1) 0 rfl ((keyL l0).map (Value.int .i64)) (.array 2 53) ?hc hu71 rfl ?hi ?_; (case hc => have h_ := IS.out.range2; rw [key_is] at h_; exact h_); (case hi => have h_ := HPL.out; rw [List.length_map, qtC _ h_.2]; exact qSE)))
  | ((with_reducible refine qsB (t := 94) (p := 2) rfl ?_); go_loud (refine wpList_store_mid (by rfl) 94 (.tmp 2) (.tmp 8) (by rfl) w.heap.size 0 (kyC (keyL l0)) rfl rfl ?ht ?hi (kyC_one _) ?_; (case hi => have h_ := HPL.out; rw [show (kyC (keyL l0)).size = 16 by simp [kyC, qtC _ h_.2]]; exact qSE); (case ht => have h_ := HPL.out; rw [show (kyC (keyL l0)).size = 16 by simp [kyC, qtC _ h_.2]]; exact IS.out.there1 16 (by decide)); generalize hW : World.setCells _ _ _ _ = W; have n_ := aM (KyIs.whole IS.out hW (by have h_ := HPL.out; rw [qtC _ h_.2]; rfl)); clear IS hW; have IS := n_; clear n_)))
 refine bodyPost_ret (results_cell_row rfl _ _ w.heap.size 94 (kyC (keyL l0)) (0, 0) _ rfl IS.out.tab Tryz.underlying94 rfl (by have h_ := HPL.out; rw [show (kyC (keyL l0)).size = 16 by simp [kyC, qtC _ h_.2]]; exact qSE)) rfl ?_
 exact ⟨rfl, IS.out.below⟩
end Go.Proofs.YthhiiceligjleaaGreatDoor
namespace Go.Proofs.YthhiiceligjleaaGreatDoor
open Go Go.ChangeMaps Go.MapKept
open Go.Maps (Keyed IsMap Tidy)
set_option linter.unusedVariables false
set_option linter.unusedSectionVars false
theorem plainElem_bool_inv {H : Type} {P : Program} {e : TypeId} (he : P.underlying e = some .bool) {v : Value} {z : DataW H × List MemPlace} (h : plainElem P e v = some z) : ∃ x, v = .bool x ∧ z = (.lit (.bool x), []) := by
 unfold plainElem at h
 rw [he] at h
 cases v <;> simp at h
 exact ⟨_, rfl, h.symm⟩
structure MapKit (P : Program) (κ ν : Type) where
 t : TypeId
 k : TypeId
 e : TypeId
 law : Keyed P k
 ht : P.underlying t = some (.map k e)
 okK : κ → Prop
 key : κ → Value
 lit : κ → Lit
 hkey : ∀ x, okK x → keyOf P k (key x) = some (lit x)
 inj : ∀ x y, key x = key y → x = y
 okV : ν → Prop
 val : ν → Value
 dat : ν → DataW Unit
 R : Value → Option (DataW Unit × List MemPlace)
 hval : ∀ v, okV v → R (val v) = some (dat v, [])
 hdat : ∀ v u ps, R u = some (dat v, ps) → u = val v
 zero : ν
 okz : okV zero
 hz : ∀ w, (zeroValue e).run P w = .ok (val zero) w
namespace MapKit
variable {P : Program} {κ ν : Type} [DecidableEq κ] (M : MapKit P κ ν)
def datum : List (κ × ν) → DataW Unit
 | [] => .map []
 | x :: l => (datum l).put (M.lit x.1) (M.dat x.2)
def look (l : List (κ × ν)) (x : κ) : ν := match l.find? fun y => decide (y.1 = x) with | some y => y.2 | none => M.zero
def met (l : List (κ × ν)) (x : κ) : Bool := l.any fun y => decide (y.1 = x)
structure Is (w : World) (b : Nat) (l : List (κ × ν)) : Prop where
 ok : ∀ y ∈ l, M.okK y.1 ∧ M.okV y.2
 own : w.ownsMap P M.k M.R b l.length (M.datum l)
theorem datum_isMap : ∀ l : List (κ × ν), IsMap (M.datum l)
 | [] => Go.Maps.isMap_empty
 | x :: l => (datum_isMap l).put _ _
theorem lit_ne {x y : κ} (hx : M.okK x) (hy : M.okK y) (h : x ≠ y) : M.lit x ≠ M.lit y := fun e =>
 h (M.inj _ _ (M.law.inj (M.hkey x hx) (by rw [M.hkey y hy, e])))
theorem at_datum {x : κ} (hx : M.okK x) : ∀ (l : List (κ × ν)), (∀ y ∈ l, M.okK y.1 ∧ M.okV y.2) → (M.datum l).atKey (M.lit x) (M.dat M.zero) = M.dat (M.look l x)
 | [], _ => rfl
 | y :: l, h => by
  have ih := at_datum hx l (fun z hz => h z (List.mem_cons_of_mem _ hz))
  have hy := (h y List.mem_cons_self).1
  show ((M.datum l).put (M.lit y.1) (M.dat y.2)).atKey (M.lit x) (M.dat M.zero) = _
  unfold look at ih ⊢
  by_cases e : y.1 = x
  case pos => rw [List.find?_cons_of_pos (by simpa using e), e]; exact Go.Maps.atKey_put_same (M.datum_isMap l) (M.law.key (M.hkey x hx)) _ _
  rw [List.find?_cons_of_neg (by simpa using e), ← ih]
  exact Go.Maps.atKey_put_other (M.lit_ne hx hy (fun q => e q.symm)) _ _
variable {M} {w : World} {b : Nat} {l : List (κ × ν)}
theorem Is.made (w : World) : M.Is (w.alloc (.map #[] 0)) w.heap.size [] := ⟨fun _ h => (List.not_mem_nil h).elim, World.ownsMap_made _ _ _ _⟩
theorem Is.lt (h : M.Is w b l) : b < w.heap.size := h.own.lt
theorem Is.kept {w' : World} {row : Option Nat} (h : M.Is w b l) (hg : w.grownBy w' row) (hne : some b ≠ row) : M.Is w' b l := ⟨h.ok, h.own.kept hg hne⟩
theorem Is.alloc (h : M.Is w b l) (o : Obj) : M.Is (w.alloc o) b l := ⟨h.ok, h.own.alloc o⟩
theorem Is.setCell (h : M.Is w b l) {a : Addr} (ha : b ≠ a.block) (u : Value) : M.Is (w.setCell a u) b l := ⟨h.ok, h.own.setCell ha u⟩
theorem Is.qEC {w' : World} (h : M.Is w b l) (e : w'.heap[b]? = w.heap[b]?) : M.Is w' b l := by
 obtain ⟨es, clock, hb, r⟩ := h.own
 exact ⟨h.ok, es, clock, by rw [e, hb], r⟩
theorem Is.run_look (h : M.Is w b l) {x : κ} (hx : M.okK x) : (Instr.lookup M.t (.map (some b)) (M.key x) false).run P w = .ok (M.val (M.look l x)) w := by
 obtain ⟨v, ps, hrun, hv⟩ := h.own.lookup M.law M.ht (M.hz w) (M.hval _ M.okz) (M.hkey x hx)
 rw [M.at_datum hx l h.ok] at hv
 rw [hrun, M.hdat _ _ _ hv]
theorem Is.run_put (h : M.Is w b l) (hn : l.length < maxLen) {x : κ} (hx : M.okK x) {v : ν} (hv : M.okV v) : ∃ w', (Instr.mapUpdate M.t (.map (some b)) (M.key x) (M.val v)).run P w = .ok () w' ∧ M.Is w' b ((x, v) :: l) ∧ w.grownBy w' (some b) := by
 obtain ⟨w', hrun, h1, h2⟩ := h.own.update M.law M.ht hn (M.hkey x hx) (M.hval v hv)
 refine ⟨w', hrun, ⟨fun y hy => ?_, h1⟩, h2⟩
 rcases List.mem_cons.1 hy with rfl | hy
 ·exact ⟨hx, hv⟩
 ·exact h.ok y hy
variable {ops : Array Oper} {rest : List Oper} {o : Oper} {a : Act} {Q : Exit → Act → World → Prop}
end MapKit
theorem elem_bool {P : Program} {e : TypeId} (he : P.underlying e = some .bool) : (∀ v : Bool, True → plainElem (H := Unit) P e (.bool v) = some (.lit (.bool v), [])) ∧ ∀ (v : Bool) (u : Value) ps, plainElem (H := Unit) P e u = some (.lit (.bool v), ps) → u = .bool v := by
 refine ⟨fun v _ => plainElem_bool he v, fun v u ps h => ?_⟩
 obtain ⟨x, rfl, hz⟩ := plainElem_bool_inv he h
 simp only [Prod.mk.injEq, DataW.lit.injEq, Lit.bool.injEq] at hz
 rw [hz.1]
end Go.Proofs.YthhiiceligjleaaGreatDoor
namespace Go.Proofs.YthhiiceligjleaaGreatDoor
open Go.RowKit Go.Proofs.YthhiiceligjleaaGreatDoorW.PrintWords Go.Proofs.YthhiiceligjleaaGreatDoorW.PrintLast
set_option linter.unusedVariables false
set_option linter.unusedSectionVars false
namespace MapKit
variable {P : Program} {κ ν : Type} [DecidableEq κ] {M : MapKit P κ ν} {w w1 : World} {b : Nat} {l : List (κ × ν)}
theorem Is.below (h : M.Is w b l) (hb : Below w.heap.size w w1) : M.Is w1 b l := h.qEC (hb.block b h.lt)
theorem Is.drewN (h : M.Is w b l) (n : Nat) : M.Is (w.drewN n) b l := h.qEC rfl
theorem Is.drew (h : M.Is w b l) : M.Is w.drew b l := h.qEC rfl
theorem Is.obj (h : M.Is w b l) : ∃ es clock, w.heap[b]? = some (.map es clock) := by
 obtain ⟨es, clock, hb, _⟩ := h.own
 exact ⟨es, clock, hb⟩
theorem Is.off (h : M.Is w b l) {k : Nat} {cells : Array Value} {q : TypeId} (hc : w.heap[k]? = some (.cells cells q (0, 0))) : k ≠ b := by
 rintro rfl
 obtain ⟨es, clock, hb⟩ := h.obj
 rw [hb] at hc
 cases hc
theorem Is.ne (h : M.Is w b l) {α : Type} {d : Kd α} {e base : Nat} {ok : Nat → Prop} {v : Value} {xs : List α} (hR : d.R e w base ok v xs) : some b ≠ v.ownBlock := by
 intro he
 obtain ⟨_, _, _, q, _, cells, hc⟩ := (Kd.qqB hR).1 b he.symm
 exact h.off hc rfl
theorem Is.row (h : M.Is w b l) {α : Type} {d : Kd α} {e base : Nat} {ok : Nat → Prop} {v : Value} {xs : List α} (hR : d.R e w base ok v xs) (hg : w.grownBy w1 (some b)) : d.R e w1 base ok v xs :=
 Kd.qa (Kd.qGE (Kd.qqB hR) (fun k hk hlt => hg.block k hlt (fun e_ => by
  injection e_ with e_
  obtain ⟨_, _, _, q, _, cells, hc⟩ := hk
  exact h.off hc e_))) (fun _ hk => hk.1)
end MapKit
end Go.Proofs.YthhiiceligjleaaGreatDoor
namespace Go.Proofs
open Go.Shelf
def Tryz.lays146_ren : Go.Shelf.Ren := ⟨fun | 146 => 75 | 221 => 88 | 268 => 99 | 138 => 100 | 143 => 101 | 195 => 107 | 197 => 103 | 218 => 108 | 219 => 109 | 260 => 110 | 217 => 113 | 225 => 114 | 224 => 115 | 267 => 116 | 266 => 119 | 314 => 120 | n => n, fun | 9 => 9 | 31 => 61 | 3 => 3 | 4 => 4 | 0 => 0 | 105 => 142 | 21 => 21 | 5 => 5 | 46 => 149 | 119 => 150 | 139 => 153 | 138 => 152 | 146 => 156 | 51 => 155 | n => n, fun | 1 => 0 | 3 => 1 | 4 => 2 | n => n⟩
theorem Tryz.lays146 : Go.Proofs.Lays.n146 Tryz.prog Tryz.lays146_ren := {
 mixed := by kernel_rfl
 f138 := Tryz.func100.trans (congrArg some (by kernel_rfl))
 f143 := Tryz.func101.trans (congrArg some (by kernel_rfl))
 f146 := Tryz.func75.trans (congrArg some (by kernel_rfl))
 f195 := Tryz.func107.trans (congrArg some (by kernel_rfl))
 f197 := Tryz.func103.trans (congrArg some (by kernel_rfl))
 f217 := Tryz.func113.trans (congrArg some (by kernel_rfl))
 f218 := Tryz.func108.trans (congrArg some (by kernel_rfl))
 f219 := Tryz.func109.trans (congrArg some (by kernel_rfl))
 f221 := Tryz.func88.trans (congrArg some (by kernel_rfl))
 f224 := Tryz.func115.trans (congrArg some (by kernel_rfl))
 f225 := Tryz.func114.trans (congrArg some (by kernel_rfl))
 f260 := Tryz.func110.trans (congrArg some (by kernel_rfl))
 f266 := Tryz.func119.trans (congrArg some (by kernel_rfl))
 f267 := Tryz.func116.trans (congrArg some (by kernel_rfl))
 f268 := Tryz.func99.trans (congrArg some (by kernel_rfl))
 f314 := Tryz.func120.trans (congrArg some (by kernel_rfl))
 t0 := Tryz.underlying0
 a0 := Tryz.isAgg0
 z0 := Tryz.sizeOf0
 v0 := Tryz.zeroValue0
 t3 := Tryz.underlying3
 a3 := Tryz.isAgg3
 z3 := Tryz.sizeOf3
 v3 := Tryz.zeroValue3
 t4 := Tryz.underlying4
 a4 := Tryz.isAgg4
 z4 := Tryz.sizeOf4
 v4 := Tryz.zeroValue4
 t5 := Tryz.underlying5
 a5 := Tryz.isAgg5
 z5 := Tryz.sizeOf5
 v5 := Tryz.zeroValue5
 t9 := Tryz.underlying9
 a9 := Tryz.isAgg9
 z9 := Tryz.sizeOf9
 v9 := Tryz.zeroValue9
 t21 := Tryz.underlying21
 a21 := Tryz.isAgg21
 z21 := Tryz.sizeOf21
 v21 := Tryz.zeroValue21
 t31 := Tryz.underlying61
 a31 := Tryz.isAgg61
 z31 := Tryz.sizeOf61
 v31 := Tryz.zeroValue61
 t46 := Tryz.underlying149
 a46 := Tryz.isAgg149
 z46 := Tryz.sizeOf149
 v46 := Tryz.zeroValue149
 t51 := Tryz.underlying155
 a51 := Tryz.isAgg155
 z51 := Tryz.sizeOf155
 v51 := Tryz.zeroValue155
 t105 := Tryz.underlying142
 a105 := Tryz.isAgg142
 z105 := Tryz.sizeOf142
 v105 := Tryz.zeroValue142
 t119 := Tryz.underlying150
 a119 := Tryz.isAgg150
 z119 := Tryz.sizeOf150
 t138 := Tryz.underlying152
 a138 := Tryz.isAgg152
 z138 := Tryz.sizeOf152
 v138 := Tryz.zeroValue152
 t139 := Tryz.underlying153
 a139 := Tryz.isAgg153
 z139 := Tryz.sizeOf153
 v139 := Tryz.zeroValue153
 t146 := Tryz.underlying156
 a146 := Tryz.isAgg156
 z146 := Tryz.sizeOf156
 v146 := Tryz.zeroValue156
 g1 := by kernel_rfl
 g3 := by kernel_rfl
 g4 := by kernel_rfl }
open Go.RowKit Go.Lib in
theorem Tryz.strings_Split (s sep : ByteArray) (m : Int) (w : World) (hs : s.size < 4294967281) (hm : w.cell? ⟨0, 0, none⟩ = some (.int .i64 m)) (h1 : 1 ≤ sep.size) :
  Calls Tryz.prog 75 #[.string s, .string sep] w fun e w' =>
   e = .returned (.slice (some ⟨w.heap.size, 0, none⟩) (Lib.countB s sep + 1) (Lib.countB s sep + 1)) ∧ w' = w.alloc (.cells ((Lib.splitB sep 0 (Lib.countB s sep) s).map Value.string).toArray 9) := Any.strings_Split Tryz.lays146 (by kernel_rfl) s sep m w hs hm h1
def Tryz.lays160_ren : Go.Shelf.Ren := ⟨fun | 160 => 76 | 232 => 90 | 231 => 89 | 227 => 91 | 234 => 93 | 233 => 92 | 236 => 95 | 235 => 94 | 228 => 102 | 271 => 105 | 151 => 104 | 197 => 103 | 120 => 112 | 152 => 111 | 260 => 110 | 137 => 117 | 119 => 118 | 224 => 115 | 225 => 114 | 217 => 113 | 266 => 119 | n => n, fun | 9 => 9 | 4 => 4 | 3 => 3 | 5 => 5 | 117 => 132 | 116 => 131 | 0 => 0 | 124 => 135 | 21 => 21 | 105 => 142 | 46 => 149 | 119 => 150 | 139 => 153 | 138 => 152 | n => n, fun | 3 => 1 | 4 => 2 | n => n⟩
theorem Tryz.lays160 : Go.Proofs.Lays.n160 Tryz.prog Tryz.lays160_ren := {
 mixed := by kernel_rfl
 f119 := Tryz.func118.trans (congrArg some (by kernel_rfl))
 f120 := Tryz.func112.trans (congrArg some (by kernel_rfl))
 f137 := Tryz.func117.trans (congrArg some (by kernel_rfl))
 f151 := Tryz.func104.trans (congrArg some (by kernel_rfl))
 f152 := Tryz.func111.trans (congrArg some (by kernel_rfl))
 f160 := Tryz.func76.trans (congrArg some (by kernel_rfl))
 f197 := Tryz.func103.trans (congrArg some (by kernel_rfl))
 f217 := Tryz.func113.trans (congrArg some (by kernel_rfl))
 f224 := Tryz.func115.trans (congrArg some (by kernel_rfl))
 f225 := Tryz.func114.trans (congrArg some (by kernel_rfl))
 f227 := Tryz.func91.trans (congrArg some (by kernel_rfl))
 f228 := Tryz.func102.trans (congrArg some (by kernel_rfl))
 f231 := Tryz.func89.trans (congrArg some (by kernel_rfl))
 f232 := Tryz.func90.trans (congrArg some (by kernel_rfl))
 f233 := Tryz.func92.trans (congrArg some (by kernel_rfl))
 f234 := Tryz.func93.trans (congrArg some (by kernel_rfl))
 f235 := Tryz.func94.trans (congrArg some (by kernel_rfl))
 f236 := Tryz.func95.trans (congrArg some (by kernel_rfl))
 f260 := Tryz.func110.trans (congrArg some (by kernel_rfl))
 f266 := Tryz.func119.trans (congrArg some (by kernel_rfl))
 f271 := Tryz.func105.trans (congrArg some (by kernel_rfl))
 t0 := Tryz.underlying0
 a0 := Tryz.isAgg0
 z0 := Tryz.sizeOf0
 v0 := Tryz.zeroValue0
 t3 := Tryz.underlying3
 a3 := Tryz.isAgg3
 z3 := Tryz.sizeOf3
 v3 := Tryz.zeroValue3
 t4 := Tryz.underlying4
 a4 := Tryz.isAgg4
 z4 := Tryz.sizeOf4
 v4 := Tryz.zeroValue4
 t5 := Tryz.underlying5
 a5 := Tryz.isAgg5
 z5 := Tryz.sizeOf5
 v5 := Tryz.zeroValue5
 t9 := Tryz.underlying9
 a9 := Tryz.isAgg9
 z9 := Tryz.sizeOf9
 v9 := Tryz.zeroValue9
 t21 := Tryz.underlying21
 a21 := Tryz.isAgg21
 z21 := Tryz.sizeOf21
 v21 := Tryz.zeroValue21
 t46 := Tryz.underlying149
 a46 := Tryz.isAgg149
 z46 := Tryz.sizeOf149
 v46 := Tryz.zeroValue149
 t105 := Tryz.underlying142
 a105 := Tryz.isAgg142
 z105 := Tryz.sizeOf142
 v105 := Tryz.zeroValue142
 t116 := Tryz.underlying131
 a116 := Tryz.isAgg131
 z116 := Tryz.sizeOf131
 t117 := Tryz.underlying132
 a117 := Tryz.isAgg132
 z117 := Tryz.sizeOf132
 v117 := Tryz.zeroValue132
 t119 := Tryz.underlying150
 a119 := Tryz.isAgg150
 z119 := Tryz.sizeOf150
 t124 := Tryz.underlying135
 a124 := Tryz.isAgg135
 z124 := Tryz.sizeOf135
 v124 := Tryz.zeroValue135
 t138 := Tryz.underlying152
 a138 := Tryz.isAgg152
 z138 := Tryz.sizeOf152
 v138 := Tryz.zeroValue152
 t139 := Tryz.underlying153
 a139 := Tryz.isAgg153
 z139 := Tryz.sizeOf153
 v139 := Tryz.zeroValue153
 g3 := by kernel_rfl
 g4 := by kernel_rfl }
end Go.Proofs
namespace Go.Proofs.YthhiiceligjleaaGreatDoor
open Go.RowKit Go.Proofs.YthhiiceligjleaaGreatDoorW.PrintWords Go.Proofs.YthhiiceligjleaaGreatDoorW.PrintLast
set_option linter.unusedVariables false
set_option linter.unusedSimpArgs false
def strings_Split.f (a0 a1 : ByteArray) : Option (List ByteArray) := if a0.size < 4294967281 ∧ 1 ≤ a1.size then some (Lib.splitB a1 0 (Lib.countB a0 a1) a0) else none
theorem strings_Split.calls (a0 a1 : ByteArray) (r : List ByteArray) (w : World) (hL : Laid w) (h : strings_Split.f a0 a1 = some r) :
  Calls Tryz.prog 75 #[.string a0, .string a1] w fun e w' => ∃ v0_ : Value, e = .returned v0_ ∧ Kd.R Kd.string 9 w' w.heap.size (fun _ => True) v0_ r ∧ Below w.heap.size w w' := by
 unfold strings_Split.f at h
 split at h
 ·rename_i hs
  obtain rfl := Option.some.inj h
  obtain ⟨m, hm⟩ := hL
  have hlen := Lib.splitB_all a1 hs.2 0 _ a0 rfl
  have hle := Lib.countB_le a1 hs.2 a0.size a0 (Nat.le_refl _)
  refine (Tryz.strings_Split a0 a1 m w hs.1 hm hs.2).mono fun e w' ⟨h1, h2⟩ => ⟨_, h1, ?_, ?_⟩
  ·subst h2
   generalize Lib.splitB a1 0 (Lib.countB a0 a1) a0 = l at *
   rw [← hlen]
   refine Kd.R_of_own ⟨by rw [qFD, Nat.mul_one], .inr ⟨w.heap.size, l.length, (l.map Value.string).toArray, rfl, Nat.le_refl _, ?_, Nat.le_refl _, ?_, ?_, ?_⟩⟩ (fun _ _ => trivial)
   ·exact qvD _ _
   ·unfold maxLen; omega
   ·simp
   ·simp only [encs, Nat.mul_one]
    rw [List.take_of_length_le (by simp)]
  ·subst h2
   exact qt (Below.refl _ _) _
 ·cases h
def qQB.f (a0 a1 : ByteArray) : Option ByteArray := if a0.size ≤ 9223372036854775807 ∧ a1.size < 4294967281 ∧ (a1.data.toList.all fun b => decide (b.toNat < 128)) = true then some ⟨(Lib.trimS a0.data.toList a1.data.toList).toArray⟩ else none
theorem qQB.calls (a0 a1 : ByteArray) (r : ByteArray) (w : World) (h : qQB.f a0 a1 = some r) :
  Calls Tryz.prog 76 #[.string a0, .string a1] w fun e w' => e = .returned (.string r) ∧ Below w.heap.size w w' := by
 unfold qQB.f at h
 split at h
 ·rename_i hs
  obtain rfl := Option.some.inj h
  exact Any.strings_Trim_laid Tryz.lays160 (by kernel_rfl) a0 a1 w hs.1 hs.2.1 (ascii_of_all hs.2.2)
 ·cases h
def sp (c : UInt8) : List UInt8 → List UInt8 × List (List UInt8)
 | [] => ([], [])
 | b :: r => if b = c then ([], (sp c r).1 :: (sp c r).2) else (b :: (sp c r).1, (sp c r).2)
theorem splitK_sp (c : UInt8) (l : List UInt8) : Lib.splitK [c] 0 (Lib.count l [c]) l = (sp c l).1 :: (sp c l).2 := by
 induction l with
 | nil =>
  have : Lib.count [] [c] = 0 := by rw [Lib.count_one]; rfl
  rw [this]; rfl
 | cons b l ih =>
  by_cases h : b = c
  case pos => subst h; (have hix : Lib.index (b :: l) [b] = 0 := by rw [Lib.index]; simp [List.isPrefixOf]); rw [Lib.count_cons_eq, show 1 + Lib.count l [b] = Lib.count l [b] + 1 by omega, Lib.splitK, hix]; simp only [sp, if_true]; rw [if_neg (by decide), ← ih]; rfl
  have hp : ([c] : List UInt8).isPrefixOf (b :: l) = false := by simp [List.isPrefixOf, Ne.symm h]
  have hix : Lib.index (b :: l) [c] = if Lib.index l [c] == -1 then -1 else Lib.index l [c] + 1 := by rw [Lib.index, hp]; simp
  rw [Lib.count_cons_ne b c l h]
  simp only [sp, if_neg h]
  by_cases hm : Lib.index l [c] = -1
  case pos => have h0 : Lib.count l [c] = 0 := Lib.count_miss hm; rw [h0] at ih ⊢; simp only [Lib.splitK] at ih ⊢; injection ih with e1 e2; rw [← e1, ← e2]
  have hge := Lib.index_ge l [c]
  obtain ⟨j, hj⟩ : ∃ j : Nat, Lib.index l [c] = j := ⟨(Lib.index l [c]).toNat, by omega⟩
  have hc := Lib.count_hit (sub := [c]) (by simp) hj
  obtain ⟨k, hk⟩ : ∃ k, Lib.count l [c] = k + 1 := ⟨Lib.count l [c] - 1, by omega⟩
  rw [hk] at ih ⊢
  have hne : ¬ ((j : Int) == -1) = true := by intro e; have := beq_iff_eq.1 e; omega
  have hne' : ¬ ((j : Int) + 1 == -1) = true := by intro e; have := beq_iff_eq.1 e; omega
  rw [Lib.splitK, hj, if_neg hne] at ih
  rw [Lib.splitK, hix, hj, if_neg hne, if_neg hne']
  have e1 : ((j : Int) + 1).toNat = j + 1 := by omega
  rw [e1]
  simp only [Int.toNat_natCast, Nat.add_zero, List.length_singleton] at ih ⊢
  injection ih with i1 i2
  rw [← i1, ← i2]
  rfl
theorem split_sp (a : ByteArray) (c : UInt8) : (Lib.splitB ⟨#[c]⟩ 0 (Lib.countB a ⟨#[c]⟩) a).map (·.data.toList) = (sp c a.data.toList).1 :: (sp c a.data.toList).2 := by
 rw [Lib.splitB_data]
 exact splitK_sp c a.data.toList
theorem qlD (c : UInt8) (l : List UInt8) : l.length = (sp c l).1.length + ((sp c l).2.map List.length).sum + (sp c l).2.length := by
 induction l with
 | nil => rfl
 | cons b l ih =>
  by_cases h : b = c
  case pos => simp only [sp, if_pos h, List.length_cons, List.length_nil, List.map_cons, List.sum_cons]; omega
  simp only [sp, if_neg h, List.length_cons]; omega
theorem sp_all (c : UInt8) (p : UInt8 → Bool) (l : List UInt8) (hp : p c = false) : ((sp c l).1.all p && (sp c l).2.all (·.all p)) = l.all fun b => b == c || p b := by
 induction l with
 | nil => rfl
 | cons b l ih =>
  by_cases h : b = c
  case pos => subst h; simp only [sp, if_true, List.all_nil, Bool.true_and, List.all_cons, ih, beq_self_eq_true, Bool.true_or]
  have : (b == c) = false := by simpa using h
  simp only [sp, if_neg h, List.all_cons, Bool.and_assoc, ih, this, Bool.false_or]
theorem qxB {p : UInt8 → Bool} {e : UInt8} (he : p e = false) : ∀ l : List UInt8, e ∈ l → e ∈ l.dropWhile p
 | [], h => h
 | b :: l, h => by
  rw [List.dropWhile_cons]
  split
  ·rename_i hb
   rcases List.mem_cons.1 h with rfl | h
   ·rw [he] at hb; cases hb
   ·exact qxB he l h
  ·exact h
theorem dropWhile_all {p : UInt8 → Bool} : ∀ l : List UInt8, l.all p = true → l.dropWhile p = []
 | [], _ => rfl
 | b :: l, h => by
  rw [List.all_cons, Bool.and_eq_true] at h
  rw [List.dropWhile_cons, if_pos h.1]
  exact dropWhile_all l h.2
theorem trimS_nil (l cs : List UInt8) : (Lib.trimS l cs = []) ↔ l.all (cs.contains ·) = true := by
 unfold Lib.trimS Lib.trimLeftS Lib.trimRightS
 constructor
 ·intro h
  rw [List.all_eq_true]
  intro e he
  cases hc : cs.contains e with
  | true => rfl
  | false =>
   have h1 := qxB (p := (cs.contains ·)) (e := e) hc l.reverse (by simpa using he)
   have h2 := qxB (p := (cs.contains ·)) (e := e) hc (l.reverse.dropWhile (cs.contains ·)).reverse (by simpa using h1)
   rw [h] at h2; cases h2
 ·intro h
  rw [dropWhile_all l.reverse (by rw [List.all_reverse]; exact h)]
  rfl
end Go.Proofs.YthhiiceligjleaaGreatDoor
namespace Go.Proofs.YthhiiceligjleaaGreatDoor.P
open Go.RowKit Go.Proofs.YthhiiceligjleaaGreatDoorW.PrintWords Go.Proofs.YthhiiceligjleaaGreatDoorW.PrintLast Go.Proofs.YthhiiceligjleaaGreatDoorW.PrintMore
attribute [local go_sem] qh qf qr qq qZ qY qg qe
set_option linter.unusedVariables false
set_option linter.unusedSimpArgs false
def qlA.f (a0 : Int) (a1 : Int) (a2 : Int) : Option (Bool) := if a1 ≤ a0 then (some (decide (a0 ≤ a2))) else (some false)
set_option maxHeartbeats 8000000 in
set_option maxRecDepth 100000 in
theorem qlA.calls (a0 : Int) (a1 : Int) (a2 : Int) (r : Bool) (w : World) (h : qlA.f a0 a1 a2 = some r) :
  Calls Tryz.prog 59 #[.int .i64 a0, .int .i64 a1, .int .i64 a2] w fun e w' => e = .returned (.bool r) ∧ Drawn0 w w' := by
 have H : (if a1 ≤ a0 then (some (decide (a0 ≤ a2))) else (some false)) = some r := h
 clear h
 by_cases c4 : a1 ≤ a0
 ·rw [if_pos c4] at H
  have c4b0 := decide_eq_true c4
  clear c4
  obtain rfl := Option.some.inj H
  go_enter Tryz.func59, Tryz.ntmps59
  go_wp2
  go_ret
  exact ⟨by first | rfl | (simp; done) | (simp [*]; done), dR⟩
 ·rw [if_neg c4] at H
  have c4b0 := decide_eq_false c4
  clear c4
  obtain rfl := Option.some.inj H
  go_enter Tryz.func59, Tryz.ntmps59
  go_wp2
  go_ret
  exact ⟨by first | rfl | (simp; done) | (simp [*]; done), dR⟩
def qaA.l0 : Nat → ByteArray → Int → List ByteArray → Int → Int → Option (List ByteArray × Bool)
 | 0, _, _, _, _, _ => none
 | k + 1, x1, x7, x11, x17, x18 => if x18 < x17 then (if 0 ≤ x18 then (if x18 < (x11.length : Int) then (if ((rdOf ByteArray.empty x11 x18).size : Int) = x7 then ((qQB.f (rdOf ByteArray.empty x11 x18) x1).bind fun t398 => (if t398.toList = ([] : List UInt8) then (qaA.l0 k x1 x7 x11 x17 (wrap64 (x18 + 1))) else (some (([] : List ByteArray), false)))) else (some (([] : List ByteArray), false))) else (none)) else (none)) else ((qlA.f (x11.length : Int) 1 7).bind fun t399 => (if t399 = true then ((qlA.f x7 1 7).bind fun t400 => (if t400 = true then (some (x11, decide ((wrap64 (x7 * (x11.length : Int))) ≤ 36))) else (some (x11, false)))) else (some (x11, false))))
def qaA.f (k : Nat) (a0 : ByteArray) (a1 : ByteArray) : Option (List ByteArray × Bool) := (strings_Split.f a0 (⟨#[47]⟩ : ByteArray)).bind fun t393 => (if 0 < (t393.length : Int) then (qaA.l0 k a1 ((rdOf ByteArray.empty t393 0).size : Int) t393 (t393.length : Int) 0) else (none))
set_option maxHeartbeats 8000000 in
set_option maxRecDepth 100000 in
theorem qaA.calls (k : Nat) (a0 : ByteArray) (a1 : ByteArray) (r1 : List ByteArray) (r2 : Bool) (w : World) (hL : Laid w) (h : qaA.f k a0 a1 = some (r1, r2)) :
  Calls Tryz.prog 57 #[.string a0, .string a1] w fun e w' => ∃ v0_ : Value, e = .returned (.tuple #[v0_, .bool r2]) ∧ Kd.R Kd.string 9 w' w.heap.size (fun _ => True) v0_ r1 ∧ Below w.heap.size w w' := by
 have HLD := aM hL
 clear hL
 have HB := aM (Below.refl w.heap.size w)
 have H : ((strings_Split.f a0 (⟨#[47]⟩ : ByteArray)).bind fun t393 => (if 0 < (t393.length : Int) then (qaA.l0 k a1 ((rdOf ByteArray.empty t393 0).size : Int) t393 (t393.length : Int) 0) else (none))) = some (r1, r2) := h
 clear h
 replace H := bO H
 obtain ⟨t393, A3, H⟩ := H
 by_cases c4 : 0 < (t393.length : Int)
 ·rw [if_pos c4] at H
  have c4b0 := decide_eq_true c4
  have c4b1 : decide (0 < t393.length) = true := decide_eq_true (by omega)
  clear c4
  have H' := aM H
  clear H
  go_enter Tryz.func57, Tryz.ntmps57
  go_wp2_with (first | ((with_reducible refine qE (f := 75) rfl ?_); refine qm (some 11) rfl rfl Tryz.func75 (by kernel_rfl) rfl #[.string a0, .string (⟨#[47]⟩ : ByteArray)] rfl gA ?_; (with_reducible refine (strings_Split.calls a0 (⟨#[47]⟩ : ByteArray) t393 _ ?side1 A3.out).mono ?_); (case side1 => first | (with_reducible exact HLD.out) | exact Laid.below HLD.out bl); rintro e w5 ⟨v394, rfl, ho0, hb⟩; refine ⟨_, rfl, ?_⟩; have HO395 := aM (Kd.qz ho0 (qJ bl)); replace HB := aM (qB bl hb); (try clear hb); (try clear hb2); (try clear hk); (try clear hi); (try clear ho0); obtain ⟨Ao6, co6, eo6⟩ := Kd.qDA HO395.out; subst eo6; have p396 : 0 ≤ (0 : Int) := (by omega); have q396 : 0 < (t393.length : Int) := of_decide_eq_true am; obtain ⟨ad396, e396, hx396_0⟩ := Kd.qvB (Kd.qO HO395.out).2.2 0 p396 q396; cases e396; have qi396 : (0 < t393.length) = True := eq_true (by omega); (try rw [show ((0 : Int)).toNat = 0 from rfl] at hx396_0); (try rw [Addr.add_zero'] at hx396_0); replace p396 := eq_true p396; replace q396 := eq_true q396))
  go_loopg [18] k (fun kq v18 w' => ∃ (x18_1 : Int), v18 = .int .i64 x18_1 ∧ Aside0 (qaA.l0 kq a1 ((rdOf ByteArray.empty t393 0).size : Int) t393 (t393.length : Int) x18_1 = some (r1, r2)) ∧ Aside0 (kq ≤ k) ∧ Aside0 (Kd.R Kd.string 9 w' w.heap.size (fun _ => True) (.slice (some ad396) t393.length co6) t393) ∧ Aside0 (Below w.heap.size w w'))
  case atStart => exact ⟨(0), sD, H', ⟨Nat.le_refl _⟩, ⟨rR HO395⟩, ⟨bl⟩⟩
  case round =>
   clear H'; (try clear p2); (try clear p3); (try clear q3); (try clear hx3); (try clear qi3); (try clear c4); (try clear c4b0); (try clear c4b1); (try clear c5); (try clear hx396_0); (try clear p396); (try clear q396)
   obtain ⟨x18_1, rfl, HA, HK1, HO_11, HB⟩ := hrel
   cases gk with
   | zero => exact absurd HA.out (by simp [qaA.l0])
   | succ k1 =>
    have H := HA.out
    clear HA
    simp only [qaA.l0] at H
    by_cases c7 : x18_1 < (t393.length : Int)
    ·rw [if_pos c7] at H
     have c7b0 := decide_eq_true c7
     clear c7
     by_cases c8 : 0 ≤ x18_1
     case neg => exact nN c8 H
     rw [if_pos c8] at H
     have c8b0 := decide_eq_true c8
     clear c8
     by_cases c9 : x18_1 < (t393.length : Int)
     case neg => exact nN c9 H
     rw [if_pos c9] at H
     have c9b0 := decide_eq_true c9
     clear c9
     by_cases c10 : ((rdOf ByteArray.empty t393 x18_1).size : Int) = ((rdOf ByteArray.empty t393 0).size : Int)
     ·rw [if_pos c10] at H
      have c10b0 := beq_iff_eq.mpr c10
      have c10b1 := bne_eq_false_iff_eq.mpr c10
      have c10b2 : ((rdOf ByteArray.empty t393 x18_1).size == (rdOf ByteArray.empty t393 0).size) = true := by first | simpa using c10 | (simp at c10 ⊢; omega)
      clear c10
      replace H := bO H
      obtain ⟨t398, A11, H⟩ := H
      by_cases c12 : t398.toList = ([] : List UInt8)
      ·rw [if_pos c12] at H
       have c12b0 := beq_iff_eq.mpr c12
       have c12b1 := bne_eq_false_iff_eq.mpr c12
       clear c12
       have H' := aM H
       clear H
       have p397 : 0 ≤ (x18_1 : Int) := of_decide_eq_true am
       have q397 : x18_1 < (t393.length : Int) := of_decide_eq_true am
       obtain ⟨ad397, e397, hx397_0⟩ := Kd.qvB (Kd.qO HO_11.out).2.2 x18_1 p397 q397
       obtain rfl : ad396 = ad397 := (by injection e397)
       replace p397 := eq_true p397
       replace q397 := eq_true q397
       go_wp2_with (first | (go_at_call 76; (with_reducible refine (qQB.calls (rdOf ByteArray.empty t393 x18_1) a1 t398 _ A11.out).mono ?_); rintro e w13 ⟨rfl, hb⟩; replace HO_11 := aM (Kd.qc (rR HO_11) hb); replace HB := aM (qB bl hb); (try clear hb); (try clear hb2); (try clear hk); (try clear hi)))
       go_roundg k1
       case measure => have := HK1.out; omega
       case rel => exact ⟨(wrap64 (x18_1 + 1)), sD, H', ⟨by have := HK1.out; omega⟩, ⟨rR HO_11⟩, ⟨bl⟩⟩
      ·rw [if_neg c12] at H
       have c12b0 := beq_eq_false_iff_ne.mpr c12
       have c12b1 := bne_iff_ne.mpr c12
       simp only [Option.some.injEq, Prod.mk.injEq] at H
       obtain ⟨rfl, rfl⟩ := H
       have p397 : 0 ≤ (x18_1 : Int) := of_decide_eq_true am
       have q397 : x18_1 < (t393.length : Int) := of_decide_eq_true am
       obtain ⟨ad397, e397, hx397_0⟩ := Kd.qvB (Kd.qO HO_11.out).2.2 x18_1 p397 q397
       obtain rfl : ad396 = ad397 := (by injection e397)
       replace p397 := eq_true p397
       replace q397 := eq_true q397
       go_wp2_with (first | (go_at_call 76; (with_reducible refine (qQB.calls (rdOf ByteArray.empty t393 x18_1) a1 t398 _ A11.out).mono ?_); rintro e w14 ⟨rfl, hb⟩; replace HO_11 := aM (Kd.qc (rR HO_11) hb); replace HB := aM (qB bl hb); (try clear hb); (try clear hb2); (try clear hk); (try clear hi)))
       go_ret2
       exact ⟨_, sR, nK, bl⟩
     ·rw [if_neg c10] at H
      have c10b0 := beq_eq_false_iff_ne.mpr c10
      have c10b1 := bne_iff_ne.mpr c10
      have c10b2 : ((rdOf ByteArray.empty t393 x18_1).size == (rdOf ByteArray.empty t393 0).size) = false := by first | simpa using c10 | (simp at c10 ⊢; omega)
      simp only [Option.some.injEq, Prod.mk.injEq] at H
      obtain ⟨rfl, rfl⟩ := H
      have p397 : 0 ≤ (x18_1 : Int) := of_decide_eq_true am
      have q397 : x18_1 < (t393.length : Int) := of_decide_eq_true am
      obtain ⟨ad397, e397, hx397_0⟩ := Kd.qvB (Kd.qO HO_11.out).2.2 x18_1 p397 q397
      obtain rfl : ad396 = ad397 := (by injection e397)
      replace p397 := eq_true p397
      replace q397 := eq_true q397
      go_wp2
      go_ret2
      exact ⟨_, sR, nK, bl⟩
    ·rw [if_neg c7] at H
     have c7b0 := decide_eq_false c7
     clear c7
     replace H := bO H
     obtain ⟨t399, A15, H⟩ := H
     by_cases c16 : t399 = true
     ·subst c16
      replace H := iT H
      replace H := bO H
      obtain ⟨t400, A17, H⟩ := H
      by_cases c18 : t400 = true
      ·subst c18
       replace H := iT H
       simp only [Option.some.injEq, Prod.mk.injEq] at H
       obtain ⟨rfl, rfl⟩ := H
       go_wp2_with (first | ((with_reducible refine qE (f := 59) rfl ?_); refine qm (some 36) rfl rfl Tryz.func59 (by kernel_rfl) rfl #[.int .i64 (t393.length : Int), .int .i64 1, .int .i64 7] rfl gA ?_; (with_reducible refine (qlA.calls (t393.length : Int) 1 7 true _ A15.out).mono ?_); rintro e w' ⟨rfl, ⟨nd, rfl⟩⟩; refine ⟨_, rfl, ?_⟩) | (go_at_call 59; (with_reducible refine (qlA.calls ((rdOf ByteArray.empty t393 0).size : Int) 1 7 true _ A17.out).mono ?_); rintro e w' ⟨rfl, ⟨nd, rfl⟩⟩))
       go_ret2
       exact ⟨_, sR, by (with_reducible repeat (first | apply Kd.qQ | apply Kd.qR | apply Kd.qS)); exact HO_11.out, bl⟩
      ·replace c18 := Bool.eq_false_iff.mpr c18
       subst c18
       replace H := iF H
       simp only [Option.some.injEq, Prod.mk.injEq] at H
       obtain ⟨rfl, rfl⟩ := H
       go_wp2_with (first | ((with_reducible refine qE (f := 59) rfl ?_); refine qm (some 36) rfl rfl Tryz.func59 (by kernel_rfl) rfl #[.int .i64 (t393.length : Int), .int .i64 1, .int .i64 7] rfl gA ?_; (with_reducible refine (qlA.calls (t393.length : Int) 1 7 true _ A15.out).mono ?_); rintro e w' ⟨rfl, ⟨nd, rfl⟩⟩; refine ⟨_, rfl, ?_⟩) | (go_at_call 59; (with_reducible refine (qlA.calls ((rdOf ByteArray.empty t393 0).size : Int) 1 7 false _ A17.out).mono ?_); rintro e w' ⟨rfl, ⟨nd, rfl⟩⟩))
       go_ret2
       exact ⟨_, sR, by (with_reducible repeat (first | apply Kd.qQ | apply Kd.qR | apply Kd.qS)); exact HO_11.out, bl⟩
     ·replace c16 := Bool.eq_false_iff.mpr c16
      subst c16
      replace H := iF H
      simp only [Option.some.injEq, Prod.mk.injEq] at H
      obtain ⟨rfl, rfl⟩ := H
      go_wp2_with (first | ((with_reducible refine qE (f := 59) rfl ?_); refine qm (some 36) rfl rfl Tryz.func59 (by kernel_rfl) rfl #[.int .i64 (t393.length : Int), .int .i64 1, .int .i64 7] rfl gA ?_; (with_reducible refine (qlA.calls (t393.length : Int) 1 7 false _ A15.out).mono ?_); rintro e w' ⟨rfl, ⟨nd, rfl⟩⟩; refine ⟨_, rfl, ?_⟩))
      go_ret2
      exact ⟨_, sR, by (with_reducible repeat (first | apply Kd.qQ | apply Kd.qR | apply Kd.qS)); exact HO_11.out, bl⟩
 ·rw [if_neg c4] at H
  exact absurd H (by simp)
end Go.Proofs.YthhiiceligjleaaGreatDoor.P
namespace Go.Proofs.YthhiiceligjleaaGreatDoor
open Go.RowKit Go.Proofs.YthhiiceligjleaaGreatDoor.P Go.Proofs.YthhiiceligjleaaGreatDoorW.PrintWords Go.Proofs.YthhiiceligjleaaGreatDoorW.PrintLast
set_option linter.unusedVariables false
set_option linter.unusedSimpArgs false
theorem quC (n a b : Int) : qlA.f n a b = some (decide (a ≤ n) && decide (n ≤ b)) := by
 unfold qlA.f
 by_cases h : a ≤ n
 case pos => rw [if_pos h, decide_eq_true h, Bool.true_and]
 rw [if_neg h, decide_eq_false h, Bool.false_and]
theorem qnE (l : List ByteArray) (i : Nat) (h : i < l.length) : rdOf ByteArray.empty l (i : Int) = l[i] := by
 unfold rdOf
 rw [Int.toNat_natCast, List.getD_eq_getElem?_getD, List.getElem?_eq_getElem h]; rfl
theorem qLC (s : ByteArray) : s.data.toList.length = s.size := by rw [Array.length_toList]; rfl
theorem gr_bt (s : ByteArray) (i : Nat) (h : i < s.data.toList.length) : bt s (i : Int) = ((s.data.toList[i]).toNat : Int) := by
 have h' : i < s.size := by rw [← qLC]; exact h
 unfold bt
 rw [dif_pos (by simpa using h')]
 simp only [Int.toNat_natCast, Array.getElem_toList]
 rfl
def fitR (C : List UInt8) (w : Nat) (r : List UInt8) : Bool := decide (r.length = w) && r.all (C.contains ·)
def szR (w h : Nat) : Bool := decide (1 ≤ h) && decide (h ≤ 7) && decide (1 ≤ w) && decide (w ≤ 7) && decide (w * h ≤ 36)
theorem rowsOf_loop (C : ByteArray) (hC : C.size < 100) (hA : (C.data.toList.all fun b => decide (b.toNat < 128)) = true) (w : Nat) (hw : w ≤ 4294967281) (L : List ByteArray) (hL : L.length ≤ 4294967281) (hs : ∀ x ∈ L, x.size ≤ 4294967281) (d : Nat) : ∀ i : Nat, i ≤ L.length → L.length - i = d →
  Ev (fun k => qaA.l0 k C (w : Int) L (L.length : Int) (i : Int)) (if (L.drop i).all (fun x => fitR C.data.toList w x.data.toList) then (L, szR w L.length) else ([], false)) := by
 induction d with
 | zero =>
  intro i hi hd
  refine Ev.step (f := fun k => _) (fun k => by rw [qaA.l0]) ?_
  refine Ev.neg (by omega) (Ev.bindc (quC _ _ _) ?_)
  rw [List.drop_eq_nil_of_le (by omega), List.all_nil, if_pos rfl]
  by_cases h1 : 1 ≤ L.length ∧ L.length ≤ 7
  ·have e1 : (decide ((1 : Int) ≤ (L.length : Int)) && decide ((L.length : Int) ≤ 7)) = true := by rw [decide_eq_true (by omega), decide_eq_true (by omega)]; rfl
   refine Ev.pos e1 (Ev.bindc (quC _ _ _) ?_)
   by_cases h2 : 1 ≤ w ∧ w ≤ 7
   ·have e2 : (decide ((1 : Int) ≤ (w : Int)) && decide ((w : Int) ≤ 7)) = true := by rw [decide_eq_true (by omega), decide_eq_true (by omega)]; rfl
    refine Ev.pos e2 (Ev.some_ ?_)
    have hm : w * L.length ≤ 7 * 7 := Nat.mul_le_mul h2.2 h1.2
    have hc : ((w : Int) * (L.length : Int)) = ((w * L.length : Nat) : Int) := by push_cast; rfl
    rw [hc]
    generalize hn : w * L.length = n at *
    have ew : wrap64 (n : Int) = (n : Int) := by unfold wrap64; omega
    rw [ew]
    have : szR w L.length = decide (n ≤ 36) := by
     unfold szR
     rw [hn, decide_eq_true h1.1, decide_eq_true h1.2, decide_eq_true h2.1, decide_eq_true h2.2]; rfl
    rw [this]
    congr 1
    exact decide_eq_decide.2 (by omega)
   ·refine Ev.neg (by simp only [Bool.and_eq_true, decide_eq_true_eq]; omega) (Ev.some_ ?_)
    have : szR w L.length = false := by
     unfold szR
     simp only [Bool.and_eq_false_iff, decide_eq_false_iff_not]; omega
    rw [this]
  ·refine Ev.neg (by simp only [Bool.and_eq_true, decide_eq_true_eq]; omega) (Ev.some_ ?_)
   have : szR w L.length = false := by
    unfold szR
    simp only [Bool.and_eq_false_iff, decide_eq_false_iff_not]; omega
   rw [this]
 | succ d ih =>
  intro i hi hd
  have h : i < L.length := by omega
  refine Ev.step (f := fun k => _) (fun k => by rw [qaA.l0]) ?_
  refine Ev.pos (by omega) (Ev.pos (by omega) (Ev.pos (by omega) ?_))
  rw [qnE L i h, List.drop_eq_getElem_cons h, List.all_cons, show wrap64 ((i : Int) + 1) = ((i + 1 : Nat) : Int) by unfold wrap64; omega]
  have hsz := hs _ (List.getElem_mem h)
  have ihh := ih (i + 1) (by omega) (by omega)
  generalize L[i] = x at *
  by_cases hx : x.size = w
  ·refine Ev.pos (by omega) (Ev.bindc (show qQB.f x C = some _ from by unfold qQB.f; rw [if_pos ⟨by omega, by omega, hA⟩]) ?_)
   have ht : (⟨(Lib.trimS x.data.toList C.data.toList).toArray⟩ : ByteArray).toList = Lib.trimS x.data.toList C.data.toList := by
    rw [Lib.toList_data]
   by_cases hal : x.data.toList.all (C.data.toList.contains ·) = true
   ·refine Ev.pos (by rw [ht]; exact (trimS_nil _ _).2 hal) ?_
    have : fitR C.data.toList w x.data.toList = true := by
     unfold fitR
     rw [hal, Bool.and_true, decide_eq_true (by rw [qLC]; exact hx)]
    rw [this, Bool.true_and]
    exact ihh
   ·refine Ev.neg (by rw [ht]; exact fun e => hal ((trimS_nil _ _).1 e)) (Ev.some_ ?_)
    have : fitR C.data.toList w x.data.toList = false := by
     unfold fitR
     rw [Bool.eq_false_iff.2 hal, Bool.and_false]
    rw [this]; rfl
  ·refine Ev.neg (by omega) (Ev.some_ ?_)
   have : fitR C.data.toList w x.data.toList = false := by
    unfold fitR
    rw [decide_eq_false (by rw [qLC]; exact hx), Bool.false_and]
   rw [this]; rfl
def rowsT (a : ByteArray) : List ByteArray := Lib.splitB ⟨#[47]⟩ 0 (Lib.countB a ⟨#[47]⟩) a
theorem qSC (a : ByteArray) : (rowsT a).map (·.data.toList) = (sp 47 a.data.toList).1 :: (sp 47 a.data.toList).2 := split_sp a 47
def wideT (a : ByteArray) : Nat := (sp 47 a.data.toList).1.length
def highT (a : ByteArray) : Nat := (sp 47 a.data.toList).2.length + 1
theorem qOC (a : ByteArray) : (rowsT a).length = highT a := by
 have := congrArg List.length (qSC a)
 simpa [highT] using this
def rowsFit (C : List UInt8) (a : ByteArray) : Bool := ((sp 47 a.data.toList).1 :: (sp 47 a.data.toList).2).all (fitR C (wideT a))
theorem sum_le_mem (l : List Nat) : ∀ x ∈ l, x ≤ l.sum := by
 induction l with
 | nil => intro x h; cases h
 | cons b l ih =>
  intro x h
  rw [List.sum_cons]
  rcases List.mem_cons.1 h with rfl | h
  ·omega
  ·have := ih x h; omega
theorem rowsT_size (a : ByteArray) : ∀ x ∈ rowsT a, x.size ≤ a.size := by
 intro x hx
 have h1 : x.data.toList ∈ (rowsT a).map (·.data.toList) := List.mem_map_of_mem hx
 rw [qSC] at h1
 have h2 := qlD 47 a.data.toList
 rw [qLC] at h2
 rw [← qLC x]
 rcases List.mem_cons.1 h1 with h | h
 ·rw [h]; omega
 ·have := sum_le_mem _ _ (List.mem_map_of_mem (f := List.length) h); omega
theorem rowsOf_ev (a C : ByteArray) (ha : a.size ≤ 1048576) (hC : C.size < 100) (hA : (C.data.toList.all fun b => decide (b.toNat < 128)) = true) :
  Ev (fun k => qaA.f k a C) (if rowsFit C.data.toList a then (rowsT a, szR (wideT a) (highT a)) else ([], false)) := by
 unfold qaA.f
 refine Ev.bindc (show strings_Split.f a ⟨#[47]⟩ = some (rowsT a) from by unfold strings_Split.f; rw [if_pos ⟨by omega, by decide⟩]; rfl) ?_
 have hlen := qOC a
 have hl2 := qlD 47 a.data.toList
 rw [qLC] at hl2
 have hh : highT a ≤ a.size + 1 := by unfold highT; omega
 have h0 : 0 < (rowsT a).length := by rw [hlen]; unfold highT; omega
 refine Ev.pos (by omega) ?_
 have e0 : rdOf ByteArray.empty (rowsT a) 0 = (rowsT a)[0] := qnE (rowsT a) 0 h0
 have e1 : ((rowsT a)[0]).size = wideT a := by
  have := qSC a
  have h2 : ((rowsT a).map (·.data.toList))[0]'(by simpa using h0) = (sp 47 a.data.toList).1 := by
   simp only [this, List.getElem_cons_zero]
  rw [List.getElem_map] at h2
  rw [← qLC, h2]; rfl
 rw [e0, e1]
 have hw : wideT a ≤ a.size := by rw [← e1]; exact rowsT_size a _ (List.getElem_mem h0)
 have := rowsOf_loop C hC hA (wideT a) (by omega) (rowsT a) (by omega) (fun x hx => by have := rowsT_size a x hx; omega) (rowsT a).length 0 (by omega) (by omega)
 rw [List.drop_zero] at this
 have e2 : (rowsT a).all (fun x => fitR C.data.toList (wideT a) x.data.toList) = rowsFit C.data.toList a := by
  unfold rowsFit
  rw [← qSC, List.all_map]; rfl
 rw [e2] at this
 rw [← hlen]
 exact this
end Go.Proofs.YthhiiceligjleaaGreatDoor
namespace Go.Proofs.YthhiiceligjleaaGreatDoor.P
open Go.RowKit Go.Proofs.YthhiiceligjleaaGreatDoorW.PrintWords Go.Proofs.YthhiiceligjleaaGreatDoorW.PrintLast Go.Proofs.YthhiiceligjleaaGreatDoorW.PrintMore
attribute [local go_sem] qh qf qr qq qZ qY qg qe
set_option linter.unusedVariables false
set_option linter.unusedSimpArgs false
def qWB.f (k : Nat) (a0 : ByteArray) : Option (List ByteArray × Bool) := (qaA.f k a0 (⟨#[46, 35]⟩ : ByteArray)).bind fun bt401 => (some (bt401.1, bt401.2))
set_option maxHeartbeats 8000000 in
set_option maxRecDepth 100000 in
theorem qWB.calls (k : Nat) (a0 : ByteArray) (r1 : List ByteArray) (r2 : Bool) (w : World) (hL : Laid w) (h : qWB.f k a0 = some (r1, r2)) :
  Calls Tryz.prog 34 #[.string a0] w fun e w' => ∃ v0_ : Value, e = .returned (.tuple #[v0_, .bool r2]) ∧ Kd.R Kd.string 9 w' w.heap.size (fun _ => True) v0_ r1 ∧ Below w.heap.size w w' := by
 have HLD := aM hL
 clear hL
 have HB := aM (Below.refl w.heap.size w)
 have H : ((qaA.f k a0 (⟨#[46, 35]⟩ : ByteArray)).bind fun bt401 => (some (bt401.1, bt401.2))) = some (r1, r2) := h
 clear h
 replace H := bO H
 obtain ⟨⟨t401, t402⟩, A2, H⟩ := H
 dsimp only at H A2
 simp only [Option.some.injEq, Prod.mk.injEq] at H
 obtain ⟨rfl, rfl⟩ := H
 go_enter Tryz.func34, Tryz.ntmps34
 go_wp2_with (first | ((with_reducible refine qE (f := 57) rfl ?_); refine qm (some 5) rfl rfl Tryz.func57 (by kernel_rfl) rfl #[.string a0, .string (⟨#[46, 35]⟩ : ByteArray)] rfl gA ?_; (with_reducible refine (qaA.calls k a0 (⟨#[46, 35]⟩ : ByteArray) t401 t402 _ ?side1 A2.out).mono ?_); (case side1 => first | (with_reducible exact HLD.out) | exact Laid.below HLD.out bl); rintro e w3 ⟨v403, rfl, ho0, hb⟩; refine ⟨_, rfl, ?_⟩; have HO404 := aM (Kd.qz ho0 (qJ bl)); replace HB := aM (qB bl hb); (try clear hb); (try clear hb2); (try clear hk); (try clear hi); (try clear ho0)))
 go_ret2
 exact ⟨_, sR, by (with_reducible repeat (first | apply Kd.qQ | apply Kd.qR | apply Kd.qS)); exact HO404.out, bl⟩
end Go.Proofs.YthhiiceligjleaaGreatDoor.P
namespace Go.Proofs.YthhiiceligjleaaGreatDoor
open Go.RowKit Go.Proofs.YthhiiceligjleaaGreatDoor.P Go.Proofs.YthhiiceligjleaaGreatDoorW.PrintWords Go.Proofs.YthhiiceligjleaaGreatDoorW.PrintLast
set_option linter.unusedVariables false
set_option linter.unusedSimpArgs false
abbrev RdG := Int × Int × List Int × Bool
def badG : RdG := (0, 0, [], false)
def finG (w h : Nat) (cs : List Int) : RdG := if 7 < w then badG else if 7 < h then badG else if 36 < cs.length then badG else ((w : Int), (h : Int), cs, true)
def runG : List UInt8 → Nat → Nat → Nat → List Int → RdG
 | [], x, w, h, cs => if (0 < h ∧ x ≠ w) ∨ x = 0 then badG else finG x (h + 1) cs
 | c :: r, x, w, h, cs =>
  if c = 47 then (if (0 < h ∧ x ≠ w) ∨ x = 0 then badG else runG r 0 x (h + 1) cs)
  else if c = 46 ∨ c = 35 then runG r (x + 1) w h (cs ++ [(c.toNat : Int)])
  else badG
theorem u8eq (c : UInt8) (n : Nat) (hn : n < 256) : ((c.toNat : Int) = (n : Int)) ↔ c = UInt8.ofNat n := by
 constructor
 ·intro h
  have : c.toNat = n := by omega
  rw [← this]; simp
 ·intro h
  subst h
  simp; omega
theorem bx_end (a : ByteArray) (ha : a.size ≤ 42) (w h : Nat) (cs : List Int) : Ev (fun k => qW.l0 k a 0 ((a.size : Int) + 1) (w : Int) (h : Int) cs) (finG w h cs) := by
 refine Ev.step (f := fun k => _) (fun k => by rw [qW.l0]) ?_
 refine Ev.neg (by omega) ?_
 unfold finG
 by_cases h1 : 7 < w
 ·rw [if_pos h1]; exact Ev.pos (by omega) (Ev.now _)
 rw [if_neg h1]; refine Ev.neg (by omega) ?_
 by_cases h2 : 7 < h
 ·rw [if_pos h2]; exact Ev.pos (by omega) (Ev.now _)
 rw [if_neg h2]; refine Ev.neg (by omega) ?_
 by_cases h3 : 36 < cs.length
 ·rw [if_pos h3]; exact Ev.pos (by omega) (Ev.now _)
 rw [if_neg h3]; exact Ev.neg (by omega) (Ev.now _)
theorem bx_sep (a : ByteArray) (i x w h : Nat) (cs : List Int) (hx : x ≤ 100) (hh : h ≤ 100) (hi : i ≤ 100) (R : RdG)
  (hR : Ev (fun k => qW.l0 k a 0 ((i : Int) + 1) (x : Int) ((h + 1 : Nat) : Int) cs) R) :
  Ev (fun k => qW.j1 k a (x : Int) (i : Int) false (w : Int) (h : Int) cs) (if (0 < h ∧ x ≠ w) ∨ x = 0 then badG else R) := by
 have w1 : wrap64 ((i : Int) + 1) = (i : Int) + 1 := by unfold wrap64; omega
 have w2 : wrap64 ((h : Int) + 1) = ((h + 1 : Nat) : Int) := by unfold wrap64; omega
 refine Ev.step (f := fun k => _) (fun k => by rw [qW.j1]) ?_
 refine Ev.neg (by decide) ?_
 rw [w1, w2]
 by_cases h1 : 0 < h
 ·refine Ev.pos (by omega) ?_
  by_cases h2 : x = w
  case neg => rw [if_pos (.inl ⟨h1, h2⟩)]; exact Ev.neg (by omega) (Ev.now _)
  refine Ev.pos (by omega) ?_
  by_cases h3 : x = 0
  case neg => rw [if_neg (by omega)]; exact Ev.neg (by omega) hR
  rw [if_pos (.inr h3)]; exact Ev.pos (by omega) (Ev.now _)
 ·refine Ev.neg (by omega) ?_
  by_cases h3 : x = 0
  case pos => rw [if_pos (.inr h3)]; exact Ev.pos (by omega) (Ev.now _)
  rw [if_neg (by omega)]; exact Ev.neg (by omega) hR
theorem bx_loop (a : ByteArray) (ha : a.size ≤ 42) (d : Nat) : ∀ (i x w h : Nat) (cs : List Int), i ≤ a.size → a.size - i = d → x ≤ i → h ≤ i → cs.length ≤ i →
  Ev (fun k => qW.l0 k a (x : Int) (i : Int) (w : Int) (h : Int) cs) (runG (a.data.toList.drop i) x w h cs) := by
 have hsz := qLC a
 induction d with
 | zero =>
  intro i x w h cs hi hd hx hh hc
  obtain rfl : i = a.size := by omega
  refine Ev.step (f := fun k => _) (fun k => by rw [qW.l0]) ?_
  refine Ev.pos (by omega) (Ev.neg (by omega) ?_)
  rw [List.drop_eq_nil_of_le (by omega), runG]
  exact bx_sep a a.size x w h cs (by omega) (by omega) (by omega) _ (bx_end a ha x (h + 1) cs)
 | succ d ih =>
  intro i x w h cs hi hd hx hh hc
  have hl : i < a.data.toList.length := by omega
  have e1 : ((i : Int) + 1) = ((i + 1 : Nat) : Int) := by omega
  have w1 : wrap64 ((i : Int) + 1) = ((i + 1 : Nat) : Int) := by unfold wrap64; omega
  have w2 : wrap64 ((x : Int) + 1) = ((x + 1 : Nat) : Int) := by unfold wrap64; omega
  have hdr := List.drop_eq_getElem_cons hl
  obtain ⟨c, hcc, hb⟩ : ∃ c, a.data.toList[i] = c ∧ bt a (i : Int) = (c.toNat : Int) := ⟨_, rfl, gr_bt a i hl⟩
  rw [hcc] at hdr
  clear hcc
  have HB := Lib.hid hb
  have HW1 := Lib.hid w1
  have HW2 := Lib.hid w2
  have HD := Lib.hid hdr
  clear hb w1 w2 hdr
  refine Ev.step (f := fun k => _) (fun k => by rw [qW.l0]) ?_
  refine Ev.pos (by omega) (Ev.pos (by omega) (Ev.pos (by omega) ?_))
  rw [HD.out, HB.out, runG]
  by_cases h47 : c = 47
  ·rw [show ((c.toNat : Int) != 47) = false by subst h47; rfl, if_pos h47]
   clear HB HD h47
   refine bx_sep a i x w h cs (by omega) (by omega) (by omega) _ ?_
   rw [e1]
   exact ih (i + 1) 0 x (h + 1) cs (by omega) (by omega) (by omega) (by omega) (by omega)
  ·rw [show ((c.toNat : Int) != 47) = true by
    rw [bne_iff_ne]; intro e; exact h47 ((u8eq c 47 (by decide)).1 e), if_neg h47]
   have go1 := ih (i + 1) (x + 1) w h (cs ++ [(c.toNat : Int)]) (by omega) (by omega) (by omega) (by omega) (by simp; omega)
   have step : ∀ R, Ev (fun k => qW.l0 k a ((x + 1 : Nat) : Int) ((i + 1 : Nat) : Int) (w : Int) (h : Int) (cs ++ [(c.toNat : Int)])) R →
     Ev (fun k => qW.j2 k a (x : Int) (i : Int) false (w : Int) (h : Int) cs) R := fun R hR => by
    refine Ev.step (f := fun k => _) (fun k => by rw [qW.j2]) ?_
    refine Ev.neg (by decide) (Ev.pos (by omega) (Ev.pos (by omega) (Ev.pos (by omega) ?_)))
    rw [HW1.out, HW2.out, HB.out]
    exact hR
   refine Ev.step (f := fun k => _) (fun k => by rw [qW.j1]) ?_
   refine Ev.pos rfl (Ev.pos (by omega) (Ev.pos (by omega) ?_))
   rw [HB.out]
   by_cases h46 : c = 46
   case pos => rw [if_pos (.inl h46)]; exact Ev.pos (by subst h46; rfl) (step _ go1)
   refine Ev.neg (fun e => h46 ((u8eq c 46 (by decide)).1 e)) ?_
   by_cases h35 : c = 35
   case pos => rw [if_pos (.inr h35), show ((c.toNat : Int) != 35) = false by subst h35; rfl]; exact step _ go1
   rw [if_neg (by simp [h46, h35]), show ((c.toNat : Int) != 35) = true by
     rw [bne_iff_ne]; intro e; exact h35 ((u8eq c 35 (by decide)).1 e)]
   refine Ev.step (f := fun k => _) (fun k => by rw [qW.j2]) ?_
   exact Ev.pos rfl (Ev.now _)
def cB : List UInt8 := [46, 35]
def numsOf (l : List UInt8) : List Int := l.map fun c => (c.toNat : Int)
def flatT (l : List UInt8) : List UInt8 := (sp 47 l).1 ++ (sp 47 l).2.flatten
theorem runG_eq (l : List UInt8) : ∀ (x w h : Nat) (cs : List Int), runG l x w h cs =
  if (l.all (fun b => b == 47 || cB.contains b)) = true ∧ x + (sp 47 l).1.length ≠ 0 ∧ (0 < h → x + (sp 47 l).1.length = w) ∧ (∀ r ∈ (sp 47 l).2, r.length = x + (sp 47 l).1.length)
  then finG (x + (sp 47 l).1.length) (h + ((sp 47 l).2.length + 1)) (cs ++ numsOf (flatT l)) else badG := by
 induction l with
 | nil =>
  intro x w h cs
  rw [runG]
  simp only [sp, List.all_nil, List.length_nil, Nat.add_zero, flatT, List.flatten_nil, List.append_nil, numsOf, List.map_nil, Nat.zero_add]
  by_cases hb : (0 < h ∧ x ≠ w) ∨ x = 0
  case neg => rw [if_neg hb, if_pos ⟨trivial, fun e => hb (.inr e), fun h3 => Classical.byContradiction fun h4 => hb (.inl ⟨h3, h4⟩), by simp⟩]
  rw [if_pos hb, if_neg (by rintro ⟨_, h1, h2, _⟩; exact hb.elim (fun h34 => h34.2 (h2 h34.1)) h1)]
 | cons c r ih =>
  intro x w h cs
  rw [runG]
  by_cases h47 : c = 47
  ·subst h47
   rw [if_pos rfl]
   simp only [sp, if_true, List.all_cons, beq_self_eq_true, Bool.true_or, Bool.true_and, List.length_nil, Nat.add_zero, flatT, List.nil_append, List.flatten_cons, List.length_cons]
   by_cases hb : (0 < h ∧ x ≠ w) ∨ x = 0
   case pos => rw [if_pos hb, if_neg (by rintro ⟨_, h1, h2, _⟩; exact hb.elim (fun h34 => h34.2 (h2 h34.1)) h1)]
   rw [if_neg hb, ih]
   have hx0 : x ≠ 0 := fun e => hb (.inr e)
   have hxw : 0 < h → x = w := fun h3 => Classical.byContradiction fun h4 => hb (.inl ⟨h3, h4⟩)
   by_cases hg : (r.all (fun b => b == 47 || cB.contains b)) = true ∧ ∀ q ∈ (sp 47 r).1 :: (sp 47 r).2, q.length = x
   ·have hf : (sp 47 r).1.length = x := hg.2 _ (List.mem_cons_self)
    rw [if_pos ⟨hg.1, by omega, fun _ => by omega, fun q hq => by have := hg.2 q (List.mem_cons_of_mem _ hq); omega⟩, if_pos ⟨hg.1, hx0, hxw, hg.2⟩]
    congr 1
    ·omega
    ·omega
   ·rw [if_neg, if_neg]
    ·rintro ⟨h1, _, _, h4⟩; exact hg ⟨h1, h4⟩
    ·rintro ⟨h1, _, h3, h4⟩
     have h5 := h3 (by omega)
     refine hg ⟨h1, fun q hq => ?_⟩
     rcases List.mem_cons.1 hq with rfl | hq
     ·omega
     ·have := h4 q hq; omega
  ·rw [if_neg h47]
   have e47 : (c == 47) = false := by simpa using h47
   simp only [sp, if_neg h47, List.all_cons, e47, Bool.false_or, List.length_cons]
   have hsh : x + ((sp 47 r).1.length + 1) = x + 1 + (sp 47 r).1.length := by omega
   by_cases h3 : c = 46 ∨ c = 35
   case pos => (have hc : cB.contains c = true := by rcases h3 with rfl | rfl <;> decide); rw [if_pos h3, ih, hc, Bool.true_and, hsh]; simp only [flatT, sp, if_neg h47, numsOf, List.cons_append, List.map_cons, List.append_assoc, List.nil_append]
   rw [if_neg h3, if_neg]
   rintro ⟨h1, _⟩
   have : cB.contains c = false := by
    simp only [cB, List.contains_cons, List.contains_nil, Bool.or_false, Bool.or_eq_false_iff, beq_eq_false_iff_ne]
    exact ⟨fun e => h3 (.inl e), fun e => h3 (.inr e)⟩
   rw [this] at h1; simp at h1
theorem qYE (f : Nat) : ∀ (L : List (List UInt8)), (∀ r ∈ L, r.length = f) → L.flatten.length = f * L.length ∧ (L.map List.length).sum = f * L.length
 | [], _ => by simp
 | a :: L, h => by
  obtain ⟨h1, h2⟩ := qYE f L (fun r hr => h r (List.mem_cons_of_mem _ hr))
  have h3 := h a List.mem_cons_self
  simp only [List.flatten_cons, List.length_append, List.map_cons, List.sum_cons, List.length_cons, h1, h2, h3, Nat.mul_add, Nat.mul_one]
  omega
def boardB (a : ByteArray) : Bool := rowsFit cB a && szR (wideT a) (highT a)
theorem qcC (a : ByteArray) : rowsFit cB a = true ↔ (a.data.toList.all (fun b => b == 47 || cB.contains b)) = true ∧ ∀ r ∈ (sp 47 a.data.toList).2, r.length = wideT a := by
 have hs := sp_all 47 (cB.contains ·) a.data.toList (by decide)
 unfold rowsFit
 rw [← hs, List.all_cons]
 unfold fitR wideT
 simp only [Bool.and_eq_true, decide_eq_true_eq, List.all_eq_true, true_and]
 constructor
 ·rintro ⟨h1, h2⟩
  exact ⟨⟨h1, fun r hr => (h2 r hr).2⟩, fun r hr => (h2 r hr).1⟩
 ·rintro ⟨⟨h1, h2⟩, h3⟩
  exact ⟨h1, fun r hr => ⟨h3 r hr, h2 r hr⟩⟩
theorem boRead_ev (a : ByteArray) : Ev (fun k => qW.f k a) (if boardB a then ((wideT a : Int), (highT a : Int), numsOf (flatT a.data.toList), true) else badG) := by
 have hl := qlD 47 a.data.toList
 rw [qLC] at hl
 unfold qW.f
 by_cases h42 : a.size ≤ 42
 ·refine Ev.neg (by omega) ?_
  have := bx_loop a h42 a.size 0 0 0 0 [] (by omega) (by omega) (by omega) (by omega) (by simp)
  rw [List.drop_zero, runG_eq] at this
  simp only [Nat.zero_add, List.nil_append, Nat.lt_irrefl, false_implies, true_and] at this
  have e : (if (a.data.toList.all (fun b => b == 47 || cB.contains b)) = true ∧ (sp 47 a.data.toList).1.length ≠ 0 ∧ (∀ r ∈ (sp 47 a.data.toList).2, r.length = (sp 47 a.data.toList).1.length) then finG (sp 47 a.data.toList).1.length ((sp 47 a.data.toList).2.length + 1) (numsOf (flatT a.data.toList)) else badG) = (if boardB a then ((wideT a : Int), (highT a : Int), numsOf (flatT a.data.toList), true) else badG) := by
   have hw : (sp 47 a.data.toList).1.length = wideT a := rfl
   have hh : (sp 47 a.data.toList).2.length + 1 = highT a := rfl
   rw [hw, hh]
   unfold boardB
   by_cases hr : rowsFit cB a = true
   case neg => rw [if_neg (fun h => hr ((qcC a).2 ⟨h.1, h.2.2⟩)), Bool.eq_false_iff.2 hr]; simp
   obtain ⟨h1, h2⟩ := (qcC a).1 hr
   obtain ⟨f1, f2⟩ := qYE (wideT a) (sp 47 a.data.toList).2 h2
   have hfl : (numsOf (flatT a.data.toList)).length = wideT a * highT a := by
    simp only [numsOf, List.length_map, flatT, List.length_append, f1, hw, ← hh, Nat.mul_add, Nat.mul_one]; omega
   rw [hr, Bool.true_and]
   by_cases h0 : wideT a ≠ 0
   ·rw [if_pos ⟨h1, h0, h2⟩]
    unfold finG szR
    rw [hfl]
    have hh1 : 1 ≤ highT a := by omega
    rw [decide_eq_true hh1, Bool.true_and, decide_eq_true (show 1 ≤ wideT a by omega)]
    by_cases a1 : 7 < wideT a
    ·rw [if_pos a1, decide_eq_false (show ¬ wideT a ≤ 7 by omega)]; simp
    rw [if_neg a1, decide_eq_true (show wideT a ≤ 7 by omega)]
    by_cases a2 : 7 < highT a
    ·rw [if_pos a2, decide_eq_false (show ¬ highT a ≤ 7 by omega)]; simp
    rw [if_neg a2, decide_eq_true (show highT a ≤ 7 by omega)]
    by_cases a3 : 36 < wideT a * highT a
    case neg => rw [if_neg a3, decide_eq_true (show wideT a * highT a ≤ 36 by omega)]; simp
    rw [if_pos a3, decide_eq_false (show ¬ wideT a * highT a ≤ 36 by omega)]; simp
   ·rw [if_neg (fun h => h0 h.2.1)]
    have : szR (wideT a) (highT a) = false := by
     unfold szR
     simp only [Bool.and_eq_false_iff, decide_eq_false_iff_not]; omega
    rw [this]; simp
  rw [e] at this
  exact this
 ·refine Ev.pos (by omega) (Ev.some_ ?_)
  have : boardB a = false := by
   cases hg : boardB a with
   | false => rfl
   | true =>
    unfold boardB szR at hg
    simp only [Bool.and_eq_true, decide_eq_true_eq] at hg
    obtain ⟨hr, ⟨⟨⟨g1, g2⟩, g3⟩, g4⟩, g5⟩ := hg
    obtain ⟨h1, h2⟩ := (qcC a).1 hr
    obtain ⟨f1, f2⟩ := qYE (wideT a) (sp 47 a.data.toList).2 h2
    rw [f2] at hl
    have hw : (sp 47 a.data.toList).1.length = wideT a := rfl
    have hh : (sp 47 a.data.toList).2.length + 1 = highT a := rfl
    have : wideT a * highT a = wideT a + wideT a * (sp 47 a.data.toList).2.length := by rw [← hh, Nat.mul_add, Nat.mul_one]; omega
    omega
  rw [this]; rfl
theorem board_ev (a : ByteArray) (ha : a.size ≤ 1048576) : ∃ rows : List ByteArray, Ev (fun k => qWB.f k a) (rows, boardB a) ∧ (boardB a = true → rows = rowsT a) := by
 have h := rowsOf_ev a ⟨#[46, 35]⟩ ha (by decide) (by decide)
 have hc : (⟨#[46, 35]⟩ : ByteArray).data.toList = cB := rfl
 rw [hc] at h
 unfold qWB.f
 unfold boardB
 cases hr : rowsFit cB a with
 | false =>
  rw [hr, if_neg (by decide)] at h
  exact ⟨[], Ev.bind h (Ev.now _), fun e => by cases e⟩
 | true =>
  rw [hr, if_pos rfl] at h
  rw [Bool.true_and]
  exact ⟨rowsT a, Ev.bind h (Ev.now _), fun _ => rfl⟩
end Go.Proofs.YthhiiceligjleaaGreatDoor
namespace Go.Proofs.YthhiiceligjleaaGreatDoor.P
open Go.RowKit Go.Proofs.YthhiiceligjleaaGreatDoorW.PrintWords Go.Proofs.YthhiiceligjleaaGreatDoorW.PrintLast Go.Proofs.YthhiiceligjleaaGreatDoorW.PrintMore
attribute [local go_sem] qh qf qr qq qZ qY qg qe
set_option linter.unusedVariables false
set_option linter.unusedSimpArgs false
def qDB.f (l0 : List ByteArray) (a1 : Int) (a2 : Int) : Option (Bool) := (qlA.f a2 0 (wrap64 ((l0.length : Int) - 1))).bind fun t405 => (if t405 = true then (if 0 < (l0.length : Int) then ((qlA.f a1 0 (wrap64 (((rdOf ByteArray.empty l0 0).size : Int) - 1))).bind fun t407 => (some t407)) else (none)) else (some false))
set_option maxHeartbeats 8000000 in
set_option maxRecDepth 100000 in
theorem qDB.calls (A0 : Option Addr) (c0 : Nat) (l0 : List ByteArray) (a1 : Int) (a2 : Int) (r : Bool) (w : World) (hr0 : Kd.C Kd.string w A0 l0.length l0) (hc0 : l0.length ≤ c0) (h : qDB.f l0 a1 a2 = some r) :
  Calls Tryz.prog 37 #[.slice A0 l0.length c0, .int .i64 a1, .int .i64 a2] w fun e w' => e = .returned (.bool r) ∧ Drawn0 w w' := by
 have HR0 := aM hr0
 have HC0 := aM hc0
 clear hr0 hc0
 have H : ((qlA.f a2 0 (wrap64 ((l0.length : Int) - 1))).bind fun t405 => (if t405 = true then (if 0 < (l0.length : Int) then ((qlA.f a1 0 (wrap64 (((rdOf ByteArray.empty l0 0).size : Int) - 1))).bind fun t407 => (some t407)) else (none)) else (some false))) = some r := h
 clear h
 replace H := bO H
 obtain ⟨t405, A4, H⟩ := H
 by_cases c5 : t405 = true
 ·subst c5
  replace H := iT H
  by_cases c6 : 0 < (l0.length : Int)
  case neg => exact nN c6 H
  rw [if_pos c6] at H
  have c6b0 := decide_eq_true c6
  have c6b1 : decide (0 < l0.length) = true := decide_eq_true (by omega)
  clear c6
  replace H := bO H
  obtain ⟨t407, A7, H⟩ := H
  obtain rfl := Option.some.inj H
  go_enter Tryz.func37, Tryz.ntmps37
  go_wp2_with (first | ((with_reducible refine qE (f := 59) rfl ?_); refine qm (some 11) rfl rfl Tryz.func59 (by kernel_rfl) rfl #[.int .i64 a2, .int .i64 0, .int .i64 (wrap64 ((l0.length : Int) - 1))] rfl gA ?_; (with_reducible refine (qlA.calls a2 0 (wrap64 ((l0.length : Int) - 1)) true _ A4.out).mono ?_); rintro e w' ⟨rfl, ⟨nd, rfl⟩⟩; refine ⟨_, rfl, ?_⟩; have p406 : 0 ≤ (0 : Int) := (by omega); have q406 : 0 < (l0.length : Int) := of_decide_eq_true am; obtain ⟨ad406, e406, hx406_0⟩ := Kd.qvB HR0.out 0 p406 q406; cases e406; have qi406 : (0 < l0.length) = True := eq_true (by omega); (try rw [show ((0 : Int)).toNat = 0 from rfl] at hx406_0); (try rw [Addr.add_zero'] at hx406_0); replace p406 := eq_true p406; replace q406 := eq_true q406) | (go_at_call 59; (with_reducible refine (qlA.calls a1 0 (wrap64 (((rdOf ByteArray.empty l0 0).size : Int) - 1)) t407 _ A7.out).mono ?_); rintro e w' ⟨rfl, ⟨nd, rfl⟩⟩))
  go_ret
  exact ⟨by first | rfl | (simp; done) | (simp [*]; done), dR⟩
 ·replace c5 := Bool.eq_false_iff.mpr c5
  subst c5
  replace H := iF H
  obtain rfl := Option.some.inj H
  go_enter Tryz.func37, Tryz.ntmps37
  go_wp2_with (first | ((with_reducible refine qE (f := 59) rfl ?_); refine qm (some 11) rfl rfl Tryz.func59 (by kernel_rfl) rfl #[.int .i64 a2, .int .i64 0, .int .i64 (wrap64 ((l0.length : Int) - 1))] rfl gA ?_; (with_reducible refine (qlA.calls a2 0 (wrap64 ((l0.length : Int) - 1)) false _ A4.out).mono ?_); rintro e w' ⟨rfl, ⟨nd, rfl⟩⟩; refine ⟨_, rfl, ?_⟩))
  go_ret
  exact ⟨by first | rfl | (simp; done) | (simp [*]; done), dR⟩
def qgA.f (l0 : List ByteArray) (a1 : Int) (a2 : Int) : Option (Int) := (qDB.f l0 a1 a2).bind fun t408 => (if t408 = true then (if 0 ≤ a2 then (if a2 < (l0.length : Int) then (if 0 ≤ a1 then (if a1 < ((rdOf ByteArray.empty l0 a2).size : Int) then (some (bt (rdOf ByteArray.empty l0 a2) a1)) else (none)) else (none)) else (none)) else (none)) else (some 0))
set_option maxHeartbeats 8000000 in
set_option maxRecDepth 100000 in
theorem qgA.calls (A0 : Option Addr) (c0 : Nat) (l0 : List ByteArray) (a1 : Int) (a2 : Int) (r : Int) (w : World) (hr0 : Kd.C Kd.string w A0 l0.length l0) (hc0 : l0.length ≤ c0) (h : qgA.f l0 a1 a2 = some r) :
  Calls Tryz.prog 85 #[.slice A0 l0.length c0, .int .i64 a1, .int .i64 a2] w fun e w' => e = .returned (.int .u8 r) ∧ Drawn0 w w' := by
 have HR0 := aM hr0
 have HC0 := aM hc0
 clear hr0 hc0
 have H : ((qDB.f l0 a1 a2).bind fun t408 => (if t408 = true then (if 0 ≤ a2 then (if a2 < (l0.length : Int) then (if 0 ≤ a1 then (if a1 < ((rdOf ByteArray.empty l0 a2).size : Int) then (some (bt (rdOf ByteArray.empty l0 a2) a1)) else (none)) else (none)) else (none)) else (none)) else (some 0))) = some r := h
 clear h
 replace H := bO H
 obtain ⟨t408, A4, H⟩ := H
 by_cases c5 : t408 = true
 ·subst c5
  replace H := iT H
  by_cases c6 : 0 ≤ a2
  case neg => exact nN c6 H
  rw [if_pos c6] at H
  have c6b0 := decide_eq_true c6
  clear c6
  by_cases c7 : a2 < (l0.length : Int)
  case neg => exact nN c7 H
  rw [if_pos c7] at H
  have c7b0 := decide_eq_true c7
  clear c7
  by_cases c8 : 0 ≤ a1
  case neg => exact nN c8 H
  rw [if_pos c8] at H
  have c8b0 := decide_eq_true c8
  clear c8
  by_cases c9 : a1 < ((rdOf ByteArray.empty l0 a2).size : Int)
  case neg => exact nN c9 H
  rw [if_pos c9] at H
  have c9b0 := decide_eq_true c9
  clear c9
  obtain rfl := Option.some.inj H
  go_enter Tryz.func85, Tryz.ntmps85
  go_wp2_with (first | ((with_reducible refine qE (f := 37) rfl ?_); refine qm (some 10) rfl rfl Tryz.func37 (by kernel_rfl) rfl #[.slice A0 l0.length c0, .int .i64 a1, .int .i64 a2] rfl gA ?_; (with_reducible refine (qDB.calls _ _ l0 a1 a2 true _ ?side1 ?side2 A4.out).mono ?_); (case side1 => repeat (first | exact HR0.out | (with_reducible refine Kd.qL ?_ _) | (with_reducible refine Kd.qK ?_ _) | (with_reducible refine Kd.qX ?_))); (case side2 => exact HC0.out); rintro e w' ⟨rfl, ⟨nd, rfl⟩⟩; refine ⟨_, rfl, ?_⟩; have p409 : 0 ≤ (a2 : Int) := of_decide_eq_true am; have q409 : a2 < (l0.length : Int) := of_decide_eq_true am; obtain ⟨ad409, e409, hx409_0⟩ := Kd.qvB HR0.out a2 p409 q409; cases e409; replace p409 := eq_true p409; replace q409 := eq_true q409; have p10 : 0 ≤ (a1 : Int) := of_decide_eq_true am; have q10 : a1 < ((rdOf ByteArray.empty l0 a2).size : Int) := of_decide_eq_true am; have hx10 := bt_at (rdOf ByteArray.empty l0 a2) a1; replace p10 := eq_true p10; replace q10 := eq_true q10))
  go_ret
  exact ⟨by first | rfl | (simp; done) | (simp [*]; done), dR⟩
 ·replace c5 := Bool.eq_false_iff.mpr c5
  subst c5
  replace H := iF H
  obtain rfl := Option.some.inj H
  go_enter Tryz.func85, Tryz.ntmps85
  go_wp2_with (first | ((with_reducible refine qE (f := 37) rfl ?_); refine qm (some 10) rfl rfl Tryz.func37 (by kernel_rfl) rfl #[.slice A0 l0.length c0, .int .i64 a1, .int .i64 a2] rfl gA ?_; (with_reducible refine (qDB.calls _ _ l0 a1 a2 false _ ?side1 ?side2 A4.out).mono ?_); (case side1 => repeat (first | exact HR0.out | (with_reducible refine Kd.qL ?_ _) | (with_reducible refine Kd.qK ?_ _) | (with_reducible refine Kd.qX ?_))); (case side2 => exact HC0.out); rintro e w' ⟨rfl, ⟨nd, rfl⟩⟩; refine ⟨_, rfl, ?_⟩))
  go_ret
  exact ⟨by first | rfl | (simp; done) | (simp [*]; done), dR⟩
end Go.Proofs.YthhiiceligjleaaGreatDoor.P
namespace Go.Proofs.YthhiiceligjleaaGreatDoor
open Go.RowKit Go.Proofs.YthhiiceligjleaaGreatDoor.P Go.Proofs.YthhiiceligjleaaGreatDoorW.PrintWords Go.Proofs.YthhiiceligjleaaGreatDoorW.PrintLast
set_option linter.unusedVariables false
set_option linter.unusedSimpArgs false
theorem quD (n a b : Int) : qmA.f n a b = some (decide (a ≤ n) && decide (n ≤ b)) := by
 unfold qmA.f
 by_cases h : n ≥ a
 case pos => rw [if_pos h, decide_eq_true (show a ≤ n from h), Bool.true_and]
 rw [if_neg h, decide_eq_false (show ¬ a ≤ n from h), Bool.false_and]
def rowsL (a : ByteArray) : List (List UInt8) := (sp 47 a.data.toList).1 :: (sp 47 a.data.toList).2
theorem flat_get (w : Nat) : ∀ (L : List (List UInt8)) (i j : Nat), (∀ r ∈ L, r.length = w) → i < L.length → j < w → L.flatten[i * w + j]? = (L[i]?.bind fun r => r[j]?)
 | [], i, j, _, hi, _ => by simp at hi
 | r :: L, 0, j, h, _, hj => by
  have := h r List.mem_cons_self
  simp only [List.flatten_cons, Nat.zero_mul, Nat.zero_add, List.getElem?_cons_zero, Option.bind_some]
  rw [List.getElem?_append_left (by omega)]
 | r :: L, i + 1, j, h, hi, hj => by
  have h1 := h r List.mem_cons_self
  have ih := flat_get w L i j (fun q hq => h q (List.mem_cons_of_mem _ hq)) (by simpa using hi) hj
  simp only [List.flatten_cons, List.getElem?_cons_succ]
  have e : (i + 1) * w + j = r.length + (i * w + j) := by rw [Nat.add_mul, h1]; omega
  rw [e, List.getElem?_append_right (by omega), Nat.add_sub_cancel_left]
  exact ih
structure Gnd (a : ByteArray) : Prop where
 w1 : 1 ≤ wideT a
 w7 : wideT a ≤ 7
 h1 : 1 ≤ highT a
 h7 : highT a ≤ 7
 rows : ∀ r ∈ rowsL a, r.length = wideT a
theorem qDE {a : ByteArray} (h : boardB a = true) : Gnd a := by
 unfold boardB szR at h
 simp only [Bool.and_eq_true, decide_eq_true_eq] at h
 obtain ⟨hr, ⟨⟨⟨g1, g2⟩, g3⟩, g4⟩, g5⟩ := h
 obtain ⟨_, h2⟩ := (qcC a).1 hr
 exact ⟨g3, g4, g1, g2, fun r hr => by
  rcases List.mem_cons.1 hr with rfl | hr
  ·rfl
  ·exact h2 r hr⟩
theorem qPC (a : ByteArray) : (rowsL a).length = highT a := rfl
theorem rowsT_get (a : ByteArray) (i : Nat) (h : i < (rowsT a).length) (h' : i < (rowsL a).length) : ((rowsT a)[i]).data.toList = (rowsL a)[i] := by
 have := qSC a
 have e : ((rowsT a).map (·.data.toList))[i]'(by simpa using h) = (rowsL a)[i] := by
  simp only [this]; rfl
 rwa [List.getElem_map] at e
theorem flatT_eq (a : ByteArray) : flatT a.data.toList = (rowsL a).flatten := rfl
def hasB (a : ByteArray) (x y : Int) : Bool := decide (0 ≤ y) && decide (y ≤ (highT a : Int) - 1) && (decide (0 ≤ x) && decide (x ≤ (wideT a : Int) - 1))
def cellU (a : ByteArray) (x y : Int) : UInt8 := ((rowsL a).getD y.toNat []).getD x.toNat 0
def cellN (a : ByteArray) (x y : Int) : Int := ((cellU a x y).toNat : Int)
theorem qdD (a : ByteArray) (x y : Int) : hasB a x y = true ↔ (0 ≤ y ∧ y < (highT a : Int)) ∧ (0 ≤ x ∧ x < (wideT a : Int)) := by
 unfold hasB
 simp only [Bool.and_eq_true, decide_eq_true_eq]
 omega
theorem gr_size {a : ByteArray} (g : Gnd a) (i : Nat) (h : i < (rowsT a).length) : ((rowsT a)[i]).size = wideT a := by
 have h' : i < (rowsL a).length := by rw [qPC, ← qOC]; exact h
 rw [← qLC, rowsT_get a i h h']
 exact g.rows _ (List.getElem_mem h')
theorem quE {a : ByteArray} (g : Gnd a) (x y : Int) : qDB.f (rowsT a) x y = some (hasB a x y) := by
 have hl := qOC a
 have h0 : 0 < (rowsT a).length := by rw [hl]; exact g.h1
 have e0 : rdOf ByteArray.empty (rowsT a) 0 = (rowsT a)[0] := qnE (rowsT a) 0 h0
 have e1 := gr_size g 0 h0
 have g1 := g.h7
 have g2 := g.w7
 unfold qDB.f
 rw [quC, hl, e0, e1]
 have w1 : wrap64 ((highT a : Int) - 1) = (highT a : Int) - 1 := by unfold wrap64; omega
 have w2 : wrap64 ((wideT a : Int) - 1) = (wideT a : Int) - 1 := by unfold wrap64; omega
 rw [w1, w2]
 simp only [Option.bind_some]
 have g0 := g.h1
 unfold hasB
 by_cases h : (decide (0 ≤ y) && decide (y ≤ (highT a : Int) - 1)) = true
 case pos => rw [if_pos h, if_pos (by omega), quC, h, Bool.true_and]; rfl
 rw [if_neg h, Bool.eq_false_iff.2 h, Bool.false_and]
theorem at_eq {a : ByteArray} (g : Gnd a) (x y : Int) (h : hasB a x y = true) : qgA.f (rowsT a) x y = some (cellN a x y) := by
 obtain ⟨⟨h1, h2⟩, h3, h4⟩ := (qdD a x y).1 h
 obtain ⟨i, rfl⟩ := Int.eq_ofNat_of_zero_le h1
 obtain ⟨j, rfl⟩ := Int.eq_ofNat_of_zero_le h3
 have hl := qOC a
 have hi : i < (rowsT a).length := by omega
 have hi' : i < (rowsL a).length := by rw [qPC]; omega
 have hs := gr_size g i hi
 have hr := rowsT_get a i hi hi'
 have hw := g.rows _ (List.getElem_mem hi')
 unfold qgA.f
 rw [quE g, h, qnE (rowsT a) i hi]
 simp only [Option.bind_some, if_true]
 rw [if_pos (by omega), if_pos (by omega), if_pos (by omega), if_pos (by rw [hs]; omega)]
 have hj : j < ((rowsT a)[i]).data.toList.length := by rw [qLC, hs]; omega
 rw [gr_bt _ j hj]
 congr 1
 unfold cellN cellU
 have e : (rowsL a).getD i [] = (rowsL a)[i] := by rw [List.getD_eq_getElem?_getD, List.getElem?_eq_getElem hi']; rfl
 have e2 : ((rowsT a)[i]).data.toList[j] = ((rowsL a)[i])[j]'(by rw [← hr]; exact hj) := by simp only [hr]
 rw [e2, Int.toNat_natCast, Int.toNat_natCast, e, List.getD_eq_getElem?_getD, List.getElem?_eq_getElem (by rw [← hr]; exact hj)]
 rfl
theorem boCell_eq {a : ByteArray} (g : Gnd a) (cs : List Int) (x y : Int) : qGB.f (wideT a : Int) (highT a : Int) cs x y = some (hasB a x y) := by
 have g1 := g.h7
 have g2 := g.w7
 unfold qGB.f
 have w1 : wrap64 ((highT a : Int) - 1) = (highT a : Int) - 1 := by unfold wrap64; omega
 have w2 : wrap64 ((wideT a : Int) - 1) = (wideT a : Int) - 1 := by unfold wrap64; omega
 rw [w1, w2, quD, quD]
 simp only [Option.bind_some]
 unfold hasB
 by_cases h : (decide (0 ≤ x) && decide (x ≤ (wideT a : Int) - 1)) = true
 case pos => rw [if_pos h, h, Bool.and_true]
 rw [if_neg h, Bool.eq_false_iff.2 h, Bool.and_false]
theorem spec_at {a : ByteArray} (g : Gnd a) (x y : Int) (h : hasB a x y = true) :
  0 ≤ wrap64 (wrap64 (y * (wideT a : Int)) + x) ∧ wrap64 (wrap64 (y * (wideT a : Int)) + x) < ((numsOf (flatT a.data.toList)).length : Int) ∧ rd (numsOf (flatT a.data.toList)) (wrap64 (wrap64 (y * (wideT a : Int)) + x)) = cellN a x y := by
 obtain ⟨⟨h1, h2⟩, h3, h4⟩ := (qdD a x y).1 h
 obtain ⟨i, rfl⟩ := Int.eq_ofNat_of_zero_le h1
 obtain ⟨j, rfl⟩ := Int.eq_ofNat_of_zero_le h3
 have g1 := g.h7
 have g2 := g.w7
 have hi' : i < (rowsL a).length := by rw [qPC]; omega
 have hf := flat_get (wideT a) (rowsL a) i j g.rows hi' (by omega)
 have hw := g.rows _ (List.getElem_mem hi')
 have hj : j < ((rowsL a)[i]).length := by omega
 rw [List.getElem?_eq_getElem hi', Option.bind_some, List.getElem?_eq_getElem hj] at hf
 have hm : i * wideT a ≤ 7 * 7 := Nat.mul_le_mul (by omega) g2
 have ec : ((i : Int) * (wideT a : Int)) = ((i * wideT a : Nat) : Int) := by push_cast; rfl
 rw [ec]
 have e : wrap64 (wrap64 ((i * wideT a : Nat) : Int) + (j : Int)) = ((i * wideT a + j : Nat) : Int) := by
  generalize i * wideT a = m at *
  unfold wrap64; omega
 rw [e, flatT_eq]
 obtain ⟨hlt, hv⟩ := List.getElem?_eq_some_iff.1 hf
 refine ⟨by omega, ?_, ?_⟩
 ·unfold numsOf
  rw [List.length_map]; omega
 ·unfold rd numsOf cellN cellU
  rw [Int.toNat_natCast, List.getD_eq_getElem?_getD, List.getElem?_map, hf, Int.toNat_natCast, Int.toNat_natCast, List.getD_eq_getElem?_getD (l := rowsL a), List.getElem?_eq_getElem hi']
  simp only [Option.map_some, Option.getD_some]
  rw [List.getD_eq_getElem?_getD, List.getElem?_eq_getElem hj]
  rfl
theorem at_all {a : ByteArray} (g : Gnd a) (x y : Int) : qgA.f (rowsT a) x y = some (if hasB a x y = true then cellN a x y else 0) := by
 cases h : hasB a x y with
 | true => rw [at_eq g x y h]; rfl
 | false =>
  unfold qgA.f
  rw [quE g, h]; rfl
def floorB (a : ByteArray) (x y : Int) : Bool := hasB a x y && (cellN a x y == 46)
theorem at_floor {a : ByteArray} (g : Gnd a) (x y : Int) : ∃ c, qgA.f (rowsT a) x y = some c ∧ decide (c = 46) = floorB a x y := by
 refine ⟨_, at_all g x y, ?_⟩
 unfold floorB
 cases h : hasB a x y with
 | true => rw [if_pos rfl, Bool.true_and]; rfl
 | false => rw [if_neg (by decide)]; rfl
end Go.Proofs.YthhiiceligjleaaGreatDoor
namespace Go.Proofs.YthhiiceligjleaaGreatDoor.P
open Go.RowKit Go.Proofs.YthhiiceligjleaaGreatDoorW.PrintWords Go.Proofs.YthhiiceligjleaaGreatDoorW.PrintLast Go.Proofs.YthhiiceligjleaaGreatDoorW.PrintMore
attribute [local go_sem] qh qf qr qq qZ qY qg qe
set_option linter.unusedVariables false
set_option linter.unusedSimpArgs false
def qiB.f (a0_0 : Int) (a0_1 : Int) (a0_2 : Int) (a0_3 : Int) (a0_4 : Int) (a0_5 : Int) : Option (List Int) := some (([a0_0, a0_1, a0_2, a0_3, a0_4, a0_5] : List Int))
set_option maxHeartbeats 8000000 in
set_option maxRecDepth 100000 in
theorem qiB.calls (a0_0 : Int) (a0_1 : Int) (a0_2 : Int) (a0_3 : Int) (a0_4 : Int) (a0_5 : Int) (r : List Int) (w : World) (h : qiB.f a0_0 a0_1 a0_2 a0_3 a0_4 a0_5 = some r) :
  Calls Tryz.prog 97 #[.agg #[.int .i64 a0_0, .int .i64 a0_1, .int .i64 a0_2, .int .i64 a0_3, .int .i64 a0_4, .int .i64 a0_5]] w fun e w' => ∃ v0_ : Value, e = .returned (v0_) ∧ Kd.R (Kd.int .i64) 3 w' w.heap.size (fun _ => True) v0_ r ∧ Below w.heap.size w w' := by
 have hu51 := Tryz.underlying51
 have HB := aM (Below.refl w.heap.size w)
 have H : (some (([a0_0, a0_1, a0_2, a0_3, a0_4, a0_5] : List Int))) = some r := h
 clear h
 obtain ⟨y411, hy411⟩ : ∃ y_ : List Int, y_ = (([a0_0, a0_1, a0_2, a0_3, a0_4, a0_5] : List Int)) := ⟨_, rfl⟩
 replace H : (some y411) = some r := by first | (rw [hy411]; with_reducible exact H) | (have H2_ := (Option.bind_some _ _).symm.trans H; rw [hy411]; with_reducible exact H2_) | (have H2_ := (Option.bind_some _ _).symm.trans H; with_reducible exact H2_) | with_reducible exact H | (rw [hy411]; exact H) | exact H
 have Ny411 := aM hy411
 clear hy411
 obtain rfl := Option.some.inj H
 go_enter Tryz.func97, Tryz.ntmps97
 go_wp2_with (first | ((with_reducible refine qH (N := 1) rfl ?_); refine bE (N := 1) (cs := #[.int .i64 a0_0, .int .i64 a0_1, .int .i64 a0_2, .int .i64 a0_3, .int .i64 a0_4, .int .i64 a0_5]) (t := 51) ?_; intro gb410 hg w2 hbox hb; have BK410 := aM (hbox); have GW410 := aM ((gg hg)); have GE410 := aM ((gg hg)); replace HB := aM (qB bl hb); clear hb hbox hg; (refine cb6 BK410 ?_; intro _ _ _ _ _ _); (refine cz6 BK410 ?_; intro _ _ _ _ _ _)) | ((with_reducible refine qH (N := 15) rfl ?_); refine Kd.R_lit (Kd.int .i64) _ 3 ?hg (N := 15) ?hd (xs := ([a0_0, a0_1, a0_2, a0_3, a0_4, a0_5] : List Int)) (inner := [.int .i64 a0_0, .int .i64 a0_1, .int .i64 a0_2, .int .i64 a0_3, .int .i64 a0_4, .int .i64 a0_5]) (ok := fun _ => True) (okp := fun _ => True) ?hr ?hp (fun _ hk => hk) trivial (Below.refl _ _) (Nat.le_refl _) (by simp) ?_; (case hd => rfl); (case hg => rfl); (case hr => exact gS); (case hp => exact (Reps.one (show Kd.M (Kd.int .i64) _ _ _ a0_0 [.int .i64 a0_0] from rfl) (Reps.one (show Kd.M (Kd.int .i64) _ _ _ a0_1 [.int .i64 a0_1] from rfl) (Reps.one (show Kd.M (Kd.int .i64) _ _ _ a0_2 [.int .i64 a0_2] from rfl) (Reps.one (show Kd.M (Kd.int .i64) _ _ _ a0_3 [.int .i64 a0_3] from rfl) (Reps.one (show Kd.M (Kd.int .i64) _ _ _ a0_4 [.int .i64 a0_4] from rfl) (Reps.one (show Kd.M (Kd.int .i64) _ _ _ a0_5 [.int .i64 a0_5] from rfl) (Reps.none _ _)))))))); intro v412 w4 ho5 hb hg_ hnew_; clear hg_ hnew_; (first | rw [← Ny411.out] at ho5 | (simp only [Int.reduceToNat] at ho5; rw [← Ny411.out] at ho5)); have HO413 := aM (Kd.qz ho5 (qJ bl)); replace BK410 := aM (bb BK410 hb); replace HB := aM (qB bl hb); clear hb ho5))
 go_ret
 exact ⟨_, sR, by (with_reducible repeat (first | apply Kd.qQ | apply Kd.qR | apply Kd.qS)); exact HO413.out, bl⟩
def qeB.f (a0 : Int) : Option (Bool) := (qlA.f a0 0 9).bind fun t414 => (some (!t414))
set_option maxHeartbeats 8000000 in
set_option maxRecDepth 100000 in
theorem qeB.calls (a0 : Int) (r : Bool) (w : World) (h : qeB.f a0 = some r) :
  Calls Tryz.prog 98 #[.int .i64 a0] w fun e w' => e = .returned (.bool r) ∧ Drawn0 w w' := by
 have H : ((qlA.f a0 0 9).bind fun t414 => (some (!t414))) = some r := h
 clear h
 replace H := bO H
 obtain ⟨t414, A2, H⟩ := H
 obtain rfl := Option.some.inj H
 go_enter Tryz.func98, Tryz.ntmps98
 go_wp2_with (first | ((with_reducible refine qE (f := 59) rfl ?_); refine qm (some 4) rfl rfl Tryz.func59 (by kernel_rfl) rfl #[.int .i64 a0, .int .i64 0, .int .i64 9] rfl gA ?_; (with_reducible refine (qlA.calls a0 0 9 t414 _ A2.out).mono ?_); rintro e w' ⟨rfl, ⟨nd, rfl⟩⟩; refine ⟨_, rfl, ?_⟩))
 go_ret
 exact ⟨by first | rfl | (simp; done) | (simp [*]; done), dR⟩
def qI.l0 : Nat → List Int → Int → Int → Option (Int)
 | 0, _, _, _ => none
 | k + 1, x0, x7, x8 => if x8 < x7 then (if 0 ≤ x8 then (if x8 < (x0.length : Int) then ((qeB.f (rd x0 x8)).bind fun t416 => (if t416 = true then (some x8) else (qI.l0 k x0 x7 (wrap64 (x8 + 1))))) else (none)) else (none)) else (some (-1))
def qI.f (k : Nat) (l0 : List Int)  : Option (Int) := qI.l0 k l0 (l0.length : Int) 0
set_option maxHeartbeats 8000000 in
set_option maxRecDepth 100000 in
theorem qI.calls (k : Nat) (A0 : Option Addr) (c0 : Nat) (l0 : List Int)  (r : Int) (w : World) (hr0 : Kd.C (Kd.int .i64) w A0 l0.length l0) (hc0 : l0.length ≤ c0) (h : qI.f k l0 = some r) :
  Calls Tryz.prog 106 #[.slice A0 l0.length c0, .func (.func 98) #[] #[]] w fun e w' => e = .returned (.int .i64 r) ∧ Drawn0 w w' := by
 have HR0 := aM hr0
 have HC0 := aM hc0
 clear hr0 hc0
 have H : (qI.l0 k l0 (l0.length : Int) 0) = some r := h
 clear h
 have H' := aM H
 clear H
 go_enter Tryz.func106, Tryz.ntmps106
 go_wp2
 go_loopg [8] k (fun kq v8 w' => ∃ (x8_1 : Int), v8 = .int .i64 x8_1 ∧ Aside0 (qI.l0 kq l0 (l0.length : Int) x8_1 = some r) ∧ Aside0 (kq ≤ k) ∧ Drawn0 w w')
 case atStart => exact ⟨(0), sD, H', ⟨Nat.le_refl _⟩, dR⟩
 case round =>
  clear H'; (try clear p2)
  obtain ⟨x8_1, rfl, HA, HK1, ⟨m1, rfl⟩⟩ := hrel
  cases gk with
  | zero => exact absurd HA.out (by simp [qI.l0])
  | succ k1 =>
   have H := HA.out
   clear HA
   simp only [qI.l0] at H
   by_cases c3 : x8_1 < (l0.length : Int)
   ·rw [if_pos c3] at H
    have c3b0 := decide_eq_true c3
    clear c3
    by_cases c4 : 0 ≤ x8_1
    case neg => exact nN c4 H
    rw [if_pos c4] at H
    have c4b0 := decide_eq_true c4
    clear c4
    by_cases c5 : x8_1 < (l0.length : Int)
    case neg => exact nN c5 H
    rw [if_pos c5] at H
    have c5b0 := decide_eq_true c5
    clear c5
    replace H := bO H
    obtain ⟨t416, A6, H⟩ := H
    by_cases c7 : t416 = true
    ·subst c7
     replace H := iT H
     obtain rfl := Option.some.inj H
     have p415 : 0 ≤ (x8_1 : Int) := of_decide_eq_true am
     have q415 : x8_1 < (l0.length : Int) := of_decide_eq_true am
     obtain ⟨ad415, e415, hx415_0⟩ := Kd.qHB HR0.out x8_1 p415 q415
     cases e415
     replace p415 := eq_true p415
     replace q415 := eq_true q415
     go_wp2_with (first | ((with_reducible refine qXC (s := 11) rfl ?_); refine qtD (some 16) 11 rfl rfl Tryz.func98 (by kernel_rfl) rfl #[.int .i64 (rd l0 x8_1)] rfl rfl gA ?_; (with_reducible refine (qeB.calls (rd l0 x8_1) true _ A6.out).mono ?_); rintro e w' ⟨rfl, ⟨nd, rfl⟩⟩; refine ⟨_, rfl, ?_⟩))
     go_ret
     exact ⟨by first | rfl | (simp; done) | (simp [*]; done), dR⟩
    ·replace c7 := Bool.eq_false_iff.mpr c7
     subst c7
     replace H := iF H
     have H' := aM H
     clear H
     have p415 : 0 ≤ (x8_1 : Int) := of_decide_eq_true am
     have q415 : x8_1 < (l0.length : Int) := of_decide_eq_true am
     obtain ⟨ad415, e415, hx415_0⟩ := Kd.qHB HR0.out x8_1 p415 q415
     cases e415
     replace p415 := eq_true p415
     replace q415 := eq_true q415
     go_wp2_with (first | ((with_reducible refine qXC (s := 11) rfl ?_); refine qtD (some 16) 11 rfl rfl Tryz.func98 (by kernel_rfl) rfl #[.int .i64 (rd l0 x8_1)] rfl rfl gA ?_; (with_reducible refine (qeB.calls (rd l0 x8_1) false _ A6.out).mono ?_); rintro e w' ⟨rfl, ⟨nd, rfl⟩⟩; refine ⟨_, rfl, ?_⟩))
     go_roundg k1
     case measure => have := HK1.out; omega
     case rel => exact ⟨(wrap64 (x8_1 + 1)), sD, H', ⟨by have := HK1.out; omega⟩, dR⟩
   ·rw [if_neg c3] at H
    have c3b0 := decide_eq_false c3
    clear c3
    obtain rfl := Option.some.inj H
    go_wp2
    go_ret
    exact ⟨by first | rfl | (simp; done) | (simp [*]; done), dR⟩
def qo.f (k : Nat) (l0 : List Int)  : Option (Bool) := (qI.f k l0).bind fun t417 => (some (decide (t417 ≥ 0)))
set_option maxHeartbeats 8000000 in
set_option maxRecDepth 100000 in
theorem qo.calls (k : Nat) (A0 : Option Addr) (c0 : Nat) (l0 : List Int)  (r : Bool) (w : World) (hr0 : Kd.C (Kd.int .i64) w A0 l0.length l0) (hc0 : l0.length ≤ c0) (h : qo.f k l0 = some r) :
  Calls Tryz.prog 96 #[.slice A0 l0.length c0, .func (.func 98) #[] #[]] w fun e w' => e = .returned (.bool r) ∧ Drawn0 w w' := by
 have HR0 := aM hr0
 have HC0 := aM hc0
 clear hr0 hc0
 have H : ((qI.f k l0).bind fun t417 => (some (decide (t417 ≥ 0)))) = some r := h
 clear h
 replace H := bO H
 obtain ⟨t417, A3, H⟩ := H
 obtain rfl := Option.some.inj H
 go_enter Tryz.func96, Tryz.ntmps96
 go_wp2_with (first | ((with_reducible refine qE (f := 106) rfl ?_); refine qm (some 7) rfl rfl Tryz.func106 (by kernel_rfl) rfl #[.slice A0 l0.length c0, .func (.func 98) #[] #[]] rfl gA ?_; (with_reducible refine (qI.calls k _ _ l0  t417 _ ?side1 ?side2 A3.out).mono ?_); (case side1 => repeat (first | exact HR0.out | (with_reducible refine Kd.qL ?_ _) | (with_reducible refine Kd.qK ?_ _) | (with_reducible refine Kd.qX ?_))); (case side2 => exact HC0.out); rintro e w' ⟨rfl, ⟨nd, rfl⟩⟩; refine ⟨_, rfl, ?_⟩))
 go_ret
 exact ⟨by first | rfl | (simp; done) | (simp [*]; done), dR⟩
def qrB.f (k : Nat) (a0_0 : Int) (a0_1 : Int) (a0_2 : Int) (a0_3 : Int) (a0_4 : Int) (a0_5 : Int) : Option (Bool) := (qiB.f a0_0 a0_1 a0_2 a0_3 a0_4 a0_5).bind fun t419 => ((qo.f k t419).bind fun t422 => (some (!t422)))
set_option maxHeartbeats 8000000 in
set_option maxRecDepth 100000 in
theorem qrB.calls (k : Nat) (a0_0 : Int) (a0_1 : Int) (a0_2 : Int) (a0_3 : Int) (a0_4 : Int) (a0_5 : Int) (r : Bool) (w : World) (h : qrB.f k a0_0 a0_1 a0_2 a0_3 a0_4 a0_5 = some r) :
  Calls Tryz.prog 87 #[.agg #[.int .i64 a0_0, .int .i64 a0_1, .int .i64 a0_2, .int .i64 a0_3, .int .i64 a0_4, .int .i64 a0_5]] w fun e w' => e = .returned (.bool r) ∧ Below w.heap.size w w' := by
 have hu51 := Tryz.underlying51
 have HB := aM (Below.refl w.heap.size w)
 have H : ((qiB.f a0_0 a0_1 a0_2 a0_3 a0_4 a0_5).bind fun t419 => ((qo.f k t419).bind fun t422 => (some (!t422)))) = some r := h
 clear h
 replace H := bO H
 obtain ⟨t419, A2, H⟩ := H
 replace H := bO H
 obtain ⟨t422, A3, H⟩ := H
 obtain rfl := Option.some.inj H
 go_enter Tryz.func87, Tryz.ntmps87
 go_wp2_with (first | ((with_reducible refine qH (N := 1) rfl ?_); refine bE (N := 1) (cs := #[.int .i64 a0_0, .int .i64 a0_1, .int .i64 a0_2, .int .i64 a0_3, .int .i64 a0_4, .int .i64 a0_5]) (t := 51) ?_; intro gb418 hg w4 hbox hb; have BK418 := aM (hbox); have GW418 := aM ((gg hg)); have GE418 := aM ((gg hg)); replace HB := aM (qB bl hb); clear hb hbox hg; (refine cb6 BK418 ?_; intro _ _ _ _ _ _); (refine cz6 BK418 ?_; intro _ _ _ _ _ _)) | ((with_reducible refine qE (f := 97) rfl ?_); refine qm (some 4) rfl rfl Tryz.func97 (by kernel_rfl) rfl #[.agg #[.int .i64 a0_0, .int .i64 a0_1, .int .i64 a0_2, .int .i64 a0_3, .int .i64 a0_4, .int .i64 a0_5]] rfl gA ?_; (with_reducible refine (qiB.calls a0_0 a0_1 a0_2 a0_3 a0_4 a0_5 t419 _ A2.out).mono ?_); rintro e w6 ⟨v420, rfl, ho0, hb⟩; refine ⟨_, rfl, ?_⟩; have HO421 := aM (Kd.qz ho0 (qJ bl)); replace BK418 := aM (bb BK418 hb); replace HB := aM (qB bl hb); (try clear hb); (try clear hb2); (try clear hk); (try clear hi); (try clear ho0); obtain ⟨Ao7, co7, eo7⟩ := Kd.qDA HO421.out; subst eo7) | ((with_reducible refine qE (f := 96) rfl ?_); refine qm (some 5) rfl rfl Tryz.func96 (by kernel_rfl) rfl #[.slice Ao7 t419.length co7, .func (.func 98) #[] #[]] rfl gA ?_; (with_reducible refine (qo.calls k _ _ t419  t422 _ ?side1 ?side2 A3.out).mono ?_); (case side1 => repeat (first | exact (Kd.qO HO421.out).2.2 | (with_reducible refine Kd.qL ?_ _) | (with_reducible refine Kd.qK ?_ _) | (with_reducible refine Kd.qX ?_))); (case side2 => exact (Kd.qO HO421.out).2.1); rintro e w' ⟨rfl, ⟨nd, rfl⟩⟩; refine ⟨_, rfl, ?_⟩))
 go_ret
 exact ⟨sR, bl⟩
end Go.Proofs.YthhiiceligjleaaGreatDoor.P
