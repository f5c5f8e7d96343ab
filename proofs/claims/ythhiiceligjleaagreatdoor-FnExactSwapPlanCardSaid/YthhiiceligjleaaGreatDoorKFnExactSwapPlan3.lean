/- The program's SwapPlan returns what the reference's returns, for all texts and dice (the law lets longer texts and lists by). No further condition. -/
import Derived.Test.YthhiiceligjleaaGreatDoorKFnExactSwapPlan2
import Derived.Deep.QuietTactic
import Derived.BigQuiet
import Derived.Deep.MidRow
import Derived.Lib.SlBuf
import Derived.Maps.OwnSet
import Derived.DeepKeys4
import Derived.Shelf.SlGeneric
import Derived.Shelf.Small.Strs
import Derived.Shelf.Strings.Search1
import Derived.Ground.NamesProg
import Derived.Shelf.Strings.Split
import Derived.Shelf.Strings.Count
import Derived.Shelf.Strings.SlTrimAscii
import Derived.Test.YthhiiceligjleaaGreatDoorProg
import Derived.Lib.Strings
import Derived.Lib.SplitLaws

namespace Go.Proofs.YthhiiceligjleaaGreatDoor.P
open Go.RowKit Go.Proofs.YthhiiceligjleaaGreatDoorW.PrintWords Go.Proofs.YthhiiceligjleaaGreatDoorW.PrintLast Go.Proofs.YthhiiceligjleaaGreatDoorW.PrintMore
attribute [local go_sem] qk qi qx qw qc qb qj qh
set_option linter.unusedVariables false
set_option linter.unusedSimpArgs false
mutual
def qM.l0 : Nat → List (S53) → List (List Int) → Int → Int → Int → Int → Int → List Int → Option ((List (S48)) × Bool)
 | 0, _, _, _, _, _, _, _, _ => none
 | k + 1, x1, x6, x7, x21, x22, x310000, x310001, x310002 => if x22 < x21 then (if 0 ≤ x22 then (if x22 < (x1.length : Int) then ((qZA.f k x310000 x310001 x310002 ((qA x1 x22).f0) ((qA x1 x22).f1) ((qA x1 x22).f2.f0) ((qA x1 x22).f2.f1) ((qA x1 x22).f2.f2) ((qA x1 x22).f2.f3) ((qA x1 x22).f2.f4) ((qA x1 x22).f2.f5)).bind fun t312 => (if x6.length < 5864062014805 then (qM.l0 k x1 (x6 ++ [t312]) (wrap64 (x7 * (wrap64 ((x310002.length : Int) * 24)))) x21 (wrap64 (x22 + 1)) x310000 x310001 x310002) else (none))) else (none)) else (none)) else (if 0 ≤ x7 then (if (x7 : Int).toNat ≤ 281474976710656 then ((some (List.replicate (x7 : Int).toNat false : List Bool)).bind fun y318 => ((qz.f k x310000 x310001 x310002 x6 x1).bind fun t321 => (if 0 ≤ t321 then (if t321 < (y318.length : Int) then (qM.l1 k x1 x6 (([(⟨x1, (-1), (⟨#[]⟩ : ByteArray)⟩ : S48)] : List (S48))) 0 (y318.set (t321 : Int).toNat true) x310000 x310001 x310002) else (none)) else (none)))) else (none)) else (none))
def qM.l1 : Nat → List (S53) → List (List Int) → List (S48) → Int → List Bool → Int → Int → List Int → Option ((List (S48)) × Bool)
 | 0, _, _, _, _, _, _, _, _ => none
 | k + 1, x1, x6, x11, x12, x40, x310000, x310001, x310002 => if x12 < (x11.length : Int) then (qM.l2 k x1 x6 x11 x12 x40 (x1.length : Int) 0 x310000 x310001 x310002) else (some (x11, true))
def qM.l2 : Nat → List (S53) → List (List Int) → List (S48) → Int → List Bool → Int → Int → Int → Int → List Int → Option ((List (S48)) × Bool)
 | 0, _, _, _, _, _, _, _, _, _, _ => none
 | k + 1, x1, x6, x11, x12, x40, x57, x58, x310000, x310001, x310002 => if x58 < x57 then (qM.l3 k x1 x6 x11 x12 x58 0 x40 x57 x58 x310000 x310001 x310002) else (qM.l1 k x1 x6 x11 (wrap64 (x12 + 1)) x40 x310000 x310001 x310002)
def qM.l3 : Nat → List (S53) → List (List Int) → List (S48) → Int → Int → Int → List Bool → Int → Int → Int → Int → List Int → Option ((List (S48)) × Bool)
 | 0, _, _, _, _, _, _, _, _, _, _, _, _ => none
 | k + 1, x1, x6, x11, x12, x13, x14, x40, x57, x58, x310000, x310001, x310002 => if x14 < 4 then (if 0 ≤ x12 then (if x12 < (x11.length : Int) then ((qTA.f k x310000 x310001 x310002 ((qJB x11 x12).f0) x13 x14).bind fun bt327 => (if bt327.2 = true then ((qz.f k x310000 x310001 x310002 x6 bt327.1).bind fun t331 => (if 0 ≤ t331 then (if t331 < (x40.length : Int) then (qM.j4 k x1 x6 x40 x11 x12 x13 x14 bt327.1 x57 x58 (rdOf false x40 t331) x310000 x310001 x310002) else (none)) else (none))) else (qM.j4 k x1 x6 x40 x11 x12 x13 x14 bt327.1 x57 x58 true x310000 x310001 x310002))) else (none)) else (none)) else (qM.l2 k x1 x6 x11 x12 x40 x57 (wrap64 (x58 + 1)) x310000 x310001 x310002)
def qM.j4 : Nat → List (S53) → List (List Int) → List Bool → List (S48) → Int → Int → Int → List (S53) → Int → Int → Bool → Int → Int → List Int → Option ((List (S48)) × Bool)
 | 0, _, _, _, _, _, _, _, _, _, _, _, _, _, _ => none
 | k + 1, x1, x6, x10, x11, x12, x13, x14, x15, x57, x58, x87, x310000, x310001, x310002 => if x87 = true then (qM.l3 k x1 x6 x11 x12 x13 (wrap64 (x14 + 1)) x10 x57 x58 x310000 x310001 x310002) else (if (x11.length : Int) = 6000 then (some (([] : List (S48)), false)) else ((qz.f k x310000 x310001 x310002 x6 x15).bind fun t333 => (if 0 ≤ t333 then (if t333 < (x10.length : Int) then ((qhB.f k x13 x14).bind fun t335 => (if x11.length < 2932031007402 then (qM.l3 k x1 x6 (x11 ++ [(⟨x15, x12, t335⟩ : S48)]) x12 x13 (wrap64 (x14 + 1)) (x10.set (t333 : Int).toNat true) x57 x58 x310000 x310001 x310002) else (none))) else (none)) else (none))))
end
def qM.f (k : Nat) (a0_0 : Int) (a0_1 : Int) (l0_2 : List Int) (l1 : List (S53)) : Option ((List (S48)) × Bool) := if (l1.length : Int) > 2 then (some (([] : List (S48)), false)) else (qM.l0 k l1 ([] : List (List Int)) 1 (l1.length : Int) 0 a0_0 a0_1 l0_2)
def qM.T23 : Bool × List (List Nat × List Nat) := (true, [([], []), ([], []), ([], []), ([1, 2], [1, 2]), ([3], [3]), ([4], [4]), ([], []), ([], []), ([0, 5, 6, 7], [0, 5, 6, 7]), ([8], [8]), ([9], [9]), ([9], [9]), ([10, 8, 0, 1, 2, 3, 4, 5, 6, 7, 8, 9, 10], [10]), ([11, 12, 0, 1, 2, 3, 4, 5, 6, 7, 8, 9, 10, 11, 12], [11])])
def qM.B23 : List Nat := [0, 0, 0, 6, 14, 30, 0, 0, 255, 511, 1023, 1023, 2047, 8191]
theorem qM.tab23 : rtab .any (opsOf Tryz.f20 23) = qM.T23 := by kernel_rfl
theorem qM.bits23 : waitsOk qM.T23.2 qM.B23 = true := by kernel_rfl
set_option maxHeartbeats 8000000 in
set_option maxRecDepth 100000 in
theorem qM.calls (k : Nat) (a0_0 : Int) (a0_1 : Int) (A0_2 : Option Addr) (c0_2 : Nat) (l0_2 : List Int) (P1_ : Nat → Prop) (A1 : Option Addr) (c1 : Nat) (l1 : List (S53)) (r1 : List (S48)) (r2 : Bool) (w : World) (hr0_2 : Kd.C (Kd.int .u8) w A0_2 l0_2.length l0_2) (hc0_2 : l0_2.length ≤ c0_2) (hs1 : Kd.V k53 53 w w.heap.size (fun k_ => P1_ k_) (.slice A1 l1.length c1) l1) (h : qM.f k a0_0 a0_1 l0_2 l1 = some (r1, r2)) :
  Calls Tryz.prog 20 #[.agg #[.int .i64 a0_0, .int .i64 a0_1, .slice A0_2 l0_2.length c0_2], .slice A1 l1.length c1] w fun e w' => ∃ v0_ : Value, e = .returned (.tuple #[v0_, .bool r2]) ∧ Kd.N k48 48 w' w.heap.size (fun k_ => (P1_ k_ ∨ w.heap.size ≤ k_)) v0_ r1 ∧ Below w.heap.size w w' := by
 have hu40 := Tryz.underlying40
 have hu53 := Tryz.underlying53
 have hu48 := Tryz.underlying48
 have HR0_2 := aM hr0_2
 have HC0_2 := aM hc0_2
 clear hr0_2 hc0_2
 have HO1 := aM (show Kd.V k53 53 w w.heap.size (fun k_ => (P1_ k_ ∨ w.heap.size ≤ k_)) (.slice A1 l1.length c1) l1 from Kd.qHC hs1 (fun k_ hk => .inl hk))
 have HB := aM (Below.refl w.heap.size w)
 have H : (if (l1.length : Int) > 2 then (some (([] : List (S48)), false)) else (qM.l0 k l1 ([] : List (List Int)) 1 (l1.length : Int) 0 a0_0 a0_1 l0_2)) = some (r1, r2) := h
 clear h
 by_cases c3 : (l1.length : Int) > 2
 ·rw [if_pos c3] at H
  have c3b0 := decide_eq_true c3
  have c3b1 : decide (2 < l1.length) = true := decide_eq_true (by omega)
  clear c3
  simp only [Option.some.injEq, Prod.mk.injEq] at H
  obtain ⟨rfl, rfl⟩ := H
  go_enter Tryz.func20, Tryz.ntmps20
  go_wp2_with (first | ((with_reducible refine qG (N := 2) rfl ?_); refine bE (N := 2) (cs := #[.int .i64 a0_0, .int .i64 a0_1, .slice A0_2 l0_2.length c0_2]) (t := 40) ?_; intro gb309 hg w4 hbox hb; have BK309 := aM (hbox); have GW309 := aM ((gg hg)); have GE309 := aM ((gg hg)); replace HO1 := aM (Kd.qgC (Kd.qNE (rV HO1) gb309 (Nat.le_of_eq hg.symm)) hb); replace HB := aM (qB bl hb); clear hb hbox hg))
  go_ret2
  exact ⟨_, sR, nK, bl⟩
 ·rw [if_neg c3] at H
  have c3b0 := decide_eq_false c3
  have c3b1 : decide (2 < l1.length) = false := decide_eq_false (by omega)
  clear c3
  have H' := aM H
  clear H
  go_enter Tryz.func20, Tryz.ntmps20
  go_wp2_with (first | ((with_reducible refine qG (N := 2) rfl ?_); refine bE (N := 2) (cs := #[.int .i64 a0_0, .int .i64 a0_1, .slice A0_2 l0_2.length c0_2]) (t := 40) ?_; intro gb309 hg w5 hbox hb; have BK309 := aM (hbox); have GW309 := aM ((gg hg)); have GE309 := aM ((gg hg)); replace HO1 := aM (Kd.qgC (Kd.qNE (rV HO1) gb309 (Nat.le_of_eq hg.symm)) hb); replace HB := aM (qB bl hb); clear hb hbox hg))
  go_loopg [6, 7, 22] k (fun kq v6 v7 v22 w' => ∃ (x6_1 : List (List Int)) (x7_1 : Int) (x22_1 : Int), v7 = .int .i64 x7_1 ∧ v22 = .int .i64 x22_1 ∧ Aside0 (qM.l0 kq l1 x6_1 x7_1 (l1.length : Int) x22_1 a0_0 a0_1 l0_2 = some (r1, r2)) ∧ Aside0 (kq ≤ k) ∧ Aside0 (Kd.V k53 53 w' w.heap.size (fun k_ => (P1_ k_ ∨ w.heap.size ≤ k_) ∧ some k_ ≠ (v6 : Value).ownBlock ∧ k_ ≠ gb309) (.slice A1 l1.length c1) l1) ∧ Aside0 (Kd.N (Kd.slice 3 (Kd.int .i64)) 69 w' w.heap.size (fun k_ => (P1_ k_ ∨ w.heap.size ≤ k_) ∧ k_ ≠ gb309) v6 x6_1) ∧ Aside0 (w'.heap[gb309]? = some (.cells #[.int .i64 a0_0, .int .i64 a0_1, (.slice A0_2 l0_2.length c0_2)] 40 (0, 0))) ∧ Aside0 (Below w.heap.size w w'))
  case atStart => exact ⟨(([] : List (List Int))), (1), (0), sD, sD, H', ⟨Nat.le_refl _⟩, ⟨by (with_reducible repeat (first | apply Kd.qdB | apply Kd.qcB | apply Kd.qwB)); exact Kd.qHC HO1.out (fun _ hk => ⟨hk.1, ⟨(by simp [Value.ownBlock]), hk.2⟩⟩)⟩, ⟨nK⟩, ⟨rB BK309⟩, ⟨bl⟩⟩
  case round =>
   clear H'; (try clear c1); (try clear c2); (try clear p2); (try clear c3); (try clear c3b0); (try clear c3b1)
   obtain ⟨x6_1, x7_1, x22_1, rfl, rfl, HA, HK1, HO_1, HO_6, BK309, HB⟩ := hrel
   cases gk with
   | zero => exact absurd HA.out (by simp [qM.l0])
   | succ k1 =>
    have H := HA.out
    clear HA
    simp only [qM.l0] at H
    by_cases c6 : x22_1 < (l1.length : Int)
    ·rw [if_pos c6] at H
     have c6b0 := decide_eq_true c6
     clear c6
     by_cases c7 : 0 ≤ x22_1
     case neg => exact nN c7 H
     rw [if_pos c7] at H
     have c7b0 := decide_eq_true c7
     clear c7
     by_cases c8 : x22_1 < (l1.length : Int)
     case neg => exact nN c8 H
     rw [if_pos c8] at H
     have c8b0 := decide_eq_true c8
     clear c8
     replace H := bO H
     obtain ⟨t312, A9, H⟩ := H
     by_cases c10 : x6_1.length < 5864062014805
     case neg => exact nN c10 H
     rw [if_pos c10] at H
     have LMc10 := aM c10
     clear c10
     obtain ⟨y315, hy315⟩ : ∃ y_ : List (List Int), y_ = (x6_1 ++ [t312]) := ⟨_, rfl⟩
     replace H : (qM.l0 k1 l1 y315 (wrap64 (x7_1 * (wrap64 ((l0_2.length : Int) * 24)))) (l1.length : Int) (wrap64 (x22_1 + 1)) a0_0 a0_1 l0_2) = some (r1, r2) := by first | (rw [hy315]; with_reducible exact H) | (have H2_ := (Option.bind_some _ _).symm.trans H; rw [hy315]; with_reducible exact H2_) | (have H2_ := (Option.bind_some _ _).symm.trans H; with_reducible exact H2_) | with_reducible exact H | (rw [hy315]; exact H) | exact H
     have Ny315 := aM hy315
     clear hy315
     have H' := aM H
     clear H
     have p310 : 0 ≤ (x22_1 : Int) := of_decide_eq_true am
     have q310 : x22_1 < (l1.length : Int) := of_decide_eq_true am
     obtain ⟨ad310, e310, hx310_0, hx310_1, hx310_2, hx310_3, hx310_4, hx310_5, hx310_6, hx310_7⟩ := qDB (Kd.qaD HO_1.out).2.2 x22_1 p310 q310
     cases e310
     replace p310 := eq_true p310
     replace q310 := eq_true q310
     go_wp2_with (first | ((with_reducible refine qG (N := 9) rfl ?_); refine bE (N := 9) (cs := #[.int .i64 0, .int .i64 0, .int .i64 0, .int .i64 0, .int .i64 0, .int .i64 0, .int .i64 0, .int .i64 0]) (t := 53) ?_; intro gb311 hg w11 hbox hb; have BK311 := aM (hbox); have GW311 := aM ((gg hg)); have GE311 := aM ((gg hg)); have NB309_311 := aM ((nl BK309 hg)); have NB311_309 := aM ((nr BK309 hg)); replace HO_1 := aM (Kd.qgC (Kd.qNE (rV HO_1) gb311 (Nat.le_of_eq hg.symm)) hb); replace HO_6 := aM (Kd.qqB (Kd.N_elderB (rN HO_6) gb311 (Nat.le_of_eq hg.symm)) hb); replace BK309 := aM (bb BK309 hb); replace HB := aM (qB bl hb); clear hb hbox hg; have hnb12 := NB311_309.out; have hnc12 := NB309_311.out; (refine cb8 BK311 ?_; intro hcz13_0 hcz13_1 hcz13_2 hcz13_3 hcz13_4 hcz13_5 hcz13_6 hcz13_7); (refine cz8 BK311 ?_; intro hfz13_0 hfz13_1 hfz13_2 hfz13_3 hfz13_4 hfz13_5 hfz13_6 hfz13_7); (refine cb3 BK309 ?_; intro hcz14_0 hcz14_1 hcz14_2); (refine cz3 BK309 ?_; intro hfz14_0 hfz14_1 hfz14_2)) | ((with_reducible refine qI (f := 45) rfl ?_); refine qu (some 29) rfl rfl Tryz.func45 (by kernel_rfl) rfl #[.agg #[.int .i64 a0_0, .int .i64 a0_1, .slice A0_2 l0_2.length c0_2], .agg #[.int .i64 ((qA l1 x22_1).f0), .int .i64 ((qA l1 x22_1).f1), .int .i64 ((qA l1 x22_1).f2.f0), .int .i64 ((qA l1 x22_1).f2.f1), .int .i64 ((qA l1 x22_1).f2.f2), .int .i64 ((qA l1 x22_1).f2.f3), .int .i64 ((qA l1 x22_1).f2.f4), .int .i64 ((qA l1 x22_1).f2.f5)]] rfl gA ?_; (with_reducible refine (qZA.calls k1 a0_0 a0_1 _ _ l0_2 ((qA l1 x22_1).f0) ((qA l1 x22_1).f1) ((qA l1 x22_1).f2.f0) ((qA l1 x22_1).f2.f1) ((qA l1 x22_1).f2.f2) ((qA l1 x22_1).f2.f3) ((qA l1 x22_1).f2.f4) ((qA l1 x22_1).f2.f5) t312 _ ?side1 ?side2 A9.out).mono ?_); (case side1 => exact Kd.qY HR0_2.out bl); (case side2 => exact HC0_2.out); rintro e w15 ⟨v313, rfl, ho0, hb⟩; refine ⟨_, rfl, ?_⟩; have HO314 := aM (Kd.qAA (Kd.qlE (M := fun k_ => (w.heap.size ≤ k_)) ho0 (qJ bl) (fun k_ h_ => h_)) (qJ bl)); replace HO_1 := aM (Kd.qMD (by (with_reducible repeat (first | apply Kd.qdB | apply Kd.qcB | apply Kd.qwB)); exact (Kd.qHC (Kd.V_far (p := ⟨gb311, 7, none⟩) (Kd.V_far (p := ⟨gb311, 6, none⟩) (Kd.V_far (p := ⟨gb311, 5, none⟩) (Kd.V_far (p := ⟨gb311, 4, none⟩) (Kd.V_far (p := ⟨gb311, 3, none⟩) (Kd.V_far (p := ⟨gb311, 2, none⟩) (Kd.V_far (p := ⟨gb311, 1, none⟩) (Kd.V_far (p := ⟨gb311, 0, none⟩) (Kd.qHC HO_1.out (fun k_ hk => (⟨hk, hk.2⟩ : _ ∧ k_ ≠ gb311))) (fun _ hk => hk.2) (.int .i64 ((qA l1 x22_1).f0))) (fun _ hk => hk.2) (.int .i64 ((qA l1 x22_1).f1))) (fun _ hk => hk.2) (.int .i64 ((qA l1 x22_1).f2.f0))) (fun _ hk => hk.2) (.int .i64 ((qA l1 x22_1).f2.f1))) (fun _ hk => hk.2) (.int .i64 ((qA l1 x22_1).f2.f2))) (fun _ hk => hk.2) (.int .i64 ((qA l1 x22_1).f2.f3))) (fun _ hk => hk.2) (.int .i64 ((qA l1 x22_1).f2.f4))) (fun _ hk => hk.2) (.int .i64 ((qA l1 x22_1).f2.f5))) (fun _ h_ => h_.1))) (Kd.qcA ho0) hb); replace HO_6 := aM (Kd.qND (by (with_reducible repeat (first | apply Kd.qvA | apply Kd.quA | apply Kd.qKB)); exact (Kd.qlB (Kd.N_far (p := ⟨gb311, 7, none⟩) (Kd.N_far (p := ⟨gb311, 6, none⟩) (Kd.N_far (p := ⟨gb311, 5, none⟩) (Kd.N_far (p := ⟨gb311, 4, none⟩) (Kd.N_far (p := ⟨gb311, 3, none⟩) (Kd.N_far (p := ⟨gb311, 2, none⟩) (Kd.N_far (p := ⟨gb311, 1, none⟩) (Kd.N_far (p := ⟨gb311, 0, none⟩) (Kd.qlB HO_6.out (fun k_ hk => (⟨hk, hk.2⟩ : _ ∧ k_ ≠ gb311))) (fun _ hk => hk.2) (.int .i64 ((qA l1 x22_1).f0))) (fun _ hk => hk.2) (.int .i64 ((qA l1 x22_1).f1))) (fun _ hk => hk.2) (.int .i64 ((qA l1 x22_1).f2.f0))) (fun _ hk => hk.2) (.int .i64 ((qA l1 x22_1).f2.f1))) (fun _ hk => hk.2) (.int .i64 ((qA l1 x22_1).f2.f2))) (fun _ hk => hk.2) (.int .i64 ((qA l1 x22_1).f2.f3))) (fun _ hk => hk.2) (.int .i64 ((qA l1 x22_1).f2.f4))) (fun _ hk => hk.2) (.int .i64 ((qA l1 x22_1).f2.f5))) (fun _ h_ => h_.1))) (Kd.qcA ho0) hb); replace BK309 := aM (qEA (g := gb309) (o := .cells #[.int .i64 a0_0, .int .i64 a0_1, .slice A0_2 l0_2.length c0_2] 40 (0, 0)) (bF BK309 NB309_311) hb); replace BK311 := aM (qEA (g := gb311) (o := .cells #[.int .i64 ((qA l1 x22_1).f0), .int .i64 ((qA l1 x22_1).f1), .int .i64 ((qA l1 x22_1).f2.f0), .int .i64 ((qA l1 x22_1).f2.f1), .int .i64 ((qA l1 x22_1).f2.f2), .int .i64 ((qA l1 x22_1).f2.f3), .int .i64 ((qA l1 x22_1).f2.f4), .int .i64 ((qA l1 x22_1).f2.f5)] 53 (0, 0)) (by (with_reducible repeat (first | refine qF ?_ _ | refine qD ?_ | refine qE ?_ _)); exact bP8 BK311) hb); replace HB := aM (qB bl hb); (try clear hb); (try clear hb2); (try clear hk); (try clear hi); (try clear ho0); obtain ⟨Ao17, co17, eo17⟩ := Kd.qCA HO314.out; subst eo17) | ((with_reducible refine qCB (b := .append) (xs := #[.tmp 26, .tmp 30]) rfl ?_); at_builtin; refine Kd.N_append (Kd.slice 3 (Kd.int .i64)) (w0 := w) w.heap.size rfl (.tmp 26) (.tmp 30) 32 69 (.slice none 0 0) 24 rfl Tryz.underlying32 info69 rfl (by decide) (by omega) u6 x6_1 t312 [.slice Ao17 t312.length co17] (fun k_ => (P1_ k_ ∨ w.heap.size ≤ k_) ∧ k_ ≠ gb309 ∧ k_ ≠ gb311) (fun k_ => ((fun k_ => (P1_ k_ ∨ w.heap.size ≤ k_) ∧ k_ ≠ gb309 ∧ k_ ≠ gb311)) k_ ∧ some k_ ≠ (u6 : Value).ownBlock) rfl rfl ?aP (fun _ hk => hk) ?aF ?aO ?aB ?aS ?aL ?_; (case aP => exact (Kd.qIC (Kd.qN (Kd.qX (ok' := (fun k_ => ((fun k_ => (P1_ k_ ∨ w.heap.size ≤ k_) ∧ k_ ≠ gb309 ∧ k_ ≠ gb311)) k_ ∧ some k_ ≠ (u6 : Value).ownBlock)) (Kd.qBB (Kd.qBB (Kd.qaB (HO314.out) (Kd.qBD HO_6.out) (by decide)) BK309.out (by decide)) BK311.out (by decide)) (fun k_ hk => ⟨⟨(.inr (hk.1.1.1.1)), ⟨hk.1.2, hk.2⟩⟩, hk.1.1.2⟩))).2.1 (Kd.R_F (Kd.qX (ok' := (fun k_ => ((fun k_ => (P1_ k_ ∨ w.heap.size ≤ k_) ∧ k_ ≠ gb309 ∧ k_ ≠ gb311)) k_ ∧ some k_ ≠ (u6 : Value).ownBlock)) (Kd.qBB (Kd.qBB (Kd.qaB (HO314.out) (Kd.qBD HO_6.out) (by decide)) BK309.out (by decide)) BK311.out (by decide)) (fun k_ hk => ⟨⟨(.inr (hk.1.1.1.1)), ⟨hk.1.2, hk.2⟩⟩, hk.1.1.2⟩))))); (case aB => exact bl); (case aF => exact (fun k_ hk => ⟨(.inr (Nat.le_trans (qJ bl) hk)), Kd.freshB (rB BK309) k_ hk, Kd.freshB (rB BK311) k_ hk⟩)); (case aO => exact (by (with_reducible repeat (first | apply Kd.qvA | apply Kd.quA | apply Kd.qKB)); exact Kd.qlB HO_6.out (fun _ hk => ⟨hk.1.1.1, ⟨hk.1.1.2, hk.1.2⟩⟩))); (case aS => exact (qJ bl)); (case aL => have := LMc10.out; omega); intro v316 w16 ho hb hg hat; rw [← Ny315.out] at ho; have HO317 := aM (ho); replace HO_1 := aM (Kd.qbD (ok := (fun k_ => (P1_ k_ ∨ w.heap.size ≤ k_) ∧ some k_ ≠ (.slice Ao17 t312.length co17 : Value).ownBlock ∧ k_ ≠ gb309 ∧ k_ ≠ gb311)) (by (with_reducible repeat (first | apply Kd.qdB | apply Kd.qcB | apply Kd.qwB)); exact Kd.qHC HO_1.out (fun _ hk => ⟨⟨hk.1.1.1, ⟨hk.2, ⟨hk.1.1.2.2, hk.1.2⟩⟩⟩, hk.1.1.2.1⟩)) hg hat); replace BK309 := aM (qo (rB BK309) hg (Kd.N_ne HO_6.out BK309.out (by decide))); replace BK311 := aM (qo (rB BK311) hg (Kd.N_ne HO_6.out BK311.out (by decide))); replace HB := aM (hb); clear HO_6; clear HO314; clear ho hb hg hat; (refine cb3 BK309 ?_; intro hcz18_0 hcz18_1 hcz18_2); (refine cz3 BK309 ?_; intro hfz18_0 hfz18_1 hfz18_2)))
     go_roundg k1
     case measure => have := HK1.out; omega
     case rel => exact ⟨(y315), (wrap64 (x7_1 * (wrap64 ((l0_2.length : Int) * 24)))), (wrap64 (x22_1 + 1)), sD, sD, H', ⟨by have := HK1.out; omega⟩, ⟨by (with_reducible repeat (first | apply Kd.qdB | apply Kd.qcB | apply Kd.qwB)); exact Kd.qHC HO_1.out (fun _ hk => ⟨hk.1.1, ⟨hk.2, hk.1.2.2.1⟩⟩)⟩, ⟨by (with_reducible repeat (first | apply Kd.qvA | apply Kd.quA | apply Kd.qKB)); exact Kd.qlB HO317.out (fun _ hk => ⟨hk.1, hk.2.1⟩)⟩, ⟨rB BK309⟩, ⟨bl⟩⟩
    ·rw [if_neg c6] at H
     have c6b0 := decide_eq_false c6
     clear c6
     by_cases c19 : 0 ≤ x7_1
     ·rw [if_pos c19] at H
      have c19b0 := eq_true c19
      have c19b1 := decide_eq_true c19
      clear c19
      by_cases c20 : (x7_1 : Int).toNat ≤ 281474976710656
      case neg => exact nN c20 H
      rw [if_pos c20] at H
      have c20b0 := eq_true c20
      have c20b1 := decide_eq_true c20
      clear c20
      replace H := bS H
      obtain ⟨y318, Ny318, H⟩ := H
      replace H := bO H
      obtain ⟨t321, A21, H⟩ := H
      by_cases c22 : 0 ≤ t321
      case neg => exact nN c22 H
      rw [if_pos c22] at H
      have c22b0 := decide_eq_true c22
      clear c22
      by_cases c23 : t321 < (y318.length : Int)
      case neg => exact nN c23 H
      rw [if_pos c23] at H
      have c23b0 := decide_eq_true c23
      clear c23
      obtain ⟨y322, hy322⟩ : ∃ y_ : List Bool, y_ = (y318.set (t321 : Int).toNat true) := ⟨_, rfl⟩
      replace H : (qM.l1 k1 l1 x6_1 (([(⟨l1, (-1), (⟨#[]⟩ : ByteArray)⟩ : S48)] : List (S48))) 0 y322 a0_0 a0_1 l0_2) = some (r1, r2) := by first | (rw [hy322]; with_reducible exact H) | (have H2_ := (Option.bind_some _ _).symm.trans H; rw [hy322]; with_reducible exact H2_) | (have H2_ := (Option.bind_some _ _).symm.trans H; with_reducible exact H2_) | with_reducible exact H | (rw [hy322]; exact H) | exact H
      have Ny322 := aM hy322
      clear hy322
      obtain ⟨y323, hy323⟩ : ∃ y_ : List (S48), y_ = (([(⟨l1, (-1), (⟨#[]⟩ : ByteArray)⟩ : S48)] : List (S48))) := ⟨_, rfl⟩
      replace H : (qM.l1 k1 l1 x6_1 y323 0 y322 a0_0 a0_1 l0_2) = some (r1, r2) := by first | (rw [hy323]; with_reducible exact H) | (have H2_ := (Option.bind_some _ _).symm.trans H; rw [hy323]; with_reducible exact H2_) | (have H2_ := (Option.bind_some _ _).symm.trans H; with_reducible exact H2_) | with_reducible exact H | (rw [hy323]; exact H) | exact H
      have Ny323 := aM hy323
      clear hy323
      have H' := aM H
      clear H
      go_wp2_with (first | ((with_reducible refine qG (N := 40) rfl ?_); refine Kd.R_make Kd.bool _ 4 rfl (N := 40) rfl 83 _ _ rfl x7_1 rfl rfl Tryz.underlying83 (.bool false) 1 info4 rfl (by decide) (by omega) false (ok := fun _ => True) (okp := fun _ => True) rfl (fun _ hk => hk) trivial (of_decide_eq_true am) (Nat.le_trans (Nat.mul_le_mul_right _ (of_decide_eq_true am : x7_1.toNat ≤ 281474976710656)) (by omega)) (Below.refl _ _) (Nat.le_refl _) ?_; intro v319 w25 ho26 hb hg_ hnew_; clear hg_ hnew_; (first | rw [← Ny318.out] at ho26 | (simp only [Int.reduceToNat] at ho26; rw [← Ny318.out] at ho26)); have HO320 := aM (Kd.qAA (Kd.qlE (M := fun k_ => (w.heap.size ≤ k_)) ho26 (qJ bl) (fun k_ h_ => h_)) (qJ bl)); replace HO_1 := aM (Kd.qMD (rV HO_1) (Kd.qcA ho26) hb); replace HO_6 := aM (Kd.qND (rN HO_6) (Kd.qcA ho26) hb); replace BK309 := aM (bb BK309 hb); replace HB := aM (qB bl hb); clear hb ho26; (refine cb3 BK309 ?_; intro hcz27_0 hcz27_1 hcz27_2); (refine cz3 BK309 ?_; intro hfz27_0 hfz27_1 hfz27_2); obtain ⟨Ao28, co28, eo28⟩ := Kd.qCD HO_6.out; subst eo28) | ((with_reducible refine qI (f := 46) rfl ?_); refine qu (some 45) rfl rfl Tryz.func46 (by kernel_rfl) rfl #[.agg #[.int .i64 a0_0, .int .i64 a0_1, .slice A0_2 l0_2.length c0_2], .slice Ao28 x6_1.length co28, .slice A1 l1.length c1] rfl gA ?_; (with_reducible refine (qz.calls k1 a0_0 a0_1 _ _ l0_2 _ _ x6_1 _ _ l1 t321 _ ?side1 ?side2 ?side3 ?side4 ?side5 ?side6 A21.out).mono ?_); (case side1 => repeat (first | exact (Kd.qY HR0_2.out HB.out) | (with_reducible refine Kd.qV ?_ _) | (with_reducible refine Kd.qU ?_ _) | (with_reducible refine Kd.qf ?_))); (case side2 => exact HC0_2.out); (case side3 => repeat (first | exact (Kd.qbB HO_6.out).2.2 | (with_reducible refine Kd.qV ?_ _) | (with_reducible refine Kd.qU ?_ _) | (with_reducible refine Kd.qf ?_))); (case side4 => exact (Kd.qbB HO_6.out).2.1); (case side5 => repeat (first | exact (Kd.qaD HO_1.out).2.2 | (with_reducible refine Kd.qV ?_ _) | (with_reducible refine Kd.qU ?_ _) | (with_reducible refine Kd.qf ?_))); (case side6 => exact (Kd.qaD HO_1.out).2.1); rintro e w29 ⟨rfl, hb⟩; refine ⟨_, rfl, ?_⟩; replace HO_1 := aM (Kd.qgC (rV HO_1) hb); replace HO_6 := aM (Kd.qqB (rN HO_6) hb); replace HO320 := aM (Kd.qe (rR HO320) hb); replace BK309 := aM (bb BK309 hb); replace HB := aM (qB bl hb); (try clear hb); (try clear hb2); (try clear hk); (try clear hi); have p24 : 0 ≤ (t321 : Int) := of_decide_eq_true am; have q24 : (t321 : Int) < ((y318.length : Int) : Int) := of_decide_eq_true am; obtain ⟨go24, co24, eo24, gb24, gl24, cl24, HG24⟩ := Kd.qfE HO320.out (by omega); (first | cases eo24 | (injection eo24 with ea_ en_ ec_; (first | subst ea_ | (injection ea_ with ea_; subst ea_)); subst ec_; clear en_)); have GB24 := aM gb24; have GG24 := aM HG24; clear gb24 gl24 HG24; obtain ⟨hx24_0, hf24_0⟩ := Kd.qPE false HO320.out (t321 : Int) p24 q24; replace p24 := eq_true p24; replace q24 := eq_true q24; have n_ := aM (Kd.qX (ok' := (fun k_ => (w.heap.size ≤ k_))) HO320.out (fun k_ hk => hk.1)); clear HO320; have HO320 := n_; clear n_; obtain ⟨hy30_, hz30_⟩ := Kd.qPE false HO320.out (t321 : Int) (of_decide_eq_true am) (of_decide_eq_true am); have HP30 := Kd.R_putg HO320.out (t321 : Int) true) | ((with_reducible refine qzB (t := 4) (p := 46) rfl ?_); refine qCC (t := 4) (p := 46) (v := ?vo_w31) (w1 := (w29.setCell ⟨go24, (t321 : Int).toNat, none⟩ (.bool true))) ?hg ?ho ?hn ?hr ?_; (case ho => rfl); (case hg => rfl); (case hn => rfl); (case hr => exact gS); intro w31 hw; have hg : w29.grownBy w31 (some go24) := (by rw [hw]; exact HP30.2); have hp_ : Kd.R Kd.bool 4 w31 w.heap.size (fun k_ => (w.heap.size ≤ k_)) (.slice (some ⟨go24, 0, none⟩) y318.length co24) y322 := (by rw [hw, Ny322.out]; exact HP30.1); clear HP30; replace HO_1 := aM (Kd.qbD (v := (.slice (some ⟨go24, 0, none⟩) y318.length co24)) (v1 := (.slice (some ⟨go24, 0, none⟩) y318.length co24)) (ok := (fun k_ => (P1_ k_ ∨ w.heap.size ≤ k_) ∧ some k_ ≠ (.slice Ao28 x6_1.length co28 : Value).ownBlock ∧ k_ ≠ gb309)) (rV HO_1) hg (.inl rfl)); replace HO_6 := aM (Kd.qdD (v := (.slice (some ⟨go24, 0, none⟩) y318.length co24)) (v1 := (.slice (some ⟨go24, 0, none⟩) y318.length co24)) (ok := (fun k_ => (P1_ k_ ∨ w.heap.size ≤ k_) ∧ k_ ≠ gb309)) (rN HO_6) hg (.inl rfl)); replace BK309 := aM (qo (rB BK309) hg (Kd.R_ne HO320.out BK309.out (by decide))); replace HO320 := aM (hp_); replace HB := aM ((by rw [hw]; exact qFA (HB.out) GB24.out : Below w.heap.size w w31)); clear hg hw hp_) | ((with_reducible refine qG (N := 49) rfl ?_); refine Kd.N_lit k48 _ 48 ?hg (N' := 49) ?hd (xs := ([(⟨l1, (-1), (⟨#[]⟩ : ByteArray)⟩ : S48)] : List (S48))) (inner := [.slice A1 l1.length c1, .int .i64 (-1), .string (⟨#[]⟩ : ByteArray)]) (ok := (fun k_ => (P1_ k_ ∨ w.heap.size ≤ k_) ∧ some k_ ≠ (.slice Ao28 x6_1.length co28 : Value).ownBlock ∧ some k_ ≠ (.slice (some ⟨go24, 0, none⟩) y318.length co24 : Value).ownBlock ∧ k_ ≠ gb309)) (okp := (fun k_ => (P1_ k_ ∨ w.heap.size ≤ k_) ∧ some k_ ≠ (.slice Ao28 x6_1.length co28 : Value).ownBlock ∧ some k_ ≠ (.slice (some ⟨go24, 0, none⟩) y318.length co24 : Value).ownBlock ∧ k_ ≠ gb309)) ?hr ?hp (fun _ hk => hk) ((show ∀ k_, w31.heap.size ≤ k_ → (fun k_ => (P1_ k_ ∨ w.heap.size ≤ k_) ∧ some k_ ≠ (.slice Ao28 x6_1.length co28 : Value).ownBlock ∧ some k_ ≠ (.slice (some ⟨go24, 0, none⟩) y318.length co24 : Value).ownBlock ∧ k_ ≠ gb309) k_ from fun k_ hk => ⟨(.inr (Nat.le_trans (qJ bl) hk)), Kd.fresh' (Kd.N_lt (rN HO_6)) k_ hk, Kd.fresh' (Kd.R_lt (rR HO320)) k_ hk, Kd.freshB (rB BK309) k_ hk⟩) _ (Nat.le_refl _)) (Below.refl _ _) (Nat.le_refl _) (by simp) ?_; (case hd => rfl); (case hg => rfl); (case hr => exact gS); (case hp => exact (Reps.c3 (show Kd.FK k48 _ _ (⟨l1, (-1), (⟨#[]⟩ : ByteArray)⟩ : S48) [.slice A1 l1.length c1, .int .i64 (-1), .string (⟨#[]⟩ : ByteArray)] from (k48_mkF _ _ (⟨l1, (-1), (⟨#[]⟩ : ByteArray)⟩ : S48) (Kd.qaD (Kd.qHC (ok' := (fun k_ => (P1_ k_ ∨ w.heap.size ≤ k_) ∧ some k_ ≠ (.slice Ao28 x6_1.length co28 : Value).ownBlock ∧ some k_ ≠ (.slice (some ⟨go24, 0, none⟩) y318.length co24 : Value).ownBlock ∧ k_ ≠ gb309)) (HO_1.out) (fun k_ hk => ⟨hk.1.1, ⟨hk.1.2.1, ⟨hk.2, hk.1.2.2⟩⟩⟩))).2.1 (Kd.V_F (Kd.qHC (ok' := (fun k_ => (P1_ k_ ∨ w.heap.size ≤ k_) ∧ some k_ ≠ (.slice Ao28 x6_1.length co28 : Value).ownBlock ∧ some k_ ≠ (.slice (some ⟨go24, 0, none⟩) y318.length co24 : Value).ownBlock ∧ k_ ≠ gb309)) (HO_1.out) (fun k_ hk => ⟨hk.1.1, ⟨hk.1.2.1, ⟨hk.2, hk.1.2.2⟩⟩⟩))))) (Reps.none _ _))); intro v324 w32 ho33 hb hg_ hnew_; clear hg_ hnew_; (first | rw [← Ny323.out] at ho33 | (simp only [Int.reduceToNat] at ho33; rw [← Ny323.out] at ho33)); have HO325 := aM (Kd.qYE ho33 (qJ bl)); replace HO_1 := aM (Kd.qMD (rV HO_1) (Kd.N_base ho33) hb); replace HO_6 := aM (Kd.qND (rN HO_6) (Kd.N_base ho33) hb); replace HO320 := aM (Kd.qe (rR HO320) hb); replace BK309 := aM (bb BK309 hb); replace HB := aM (qB bl hb); clear hb ho33))
      go_loopg [11, 12] k1 (fun kq v11 v12 w' => ∃ (x11_2 : List (S48)) (x12_2 : Int) (x40_2 : List Bool), v12 = .int .i64 x12_2 ∧ Aside0 (qM.l1 kq l1 x6_1 x11_2 x12_2 x40_2 a0_0 a0_1 l0_2 = some (r1, r2)) ∧ Aside0 (kq ≤ k1) ∧ Aside0 (Kd.V k53 53 w' w.heap.size (fun k_ => (P1_ k_ ∨ w.heap.size ≤ k_) ∧ some k_ ≠ ((.slice Ao28 x6_1.length co28) : Value).ownBlock ∧ some k_ ≠ (v11 : Value).ownBlock ∧ some k_ ≠ ((.slice (some ⟨go24, 0, none⟩) y318.length co24) : Value).ownBlock ∧ k_ ≠ gb309) (.slice A1 l1.length c1) l1) ∧ Aside0 (Kd.N (Kd.slice 3 (Kd.int .i64)) 69 w' w.heap.size (fun k_ => (P1_ k_ ∨ w.heap.size ≤ k_) ∧ some k_ ≠ (v11 : Value).ownBlock ∧ some k_ ≠ ((.slice (some ⟨go24, 0, none⟩) y318.length co24) : Value).ownBlock ∧ k_ ≠ gb309) (.slice Ao28 x6_1.length co28) x6_1) ∧ Aside0 (Kd.N k48 48 w' w.heap.size (fun k_ => (P1_ k_ ∨ w.heap.size ≤ k_) ∧ some k_ ≠ ((.slice Ao28 x6_1.length co28) : Value).ownBlock ∧ some k_ ≠ ((.slice (some ⟨go24, 0, none⟩) y318.length co24) : Value).ownBlock ∧ k_ ≠ gb309) v11 x11_2) ∧ Aside0 (Kd.R Kd.bool 4 w' w.heap.size (fun k_ => (w.heap.size ≤ k_)) (.slice (some ⟨go24, 0, none⟩) y318.length co24) x40_2) ∧ Aside0 (w'.heap[gb309]? = some (.cells #[.int .i64 a0_0, .int .i64 a0_1, (.slice A0_2 l0_2.length c0_2)] 40 (0, 0))) ∧ Aside0 (Below w.heap.size w w'))
      case atStart => exact ⟨(y323), (0), (y322), sD, H', ⟨Nat.le_refl _⟩, ⟨by (with_reducible repeat (first | apply Kd.qdB | apply Kd.qcB | apply Kd.qwB)); exact Kd.qHC HO_1.out (fun _ hk => ⟨hk.1.1.1, ⟨hk.1.1.2.1, ⟨hk.2, ⟨hk.1.2, hk.1.1.2.2⟩⟩⟩⟩)⟩, ⟨by (with_reducible repeat (first | apply Kd.qvA | apply Kd.quA | apply Kd.qKB)); exact Kd.qlB HO_6.out (fun _ hk => ⟨hk.1.1.1, ⟨hk.2, ⟨hk.1.2, hk.1.1.2⟩⟩⟩)⟩, ⟨rN HO325⟩, ⟨rR HO320⟩, ⟨rB BK309⟩, ⟨bl⟩⟩
      case round =>
       clear H'; (try clear c1); (try clear c2); (try clear p2); (try clear q2); (try clear hx2); (try clear hf2); (try clear c3); (try clear c3b0); (try clear c3b1); (try clear p3); (try clear q3); (try clear hx3); (try clear c4); (try clear c6); (try clear c6b0); (try clear p6); (try clear c7); (try clear c7b0); (try clear c8); (try clear c8b0); (try clear c10); (try clear c12); (try clear c19); (try clear c19b0); (try clear c19b1); (try clear c20); (try clear c20b0); (try clear c20b1); (try clear c22); (try clear c22b0); (try clear c23); (try clear c23b0); (try clear p24); (try clear q24); (try clear hx24); (try clear hf24); (try clear p31); (try clear q31); (try clear hx31); (try clear hcz13_0 hcz13_1 hcz13_2 hcz13_3 hcz13_4 hcz13_5 hcz13_6 hcz13_7); (try clear hcz14_0 hcz14_1 hcz14_2); (try clear hcz18_0 hcz18_1 hcz18_2); (try clear hcz27_0 hcz27_1 hcz27_2); (try clear hfz13_0 hfz13_1 hfz13_2 hfz13_3 hfz13_4 hfz13_5 hfz13_6 hfz13_7); (try clear hfz14_0 hfz14_1 hfz14_2); (try clear hfz18_0 hfz18_1 hfz18_2); (try clear hfz27_0 hfz27_1 hfz27_2); (try clear hx24_0); (try clear hx310_0); (try clear hx310_1); (try clear hx310_2); (try clear hx310_3); (try clear hx310_4); (try clear hx310_5); (try clear hx310_6); (try clear hx310_7); (try clear p2); (try clear p24); (try clear p310); (try clear q24); (try clear q310)
       obtain ⟨x11_2, x12_2, x40_2, rfl, HA, HK2, HO_1, HO_6, HO_11, HO_40, BK309, HB⟩ := hrel
       have hl40_2 := (Kd.qN HO_40.out).1
       rw [hl40_2] at HO_40
       (try simp only [hl40_2])
       (try simp only [hl40_2] at BK309)
       (try simp only [hl40_2] at HO_1)
       (try simp only [hl40_2] at HO_6)
       (try simp only [hl40_2] at HO_11)
       cases gk with
       | zero => exact absurd HA.out (by simp [qM.l1])
       | succ k2 =>
        have H := HA.out
        clear HA
        simp only [qM.l1] at H
        by_cases c34 : x12_2 < (x11_2.length : Int)
        ·rw [if_pos c34] at H
         have c34b0 := decide_eq_true c34
         (try (have c34b0_hl40_2 := c34b0; simp only [hl40_2] at c34b0_hl40_2))
         clear c34
         have H' := aM H
         clear H
         obtain ⟨Ao35, co35, eo35⟩ := Kd.qCD HO_11.out
         subst eo35
         go_wp2
         go_loopg [11, 58] k2 (fun kq v11 v58 w' => ∃ (x11_3 : List (S48)) (x40_3 : List Bool) (x58_3 : Int), v58 = .int .i64 x58_3 ∧ Aside0 (qM.l2 kq l1 x6_1 x11_3 x12_2 x40_3 (l1.length : Int) x58_3 a0_0 a0_1 l0_2 = some (r1, r2)) ∧ Aside0 (kq ≤ k2) ∧ Aside0 (Kd.V k53 53 w' w.heap.size (fun k_ => (P1_ k_ ∨ w.heap.size ≤ k_) ∧ some k_ ≠ ((.slice Ao28 x6_1.length co28) : Value).ownBlock ∧ some k_ ≠ (v11 : Value).ownBlock ∧ some k_ ≠ ((.slice (some ⟨go24, 0, none⟩) x40_2.length co24) : Value).ownBlock ∧ k_ ≠ gb309) (.slice A1 l1.length c1) l1) ∧ Aside0 (Kd.N (Kd.slice 3 (Kd.int .i64)) 69 w' w.heap.size (fun k_ => (P1_ k_ ∨ w.heap.size ≤ k_) ∧ some k_ ≠ (v11 : Value).ownBlock ∧ some k_ ≠ ((.slice (some ⟨go24, 0, none⟩) x40_2.length co24) : Value).ownBlock ∧ k_ ≠ gb309) (.slice Ao28 x6_1.length co28) x6_1) ∧ Aside0 (Kd.N k48 48 w' w.heap.size (fun k_ => (P1_ k_ ∨ w.heap.size ≤ k_) ∧ some k_ ≠ ((.slice Ao28 x6_1.length co28) : Value).ownBlock ∧ some k_ ≠ ((.slice (some ⟨go24, 0, none⟩) x40_2.length co24) : Value).ownBlock ∧ k_ ≠ gb309) v11 x11_3) ∧ Aside0 (Kd.R Kd.bool 4 w' w.heap.size (fun k_ => (w.heap.size ≤ k_)) (.slice (some ⟨go24, 0, none⟩) x40_2.length co24) x40_3) ∧ Aside0 (w'.heap[gb309]? = some (.cells #[.int .i64 a0_0, .int .i64 a0_1, (.slice A0_2 l0_2.length c0_2)] 40 (0, 0))) ∧ Aside0 (Below w.heap.size w w'))
         case atStart => exact ⟨(x11_2), (x40_2), (0), sD, H', ⟨Nat.le_refl _⟩, ⟨by (try simp only [hl40_2]); (with_reducible repeat (first | apply Kd.qdB | apply Kd.qcB | apply Kd.qwB)); exact HO_1.out⟩, ⟨by (try simp only [hl40_2]); (with_reducible repeat (first | apply Kd.qvA | apply Kd.quA | apply Kd.qKB)); exact HO_6.out⟩, ⟨by (try simp only [hl40_2]); (with_reducible repeat (first | apply Kd.qvA | apply Kd.quA | apply Kd.qKB)); exact HO_11.out⟩, ⟨by (try simp only [hl40_2]); (with_reducible repeat (first | apply Kd.qL | apply Kd.qO | apply Kd.qQ)); exact HO_40.out⟩, ⟨by (try simp only [hl40_2]); (with_reducible repeat (first | refine qF ?_ _ | refine qD ?_ | refine qE ?_ _)); exact BK309.out⟩, ⟨bl⟩⟩
         case round =>
          clear H'; (try clear c1); (try clear c2); (try clear p2); (try clear q2); (try clear hx2); (try clear hf2); (try clear c3); (try clear c3b0); (try clear c3b1); (try clear p3); (try clear q3); (try clear hx3); (try clear c4); (try clear c6); (try clear c6b0); (try clear p6); (try clear c7); (try clear c7b0); (try clear c8); (try clear c8b0); (try clear c10); (try clear c12); (try clear c19); (try clear c19b0); (try clear c19b1); (try clear c20); (try clear c20b0); (try clear c20b1); (try clear c22); (try clear c22b0); (try clear c23); (try clear c23b0); (try clear p24); (try clear q24); (try clear hx24); (try clear hf24); (try clear p31); (try clear q31); (try clear hx31); (try clear c34); (try clear c34b0); (try clear hcz13_0 hcz13_1 hcz13_2 hcz13_3 hcz13_4 hcz13_5 hcz13_6 hcz13_7); (try clear hcz14_0 hcz14_1 hcz14_2); (try clear hcz18_0 hcz18_1 hcz18_2); (try clear hcz27_0 hcz27_1 hcz27_2); (try clear hfz13_0 hfz13_1 hfz13_2 hfz13_3 hfz13_4 hfz13_5 hfz13_6 hfz13_7); (try clear hfz14_0 hfz14_1 hfz14_2); (try clear hfz18_0 hfz18_1 hfz18_2); (try clear hfz27_0 hfz27_1 hfz27_2); (try clear hx24_0); (try clear hx310_0); (try clear hx310_1); (try clear hx310_2); (try clear hx310_3); (try clear hx310_4); (try clear hx310_5); (try clear hx310_6); (try clear hx310_7); (try clear p2); (try clear p24); (try clear p3); (try clear p31); (try clear p310); (try clear p6); (try clear q2); (try clear q24); (try clear q3); (try clear q31); (try clear q310)
          obtain ⟨x11_3, x40_3, x58_3, rfl, HA, HK3, HO_1, HO_6, HO_11, HO_40, BK309, HB⟩ := hrel
          have hl40_3 := (Kd.qN HO_40.out).1
          rw [hl40_3] at HO_40
          (try simp only [hl40_3])
          (try simp only [hl40_3] at BK309)
          (try simp only [hl40_3] at HO_1)
          (try simp only [hl40_3] at HO_6)
          (try simp only [hl40_3] at HO_11)
          cases gk with
          | zero => exact absurd HA.out (by simp [qM.l2])
          | succ k3 =>
           have H := HA.out
           clear HA
           simp only [qM.l2] at H
           by_cases c36 : x58_3 < (l1.length : Int)
           ·rw [if_pos c36] at H
            have c36b0 := decide_eq_true c36
            (try (have c36b0_hl40_2 := c36b0; simp only [hl40_2] at c36b0_hl40_2))
            (try (have c36b0_hl40_3 := c36b0; simp only [hl40_3] at c36b0_hl40_3))
            clear c36
            have H' := aM H
            clear H
            go_wp2
            go_loopg [11, 14] k3 (fun kq v11 v14 w' => ∃ (x11_4 : List (S48)) (x14_4 : Int) (x40_4 : List Bool), v14 = .int .i64 x14_4 ∧ Aside0 (qM.l3 kq l1 x6_1 x11_4 x12_2 x58_3 x14_4 x40_4 (l1.length : Int) x58_3 a0_0 a0_1 l0_2 = some (r1, r2)) ∧ Aside0 (kq ≤ k3) ∧ Aside0 (Kd.V k53 53 w' w.heap.size (fun k_ => (P1_ k_ ∨ w.heap.size ≤ k_) ∧ some k_ ≠ ((.slice Ao28 x6_1.length co28) : Value).ownBlock ∧ some k_ ≠ (v11 : Value).ownBlock ∧ some k_ ≠ ((.slice (some ⟨go24, 0, none⟩) x40_3.length co24) : Value).ownBlock ∧ k_ ≠ gb309) (.slice A1 l1.length c1) l1) ∧ Aside0 (Kd.N (Kd.slice 3 (Kd.int .i64)) 69 w' w.heap.size (fun k_ => (P1_ k_ ∨ w.heap.size ≤ k_) ∧ some k_ ≠ (v11 : Value).ownBlock ∧ some k_ ≠ ((.slice (some ⟨go24, 0, none⟩) x40_3.length co24) : Value).ownBlock ∧ k_ ≠ gb309) (.slice Ao28 x6_1.length co28) x6_1) ∧ Aside0 (Kd.N k48 48 w' w.heap.size (fun k_ => (P1_ k_ ∨ w.heap.size ≤ k_) ∧ some k_ ≠ ((.slice Ao28 x6_1.length co28) : Value).ownBlock ∧ some k_ ≠ ((.slice (some ⟨go24, 0, none⟩) x40_3.length co24) : Value).ownBlock ∧ k_ ≠ gb309) v11 x11_4) ∧ Aside0 (Kd.R Kd.bool 4 w' w.heap.size (fun k_ => (w.heap.size ≤ k_)) (.slice (some ⟨go24, 0, none⟩) x40_3.length co24) x40_4) ∧ Aside0 (w'.heap[gb309]? = some (.cells #[.int .i64 a0_0, .int .i64 a0_1, (.slice A0_2 l0_2.length c0_2)] 40 (0, 0))) ∧ Aside0 (Below w.heap.size w w'))
            case atStart => exact ⟨(x11_3), (0), (x40_3), sD, H', ⟨Nat.le_refl _⟩, ⟨by (try simp only [hl40_2]); (try simp only [hl40_3]); (with_reducible repeat (first | apply Kd.qdB | apply Kd.qcB | apply Kd.qwB)); exact HO_1.out⟩, ⟨by (try simp only [hl40_2]); (try simp only [hl40_3]); (with_reducible repeat (first | apply Kd.qvA | apply Kd.quA | apply Kd.qKB)); exact HO_6.out⟩, ⟨by (try simp only [hl40_2]); (try simp only [hl40_3]); (with_reducible repeat (first | apply Kd.qvA | apply Kd.quA | apply Kd.qKB)); exact HO_11.out⟩, ⟨by (try simp only [hl40_2]); (try simp only [hl40_3]); (with_reducible repeat (first | apply Kd.qL | apply Kd.qO | apply Kd.qQ)); exact HO_40.out⟩, ⟨by (try simp only [hl40_2]); (try simp only [hl40_3]); (with_reducible repeat (first | refine qF ?_ _ | refine qD ?_ | refine qE ?_ _)); exact BK309.out⟩, ⟨bl⟩⟩
            case round =>
             clear H'; (try clear c1); (try clear c2); (try clear p2); (try clear q2); (try clear hx2); (try clear hf2); (try clear c3); (try clear c3b0); (try clear c3b1); (try clear p3); (try clear q3); (try clear hx3); (try clear c4); (try clear c6); (try clear c6b0); (try clear p6); (try clear c7); (try clear c7b0); (try clear c8); (try clear c8b0); (try clear c10); (try clear c12); (try clear c19); (try clear c19b0); (try clear c19b1); (try clear c20); (try clear c20b0); (try clear c20b1); (try clear c22); (try clear c22b0); (try clear c23); (try clear c23b0); (try clear p24); (try clear q24); (try clear hx24); (try clear hf24); (try clear p31); (try clear q31); (try clear hx31); (try clear c34); (try clear c34b0); (try clear c36); (try clear c36b0); (try clear hcz13_0 hcz13_1 hcz13_2 hcz13_3 hcz13_4 hcz13_5 hcz13_6 hcz13_7); (try clear hcz14_0 hcz14_1 hcz14_2); (try clear hcz18_0 hcz18_1 hcz18_2); (try clear hcz27_0 hcz27_1 hcz27_2); (try clear hfz13_0 hfz13_1 hfz13_2 hfz13_3 hfz13_4 hfz13_5 hfz13_6 hfz13_7); (try clear hfz14_0 hfz14_1 hfz14_2); (try clear hfz18_0 hfz18_1 hfz18_2); (try clear hfz27_0 hfz27_1 hfz27_2); (try clear hx24_0); (try clear hx310_0); (try clear hx310_1); (try clear hx310_2); (try clear hx310_3); (try clear hx310_4); (try clear hx310_5); (try clear hx310_6); (try clear hx310_7); (try clear p2); (try clear p24); (try clear p3); (try clear p31); (try clear p310); (try clear p6); (try clear q2); (try clear q24); (try clear q3); (try clear q31); (try clear q310)
             obtain ⟨x11_4, x14_4, x40_4, rfl, HA, HK4, HO_1, HO_6, HO_11, HO_40, BK309, HB⟩ := hrel
             have hl40_4 := (Kd.qN HO_40.out).1
             rw [hl40_4] at HO_40
             (try simp only [hl40_4])
             (try simp only [hl40_4] at BK309)
             (try simp only [hl40_4] at HO_1)
             (try simp only [hl40_4] at HO_6)
             (try simp only [hl40_4] at HO_11)
             cases gk with
             | zero => exact absurd HA.out (by simp [qM.l3])
             | succ k4 =>
              have H := HA.out
              clear HA
              simp only [qM.l3] at H
              by_cases c37 : x14_4 < 4
              ·rw [if_pos c37] at H
               have c37b0 := decide_eq_true c37
               clear c37
               by_cases c38 : 0 ≤ x12_2
               case neg => exact nN c38 H
               rw [if_pos c38] at H
               have c38b0 := decide_eq_true c38
               clear c38
               by_cases c39 : x12_2 < (x11_4.length : Int)
               case neg => exact nN c39 H
               rw [if_pos c39] at H
               have c39b0 := decide_eq_true c39
               (try (have c39b0_hl40_2 := c39b0; simp only [hl40_2] at c39b0_hl40_2))
               (try (have c39b0_hl40_3 := c39b0; simp only [hl40_3] at c39b0_hl40_3))
               (try (have c39b0_hl40_4 := c39b0; simp only [hl40_4] at c39b0_hl40_4))
               clear c39
               replace H := bO H
               obtain ⟨⟨t327, t330⟩, A40, H⟩ := H
               dsimp only at H A40
               have HC41 := aM H
               clear H
               try go_wp2
               replace HO_1 := aM (Kd.qwB HO_1.out)
               replace HO_6 := aM (Kd.qKB HO_6.out)
               replace HO_11 := aM (Kd.qKB HO_11.out)
               replace HO_40 := aM (Kd.qQ HO_40.out)
               replace BK309 := aM (qD BK309.out)
               replace HB := aM (qg HB.out)
               obtain ⟨Ao43, co43, eo43⟩ := Kd.qCD HO_11.out
               (first | subst eo43 | (injection eo43 with f1_ f2_ f3_; have f4_ := f1_.symm; have f5_ := f3_.symm; clear f1_ f2_ f3_; subst f4_; subst f5_))
               have p326 : 0 ≤ (x12_2 : Int) := of_decide_eq_true am
               have q326 : x12_2 < (x11_4.length : Int) := of_decide_eq_true am
               obtain ⟨ad326, A326_0, c326_0, e326, hx326_0, hx326_1, hx326_2, hl326_0, hi326_0⟩ := qvD (Kd.qbB HO_11.out).2.2 x12_2 p326 q326
               cases e326
               obtain ⟨ce326, hce326, hMe326, hcc326⟩ := Kd.N_get HO_11.out z48 x12_2 p326 (by first | exact q326 | exact of_decide_eq_true am | (have e_ := (Kd.qbB HO_11.out).1; omega))
               obtain ⟨ua326_0, uc326_0, rfl, ul326_0, ge326_0⟩ := k48_openF hMe326
               have hv326_0 := hcc326 0 _ rfl
               rw [Nat.add_zero] at hv326_0
               replace hv326_0 := Option.some.inj (hv326_0.symm.trans hx326_0)
               injection hv326_0 with hva_ hvn_ hvc_
               rw [hva_] at ge326_0
               rw [hvc_] at ul326_0
               have HL326_0 := aM (show Kd.V k53 53 _ w.heap.size _ _ ((qJB x11_4 x12_2).f0) from Kd.V_mk ul326_0 ge326_0)
               clear hva_ hvn_ hvc_ ge326_0 ul326_0 hcc326 hce326
               have HR326_0 := aM hi326_0
               have HC326_0 := aM hl326_0
               clear hi326_0 hl326_0
               replace p326 := eq_true p326
               replace q326 := eq_true q326
               refine qIB (n := 14) (S := fun w' => w'.cell? ⟨gb309, 0, none⟩ = some (.int .i64 a0_0) ∧ w'.cell? ⟨gb309, 1, none⟩ = some (.int .i64 a0_1) ∧ w'.cell? ⟨gb309, 2, none⟩ = some (.slice A0_2 l0_2.length c0_2) ∧ w'.cell? (ad326.add ((x12_2).toNat * 3)) = some (.slice A326_0 ((qJB x11_4 x12_2).f0).length c326_0) ∧ w'.cell? ⟨(ad326.add ((x12_2).toNat * 3)).block, (ad326.add ((x12_2).toNat * 3)).off + 1, none⟩ = some (.int .i64 ((qJB x11_4 x12_2).f1)) ∧ w'.cell? ⟨(ad326.add ((x12_2).toNat * 3)).block, (ad326.add ((x12_2).toNat * 3)).off + 2, none⟩ = some (.string ((qJB x11_4 x12_2).f2))) (ds := []) #[false, false, false, false, false, false, false, false, false, false, false, false, false, false] (by kernel_rfl) rfl rfl ⟨bc BK309 0, bc BK309 1, bc BK309 2, hx326_0, hx326_1, hx326_2⟩ (fun hHeld => ?_); refine qPA qM.tab23 qM.bits23 (fun HT_ HW_ => ?_)
               generalize wr.drew = w42 at HO_1 HO_6 HO_11 HO_40 BK309 HB HL326_0 HR326_0 hx326_0 hx326_1 hx326_2 hHeld ⊢
               refine pS (i := 1) (N := some 67) #[false, true, false, false, false, false, false, false, false, false, false, false, false, false] HT_ ?_
               refine pS (i := 2) (N := some 68) #[false, true, true, false, false, false, false, false, false, false, false, false, false, false] HT_ ?_
               refine pS (i := 3) (N := some 69) #[false, true, true, true, false, false, false, false, false, false, false, false, false, false] HT_ ?_
               refine pS (i := 4) (N := some 70) #[false, true, true, true, true, false, false, false, false, false, false, false, false, false] HT_ ?_
               refine pS (i := 6) (N := some 72) #[false, true, true, true, true, false, true, false, false, false, false, false, false, false] HT_ ?_
               refine pS (i := 7) (N := some 73) #[false, true, true, true, true, false, true, true, false, false, false, false, false, false] HT_ ?_
               refine tS (i := 0) (N := some 66) #[true, true, true, true, true, false, true, true, false, false, false, false, false, false] HT_ HW_ hHeld ?_
               refine tS (i := 5) (N := some 71) #[true, true, true, true, true, true, true, true, false, false, false, false, false, false] HT_ HW_ hHeld ?_
               refine one_ (i := 8) (N := some 74) #[true, true, true, true, true, true, true, true, true, false, false, false, false, false] rfl rfl (qgA HT_.out (by kernel_rfl)) (by decide) (fun K hK => ?_)
               refine goes_ Tryz.func47 (by kernel_rfl) rfl #[.agg #[.int .i64 a0_0, .int .i64 a0_1, .slice A0_2 l0_2.length c0_2], .slice A326_0 ((qJB x11_4 x12_2).f0).length c326_0, .int .i64 x58_3, .int .i64 x14_4] (by rfl) rfl rfl gA ?_
               with_reducible refine (qTA.calls k4 a0_0 a0_1 _ _ l0_2 _ _ ((qJB x11_4 x12_2).f0) x58_3 x14_4 t327 t330 _ ?side1 ?side2 ?side3 ?side4 A40.out).mono ?_
               (case side1 => repeat (first | exact (Kd.qY HR0_2.out HB.out) | (with_reducible refine Kd.qV ?_ _) | (with_reducible refine Kd.qU ?_ _) | (with_reducible refine Kd.qf ?_)))
               (case side2 => exact HC0_2.out)
               (case side3 => repeat (first | exact (by repeat (first | (with_reducible exact HR326_0.out) | (with_reducible refine Kd.qV ?_ _) | (with_reducible refine Kd.qU ?_ _) | (with_reducible refine Kd.qf ?_) | exact HR326_0.out)) | (with_reducible refine Kd.qV ?_ _) | (with_reducible refine Kd.qU ?_ _) | (with_reducible refine Kd.qf ?_)))
               (case side4 => exact HC326_0.out)
               rintro e w44 ⟨v328, rfl, ho0, hb⟩
               have HS3_ := (hb.cell (World.block_lt_of_cell? _ _ (hHeld.2.2.2.1))).trans (hHeld.2.2.2.1)
               have HS4_ := (hb.cell (World.block_lt_of_cell? _ _ (hHeld.2.2.2.2.1))).trans (hHeld.2.2.2.2.1)
               have HS5_ := (hb.cell (World.block_lt_of_cell? _ _ (hHeld.2.2.2.2.2))).trans (hHeld.2.2.2.2.2)
               refine ⟨_, rfl, ?_⟩
               have HO329 := aM (Kd.qAA (Kd.qlE (M := fun k_ => (w.heap.size ≤ k_)) ho0 (qJ bl) (fun k_ h_ => h_)) (qJ bl))
               replace HO_1 := aM (Kd.qMD (rV HO_1) (Kd.qcA ho0) hb)
               replace HO_6 := aM (Kd.qND (rN HO_6) (Kd.qcA ho0) hb)
               replace HO_11 := aM (Kd.qND (rN HO_11) (Kd.qcA ho0) hb)
               replace HO_40 := aM (Kd.qe (rR HO_40) hb)
               replace HL326_0 := aM (Kd.qMD (rV HL326_0) (Kd.qcA ho0) hb)
               replace BK309 := aM (bb BK309 hb)
               replace HR326_0 := aM (Kd.qY (by repeat (first | (with_reducible exact HR326_0.out) | (with_reducible refine Kd.qV ?_ _) | (with_reducible refine Kd.qU ?_ _) | (with_reducible refine Kd.qf ?_) | exact HR326_0.out)) hb)
               replace HB := aM (qB bl hb); (try clear hb); (try clear hb2); (try clear hk); (try clear hi); (try clear ho0)
               refine hK.out _ _ ⟨bc BK309 0, bc BK309 1, bc BK309 2, HS3_, HS4_, HS5_⟩ (fun hHeld => ?_)
               clear hK K
               refine norm_ (a' := ?_) ?_ ?_
               rotate_left
               ·show Act.put _ (some 74) _ = _
                simp only [Act.put, List.setIfInBounds_toArray, List.set_cons_zero, List.set_cons_succ, i64_w, i32_w]
                rfl
               refine pS (i := 9) (N := some 65) #[true, true, true, true, true, true, true, true, true, true, false, false, false, false] HT_ ?_
               refine pS (i := 10) (N := some 75) #[true, true, true, true, true, true, true, true, true, true, true, false, false, false] HT_ ?_
               refine pS (i := 11) (N := some 76) #[true, true, true, true, true, true, true, true, true, true, true, true, false, false] HT_ ?_
               refine pS (i := 12) (N := some 15) #[true, true, true, true, true, true, true, true, true, true, true, true, true, false] HT_ ?_
               refine pS (i := 13) (N := some 16) #[true, true, true, true, true, true, true, true, true, true, true, true, true, true] HT_ ?_
               refine done_ (qFB HT_.out (by kernel_rfl)) ?_
               go_upto_region 24 with (fail)
               go_cut [87] (fun v87 wc => ∃ (kq : Nat) (x87_40 : Bool), v87 = .bool x87_40 ∧ Aside0 (qM.j4 kq l1 x6_1 x40_4 x11_4 x12_2 x58_3 x14_4 t327 (l1.length : Int) x58_3 x87_40 a0_0 a0_1 l0_2 = some (r1, r2)) ∧ Aside0 (kq ≤ k4) ∧ Aside0 (Kd.V k53 53 wc w.heap.size (fun k_ => (P1_ k_ ∨ w.heap.size ≤ k_) ∧ some k_ ≠ ((.slice Ao28 x6_1.length co28) : Value).ownBlock ∧ some k_ ≠ ((.slice (some ⟨go24, 0, none⟩) x40_4.length co24) : Value).ownBlock ∧ some k_ ≠ ((.slice (some ad326) x11_4.length co43) : Value).ownBlock ∧ some k_ ≠ (v328 : Value).ownBlock ∧ k_ ≠ gb309) (.slice A1 l1.length c1) l1) ∧ Aside0 (Kd.N (Kd.slice 3 (Kd.int .i64)) 69 wc w.heap.size (fun k_ => (P1_ k_ ∨ w.heap.size ≤ k_) ∧ some k_ ≠ ((.slice (some ⟨go24, 0, none⟩) x40_4.length co24) : Value).ownBlock ∧ some k_ ≠ ((.slice (some ad326) x11_4.length co43) : Value).ownBlock ∧ some k_ ≠ (v328 : Value).ownBlock ∧ k_ ≠ gb309) (.slice Ao28 x6_1.length co28) x6_1) ∧ Aside0 (Kd.R Kd.bool 4 wc w.heap.size (fun k_ => (w.heap.size ≤ k_)) (.slice (some ⟨go24, 0, none⟩) x40_4.length co24) x40_4) ∧ Aside0 (Kd.N k48 48 wc w.heap.size (fun k_ => (P1_ k_ ∨ w.heap.size ≤ k_) ∧ some k_ ≠ ((.slice Ao28 x6_1.length co28) : Value).ownBlock ∧ some k_ ≠ ((.slice (some ⟨go24, 0, none⟩) x40_4.length co24) : Value).ownBlock ∧ some k_ ≠ (v328 : Value).ownBlock ∧ k_ ≠ gb309) (.slice (some ad326) x11_4.length co43) x11_4) ∧ Aside0 (Kd.R k53 53 wc w.heap.size (fun k_ => (w.heap.size ≤ k_)) v328 t327) ∧ Aside0 (wc.heap[gb309]? = some (.cells #[.int .i64 a0_0, .int .i64 a0_1, (.slice A0_2 l0_2.length c0_2)] 40 (0, 0))) ∧ Aside0 (Kd.C k53 wc A326_0 ((qJB x11_4 x12_2).f0).length ((qJB x11_4 x12_2).f0)) ∧ Aside0 (Below w.heap.size w wc))
               case first =>
                have H := HC41.out
                clear HC41
                by_cases c45 : t330 = true
                ·subst c45
                 replace H := iT H
                 replace H := bO H
                 obtain ⟨t331, A46, H⟩ := H
                 by_cases c47 : 0 ≤ t331
                 case neg => exact nN c47 H
                 rw [if_pos c47] at H
                 have c47b0 := decide_eq_true c47
                 clear c47
                 (first | rw [c47b0] | (simp only [i64_w, i32_w]; rw [c47b0]) | skip)
                 by_cases c48 : t331 < (x40_4.length : Int)
                 case neg => exact nN c48 H
                 rw [if_pos c48] at H
                 have c48b0 := decide_eq_true c48
                 (try (have c48b0_hl40_2 := c48b0; simp only [hl40_2] at c48b0_hl40_2))
                 (try (have c48b0_hl40_3 := c48b0; simp only [hl40_3] at c48b0_hl40_3))
                 (try (have c48b0_hl40_4 := c48b0; simp only [hl40_4] at c48b0_hl40_4))
                 clear c48
                 have H' := aM H
                 clear H
                 (refine cb3 BK309 ?_; intro hcz49_0 hcz49_1 hcz49_2)
                 (refine cz3 BK309 ?_; intro hfz49_0 hfz49_1 hfz49_2)
                 obtain ⟨Ao50, co50, eo50⟩ := Kd.qCA HO329.out
                 subst eo50
                 go_wp2_with (first | (go_at_call 46; (with_reducible refine (qz.calls k4 a0_0 a0_1 _ _ l0_2 _ _ x6_1 _ _ t327 t331 _ ?side1 ?side2 ?side3 ?side4 ?side5 ?side6 A46.out).mono ?_); (case side1 => repeat (first | exact (Kd.qY HR0_2.out HB.out) | (with_reducible refine Kd.qV ?_ _) | (with_reducible refine Kd.qU ?_ _) | (with_reducible refine Kd.qf ?_))); (case side2 => exact HC0_2.out); (case side3 => repeat (first | exact (Kd.qbB HO_6.out).2.2 | (with_reducible refine Kd.qV ?_ _) | (with_reducible refine Kd.qU ?_ _) | (with_reducible refine Kd.qf ?_))); (case side4 => exact (Kd.qbB HO_6.out).2.1); (case side5 => repeat (first | exact (Kd.qN HO329.out).2.2 | (with_reducible refine Kd.qV ?_ _) | (with_reducible refine Kd.qU ?_ _) | (with_reducible refine Kd.qf ?_))); (case side6 => exact (Kd.qN HO329.out).2.1); rintro e w51 ⟨rfl, hb⟩; replace HO_1 := aM (Kd.qgC (rV HO_1) hb); replace HO_6 := aM (Kd.qqB (rN HO_6) hb); replace HO_11 := aM (Kd.qqB (rN HO_11) hb); replace HO_40 := aM (Kd.qe (rR HO_40) hb); replace HL326_0 := aM (Kd.qgC (rV HL326_0) hb); replace HO329 := aM (Kd.qe (rR HO329) hb); replace BK309 := aM (bb BK309 hb); replace HR326_0 := aM (Kd.qY (by repeat (first | (with_reducible exact HR326_0.out) | (with_reducible refine Kd.qV ?_ _) | (with_reducible refine Kd.qU ?_ _) | (with_reducible refine Kd.qf ?_) | exact HR326_0.out)) hb); replace HB := aM (qB bl hb); (try clear hb); (try clear hb2); (try clear hk); (try clear hi); have p332 : 0 ≤ (t331 : Int) := of_decide_eq_true am; have q332 : t331 < (x40_4.length : Int) := of_decide_eq_true am; obtain ⟨ad332, e332, hx332_0⟩ := Kd.at_bool (Kd.qN HO_40.out).2.2 t331 p332 q332; obtain rfl : (⟨go24, 0, none⟩ : Addr) = ad332 := (by injection e332); (first | simp only [qrD] at hx332_0 | simp only [add_at] at hx332_0 | simp only [Addr.add, Nat.zero_add] at hx332_0 | skip); replace p332 := eq_true p332; replace q332 := eq_true q332))
                 go_meet
                 case rel => exact ⟨_, (rdOf false x40_4 t331), sD, H', ⟨by have := HK1.out; have := HK2.out; have := HK3.out; have := HK4.out; first | omega | exact Nat.le_refl _⟩, ⟨by (try simp only [hl40_2]); (try simp only [hl40_3]); (try simp only [hl40_4]); (with_reducible repeat (first | apply Kd.qdB | apply Kd.qcB | apply Kd.qwB)); exact Kd.qHC HO_1.out (fun _ hk => ⟨hk.1.1, ⟨hk.1.2.1, ⟨hk.1.2.2.2.1, ⟨hk.1.2.2.1, ⟨hk.2, hk.1.2.2.2.2⟩⟩⟩⟩⟩)⟩, ⟨by (try simp only [hl40_2]); (try simp only [hl40_3]); (try simp only [hl40_4]); (with_reducible repeat (first | apply Kd.qvA | apply Kd.quA | apply Kd.qKB)); exact Kd.qlB HO_6.out (fun _ hk => ⟨hk.1.1, ⟨hk.1.2.2.1, ⟨hk.1.2.1, ⟨hk.2, hk.1.2.2.2⟩⟩⟩⟩)⟩, ⟨by (try simp only [hl40_2]); (try simp only [hl40_3]); (try simp only [hl40_4]); (with_reducible repeat (first | apply Kd.qL | apply Kd.qO | apply Kd.qQ)); exact HO_40.out⟩, ⟨by (try simp only [hl40_2]); (try simp only [hl40_3]); (try simp only [hl40_4]); (with_reducible repeat (first | apply Kd.qvA | apply Kd.quA | apply Kd.qKB)); exact Kd.qlB HO_11.out (fun _ hk => ⟨hk.1.1, ⟨hk.1.2.1, ⟨hk.1.2.2.1, ⟨hk.2, hk.1.2.2.2⟩⟩⟩⟩)⟩, ⟨by (try simp only [hl40_2]); (try simp only [hl40_3]); (try simp only [hl40_4]); (with_reducible repeat (first | apply Kd.qL | apply Kd.qO | apply Kd.qQ)); exact Kd.qX HO329.out (fun _ hk => hk.1)⟩, ⟨by (try simp only [hl40_2]); (try simp only [hl40_3]); (try simp only [hl40_4]); (with_reducible repeat (first | refine qF ?_ _ | refine qD ?_ | refine qE ?_ _)); exact BK309.out⟩, ⟨by repeat (first | (with_reducible exact HR326_0.out) | (with_reducible refine Kd.qV ?_ _) | (with_reducible refine Kd.qU ?_ _) | (with_reducible refine Kd.qf ?_) | exact HR326_0.out)⟩, ⟨bl⟩⟩
                ·replace c45 := Bool.eq_false_iff.mpr c45
                 subst c45
                 replace H := iF H
                 have H' := aM H
                 clear H
                 go_wp2
                 go_meet
                 case rel => exact ⟨_, (true), sD, H', ⟨by have := HK1.out; have := HK2.out; have := HK3.out; have := HK4.out; first | omega | exact Nat.le_refl _⟩, ⟨by (try simp only [hl40_2]); (try simp only [hl40_3]); (try simp only [hl40_4]); (with_reducible repeat (first | apply Kd.qdB | apply Kd.qcB | apply Kd.qwB)); exact Kd.qHC HO_1.out (fun _ hk => ⟨hk.1.1, ⟨hk.1.2.1, ⟨hk.1.2.2.2.1, ⟨hk.1.2.2.1, ⟨hk.2, hk.1.2.2.2.2⟩⟩⟩⟩⟩)⟩, ⟨by (try simp only [hl40_2]); (try simp only [hl40_3]); (try simp only [hl40_4]); (with_reducible repeat (first | apply Kd.qvA | apply Kd.quA | apply Kd.qKB)); exact Kd.qlB HO_6.out (fun _ hk => ⟨hk.1.1, ⟨hk.1.2.2.1, ⟨hk.1.2.1, ⟨hk.2, hk.1.2.2.2⟩⟩⟩⟩)⟩, ⟨by (try simp only [hl40_2]); (try simp only [hl40_3]); (try simp only [hl40_4]); (with_reducible repeat (first | apply Kd.qL | apply Kd.qO | apply Kd.qQ)); exact HO_40.out⟩, ⟨by (try simp only [hl40_2]); (try simp only [hl40_3]); (try simp only [hl40_4]); (with_reducible repeat (first | apply Kd.qvA | apply Kd.quA | apply Kd.qKB)); exact Kd.qlB HO_11.out (fun _ hk => ⟨hk.1.1, ⟨hk.1.2.1, ⟨hk.1.2.2.1, ⟨hk.2, hk.1.2.2.2⟩⟩⟩⟩)⟩, ⟨by (try simp only [hl40_2]); (try simp only [hl40_3]); (try simp only [hl40_4]); (with_reducible repeat (first | apply Kd.qL | apply Kd.qO | apply Kd.qQ)); exact Kd.qX HO329.out (fun _ hk => hk.1)⟩, ⟨by (try simp only [hl40_2]); (try simp only [hl40_3]); (try simp only [hl40_4]); (with_reducible repeat (first | refine qF ?_ _ | refine qD ?_ | refine qE ?_ _)); exact BK309.out⟩, ⟨by repeat (first | (with_reducible exact HR326_0.out) | (with_reducible refine Kd.qV ?_ _) | (with_reducible refine Kd.qU ?_ _) | (with_reducible refine Kd.qf ?_) | exact HR326_0.out)⟩, ⟨bl⟩⟩
               case rest =>
                clear HC41; (try clear c1); (try clear c2); (try clear p2); (try clear q2); (try clear hx2); (try clear hf2); (try clear c3); (try clear c3b0); (try clear c3b1); (try clear p3); (try clear q3); (try clear hx3); (try clear c4); (try clear c6); (try clear c6b0); (try clear p6); (try clear c7); (try clear c7b0); (try clear c8); (try clear c8b0); (try clear c10); (try clear c12); (try clear c19); (try clear c19b0); (try clear c19b1); (try clear c20); (try clear c20b0); (try clear c20b1); (try clear c22); (try clear c22b0); (try clear c23); (try clear c23b0); (try clear p24); (try clear q24); (try clear hx24); (try clear hf24); (try clear p31); (try clear q31); (try clear hx31); (try clear c32); (try clear p32); (try clear q32); (try clear hx32); (try clear p33); (try clear q33); (try clear hx33); (try clear c34); (try clear c34b0); (try clear c36); (try clear c36b0); (try clear c37); (try clear c37b0); (try clear c38); (try clear c38b0); (try clear c39); (try clear c39b0); (try clear c45); (try clear c47); (try clear c47b0); (try clear c48); (try clear c48b0); (try clear hcz13_0 hcz13_1 hcz13_2 hcz13_3 hcz13_4 hcz13_5 hcz13_6 hcz13_7); (try clear hcz14_0 hcz14_1 hcz14_2); (try clear hcz18_0 hcz18_1 hcz18_2); (try clear hcz27_0 hcz27_1 hcz27_2); (try clear hcz49_0 hcz49_1 hcz49_2); (try clear hfz13_0 hfz13_1 hfz13_2 hfz13_3 hfz13_4 hfz13_5 hfz13_6 hfz13_7); (try clear hfz14_0 hfz14_1 hfz14_2); (try clear hfz18_0 hfz18_1 hfz18_2); (try clear hfz27_0 hfz27_1 hfz27_2); (try clear hfz49_0 hfz49_1 hfz49_2); (try clear hx24_0); (try clear hx310_0); (try clear hx310_1); (try clear hx310_2); (try clear hx310_3); (try clear hx310_4); (try clear hx310_5); (try clear hx310_6); (try clear hx310_7); (try clear hx326_0); (try clear hx326_1); (try clear hx326_2); (try clear hx332_0); (try clear p2); (try clear p24); (try clear p3); (try clear p31); (try clear p310); (try clear p326); (try clear p332); (try clear p6); (try clear q2); (try clear q24); (try clear q3); (try clear q31); (try clear q310); (try clear q326); (try clear q332)
                obtain ⟨kq, x87_40, rfl, HA, HJ40, HO_1, HO_6, HO_10, HO_11, HO_15, BK309, HR326_0, HB⟩ := hcut
                cases kq with
                | zero => exact absurd HA.out (by simp [qM.j4])
                | succ kj40 =>
                 have H := HA.out
                 clear HA
                 simp only [qM.j4] at H
                 by_cases c52 : x87_40 = true
                 ·subst c52
                  replace H := iT H
                  have H' := aM H
                  clear H
                  go_wp2
                  (try simp only [← hl40_4])
                  go_roundg kj40
                  case measure => have := HK1.out; have := HK2.out; have := HK3.out; have := HK4.out; have := HJ40.out; omega
                  case rel => exact ⟨(x11_4), (wrap64 (x14_4 + 1)), (x40_4), sD, H', ⟨by have := HK1.out; have := HK2.out; have := HK3.out; have := HK4.out; have := HJ40.out; omega⟩, ⟨by (try simp only [hl40_2]); (try simp only [hl40_3]); (try simp only [hl40_4]); (with_reducible repeat (first | apply Kd.qdB | apply Kd.qcB | apply Kd.qwB)); exact Kd.qHC HO_1.out (fun _ hk => ⟨hk.1, ⟨hk.2.1, ⟨hk.2.2.2.1, ⟨hk.2.2.1, hk.2.2.2.2.2⟩⟩⟩⟩)⟩, ⟨by (try simp only [hl40_2]); (try simp only [hl40_3]); (try simp only [hl40_4]); (with_reducible repeat (first | apply Kd.qvA | apply Kd.quA | apply Kd.qKB)); exact Kd.qlB HO_6.out (fun _ hk => ⟨hk.1, ⟨hk.2.2.1, ⟨hk.2.1, hk.2.2.2.2⟩⟩⟩)⟩, ⟨by (try simp only [hl40_2]); (try simp only [hl40_3]); (try simp only [hl40_4]); (with_reducible repeat (first | apply Kd.qvA | apply Kd.quA | apply Kd.qKB)); exact Kd.qlB HO_11.out (fun _ hk => ⟨hk.1, ⟨hk.2.1, ⟨hk.2.2.1, hk.2.2.2.2⟩⟩⟩)⟩, ⟨by (try simp only [hl40_2]); (try simp only [hl40_3]); (try simp only [hl40_4]); (with_reducible repeat (first | apply Kd.qL | apply Kd.qO | apply Kd.qQ)); exact HO_10.out⟩, ⟨by (try simp only [hl40_2]); (try simp only [hl40_3]); (try simp only [hl40_4]); (with_reducible repeat (first | refine qF ?_ _ | refine qD ?_ | refine qE ?_ _)); exact BK309.out⟩, ⟨bl⟩⟩
                 ·replace c52 := Bool.eq_false_iff.mpr c52
                  subst c52
                  replace H := iF H
                  by_cases c53 : (x11_4.length : Int) = 6000
                  ·rw [if_pos c53] at H
                   have c53b0 := beq_iff_eq.mpr c53
                   have c53b1 := bne_eq_false_iff_eq.mpr c53
                   clear c53
                   simp only [Option.some.injEq, Prod.mk.injEq] at H
                   obtain ⟨rfl, rfl⟩ := H
                   go_wp2
                   go_ret2
                   exact ⟨_, sR, nK, bl⟩
                  ·rw [if_neg c53] at H
                   have c53b0 := beq_eq_false_iff_ne.mpr c53
                   have c53b1 := bne_iff_ne.mpr c53
                   replace H := bO H
                   obtain ⟨t333, A54, H⟩ := H
                   by_cases c55 : 0 ≤ t333
                   case neg => exact nN c55 H
                   rw [if_pos c55] at H
                   have c55b0 := decide_eq_true c55
                   clear c55
                   by_cases c56 : t333 < (x40_4.length : Int)
                   case neg => exact nN c56 H
                   rw [if_pos c56] at H
                   have c56b0 := decide_eq_true c56
                   (try (have c56b0_hl40_2 := c56b0; simp only [hl40_2] at c56b0_hl40_2))
                   (try (have c56b0_hl40_3 := c56b0; simp only [hl40_3] at c56b0_hl40_3))
                   (try (have c56b0_hl40_4 := c56b0; simp only [hl40_4] at c56b0_hl40_4))
                   clear c56
                   obtain ⟨y334, hy334⟩ : ∃ y_ : List Bool, y_ = (x40_4.set (t333 : Int).toNat true) := ⟨_, rfl⟩
                   replace H : ((qhB.f kj40 x58_3 x14_4).bind fun t335 => (if x11_4.length < 2932031007402 then (qM.l3 kj40 l1 x6_1 (x11_4 ++ [(⟨t327, x12_2, t335⟩ : S48)]) x12_2 x58_3 (wrap64 (x14_4 + 1)) y334 (l1.length : Int) x58_3 a0_0 a0_1 l0_2) else (none))) = some (r1, r2) := by first | (rw [hy334]; with_reducible exact H) | (have H2_ := (Option.bind_some _ _).symm.trans H; rw [hy334]; with_reducible exact H2_) | (have H2_ := (Option.bind_some _ _).symm.trans H; with_reducible exact H2_) | with_reducible exact H | (rw [hy334]; exact H) | exact H
                   have Ny334 := aM hy334
                   clear hy334
                   replace H := bO H
                   obtain ⟨t335, A58, H⟩ := H
                   by_cases c59 : x11_4.length < 2932031007402
                   case neg => exact nN c59 H
                   rw [if_pos c59] at H
                   have LMc59 := aM c59
                   clear c59
                   obtain ⟨y336, hy336⟩ : ∃ y_ : List (S48), y_ = (x11_4 ++ [(⟨t327, x12_2, t335⟩ : S48)]) := ⟨_, rfl⟩
                   replace H : (qM.l3 kj40 l1 x6_1 y336 x12_2 x58_3 (wrap64 (x14_4 + 1)) y334 (l1.length : Int) x58_3 a0_0 a0_1 l0_2) = some (r1, r2) := by first | (rw [hy336]; with_reducible exact H) | (have H2_ := (Option.bind_some _ _).symm.trans H; rw [hy336]; with_reducible exact H2_) | (have H2_ := (Option.bind_some _ _).symm.trans H; with_reducible exact H2_) | with_reducible exact H | (rw [hy336]; exact H) | exact H
                   have Ny336 := aM hy336
                   clear hy336
                   have H' := aM H
                   clear H
                   (refine cb3 BK309 ?_; intro _ _ _)
                   (refine cz3 BK309 ?_; intro _ _ _)
                   obtain ⟨Ao61, co61, eo61⟩ := Kd.qCA HO_15.out
                   subst eo61
                   go_wp2_with (first | ((with_reducible refine qI (f := 46) rfl ?_); refine qu (some 95) rfl rfl Tryz.func46 (by kernel_rfl) rfl #[.agg #[.int .i64 a0_0, .int .i64 a0_1, .slice A0_2 l0_2.length c0_2], .slice Ao28 x6_1.length co28, .slice Ao61 t327.length co61] rfl gA ?_; (with_reducible refine (qz.calls kj40 a0_0 a0_1 _ _ l0_2 _ _ x6_1 _ _ t327 t333 _ ?side1 ?side2 ?side3 ?side4 ?side5 ?side6 A54.out).mono ?_); (case side1 => repeat (first | exact (Kd.qY HR0_2.out HB.out) | (with_reducible refine Kd.qV ?_ _) | (with_reducible refine Kd.qU ?_ _) | (with_reducible refine Kd.qf ?_))); (case side2 => exact HC0_2.out); (case side3 => repeat (first | exact (Kd.qbB HO_6.out).2.2 | (with_reducible refine Kd.qV ?_ _) | (with_reducible refine Kd.qU ?_ _) | (with_reducible refine Kd.qf ?_))); (case side4 => exact (Kd.qbB HO_6.out).2.1); (case side5 => repeat (first | exact (Kd.qN HO_15.out).2.2 | (with_reducible refine Kd.qV ?_ _) | (with_reducible refine Kd.qU ?_ _) | (with_reducible refine Kd.qf ?_))); (case side6 => exact (Kd.qN HO_15.out).2.1); rintro e w62 ⟨rfl, hb⟩; refine ⟨_, rfl, ?_⟩; replace HO_1 := aM (Kd.qgC (rV HO_1) hb); replace HO_6 := aM (Kd.qqB (rN HO_6) hb); replace HO_10 := aM (Kd.qe (rR HO_10) hb); replace HO_11 := aM (Kd.qqB (rN HO_11) hb); replace HO_15 := aM (Kd.qe (rR HO_15) hb); replace BK309 := aM (bb BK309 hb); replace HR326_0 := aM (Kd.qY (by repeat (first | (with_reducible exact HR326_0.out) | (with_reducible refine Kd.qV ?_ _) | (with_reducible refine Kd.qU ?_ _) | (with_reducible refine Kd.qf ?_) | exact HR326_0.out)) hb); replace HB := aM (qB bl hb); (try clear hb); (try clear hb2); (try clear hk); (try clear hi); have p57 : 0 ≤ (t333 : Int) := of_decide_eq_true am; have q57 : (t333 : Int) < ((x40_4.length : Int) : Int) := of_decide_eq_true am; obtain ⟨hx57_0, hf57_0⟩ := Kd.qPE false HO_10.out (t333 : Int) p57 q57; replace p57 := eq_true p57; replace q57 := eq_true q57; obtain ⟨hy63_, hz63_⟩ := Kd.qPE false HO_10.out (t333 : Int) (of_decide_eq_true am) (of_decide_eq_true am); have HP63 := Kd.R_putg HO_10.out (t333 : Int) true) | ((with_reducible refine qzB (t := 4) (p := 96) rfl ?_); refine qCC (t := 4) (p := 96) (v := ?vo_w64) (w1 := (w62.setCell ⟨go24, (t333 : Int).toNat, none⟩ (.bool true))) ?hg ?ho ?hn ?hr ?_; (case ho => rfl); (case hg => rfl); (case hn => rfl); (case hr => exact gS); intro w64 hw; have hg : w62.grownBy w64 (some go24) := (by rw [hw]; exact HP63.2); have hp_ : Kd.R Kd.bool 4 w64 w.heap.size (fun k_ => (w.heap.size ≤ k_)) (.slice (some ⟨go24, 0, none⟩) x40_4.length co24) y334 := (by rw [hw, Ny334.out]; exact HP63.1); clear HP63; replace HO_1 := aM (Kd.qbD (v := (.slice (some ⟨go24, 0, none⟩) x40_4.length co24)) (v1 := (.slice (some ⟨go24, 0, none⟩) x40_4.length co24)) (ok := (fun k_ => (P1_ k_ ∨ w.heap.size ≤ k_) ∧ some k_ ≠ (.slice Ao28 x6_1.length co28 : Value).ownBlock ∧ some k_ ≠ (.slice (some ad326) x11_4.length co43 : Value).ownBlock ∧ some k_ ≠ (.slice Ao61 t327.length co61 : Value).ownBlock ∧ k_ ≠ gb309)) (by (with_reducible repeat (first | apply Kd.qdB | apply Kd.qcB | apply Kd.qwB)); exact Kd.qHC HO_1.out (fun _ hk => ⟨⟨hk.1, ⟨hk.2.1, ⟨hk.2.2.2.1, ⟨hk.2.2.2.2.1, hk.2.2.2.2.2⟩⟩⟩⟩, hk.2.2.1⟩)) hg (.inl rfl)); replace HO_6 := aM (Kd.qdD (v := (.slice (some ⟨go24, 0, none⟩) x40_4.length co24)) (v1 := (.slice (some ⟨go24, 0, none⟩) x40_4.length co24)) (ok := (fun k_ => (P1_ k_ ∨ w.heap.size ≤ k_) ∧ some k_ ≠ (.slice (some ad326) x11_4.length co43 : Value).ownBlock ∧ some k_ ≠ (.slice Ao61 t327.length co61 : Value).ownBlock ∧ k_ ≠ gb309)) (by (with_reducible repeat (first | apply Kd.qvA | apply Kd.quA | apply Kd.qKB)); exact Kd.qlB HO_6.out (fun _ hk => ⟨⟨hk.1, ⟨hk.2.2.1, ⟨hk.2.2.2.1, hk.2.2.2.2⟩⟩⟩, hk.2.1⟩)) hg (.inl rfl)); replace HO_11 := aM (Kd.qdD (v := (.slice (some ⟨go24, 0, none⟩) x40_4.length co24)) (v1 := (.slice (some ⟨go24, 0, none⟩) x40_4.length co24)) (ok := (fun k_ => (P1_ k_ ∨ w.heap.size ≤ k_) ∧ some k_ ≠ (.slice Ao28 x6_1.length co28 : Value).ownBlock ∧ some k_ ≠ (.slice Ao61 t327.length co61 : Value).ownBlock ∧ k_ ≠ gb309)) (by (with_reducible repeat (first | apply Kd.qvA | apply Kd.quA | apply Kd.qKB)); exact Kd.qlB HO_11.out (fun _ hk => ⟨⟨hk.1, ⟨hk.2.1, ⟨hk.2.2.2.1, hk.2.2.2.2⟩⟩⟩, hk.2.2.1⟩)) hg (.inl rfl)); replace HO_15 := aM (Kd.qUB (v := (.slice (some ⟨go24, 0, none⟩) x40_4.length co24)) (rR HO_15) (Kd.qzA HO_10.out) (by decide) hg); replace BK309 := aM (qo (rB BK309) hg (Kd.R_ne HO_10.out BK309.out (by decide))); replace HO_10 := aM (hp_); replace HB := aM ((by rw [hw]; exact qFA (HB.out) GB24.out : Below w.heap.size w w64)); clear hg hw hp_) | ((with_reducible refine qI (f := 48) rfl ?_); refine qu (some 102) rfl rfl Tryz.func48 (by kernel_rfl) rfl #[.int .i64 x58_3, .int .i64 x14_4] rfl gA ?_; (with_reducible refine (qhB.calls kj40 x58_3 x14_4 t335 _ A58.out).mono ?_); rintro e w65 ⟨rfl, hb⟩; refine ⟨_, rfl, ?_⟩; replace HO_1 := aM (Kd.qgC (rV HO_1) hb); replace HO_6 := aM (Kd.qqB (rN HO_6) hb); replace HO_10 := aM (Kd.qe (rR HO_10) hb); replace HO_11 := aM (Kd.qqB (rN HO_11) hb); replace HO_15 := aM (Kd.qe (rR HO_15) hb); replace BK309 := aM (bb BK309 hb); replace HB := aM (qB bl hb); (try clear hb); (try clear hb2); (try clear hk); (try clear hi)) | ((with_reducible refine qCB (b := .append) (xs := #[.tmp 97, .tmp 104]) rfl ?_); at_builtin; refine Kd.N_append k48 (w0 := w) w.heap.size rfl (.tmp 97) (.tmp 104) 44 48 (.agg #[(.slice none 0 0), (.int .i64 0), (.string ⟨#[]⟩)]) 48 rfl Tryz.underlying44 info48 rfl (by decide) (by omega) (.slice (some ad326) x11_4.length co43) x11_4 (⟨t327, x12_2, t335⟩ : S48) [.slice Ao61 t327.length co61, .int .i64 x12_2, .string t335] (fun k_ => (P1_ k_ ∨ w.heap.size ≤ k_) ∧ some k_ ≠ (.slice Ao28 x6_1.length co28 : Value).ownBlock ∧ some k_ ≠ (.slice (some ⟨go24, 0, none⟩) x40_4.length co24 : Value).ownBlock ∧ k_ ≠ gb309) (fun k_ => ((fun k_ => (P1_ k_ ∨ w.heap.size ≤ k_) ∧ some k_ ≠ (.slice Ao28 x6_1.length co28 : Value).ownBlock ∧ some k_ ≠ (.slice (some ⟨go24, 0, none⟩) x40_4.length co24 : Value).ownBlock ∧ k_ ≠ gb309)) k_ ∧ some k_ ≠ (.slice (some ad326) x11_4.length co43 : Value).ownBlock) rfl rfl ?aP (fun _ hk => hk) ?aF ?aO ?aB ?aS ?aL ?_; (case aP => exact (k48_mkF _ _ (⟨t327, x12_2, t335⟩ : S48) (Kd.qN (Kd.qX (ok' := (fun k_ => ((fun k_ => (P1_ k_ ∨ w.heap.size ≤ k_) ∧ some k_ ≠ (.slice Ao28 x6_1.length co28 : Value).ownBlock ∧ some k_ ≠ (.slice (some ⟨go24, 0, none⟩) x40_4.length co24 : Value).ownBlock ∧ k_ ≠ gb309)) k_ ∧ some k_ ≠ (.slice (some ad326) x11_4.length co43 : Value).ownBlock)) (Kd.qBB (Kd.qaB (Kd.qaB (Kd.qaB (HO_15.out) (Kd.qBD HO_6.out) (by decide)) (Kd.qzA HO_10.out) (by decide)) (Kd.qBD HO_11.out) (by decide)) BK309.out (by decide)) (fun k_ hk => ⟨⟨(.inr (hk.1.1.1.1)), ⟨hk.1.1.1.2, ⟨hk.1.1.2, hk.2⟩⟩⟩, hk.1.2⟩))).2.1 (Kd.R_F (Kd.qX (ok' := (fun k_ => ((fun k_ => (P1_ k_ ∨ w.heap.size ≤ k_) ∧ some k_ ≠ (.slice Ao28 x6_1.length co28 : Value).ownBlock ∧ some k_ ≠ (.slice (some ⟨go24, 0, none⟩) x40_4.length co24 : Value).ownBlock ∧ k_ ≠ gb309)) k_ ∧ some k_ ≠ (.slice (some ad326) x11_4.length co43 : Value).ownBlock)) (Kd.qBB (Kd.qaB (Kd.qaB (Kd.qaB (HO_15.out) (Kd.qBD HO_6.out) (by decide)) (Kd.qzA HO_10.out) (by decide)) (Kd.qBD HO_11.out) (by decide)) BK309.out (by decide)) (fun k_ hk => ⟨⟨(.inr (hk.1.1.1.1)), ⟨hk.1.1.1.2, ⟨hk.1.1.2, hk.2⟩⟩⟩, hk.1.2⟩))))); (case aB => exact bl); (case aF => exact (fun k_ hk => ⟨(.inr (Nat.le_trans (qJ bl) hk)), Kd.fresh' (Kd.N_lt (rN HO_6)) k_ hk, Kd.fresh' (Kd.R_lt (rR HO_10)) k_ hk, Kd.freshB (rB BK309) k_ hk⟩)); (case aO => exact (by (with_reducible repeat (first | apply Kd.qvA | apply Kd.quA | apply Kd.qKB)); exact Kd.qlB HO_11.out (fun _ hk => ⟨hk.1.1, ⟨hk.1.2.1, ⟨hk.2, hk.1.2.2.2⟩⟩⟩))); (case aS => exact (qJ bl)); (case aL => have := LMc59.out; omega); intro v337 w66 ho hb hg hat; rw [← Ny336.out] at ho; have HO338 := aM (ho); replace HO_1 := aM (Kd.qbD (ok := (fun k_ => (P1_ k_ ∨ w.heap.size ≤ k_) ∧ some k_ ≠ (.slice Ao28 x6_1.length co28 : Value).ownBlock ∧ some k_ ≠ (.slice (some ⟨go24, 0, none⟩) x40_4.length co24 : Value).ownBlock ∧ some k_ ≠ (.slice Ao61 t327.length co61 : Value).ownBlock ∧ k_ ≠ gb309)) (by (with_reducible repeat (first | apply Kd.qdB | apply Kd.qcB | apply Kd.qwB)); exact Kd.qHC HO_1.out (fun _ hk => ⟨⟨hk.1.1, ⟨hk.1.2.1, ⟨hk.2, ⟨hk.1.2.2.2.1, hk.1.2.2.2.2⟩⟩⟩⟩, hk.1.2.2.1⟩)) hg hat); replace HO_6 := aM (Kd.qdD (ok := (fun k_ => (P1_ k_ ∨ w.heap.size ≤ k_) ∧ some k_ ≠ (.slice (some ⟨go24, 0, none⟩) x40_4.length co24 : Value).ownBlock ∧ some k_ ≠ (.slice Ao61 t327.length co61 : Value).ownBlock ∧ k_ ≠ gb309)) (by (with_reducible repeat (first | apply Kd.qvA | apply Kd.quA | apply Kd.qKB)); exact Kd.qlB HO_6.out (fun _ hk => ⟨⟨hk.1.1, ⟨hk.2, ⟨hk.1.2.2.1, hk.1.2.2.2⟩⟩⟩, hk.1.2.1⟩)) hg hat); replace HO_10 := aM (Kd.qUB (rR HO_10) (Kd.qBD (rN HO_11)) (by decide) hg); replace BK309 := aM (qo (rB BK309) hg (Kd.N_ne HO_11.out BK309.out (by decide))); replace HB := aM (hb); clear HO_11; clear HO_15; clear ho hb hg hat))
                   (try simp only [← hl40_4])
                   go_roundg kj40
                   case measure => have := HK1.out; have := HK2.out; have := HK3.out; have := HK4.out; have := HJ40.out; omega
                   case rel => exact ⟨(y336), (wrap64 (x14_4 + 1)), (y334), sD, H', ⟨by have := HK1.out; have := HK2.out; have := HK3.out; have := HK4.out; have := HJ40.out; omega⟩, ⟨by (try simp only [hl40_2]); (try simp only [hl40_3]); (try simp only [hl40_4]); (with_reducible repeat (first | apply Kd.qdB | apply Kd.qcB | apply Kd.qwB)); exact Kd.qHC HO_1.out (fun _ hk => ⟨hk.1.1, ⟨hk.1.2.1, ⟨hk.2, ⟨hk.1.2.2.1, hk.1.2.2.2.2⟩⟩⟩⟩)⟩, ⟨by (try simp only [hl40_2]); (try simp only [hl40_3]); (try simp only [hl40_4]); (with_reducible repeat (first | apply Kd.qvA | apply Kd.quA | apply Kd.qKB)); exact Kd.qlB HO_6.out (fun _ hk => ⟨hk.1.1, ⟨hk.2, ⟨hk.1.2.1, hk.1.2.2.2⟩⟩⟩)⟩, ⟨by (try simp only [hl40_2]); (try simp only [hl40_3]); (try simp only [hl40_4]); (with_reducible repeat (first | apply Kd.qvA | apply Kd.quA | apply Kd.qKB)); exact HO338.out⟩, ⟨by (try simp only [hl40_2]); (try simp only [hl40_3]); (try simp only [hl40_4]); (with_reducible repeat (first | apply Kd.qL | apply Kd.qO | apply Kd.qQ)); exact HO_10.out⟩, ⟨by (try simp only [hl40_2]); (try simp only [hl40_3]); (try simp only [hl40_4]); (with_reducible repeat (first | refine qF ?_ _ | refine qD ?_ | refine qE ?_ _)); exact BK309.out⟩, ⟨bl⟩⟩
              ·rw [if_neg c37] at H
               have c37b0 := decide_eq_false c37
               clear c37
               have H' := aM H
               clear H
               go_wp2
               (try simp only [← hl40_3, ← hl40_4])
               go_roundg k4
               case measure => have := HK1.out; have := HK2.out; have := HK3.out; have := HK4.out; omega
               case rel => exact ⟨(x11_4), (x40_4), (wrap64 (x58_3 + 1)), sD, H', ⟨by have := HK1.out; have := HK2.out; have := HK3.out; have := HK4.out; omega⟩, ⟨by (try simp only [hl40_2]); (try simp only [hl40_3]); (try simp only [hl40_4]); (with_reducible repeat (first | apply Kd.qdB | apply Kd.qcB | apply Kd.qwB)); exact HO_1.out⟩, ⟨by (try simp only [hl40_2]); (try simp only [hl40_3]); (try simp only [hl40_4]); (with_reducible repeat (first | apply Kd.qvA | apply Kd.quA | apply Kd.qKB)); exact HO_6.out⟩, ⟨by (try simp only [hl40_2]); (try simp only [hl40_3]); (try simp only [hl40_4]); (with_reducible repeat (first | apply Kd.qvA | apply Kd.quA | apply Kd.qKB)); exact HO_11.out⟩, ⟨by (try simp only [hl40_2]); (try simp only [hl40_3]); (try simp only [hl40_4]); (with_reducible repeat (first | apply Kd.qL | apply Kd.qO | apply Kd.qQ)); exact HO_40.out⟩, ⟨by (try simp only [hl40_2]); (try simp only [hl40_3]); (try simp only [hl40_4]); (with_reducible repeat (first | refine qF ?_ _ | refine qD ?_ | refine qE ?_ _)); exact BK309.out⟩, ⟨bl⟩⟩
           ·rw [if_neg c36] at H
            have c36b0 := decide_eq_false c36
            (try (have c36b0_hl40_2 := c36b0; simp only [hl40_2] at c36b0_hl40_2))
            (try (have c36b0_hl40_3 := c36b0; simp only [hl40_3] at c36b0_hl40_3))
            clear c36
            have H' := aM H
            clear H
            go_wp2
            (try simp only [← hl40_2, ← hl40_3])
            go_roundg k3
            case measure => have := HK1.out; have := HK2.out; have := HK3.out; omega
            case rel => exact ⟨(x11_3), (wrap64 (x12_2 + 1)), (x40_3), sD, H', ⟨by have := HK1.out; have := HK2.out; have := HK3.out; omega⟩, ⟨by (try simp only [hl40_2]); (try simp only [hl40_3]); (with_reducible repeat (first | apply Kd.qdB | apply Kd.qcB | apply Kd.qwB)); exact HO_1.out⟩, ⟨by (try simp only [hl40_2]); (try simp only [hl40_3]); (with_reducible repeat (first | apply Kd.qvA | apply Kd.quA | apply Kd.qKB)); exact HO_6.out⟩, ⟨by (try simp only [hl40_2]); (try simp only [hl40_3]); (with_reducible repeat (first | apply Kd.qvA | apply Kd.quA | apply Kd.qKB)); exact HO_11.out⟩, ⟨by (try simp only [hl40_2]); (try simp only [hl40_3]); (with_reducible repeat (first | apply Kd.qL | apply Kd.qO | apply Kd.qQ)); exact HO_40.out⟩, ⟨by (try simp only [hl40_2]); (try simp only [hl40_3]); (with_reducible repeat (first | refine qF ?_ _ | refine qD ?_ | refine qE ?_ _)); exact BK309.out⟩, ⟨bl⟩⟩
        ·rw [if_neg c34] at H
         have c34b0 := decide_eq_false c34
         (try (have c34b0_hl40_2 := c34b0; simp only [hl40_2] at c34b0_hl40_2))
         clear c34
         simp only [Option.some.injEq, Prod.mk.injEq] at H
         obtain ⟨rfl, rfl⟩ := H
         obtain ⟨Ao67, co67, eo67⟩ := Kd.qCD HO_11.out
         subst eo67
         go_wp2
         go_ret2
         exact ⟨_, sR, by (with_reducible repeat (first | apply Kd.qvA | apply Kd.quA | apply Kd.qKB)); exact Kd.qlB HO_11.out (fun _ hk => hk.1), bl⟩
     ·rw [if_neg c19] at H
      exact absurd H (by simp)
def qnA.l0 : Nat → ByteArray → Int → Option (Int)
 | 0, _, _ => none
 | k + 1, x0, x3 => if x3 < 4 then ((qrA.f).bind fun t341 => (if 0 ≤ x3 then (if x3 ≤ (wrap64 (x3 + 1)) then (if (wrap64 (x3 + 1)) ≤ (t341.size : Int) then (if x0.toList = (t341.extract (x3 : Int).toNat ((wrap64 (x3 + 1)) : Int).toNat).toList then (some x3) else (qnA.l0 k x0 (wrap64 (x3 + 1)))) else (none)) else (none)) else (none))) else (some (-1))
def qnA.f (k : Nat) (a0 : ByteArray) : Option (Int) := qnA.l0 k a0 0
set_option maxHeartbeats 8000000 in
set_option maxRecDepth 100000 in
theorem qnA.calls (k : Nat) (a0 : ByteArray) (r : Int) (w : World) (h : qnA.f k a0 = some r) :
  Calls Tryz.prog 68 #[.string a0] w fun e w' => e = .returned (.int .i64 r) ∧ Drawn0 w w' := by
 have H : (qnA.l0 k a0 0) = some r := h
 clear h
 have H' := aM H
 clear H
 go_enter Tryz.func68, Tryz.ntmps68
 go_wp2
 go_loopg [3] k (fun kq v3 w' => ∃ (x3_1 : Int), v3 = .int .i64 x3_1 ∧ Aside0 (qnA.l0 kq a0 x3_1 = some r) ∧ Aside0 (kq ≤ k) ∧ Drawn0 w w')
 case atStart => exact ⟨(0), sD, H', ⟨Nat.le_refl _⟩, dR⟩
 case round =>
  clear H'
  obtain ⟨x3_1, rfl, HA, HK1, ⟨m1, rfl⟩⟩ := hrel
  cases gk with
  | zero => exact absurd HA.out (by simp [qnA.l0])
  | succ k1 =>
   have H := HA.out
   clear HA
   simp only [qnA.l0] at H
   by_cases c2 : x3_1 < 4
   ·rw [if_pos c2] at H
    have c2b0 := decide_eq_true c2
    clear c2
    replace H := bO H
    obtain ⟨t341, A3, H⟩ := H
    by_cases c4 : 0 ≤ x3_1
    case neg => exact nN c4 H
    rw [if_pos c4] at H
    have c4b0 := eq_true c4
    have c4b1 := decide_eq_true c4
    clear c4
    by_cases c5 : x3_1 ≤ (wrap64 (x3_1 + 1))
    case neg => exact nN c5 H
    rw [if_pos c5] at H
    have c5b0 := eq_true c5
    have c5b1 := decide_eq_true c5
    by_cases c6 : (wrap64 (x3_1 + 1)) ≤ (t341.size : Int)
    case neg => exact nN c6 H
    rw [if_pos c6] at H
    have c6b0 := eq_true c6
    have c6b1 := decide_eq_true c6
    by_cases c7 : a0.toList = (t341.extract (x3_1 : Int).toNat ((wrap64 (x3_1 + 1)) : Int).toNat).toList
    ·rw [if_pos c7] at H
     have c7b0 := beq_iff_eq.mpr c7
     have c7b1 := bne_eq_false_iff_eq.mpr c7
     clear c7
     obtain rfl := Option.some.inj H
     go_wp2_with (first | ((with_reducible refine qI (f := 67) rfl ?_); refine qu (some 9) rfl rfl Tryz.func67 (by kernel_rfl) rfl #[] rfl gA ?_; (with_reducible refine (qrA.calls  t341 _ A3.out).mono ?_); rintro e w' ⟨rfl, ⟨nd, rfl⟩⟩; refine ⟨_, rfl, ?_⟩))
     go_ret
     exact ⟨by first | rfl | (simp; done) | (simp [*]; done), dR⟩
    ·rw [if_neg c7] at H
     have c7b0 := beq_eq_false_iff_ne.mpr c7
     have c7b1 := bne_iff_ne.mpr c7
     have H' := aM H
     clear H
     go_wp2_with (first | ((with_reducible refine qI (f := 67) rfl ?_); refine qu (some 9) rfl rfl Tryz.func67 (by kernel_rfl) rfl #[] rfl gA ?_; (with_reducible refine (qrA.calls  t341 _ A3.out).mono ?_); rintro e w' ⟨rfl, ⟨nd, rfl⟩⟩; refine ⟨_, rfl, ?_⟩))
     go_roundg k1
     case measure => have := HK1.out; omega
     case rel => exact ⟨(wrap64 (x3_1 + 1)), sD, H', ⟨by have := HK1.out; omega⟩, dR⟩
   ·rw [if_neg c2] at H
    have c2b0 := decide_eq_false c2
    clear c2
    obtain rfl := Option.some.inj H
    go_wp2
    go_ret
    exact ⟨by first | rfl | (simp; done) | (simp [*]; done), dR⟩
mutual
def qBA.j0 : Nat → ByteArray → Bool → Option (Bool)
 | 0, _, _ => none
 | k + 1, x0, x12 => if x12 = true then (some false) else (qBA.l0 k x0 0)
def qBA.l0 : Nat → ByteArray → Int → Option (Bool)
 | 0, _, _ => none
 | k + 1, x0, x3 => if x3 < (x0.size : Int) then (if 0 ≤ x3 then (if (bt x0 x3) < 48 then (some false) else (if (bt x0 x3) ≥ 51 then (some false) else (if 0 ≤ (wrap64 (x3 + 1)) then (if (wrap64 (x3 + 1)) ≤ (wrap64 (x3 + 2)) then (if (wrap64 (x3 + 2)) ≤ (x0.size : Int) then ((qnA.f k (x0.extract ((wrap64 (x3 + 1)) : Int).toNat ((wrap64 (x3 + 2)) : Int).toNat)).bind fun t342 => (if t342 < 0 then (some false) else (qBA.l0 k x0 (wrap64 (x3 + 2))))) else (none)) else (none)) else (none)))) else (none)) else (some true)
end
def qBA.f (k : Nat) (a0 : ByteArray) : Option (Bool) := if ((a0.size : Int) % 2) = 0 then (qBA.j0 k a0 (decide ((a0.size : Int) > 120))) else (qBA.j0 k a0 true)
set_option maxHeartbeats 8000000 in
set_option maxRecDepth 100000 in
theorem qBA.calls (k : Nat) (a0 : ByteArray) (r : Bool) (w : World) (h : qBA.f k a0 = some r) :
  Calls Tryz.prog 49 #[.string a0] w fun e w' => e = .returned (.bool r) ∧ Drawn0 w w' := by
 have H : (if ((a0.size : Int) % 2) = 0 then (qBA.j0 k a0 (decide ((a0.size : Int) > 120))) else (qBA.j0 k a0 true)) = some r := h
 clear h
 have HC2 := aM H
 clear H
 go_enter Tryz.func49, Tryz.ntmps49
 go_upto_region 1 with (fail)
 go_cut [12] (fun v12 wc => ∃ (kq : Nat) (x12_1 : Bool), v12 = .bool x12_1 ∧ Aside0 (qBA.j0 kq a0 x12_1 = some r) ∧ Aside0 (kq ≤ k) ∧ Drawn0 w wc)
 case first =>
  have H := HC2.out
  clear HC2
  by_cases c3 : ((a0.size : Int) % 2) = 0
  ·rw [if_pos c3] at H
   have c3b0 := beq_iff_eq.mpr c3
   have c3b1 := bne_eq_false_iff_eq.mpr c3
   clear c3
   (first | rw [c3b0] | (simp only [i64_w, i32_w]; rw [c3b0]) | skip)
   have H' := aM H
   clear H
   go_wp2
   go_meet
   case rel => exact ⟨_, (decide ((a0.size : Int) > 120)), sD, H', ⟨by first | omega | exact Nat.le_refl _⟩, dR⟩
  ·rw [if_neg c3] at H
   have c3b0 := beq_eq_false_iff_ne.mpr c3
   have c3b1 := bne_iff_ne.mpr c3
   (first | rw [c3b0] | (simp only [i64_w, i32_w]; rw [c3b0]) | skip)
   have H' := aM H
   clear H
   go_wp2
   go_meet
   case rel => exact ⟨_, (true), sD, H', ⟨by first | omega | exact Nat.le_refl _⟩, dR⟩
 case rest =>
  clear HC2; (try clear p2); (try clear c3); (try clear c3b0); (try clear c3b1)
  obtain ⟨kq, x12_1, rfl, HA, HJ1, ⟨mc1, rfl⟩⟩ := hcut
  cases kq with
  | zero => exact absurd HA.out (by simp [qBA.j0])
  | succ kj1 =>
   have H := HA.out
   clear HA
   simp only [qBA.j0] at H
   by_cases c4 : x12_1 = true
   ·subst c4
    replace H := iT H
    obtain rfl := Option.some.inj H
    go_wp2
    go_ret
    exact ⟨by first | rfl | (simp; done) | (simp [*]; done), dR⟩
   ·replace c4 := Bool.eq_false_iff.mpr c4
    subst c4
    replace H := iF H
    have H' := aM H
    clear H
    go_wp2
    go_loopg [3] kj1 (fun kq v3 w' => ∃ (x3_2 : Int), v3 = .int .i64 x3_2 ∧ Aside0 (qBA.l0 kq a0 x3_2 = some r) ∧ Aside0 (kq ≤ kj1) ∧ Drawn0 w w')
    case atStart => exact ⟨(0), sD, H', ⟨Nat.le_refl _⟩, dR⟩
    case round =>
     clear H'; (try clear c1); (try clear p2); (try clear c3); (try clear c3b0); (try clear c3b1); (try clear c4); (try clear p2)
     obtain ⟨x3_2, rfl, HA, HK2, ⟨m2, rfl⟩⟩ := hrel
     cases gk with
     | zero => exact absurd HA.out (by simp [qBA.l0])
     | succ k2 =>
      have H := HA.out
      clear HA
      simp only [qBA.l0] at H
      by_cases c5 : x3_2 < (a0.size : Int)
      ·rw [if_pos c5] at H
       have c5b0 := decide_eq_true c5
       clear c5
       by_cases c6 : 0 ≤ x3_2
       case neg => exact nN c6 H
       rw [if_pos c6] at H
       have c6b0 := decide_eq_true c6
       clear c6
       by_cases c8 : (bt a0 x3_2) < 48
       ·rw [if_pos c8] at H
        have c8b0 := decide_eq_true c8
        clear c8
        obtain rfl := Option.some.inj H
        have p7 : 0 ≤ (x3_2 : Int) := of_decide_eq_true am
        have q7 : x3_2 < (a0.size : Int) := of_decide_eq_true am
        have hx7 := bt_at a0 x3_2
        replace p7 := eq_true p7
        replace q7 := eq_true q7
        go_wp2
        go_ret
        exact ⟨by first | rfl | (simp; done) | (simp [*]; done), dR⟩
       ·rw [if_neg c8] at H
        have c8b0 := decide_eq_false c8
        clear c8
        by_cases c10 : (bt a0 x3_2) ≥ 51
        ·rw [if_pos c10] at H
         have c10b0 := decide_eq_true c10
         clear c10
         obtain rfl := Option.some.inj H
         have p7 : 0 ≤ (x3_2 : Int) := of_decide_eq_true am
         have q7 : x3_2 < (a0.size : Int) := of_decide_eq_true am
         have hx7 := bt_at a0 x3_2
         replace p7 := eq_true p7
         replace q7 := eq_true q7
         have p9 : 0 ≤ (x3_2 : Int) := of_decide_eq_true am
         have q9 : x3_2 < (a0.size : Int) := of_decide_eq_true am
         have hx9 := bt_at a0 x3_2
         replace p9 := eq_true p9
         replace q9 := eq_true q9
         go_wp2
         go_ret
         exact ⟨by first | rfl | (simp; done) | (simp [*]; done), dR⟩
        ·rw [if_neg c10] at H
         have c10b0 := decide_eq_false c10
         clear c10
         obtain ⟨ji11, hji11⟩ : ∃ j_ : Int, (wrap64 (x3_2 + 1)) = j_ := ⟨_, rfl⟩
         replace H : (if 0 ≤ (ji11) then (if (ji11) ≤ (wrap64 (x3_2 + 2)) then (if (wrap64 (x3_2 + 2)) ≤ (a0.size : Int) then ((qnA.f k2 (a0.extract ((ji11) : Int).toNat ((wrap64 (x3_2 + 2)) : Int).toNat)).bind fun t342 => (if t342 < 0 then (some false) else (qBA.l0 k2 a0 (wrap64 (x3_2 + 2))))) else (none)) else (none)) else (none)) = some r := by first | (rw [hji11] at H; exact H) | (simp only [hji11] at H ⊢; exact H)
         have hji11w : (IntKind.i64.wrap (x3_2 + 1)) = ji11 := (i64_w _).trans hji11
         by_cases c12 : 0 ≤ (ji11)
         case neg => exact nN c12 H
         rw [if_pos c12] at H
         have c12b0 := eq_true c12
         have c12b1 := decide_eq_true c12
         clear c12
         by_cases c13 : (ji11) ≤ (wrap64 (x3_2 + 2))
         case neg => exact nN c13 H
         rw [if_pos c13] at H
         have c13b0 := eq_true c13
         have c13b1 := decide_eq_true c13
         by_cases c14 : (wrap64 (x3_2 + 2)) ≤ (a0.size : Int)
         case neg => exact nN c14 H
         rw [if_pos c14] at H
         have c14b0 := eq_true c14
         have c14b1 := decide_eq_true c14
         replace H := bO H
         obtain ⟨t342, A15, H⟩ := H
         by_cases c16 : t342 < 0
         ·rw [if_pos c16] at H
          have c16b0 := decide_eq_true c16
          clear c16
          obtain rfl := Option.some.inj H
          have p7 : 0 ≤ (x3_2 : Int) := of_decide_eq_true am
          have q7 : x3_2 < (a0.size : Int) := of_decide_eq_true am
          have hx7 := bt_at a0 x3_2
          replace p7 := eq_true p7
          replace q7 := eq_true q7
          have p9 : 0 ≤ (x3_2 : Int) := of_decide_eq_true am
          have q9 : x3_2 < (a0.size : Int) := of_decide_eq_true am
          have hx9 := bt_at a0 x3_2
          replace p9 := eq_true p9
          replace q9 := eq_true q9
          go_wp2_with (first | (go_at_call 68; (with_reducible refine (qnA.calls k2 (a0.extract ((ji11) : Int).toNat ((wrap64 (x3_2 + 2)) : Int).toNat) t342 _ A15.out).mono ?_); rintro e w' ⟨rfl, ⟨nd, rfl⟩⟩))
          go_ret
          exact ⟨by first | rfl | (simp; done) | (simp only [← hji11] <;> (first | rfl | simp)) | (simp [*]; done), dR⟩
         ·rw [if_neg c16] at H
          have c16b0 := decide_eq_false c16
          clear c16
          have H' := aM H
          clear H
          have p7 : 0 ≤ (x3_2 : Int) := of_decide_eq_true am
          have q7 : x3_2 < (a0.size : Int) := of_decide_eq_true am
          have hx7 := bt_at a0 x3_2
          replace p7 := eq_true p7
          replace q7 := eq_true q7
          have p9 : 0 ≤ (x3_2 : Int) := of_decide_eq_true am
          have q9 : x3_2 < (a0.size : Int) := of_decide_eq_true am
          have hx9 := bt_at a0 x3_2
          replace p9 := eq_true p9
          replace q9 := eq_true q9
          go_wp2_with (first | (go_at_call 68; (with_reducible refine (qnA.calls k2 (a0.extract ((ji11) : Int).toNat ((wrap64 (x3_2 + 2)) : Int).toNat) t342 _ A15.out).mono ?_); rintro e w' ⟨rfl, ⟨nd, rfl⟩⟩))
          go_roundg k2
          case measure => have := HJ1.out; have := HK2.out; omega
          case rel => exact ⟨(wrap64 (x3_2 + 2)), sD, H', ⟨by have := HJ1.out; have := HK2.out; omega⟩, dR⟩
      ·rw [if_neg c5] at H
       have c5b0 := decide_eq_false c5
       clear c5
       obtain rfl := Option.some.inj H
       go_wp2
       go_ret
       exact ⟨by first | rfl | (simp; done) | (simp [*]; done), dR⟩
def qfA.l0 : Nat → List (S48) → Int → ByteArray → Option (ByteArray × Bool)
 | 0, _, _, _ => none
 | k + 1, x0, x1, x6 => if 0 ≤ x1 then (if x1 < (x0.length : Int) then (if ((qJB x0 x1).f1) ≥ 0 then (if ((qJB x0 x1).f2).size + x6.size ≤ 9223372036854775807 then (qfA.l0 k x0 ((qJB x0 x1).f1) (((qJB x0 x1).f2) ++ x6)) else (none)) else ((qBA.f k x6).bind fun t346 => (some (x6, t346)))) else (none)) else (none)
def qfA.f (k : Nat) (l0 : List (S48)) (a1 : Int) : Option (ByteArray × Bool) := qfA.l0 k l0 a1 (⟨#[]⟩ : ByteArray)
set_option maxHeartbeats 8000000 in
set_option maxRecDepth 100000 in
theorem qfA.calls (k : Nat) (A0 : Option Addr) (c0 : Nat) (l0 : List (S48)) (a1 : Int) (r1 : ByteArray) (r2 : Bool) (w : World) (hr0 : Kd.C k48 w A0 l0.length l0) (hc0 : l0.length ≤ c0) (h : qfA.f k l0 a1 = some (r1, r2)) :
  Calls Tryz.prog 22 #[.slice A0 l0.length c0, .int .i64 a1] w fun e w' => e = .returned (.tuple #[.string r1, .bool r2]) ∧ Drawn0 w w' := by
 have HR0 := aM hr0
 have HC0 := aM hc0
 clear hr0 hc0
 have H : (qfA.l0 k l0 a1 (⟨#[]⟩ : ByteArray)) = some (r1, r2) := h
 clear h
 have H' := aM H
 clear H
 go_enter Tryz.func22, Tryz.ntmps22
 go_wp2
 go_loopg [1, 6] k (fun kq v1 v6 w' => ∃ (x1_1 : Int) (x6_1 : ByteArray), v1 = .int .i64 x1_1 ∧ v6 = .string x6_1 ∧ Aside0 (qfA.l0 kq l0 x1_1 x6_1 = some (r1, r2)) ∧ Aside0 (kq ≤ k) ∧ Drawn0 w w')
 case atStart => exact ⟨(a1), ((⟨#[]⟩ : ByteArray)), sD, sD, H', ⟨Nat.le_refl _⟩, dR⟩
 case round =>
  clear H'; (try clear c2); (try clear p2)
  obtain ⟨x1_1, x6_1, rfl, rfl, HA, HK1, ⟨m1, rfl⟩⟩ := hrel
  cases gk with
  | zero => exact absurd HA.out (by simp [qfA.l0])
  | succ k1 =>
   have H := HA.out
   clear HA
   simp only [qfA.l0] at H
   by_cases c3 : 0 ≤ x1_1
   ·rw [if_pos c3] at H
    have c3b0 := decide_eq_true c3
    clear c3
    by_cases c4 : x1_1 < (l0.length : Int)
    case neg => exact nN c4 H
    rw [if_pos c4] at H
    have c4b0 := decide_eq_true c4
    clear c4
    by_cases c5 : ((qJB l0 x1_1).f1) ≥ 0
    ·rw [if_pos c5] at H
     have c5b0 := decide_eq_true c5
     clear c5
     by_cases c6 : ((qJB l0 x1_1).f2).size + x6_1.size ≤ 9223372036854775807
     case neg => exact nN c6 H
     rw [if_pos c6] at H
     have c6b0 := eq_true c6
     have c6b1 := decide_eq_true c6
     try have c6b2 : (9223372036854775807 < ((qJB l0 x1_1).f2).size + x6_1.size) = False := eq_false (Nat.not_lt.2 c6)
     have H' := aM H
     clear H
     have p343 : 0 ≤ (x1_1 : Int) := of_decide_eq_true am
     have q343 : x1_1 < (l0.length : Int) := of_decide_eq_true am
     obtain ⟨ad343, A343_0, c343_0, e343, hx343_0, hx343_1, hx343_2, hl343_0, hi343_0⟩ := qvD HR0.out x1_1 p343 q343
     cases e343
     have HR343_0 := aM hi343_0
     have HC343_0 := aM hl343_0
     clear hi343_0 hl343_0
     replace p343 := eq_true p343
     replace q343 := eq_true q343
     have p344 : 0 ≤ (x1_1 : Int) := of_decide_eq_true am
     have q344 : x1_1 < (l0.length : Int) := of_decide_eq_true am
     obtain ⟨ad344, A344_0, c344_0, e344, hx344_0, hx344_1, hx344_2, hl344_0, hi344_0⟩ := qvD HR0.out x1_1 p344 q344
     obtain rfl : ad343 = ad344 := (by injection e344)
     have HR344_0 := aM hi344_0
     have HC344_0 := aM hl344_0
     clear hi344_0 hl344_0
     replace p344 := eq_true p344
     replace q344 := eq_true q344
     have ea_ := Option.some.inj (hx343_0.symm.trans hx344_0)
     injection ea_ with ea_ en_ ec_
     subst ea_
     subst ec_
     clear en_
     have p345 : 0 ≤ (x1_1 : Int) := of_decide_eq_true am
     have q345 : x1_1 < (l0.length : Int) := of_decide_eq_true am
     obtain ⟨ad345, A345_0, c345_0, e345, hx345_0, hx345_1, hx345_2, hl345_0, hi345_0⟩ := qvD HR0.out x1_1 p345 q345
     obtain rfl : ad343 = ad345 := (by injection e345)
     have HR345_0 := aM hi345_0
     have HC345_0 := aM hl345_0
     clear hi345_0 hl345_0
     replace p345 := eq_true p345
     replace q345 := eq_true q345
     have ea_ := Option.some.inj (hx343_0.symm.trans hx345_0)
     injection ea_ with ea_ en_ ec_
     subst ea_
     subst ec_
     clear en_
     go_wp2
     go_roundg k1
     case measure => have := HK1.out; omega
     case rel => exact ⟨((qJB l0 x1_1).f1), (((qJB l0 x1_1).f2) ++ x6_1), sD, sD, H', ⟨by have := HK1.out; omega⟩, dR⟩
    ·rw [if_neg c5] at H
     have c5b0 := decide_eq_false c5
     clear c5
     replace H := bO H
     obtain ⟨t346, A7, H⟩ := H
     simp only [Option.some.injEq, Prod.mk.injEq] at H
     obtain ⟨rfl, rfl⟩ := H
     have p343 : 0 ≤ (x1_1 : Int) := of_decide_eq_true am
     have q343 : x1_1 < (l0.length : Int) := of_decide_eq_true am
     obtain ⟨ad343, A343_0, c343_0, e343, hx343_0, hx343_1, hx343_2, hl343_0, hi343_0⟩ := qvD HR0.out x1_1 p343 q343
     cases e343
     have HR343_0 := aM hi343_0
     have HC343_0 := aM hl343_0
     clear hi343_0 hl343_0
     replace p343 := eq_true p343
     replace q343 := eq_true q343
     go_wp2_with (first | ((with_reducible refine qI (f := 49) rfl ?_); refine qu (some 27) rfl rfl Tryz.func49 (by kernel_rfl) rfl #[.string x6_1] rfl gA ?_; (with_reducible refine (qBA.calls k1 x6_1 t346 _ A7.out).mono ?_); rintro e w' ⟨rfl, ⟨nd, rfl⟩⟩; refine ⟨_, rfl, ?_⟩))
     go_ret2
     exact ⟨by first | rfl | (simp; done) | (simp [*]; done), dR⟩
   ·rw [if_neg c3] at H
    exact absurd H (by simp)
end Go.Proofs.YthhiiceligjleaaGreatDoor.P
namespace Go.Proofs.YthhiiceligjleaaGreatDoor
open Go.RowKit Go.Proofs.YthhiiceligjleaaGreatDoor.P Go.Proofs.YthhiiceligjleaaGreatDoorW.PrintWords Go.Proofs.YthhiiceligjleaaGreatDoorW.PrintLast Go.Proofs.YthhiiceligjleaaGreatDoorW.PrintMore
set_option linter.unusedVariables false
set_option linter.unusedSimpArgs false
theorem rd_getNode (l : List S48) (j : Nat) (h : j < l.length) : qJB l (j : Int) = l[j] := by
 unfold qJB
 simp [h]
def findC (k : Nat) (all : List S48) (ts : List (List Int)) : List S48 → Nat → Option (ByteArray × Bool)
 | [], _ => some ((⟨#[]⟩ : ByteArray), false)
 | n :: r, i => if n.f0.length ≤ ts.length then (if atAll n.f0 ts = true then (qfA.f k all (i : Int)).bind fun bt => some (if bt.2 = true then (bt.1, true) else ((⟨#[]⟩ : ByteArray), false)) else findC k all ts r (i + 1)) else none
namespace P
def qtA.f (k : Nat) (a0_0 a0_1 : Int) (l0_2 : List Int) (l1 : List S53) (l2 : List (List Int)) : Option (ByteArray × Bool) :=
 (qM.f k a0_0 a0_1 l0_2 l1).bind fun bt => if bt.2 = true then (if l2.all (fun c => decide (c.length = 2)) = true then findC k bt.1 l2 bt.1 0 else none) else some ((⟨#[]⟩ : ByteArray), false)
set_option maxHeartbeats 4000000 in
set_option maxRecDepth 100000 in
theorem qtA.calls (k : Nat) (a0_0 : Int) (a0_1 : Int) (A0_2 : Option Addr) (c0_2 : Nat) (l0_2 : List Int) (A1 : Option Addr) (c1 : Nat) (l1 : List S53) (A2 : Option Addr) (c2 : Nat) (l2 : List (List Int)) (r1 : ByteArray) (r2 : Bool) (w : World) (hr0_2 : Kd.C (Kd.int .u8) w A0_2 l0_2.length l0_2) (hc0_2 : l0_2.length ≤ c0_2) (hr1 : Kd.C k53 w A1 l1.length l1) (hc1 : l1.length ≤ c1) (hr2 : Kd.C (Kd.slice 3 (Kd.int .i64)) w A2 l2.length l2) (hc2 : l2.length ≤ c2) (h : qtA.f k a0_0 a0_1 l0_2 l1 l2 = some (r1, r2)) :
    Calls Tryz.prog 30 #[.agg #[.int .i64 a0_0, .int .i64 a0_1, .slice A0_2 l0_2.length c0_2], .slice A1 l1.length c1, .slice A2 l2.length c2] w fun e w' => e = .returned (.tuple #[.string r1, .bool r2]) ∧ Below w.heap.size w w' := by
  have hu40 := Tryz.underlying40
  have hu48 := Tryz.underlying48
  have hu53 := Tryz.underlying53
  unfold qtA.f at h
  obtain ⟨⟨L, ok⟩, hall, h⟩ := Option.bind_eq_some_iff.mp h
  simp only at h
  have HALL := Lib.hid (fun (W : World) (hb : Below w.heap.size w W) => qM.calls k a0_0 a0_1 A0_2 c0_2 l0_2 (fun k_ => k_ < w.heap.size) A1 c1 l1 L ok W (Kd.qY hr0_2 hb) hc0_2 (Kd.V_mk hc1 (Kd.qtD (Kd.C_F k53_heap hr1) hb)) hall)
  have HR2 := Lib.hid hr2
  clear hall hr0_2 hc0_2 hr1 hc1 hr2 hc2
  cases ok with
  | false =>
    rw [if_neg (by decide)] at h
    simp only [Option.some.injEq, Prod.mk.injEq] at h
    obtain ⟨rfl, rfl⟩ := h
    go_enter Tryz.func30, Tryz.ntmps30
    go_wp2_with (first
      | ((with_reducible refine qG (N := 3) rfl ?_); go_loud (refine bE (N := 3) (cs := #[.int .i64 a0_0, .int .i64 a0_1, .slice A0_2 l0_2.length c0_2]) (t := 40) ?_; intro gb hgb w1 hbox hb; have B1 := Lib.hid hb; have z0 := (qy hbox 0).trans rfl; have z1 := (qy hbox 1).trans rfl; have z2 := (qy hbox 2).trans rfl; clear hbox hb hgb))
      | (go_at_call 20; go_loud (refine (HALL.out _ B1.out).mono ?_; rintro e w2 ⟨v0, rfl, ho, hb⟩; have B2 := Lib.hid (qB B1.out hb); clear hb ho z0 z1 z2 B1)))
    go_ret2
    exact ⟨rfl, B2.out⟩
  | true =>
    rw [if_pos rfl] at h
    by_cases hts : l2.all (fun c => decide (c.length = 2)) = true
    · rw [if_pos hts] at h
      have H2 := Lib.hid (fun (c : List Int) (hc : c ∈ l2) => of_decide_eq_true (List.all_eq_true.1 hts c hc))
      have HF := aM h
      clear h hts
      go_enter Tryz.func30, Tryz.ntmps30
      go_wp2_with (first
        | ((with_reducible refine qG (N := 3) rfl ?_); go_loud (refine bE (N := 3) (cs := #[.int .i64 a0_0, .int .i64 a0_1, .slice A0_2 l0_2.length c0_2]) (t := 40) ?_; intro gb hgb w1 hbox hb; have B1 := Lib.hid hb; have z0 := (qy hbox 0).trans rfl; have z1 := (qy hbox 1).trans rfl; have z2 := (qy hbox 2).trans rfl; clear hbox hb hgb))
        | (go_at_call 20; go_loud (refine (HALL.out _ B1.out).mono ?_; rintro e w2 ⟨v0, rfl, ho, hb⟩; obtain ⟨Ao, co, eo⟩ := Kd.qCD ho; subst eo; have HN := Lib.hid (Kd.qbB ho); have B2 := Lib.hid (qB B1.out hb); clear hb ho z0 z1 z2 B1)))
      have hn : L.length ≤ 9223372036854775807 := HN.out.2.2.2.1
      go_loopg [27] L.length (fun gg s27 wr => ∃ kk : Nat, kk ≤ L.length ∧ L.length - kk ≤ gg ∧ s27 = .int .i64 kk ∧ Aside0 (Below w2.heap.size w2 wr) ∧ Aside0 (findC k L l2 (L.drop kk) kk = some (r1, r2)))
      case atStart => exact ⟨0, Nat.zero_le _, by omega, rfl, ⟨Below.refl _ _⟩, HF⟩
      case round =>
        obtain ⟨kk, hkk, hg, rfl, BW, HA⟩ := hrel
        rename World => wr
        clear HF
        by_cases hlt : kk < L.length
        · have hltz : (kk : Int) < (L.length : Int) := by omega
          obtain ⟨ad, A0, c0, e, h0, h1, h2, hl, hi⟩ := qvD (Kd.qY HN.out.2.2 BW.out) (kk : Int) (by omega) hltz
          cases e
          simp only [rd_getNode L kk hlt, Int.toNat_natCast] at h0 h1 h2 hl hi
          have hf := HA.out
          rw [List.drop_eq_getElem_cons hlt, findC] at hf
          generalize hy : L[kk] = n at h0 h1 h2 hl hi hf
          clear hy HA
          by_cases hle : n.f0.length ≤ l2.length
          · rw [if_pos hle] at hf
            have HFF := aM hf
            have HLN := Lib.hid hle
            clear hf hle
            go_wp2
            obtain ⟨w3, hw3⟩ : ∃ w3, wr.alloc (.cells #[.slice A0 n.f0.length c0, .int .i64 n.f1, .string n.f2] 48) = w3 := ⟨_, rfl⟩
            have hbl : Below wr.heap.size wr w3 := by rw [← hw3]; exact qt (Below.refl _ _) _
            have B3 := Lib.hid (qB B2.out (qGA BW.out BW.out.size hbl))
            have BB := Lib.hid (qGA BW.out BW.out.size hbl)
            have HI := Lib.hid (Kd.qY hi hbl)
            have hn2 : n.f0.length ≤ 9223372036854775807 := hi.2.1
            (try rw [hw3])
            clear hw3 h0 h1 h2 hl hi hbl BW
            go_loopg [12, 35] n.f0.length (fun gg s12 s35 wq => ∃ (jj : Nat) (q : Bool), jj ≤ n.f0.length ∧ n.f0.length - jj ≤ gg ∧ s12 = .bool q ∧ s35 = .int .i64 jj ∧ Aside0 (Below w3.heap.size w3 wq) ∧ Aside0 ((q && atAll (n.f0.drop jj) (l2.drop jj)) = atAll n.f0 l2))
            case atStart => exact ⟨0, true, Nat.zero_le _, by omega, rfl, rfl, ⟨Below.refl _ _⟩, ⟨by rw [Bool.true_and]; rfl⟩⟩
            case round =>
             obtain ⟨jj, q, hjj, hg2, rfl, rfl, BW2, HA2⟩ := hrel
             rename World => wq
             by_cases hlt : jj < n.f0.length
             · have hltz : (jj : Int) < (n.f0.length : Int) := by omega
               have hlc : jj < l2.length := Nat.lt_of_lt_of_le hlt HLN.out
               have hlcz : (jj : Int) < (l2.length : Int) := by omega
               obtain ⟨ad, e, h0, h1, h2, h3, h4, h5, h6, h7⟩ := qDB (Kd.qY HI.out BW2.out) (jj : Int) (by omega) hltz
               cases e
               simp only [qvC n.f0 jj hlt, Int.toNat_natCast] at h0 h1 h2 h3 h4 h5 h6 h7
               have hst := HA2.out
               rw [atAll_step n.f0 l2 jj hlt hlc] at hst
               have hl2 : l2[jj].length = 2 := H2.out _ (List.getElem_mem hlc)
               generalize hy : n.f0[jj] = y at h0 h1 h2 h3 h4 h5 h6 h7 hst
               clear hy HA2
               obtain ⟨ad1, A3, c3, e1, i0, i1, i2⟩ := atII (Kd.qY (Kd.qY HR2.out B3.out) BW2.out) jj hlc
               cases e1
               generalize l2[jj] = z at hl2 i0 i1 i2 hst
               have p0 : (0 : Int) ≤ 0 := by decide
               have p1 : (0 : Int) ≤ 1 := by decide
               have q0 : (0 : Int) < (z.length : Int) := by omega
               have q1 : (1 : Int) < (z.length : Int) := by omega
               obtain ⟨ad2, e2, hx0⟩ := Kd.qgB i2 0 p0 q0
               obtain ⟨ad3, e3, hx1⟩ := Kd.qgB i2 1 p1 q1
               cases e2
               cases e3
               rw [show (0 : Int).toNat = 0 from rfl, Addr.add_zero'] at hx0
               rw [show (1 : Int).toNat = 1 from rfl] at hx1
               have hx2 : wq.cell? ⟨ad2.block, ad2.off + 1, none⟩ = some (.int .i64 (rd z 1)) := hx1
               have qi0 : (0 < z.length) = True := eq_true (by omega)
               have qi1 : (1 < z.length) = True := eq_true (by omega)
               clear i1 i2 hl2
               go_wp2
               obtain ⟨w4, hw4⟩ : ∃ w4, wq.alloc (.cells #[.int .i64 y.f0, .int .i64 y.f1, .int .i64 y.f2.f0, .int .i64 y.f2.f1, .int .i64 y.f2.f2, .int .i64 y.f2.f3, .int .i64 y.f2.f4, .int .i64 y.f2.f5] 53) = w4 := ⟨_, rfl⟩
               have hbl : Below wq.heap.size wq w4 := by rw [← hw4]; exact qt (Below.refl _ _) _
               have hbk : w4.heap[wq.heap.size]? = some (.cells #[.int .i64 y.f0, .int .i64 y.f1, .int .i64 y.f2.f0, .int .i64 y.f2.f1, .int .i64 y.f2.f2, .int .i64 y.f2.f3, .int .i64 y.f2.f4, .int .i64 y.f2.f5] 53 (0, 0)) := by rw [← hw4]; exact Array.getElem?_push_size
               have HB4 := Lib.hid (qGA BW2.out BW2.out.size hbl)
               rw [hw4]
               clear hw4
               replace i0 := qHA hbl i0
               replace hx0 := qHA hbl hx0
               replace hx2 := qHA hbl hx2
               have n0 : w4.cell? ⟨wq.heap.size, 0, none⟩ = some (.int .i64 y.f0) := (qy hbk 0).trans rfl
               have n1 : w4.cell? ⟨wq.heap.size, 1, none⟩ = some (.int .i64 y.f1) := (qy hbk 1).trans rfl
               have n2 : w4.cell? ⟨wq.heap.size, 2, none⟩ = some (.int .i64 y.f2.f0) := (qy hbk 2).trans rfl
               have n3 : w4.cell? ⟨wq.heap.size, 3, none⟩ = some (.int .i64 y.f2.f1) := (qy hbk 3).trans rfl
               have n4 : w4.cell? ⟨wq.heap.size, 4, none⟩ = some (.int .i64 y.f2.f2) := (qy hbk 4).trans rfl
               have n5 : w4.cell? ⟨wq.heap.size, 5, none⟩ = some (.int .i64 y.f2.f3) := (qy hbk 5).trans rfl
               have n6 : w4.cell? ⟨wq.heap.size, 6, none⟩ = some (.int .i64 y.f2.f4) := (qy hbk 6).trans rfl
               have n7 : w4.cell? ⟨wq.heap.size, 7, none⟩ = some (.int .i64 y.f2.f5) := (qy hbk 7).trans rfl
               clear h0 h1 h2 h3 h4 h5 h6 h7 hx1 hbl hbk BW2
               generalize wq.heap.size = gg2 at n0 n1 n2 n3 n4 n5 n6 n7 ⊢
               cases q with
               | false =>
                 have HST : Aside0 ((false && atAll (n.f0.drop (jj + 1)) (l2.drop (jj + 1))) = atAll n.f0 l2) := ⟨hst⟩
                 clear hst
                 go_quiet (fail)
                 try go_wp2
                 go_roundg (n.f0.length - (jj + 1))
                 case measure => omega
                 case rel => exact ⟨jj + 1, false, by omega, by omega, rfl, by go_num, ⟨qB HB4.out (by repeat (first | exact Below.refl _ _ | apply qMA | apply qg))⟩, HST⟩
               | true =>
                 by_cases hX : y.f0 = rd z 0
                 · by_cases hY : y.f1 = rd z 1
                   · have HST : Aside0 ((true && atAll (n.f0.drop (jj + 1)) (l2.drop (jj + 1))) = atAll n.f0 l2) := ⟨by rw [decide_eq_true hX, decide_eq_true hY] at hst; exact hst⟩
                     have bx := beq_iff_eq.mpr hX
                     have by_ := beq_iff_eq.mpr hY
                     clear hst hX hY
                     go_quiet (fail)
                     try go_wp2
                     go_roundg (n.f0.length - (jj + 1))
                     case measure => omega
                     case rel => exact ⟨jj + 1, true, by omega, by omega, rfl, by go_num, ⟨qB HB4.out (by repeat (first | exact Below.refl _ _ | apply qMA | apply qg))⟩, HST⟩
                   · have HST : Aside0 ((false && atAll (n.f0.drop (jj + 1)) (l2.drop (jj + 1))) = atAll n.f0 l2) := ⟨by rw [decide_eq_true hX, decide_eq_false hY] at hst; exact hst⟩
                     have bx := beq_iff_eq.mpr hX
                     have by_ := beq_eq_false_iff_ne.mpr hY
                     clear hst hX hY
                     go_quiet (fail)
                     try go_wp2
                     go_roundg (n.f0.length - (jj + 1))
                     case measure => omega
                     case rel => exact ⟨jj + 1, false, by omega, by omega, rfl, by go_num, ⟨qB HB4.out (by repeat (first | exact Below.refl _ _ | apply qMA | apply qg))⟩, HST⟩
                 · have HST : Aside0 ((false && atAll (n.f0.drop (jj + 1)) (l2.drop (jj + 1))) = atAll n.f0 l2) := ⟨by rw [decide_eq_false hX] at hst; exact hst⟩
                   have bx := beq_eq_false_iff_ne.mpr hX
                   clear hst hX
                   go_quiet (fail)
                   try go_wp2
                   go_roundg (n.f0.length - (jj + 1))
                   case measure => omega
                   case rel => exact ⟨jj + 1, false, by omega, by omega, rfl, by go_num, ⟨qB HB4.out (by repeat (first | exact Below.refl _ _ | apply qMA | apply qg))⟩, HST⟩
             · have hje : jj = n.f0.length := by omega
               have hst := HA2.out
               subst hje
               rw [List.drop_length, show ∀ x, atAll [] x = true from fun x => by cases x <;> rfl, Bool.and_true] at hst
               rw [← hst] at HFF
               clear HA2 hst
               cases q with
               | false =>
                 rw [if_neg (by decide)] at HFF
                 go_wp2
                 go_roundg (L.length - (kk + 1))
                 case measure => omega
                 case rel => exact ⟨kk + 1, by omega, by omega, by go_num, ⟨qGA BB.out BB.out.size BW2.out⟩, HFF⟩
               | true =>
                 rw [if_pos rfl] at HFF
                 obtain ⟨⟨wd, ok⟩, hwd, hf⟩ := Option.bind_eq_some_iff.mp HFF.out
                 have HWD := Lib.hid (fun (W : World) (hb : Below w2.heap.size w2 W) => qfA.calls k (some ad) co L (kk : Int) wd ok W (Kd.qY HN.out.2.2 hb) HN.out.2.1 hwd)
                 have BE := Lib.hid (qGA BB.out BB.out.size BW2.out)
                 have BF := Lib.hid (qB B3.out BW2.out)
                 simp only [Option.some.injEq] at hf
                 clear HFF hwd
                 cases ok with
                 | false =>
                   rw [if_neg (by decide)] at hf
                   simp only [Prod.mk.injEq] at hf
                   obtain ⟨rfl, rfl⟩ := hf
                   go_wp2_with (first | (go_at_call 22; go_loud (refine (HWD.out _ BE.out).mono ?_; rintro e w5 ⟨rfl, ⟨nd, rfl⟩⟩)))
                   go_ret2
                   exact ⟨rfl, qMA BF.out nd⟩
                 | true =>
                   rw [if_pos rfl] at hf
                   simp only [Prod.mk.injEq] at hf
                   obtain ⟨rfl, rfl⟩ := hf
                   go_wp2_with (first | (go_at_call 22; go_loud (refine (HWD.out _ BE.out).mono ?_; rintro e w5 ⟨rfl, ⟨nd, rfl⟩⟩)))
                   go_ret2
                   exact ⟨rfl, qMA BF.out nd⟩
          · rw [if_neg hle] at hf
            cases hf
        · have : kk = L.length := by omega
          subst this
          have hf := HA.out
          rw [List.drop_length, findC] at hf
          simp only [Option.some.injEq, Prod.mk.injEq] at hf
          obtain ⟨rfl, rfl⟩ := hf
          clear HA
          go_wp2
          go_ret2
          exact ⟨rfl, qB B2.out BW.out⟩
    · rw [if_neg hts] at h
      cases h
end P
end Go.Proofs.YthhiiceligjleaaGreatDoor
namespace Go.Proofs.YthhiiceligjleaaGreatDoor.P
open Go.RowKit Go.Proofs.YthhiiceligjleaaGreatDoorW.PrintWords Go.Proofs.YthhiiceligjleaaGreatDoorW.PrintLast Go.Proofs.YthhiiceligjleaaGreatDoorW.PrintMore
attribute [local go_sem] qk qi qx qw qc qb qj qh
set_option linter.unusedVariables false
set_option linter.unusedSimpArgs false
def qNA.f (k : Nat) (a0 : ByteArray) (l1 : List (S53)) : Option (ByteArray × Bool) := (qJA.f k a0 l1).bind fun bt517 => (if bt517.2.2.2 = true then (if (l1.length : Int) = 2 then (if 1 < (l1.length : Int) then (if 0 < (l1.length : Int) then ((qtA.f k bt517.1 bt517.2.1 bt517.2.2.1 l1 (([(([(qA l1 1).f0, (qA l1 1).f1] : List Int)), (([(qA l1 0).f0, (qA l1 0).f1] : List Int))] : List (List Int)))).bind fun bt537 => (some (bt537.1, bt537.2))) else (none)) else (none)) else (some ((⟨#[]⟩ : ByteArray), false))) else (some ((⟨#[]⟩ : ByteArray), false)))
def qNA.T4 : Bool × List (List Nat × List Nat) := (true, [([], []), ([], []), ([], []), ([2], [2]), ([3], [3]), ([4], [4]), ([], []), ([6], [6]), ([7], [7]), ([8], [8]), ([5, 9], [5, 9]), ([], []), ([11], [11]), ([12], [12]), ([13], [13]), ([], []), ([15], [15]), ([16], [16]), ([17], [17]), ([14, 18], [14, 18]), ([10, 19], [10, 19]), ([0, 1, 20], [0, 1, 20]), ([21], [21]), ([21], [21]), ([22, 21, 0, 1, 2, 3, 4, 5, 6, 7, 8, 9, 10, 11, 12, 13, 14, 15, 16, 17, 18, 19, 20, 21, 22, 23], [22]), ([23, 24, 0, 1, 2, 3, 4, 5, 6, 7, 8, 9, 10, 11, 12, 13, 14, 15, 16, 17, 18, 19, 20, 21, 22, 23, 24], [23])])
def qNA.B4 : List Nat := [0, 0, 0, 4, 12, 28, 0, 64, 192, 448, 1020, 0, 2048, 6144, 14336, 0, 32768, 98304, 229376, 522240, 1048572, 2097151, 4194303, 4194303, 16777215, 33554431]
theorem qNA.tab4 : rtab .any (opsOf Tryz.f11 4) = qNA.T4 := by kernel_rfl
theorem qNA.bits4 : waitsOk qNA.T4.2 qNA.B4 = true := by kernel_rfl
set_option maxHeartbeats 8000000 in
set_option maxRecDepth 100000 in
theorem qNA.calls (k : Nat) (a0 : ByteArray) (A1 : Option Addr) (c1 : Nat) (l1 : List (S53)) (r1 : ByteArray) (r2 : Bool) (w : World) (hr1 : Kd.C k53 w A1 l1.length l1) (hc1 : l1.length ≤ c1) (h : qNA.f k a0 l1 = some (r1, r2)) :
  Calls Tryz.prog 11 #[.string a0, .slice A1 l1.length c1] w fun e w' => e = .returned (.tuple #[.string r1, .bool r2]) ∧ Below w.heap.size w w' := by
 have hu40 := Tryz.underlying40
 have HR1 := aM hr1
 have HC1 := aM hc1
 clear hr1 hc1
 have HB := aM (Below.refl w.heap.size w)
 have H : ((qJA.f k a0 l1).bind fun bt517 => (if bt517.2.2.2 = true then (if (l1.length : Int) = 2 then (if 1 < (l1.length : Int) then (if 0 < (l1.length : Int) then ((qtA.f k bt517.1 bt517.2.1 bt517.2.2.1 l1 (([(([(qA l1 1).f0, (qA l1 1).f1] : List Int)), (([(qA l1 0).f0, (qA l1 0).f1] : List Int))] : List (List Int)))).bind fun bt537 => (some (bt537.1, bt537.2))) else (none)) else (none)) else (some ((⟨#[]⟩ : ByteArray), false))) else (some ((⟨#[]⟩ : ByteArray), false)))) = some (r1, r2) := h
 clear h
 replace H := bO H
 obtain ⟨⟨t517, t518, t519, t522⟩, A3, H⟩ := H
 dsimp only at H A3
 by_cases c4 : t522 = true
 ·subst c4
  replace H := iT H
  by_cases c5 : (l1.length : Int) = 2
  ·rw [if_pos c5] at H
   have c5b0 := beq_iff_eq.mpr c5
   have c5b1 := bne_eq_false_iff_eq.mpr c5
   clear c5
   by_cases c6 : 1 < (l1.length : Int)
   case neg => exact nN c6 H
   rw [if_pos c6] at H
   have c6b0 := decide_eq_true c6
   have c6b1 : decide (1 < l1.length) = true := decide_eq_true (by omega)
   clear c6
   obtain ⟨y526, hy526⟩ : ∃ y_ : List Int, y_ = (([(qA l1 1).f0, (qA l1 1).f1] : List Int)) := ⟨_, rfl⟩
   replace H : (if 0 < (l1.length : Int) then ((qtA.f k t517 t518 t519 l1 (([y526, (([(qA l1 0).f0, (qA l1 0).f1] : List Int))] : List (List Int)))).bind fun bt537 => (some (bt537.1, bt537.2))) else (none)) = some (r1, r2) := by first | (rw [hy526]; with_reducible exact H) | (have H2_ := (Option.bind_some _ _).symm.trans H; rw [hy526]; with_reducible exact H2_) | (have H2_ := (Option.bind_some _ _).symm.trans H; with_reducible exact H2_) | with_reducible exact H | (rw [hy526]; exact H) | exact H
   have Ny526 := aM hy526
   clear hy526
   by_cases c7 : 0 < (l1.length : Int)
   case neg => exact nN c7 H
   rw [if_pos c7] at H
   have c7b0 := decide_eq_true c7
   have c7b1 : decide (0 < l1.length) = true := decide_eq_true (by omega)
   clear c7
   obtain ⟨y531, hy531⟩ : ∃ y_ : List Int, y_ = (([(qA l1 0).f0, (qA l1 0).f1] : List Int)) := ⟨_, rfl⟩
   replace H : ((qtA.f k t517 t518 t519 l1 (([y526, y531] : List (List Int)))).bind fun bt537 => (some (bt537.1, bt537.2))) = some (r1, r2) := by first | (rw [hy531]; with_reducible exact H) | (have H2_ := (Option.bind_some _ _).symm.trans H; rw [hy531]; with_reducible exact H2_) | (have H2_ := (Option.bind_some _ _).symm.trans H; with_reducible exact H2_) | with_reducible exact H | (rw [hy531]; exact H) | exact H
   have Ny531 := aM hy531
   clear hy531
   obtain ⟨y534, hy534⟩ : ∃ y_ : List (List Int), y_ = (([y526, y531] : List (List Int))) := ⟨_, rfl⟩
   replace H : ((qtA.f k t517 t518 t519 l1 y534).bind fun bt537 => (some (bt537.1, bt537.2))) = some (r1, r2) := by first | (rw [hy534]; with_reducible exact H) | (have H2_ := (Option.bind_some _ _).symm.trans H; rw [hy534]; with_reducible exact H2_) | (have H2_ := (Option.bind_some _ _).symm.trans H; with_reducible exact H2_) | with_reducible exact H | (rw [hy534]; exact H) | exact H
   have Ny534 := aM hy534
   clear hy534
   replace H := bO H
   obtain ⟨⟨t537, t538⟩, A8, H⟩ := H
   dsimp only at H A8
   simp only [Option.some.injEq, Prod.mk.injEq] at H
   obtain ⟨rfl, rfl⟩ := H
   go_enter Tryz.func11, Tryz.ntmps11
   try go_wp2_with (first | ((with_reducible refine qI (f := 18) rfl ?_); refine qu (some 11) rfl rfl Tryz.func18 (by kernel_rfl) rfl #[.string a0, .slice A1 l1.length c1] rfl gA ?_; (with_reducible refine (qJA.calls k a0 _ _ l1 t517 t518 t519 true _ ?side1 ?side2 A3.out).mono ?_); (case side1 => repeat (first | exact HR1.out | (with_reducible refine Kd.qV ?_ _) | (with_reducible refine Kd.qU ?_ _) | (with_reducible refine Kd.qf ?_))); (case side2 => exact HC1.out); rintro e w9 ⟨v520, rfl, ho0, hb⟩; refine ⟨_, rfl, ?_⟩; have HO521 := aM (Kd.qAA ho0 (qJ bl)); replace HB := aM (qB bl hb); (try clear hb); (try clear hb2); (try clear hk); (try clear hi); (try clear ho0)) | ((with_reducible refine qG (N := 6) rfl ?_); (try (refine qtB (by rfl) ?_; dsimp only)); refine bE (N := 6) (cs := #[.int .i64 0, .int .i64 0, .slice none 0 0]) (t := 40) ?_; intro gb523 hg w10 hbox hb; have BK523 := aM (hbox); have GW523 := aM ((gg hg)); have GE523 := aM ((gg hg)); replace HO521 := aM (Kd.qe (rR HO521) hb); replace HB := aM (qB bl hb); clear hb hbox hg; (refine cb3 BK523 ?_; intro _ _ _); (refine cz3 BK523 ?_; intro _ _ _); obtain ⟨Ao12, co12, eo12⟩ := Kd.qCA HO521.out; subst eo12))
   have n0_ : Aside0 (Kd.R (Kd.int .u8) 5 (((w10.setCell ⟨gb523, 0, none⟩ (.int .i64 t517)).setCell ⟨gb523, 1, none⟩ (.int .i64 t518)).setCell ⟨gb523, 2, none⟩ (.slice Ao12 t519.length co12)) w.heap.size (fun _ => True) (.slice Ao12 t519.length co12) t519) := ⟨by (with_reducible repeat (first | apply Kd.qL | apply Kd.qO | apply Kd.qQ)); exact Kd.qX (Kd.R_far (p := ⟨gb523, 2, none⟩) (Kd.R_far (p := ⟨gb523, 1, none⟩) (Kd.R_far (p := ⟨gb523, 0, none⟩) (Kd.qBB HO521.out BK523.out (by decide)) (fun _ hk => hk.2) (.int .i64 t517)) (fun _ hk => hk.2) (.int .i64 t518)) (fun _ hk => hk.2) (.slice Ao12 t519.length co12)) (fun _ hk => trivial)⟩
   have n1_ : Aside0 ((((w10.setCell ⟨gb523, 0, none⟩ (.int .i64 t517)).setCell ⟨gb523, 1, none⟩ (.int .i64 t518)).setCell ⟨gb523, 2, none⟩ (.slice Ao12 t519.length co12)).heap[gb523]? = some (.cells #[.int .i64 t517, .int .i64 t518, .slice Ao12 t519.length co12] 40 (0, 0))) := ⟨by (with_reducible repeat (first | refine qF ?_ _ | refine qD ?_ | refine qE ?_ _)); exact bP3 BK523⟩
   have n2_ : Aside0 (Below w.heap.size w (((w10.setCell ⟨gb523, 0, none⟩ (.int .i64 t517)).setCell ⟨gb523, 1, none⟩ (.int .i64 t518)).setCell ⟨gb523, 2, none⟩ (.slice Ao12 t519.length co12))) := ⟨bl⟩
   (try clear HO521); (try clear BK523); (try clear HB)
   generalize (((w10.setCell ⟨gb523, 0, none⟩ (.int .i64 t517)).setCell ⟨gb523, 1, none⟩ (.int .i64 t518)).setCell ⟨gb523, 2, none⟩ (.slice Ao12 t519.length co12)) = w13 at n0_ n1_ n2_ ⊢
   have HO521 := n0_
   have BK523 := n1_
   have HB := n2_
   clear n0_ n1_ n2_
   replace HO521 := aM (Kd.qQ HO521.out)
   replace BK523 := aM (qD BK523.out)
   replace HB := aM (qg HB.out)
   have p524 : 0 ≤ (1 : Int) := (by omega)
   have q524 : 1 < (l1.length : Int) := of_decide_eq_true am
   obtain ⟨ad524, e524, hx524_0, hx524_1, hx524_2, hx524_3, hx524_4, hx524_5, hx524_6, hx524_7⟩ := qDB HR1.out 1 p524 q524
   have hw524_7 := hx524_7
   (try rw [show ((1 : Int)).toNat = 1 from rfl] at hw524_7)
   (try rw [show 1 * 8 = 8 from rfl] at hw524_7)
   (try simp only [Nat.reduceMul, Nat.reduceEqDiff, Go.Addr.add, ↓reduceIte] at hw524_7)
   have hw524_6 := hx524_6
   (try rw [show ((1 : Int)).toNat = 1 from rfl] at hw524_6)
   (try rw [show 1 * 8 = 8 from rfl] at hw524_6)
   (try simp only [Nat.reduceMul, Nat.reduceEqDiff, Go.Addr.add, ↓reduceIte] at hw524_6)
   have hw524_5 := hx524_5
   (try rw [show ((1 : Int)).toNat = 1 from rfl] at hw524_5)
   (try rw [show 1 * 8 = 8 from rfl] at hw524_5)
   (try simp only [Nat.reduceMul, Nat.reduceEqDiff, Go.Addr.add, ↓reduceIte] at hw524_5)
   have hw524_4 := hx524_4
   (try rw [show ((1 : Int)).toNat = 1 from rfl] at hw524_4)
   (try rw [show 1 * 8 = 8 from rfl] at hw524_4)
   (try simp only [Nat.reduceMul, Nat.reduceEqDiff, Go.Addr.add, ↓reduceIte] at hw524_4)
   have hw524_3 := hx524_3
   (try rw [show ((1 : Int)).toNat = 1 from rfl] at hw524_3)
   (try rw [show 1 * 8 = 8 from rfl] at hw524_3)
   (try simp only [Nat.reduceMul, Nat.reduceEqDiff, Go.Addr.add, ↓reduceIte] at hw524_3)
   have hw524_2 := hx524_2
   (try rw [show ((1 : Int)).toNat = 1 from rfl] at hw524_2)
   (try rw [show 1 * 8 = 8 from rfl] at hw524_2)
   (try simp only [Nat.reduceMul, Nat.reduceEqDiff, Go.Addr.add, ↓reduceIte] at hw524_2)
   have hw524_1 := hx524_1
   (try rw [show ((1 : Int)).toNat = 1 from rfl] at hw524_1)
   (try rw [show 1 * 8 = 8 from rfl] at hw524_1)
   (try simp only [Nat.reduceMul, Nat.reduceEqDiff, Go.Addr.add, ↓reduceIte] at hw524_1)
   have hw524_0 := hx524_0
   (try rw [show ((1 : Int)).toNat = 1 from rfl] at hw524_0)
   (try rw [show 1 * 8 = 8 from rfl] at hw524_0)
   (try simp only [Nat.reduceMul, Nat.reduceEqDiff, Go.Addr.add, ↓reduceIte] at hw524_0)
   cases e524
   (try simp only [show (1 : Int).toNat = 1 from rfl, Nat.reduceMul, Nat.reduceEqDiff, Go.Addr.add, ↓reduceIte] at hx524_0)
   (try simp only [show (1 : Int).toNat = 1 from rfl, Nat.reduceMul, Nat.reduceEqDiff, Go.Addr.add, ↓reduceIte] at hx524_1)
   (try simp only [show (1 : Int).toNat = 1 from rfl, Nat.reduceMul, Nat.reduceEqDiff, Go.Addr.add, ↓reduceIte] at hx524_2)
   (try simp only [show (1 : Int).toNat = 1 from rfl, Nat.reduceMul, Nat.reduceEqDiff, Go.Addr.add, ↓reduceIte] at hx524_3)
   (try simp only [show (1 : Int).toNat = 1 from rfl, Nat.reduceMul, Nat.reduceEqDiff, Go.Addr.add, ↓reduceIte] at hx524_4)
   (try simp only [show (1 : Int).toNat = 1 from rfl, Nat.reduceMul, Nat.reduceEqDiff, Go.Addr.add, ↓reduceIte] at hx524_5)
   (try simp only [show (1 : Int).toNat = 1 from rfl, Nat.reduceMul, Nat.reduceEqDiff, Go.Addr.add, ↓reduceIte] at hx524_6)
   (try simp only [show (1 : Int).toNat = 1 from rfl, Nat.reduceMul, Nat.reduceEqDiff, Go.Addr.add, ↓reduceIte] at hx524_7)
   have qi524 : (1 < l1.length) = True := eq_true (by omega)
   (try rw [show ((1 : Int)).toNat = 1 from rfl] at hx524_0)
   (try rw [show 1 * 8 = 8 from rfl] at hx524_0)
   (try rw [show ((1 : Int)).toNat = 1 from rfl] at hx524_1)
   (try rw [show 1 * 8 = 8 from rfl] at hx524_1)
   (try rw [show ((1 : Int)).toNat = 1 from rfl] at hx524_2)
   (try rw [show 1 * 8 = 8 from rfl] at hx524_2)
   (try rw [show ((1 : Int)).toNat = 1 from rfl] at hx524_3)
   (try rw [show 1 * 8 = 8 from rfl] at hx524_3)
   (try rw [show ((1 : Int)).toNat = 1 from rfl] at hx524_4)
   (try rw [show 1 * 8 = 8 from rfl] at hx524_4)
   (try rw [show ((1 : Int)).toNat = 1 from rfl] at hx524_5)
   (try rw [show 1 * 8 = 8 from rfl] at hx524_5)
   (try rw [show ((1 : Int)).toNat = 1 from rfl] at hx524_6)
   (try rw [show 1 * 8 = 8 from rfl] at hx524_6)
   (try rw [show ((1 : Int)).toNat = 1 from rfl] at hx524_7)
   (try rw [show 1 * 8 = 8 from rfl] at hx524_7)
   replace hx524_0 := hB HB hx524_0
   replace hx524_1 := hB HB hx524_1
   replace hx524_2 := hB HB hx524_2
   replace hx524_3 := hB HB hx524_3
   replace hx524_4 := hB HB hx524_4
   replace hx524_5 := hB HB hx524_5
   replace hx524_6 := hB HB hx524_6
   replace hx524_7 := hB HB hx524_7
   replace p524 := eq_true p524
   replace q524 := eq_true q524
   have p525 : 0 ≤ (1 : Int) := (by omega)
   have q525 : 1 < (l1.length : Int) := of_decide_eq_true am
   obtain ⟨ad525, e525, hx525_0, hx525_1, hx525_2, hx525_3, hx525_4, hx525_5, hx525_6, hx525_7⟩ := qDB HR1.out 1 p525 q525
   have hw525_7 := hx525_7
   (try rw [show ((1 : Int)).toNat = 1 from rfl] at hw525_7)
   (try rw [show 1 * 8 = 8 from rfl] at hw525_7)
   (try simp only [Nat.reduceMul, Nat.reduceEqDiff, Go.Addr.add, ↓reduceIte] at hw525_7)
   have hw525_6 := hx525_6
   (try rw [show ((1 : Int)).toNat = 1 from rfl] at hw525_6)
   (try rw [show 1 * 8 = 8 from rfl] at hw525_6)
   (try simp only [Nat.reduceMul, Nat.reduceEqDiff, Go.Addr.add, ↓reduceIte] at hw525_6)
   have hw525_5 := hx525_5
   (try rw [show ((1 : Int)).toNat = 1 from rfl] at hw525_5)
   (try rw [show 1 * 8 = 8 from rfl] at hw525_5)
   (try simp only [Nat.reduceMul, Nat.reduceEqDiff, Go.Addr.add, ↓reduceIte] at hw525_5)
   have hw525_4 := hx525_4
   (try rw [show ((1 : Int)).toNat = 1 from rfl] at hw525_4)
   (try rw [show 1 * 8 = 8 from rfl] at hw525_4)
   (try simp only [Nat.reduceMul, Nat.reduceEqDiff, Go.Addr.add, ↓reduceIte] at hw525_4)
   have hw525_3 := hx525_3
   (try rw [show ((1 : Int)).toNat = 1 from rfl] at hw525_3)
   (try rw [show 1 * 8 = 8 from rfl] at hw525_3)
   (try simp only [Nat.reduceMul, Nat.reduceEqDiff, Go.Addr.add, ↓reduceIte] at hw525_3)
   have hw525_2 := hx525_2
   (try rw [show ((1 : Int)).toNat = 1 from rfl] at hw525_2)
   (try rw [show 1 * 8 = 8 from rfl] at hw525_2)
   (try simp only [Nat.reduceMul, Nat.reduceEqDiff, Go.Addr.add, ↓reduceIte] at hw525_2)
   have hw525_1 := hx525_1
   (try rw [show ((1 : Int)).toNat = 1 from rfl] at hw525_1)
   (try rw [show 1 * 8 = 8 from rfl] at hw525_1)
   (try simp only [Nat.reduceMul, Nat.reduceEqDiff, Go.Addr.add, ↓reduceIte] at hw525_1)
   have hw525_0 := hx525_0
   (try rw [show ((1 : Int)).toNat = 1 from rfl] at hw525_0)
   (try rw [show 1 * 8 = 8 from rfl] at hw525_0)
   (try simp only [Nat.reduceMul, Nat.reduceEqDiff, Go.Addr.add, ↓reduceIte] at hw525_0)
   obtain rfl : ad524 = ad525 := (by injection e525)
   (try simp only [show (1 : Int).toNat = 1 from rfl, Nat.reduceMul, Nat.reduceEqDiff, Go.Addr.add, ↓reduceIte] at hx525_0)
   (try simp only [show (1 : Int).toNat = 1 from rfl, Nat.reduceMul, Nat.reduceEqDiff, Go.Addr.add, ↓reduceIte] at hx525_1)
   (try simp only [show (1 : Int).toNat = 1 from rfl, Nat.reduceMul, Nat.reduceEqDiff, Go.Addr.add, ↓reduceIte] at hx525_2)
   (try simp only [show (1 : Int).toNat = 1 from rfl, Nat.reduceMul, Nat.reduceEqDiff, Go.Addr.add, ↓reduceIte] at hx525_3)
   (try simp only [show (1 : Int).toNat = 1 from rfl, Nat.reduceMul, Nat.reduceEqDiff, Go.Addr.add, ↓reduceIte] at hx525_4)
   (try simp only [show (1 : Int).toNat = 1 from rfl, Nat.reduceMul, Nat.reduceEqDiff, Go.Addr.add, ↓reduceIte] at hx525_5)
   (try simp only [show (1 : Int).toNat = 1 from rfl, Nat.reduceMul, Nat.reduceEqDiff, Go.Addr.add, ↓reduceIte] at hx525_6)
   (try simp only [show (1 : Int).toNat = 1 from rfl, Nat.reduceMul, Nat.reduceEqDiff, Go.Addr.add, ↓reduceIte] at hx525_7)
   have qi525 : (1 < l1.length) = True := eq_true (by omega)
   (try rw [show ((1 : Int)).toNat = 1 from rfl] at hx525_0)
   (try rw [show 1 * 8 = 8 from rfl] at hx525_0)
   (try rw [show ((1 : Int)).toNat = 1 from rfl] at hx525_1)
   (try rw [show 1 * 8 = 8 from rfl] at hx525_1)
   (try rw [show ((1 : Int)).toNat = 1 from rfl] at hx525_2)
   (try rw [show 1 * 8 = 8 from rfl] at hx525_2)
   (try rw [show ((1 : Int)).toNat = 1 from rfl] at hx525_3)
   (try rw [show 1 * 8 = 8 from rfl] at hx525_3)
   (try rw [show ((1 : Int)).toNat = 1 from rfl] at hx525_4)
   (try rw [show 1 * 8 = 8 from rfl] at hx525_4)
   (try rw [show ((1 : Int)).toNat = 1 from rfl] at hx525_5)
   (try rw [show 1 * 8 = 8 from rfl] at hx525_5)
   (try rw [show ((1 : Int)).toNat = 1 from rfl] at hx525_6)
   (try rw [show 1 * 8 = 8 from rfl] at hx525_6)
   (try rw [show ((1 : Int)).toNat = 1 from rfl] at hx525_7)
   (try rw [show 1 * 8 = 8 from rfl] at hx525_7)
   replace hx525_0 := hB HB hx525_0
   replace hx525_1 := hB HB hx525_1
   replace hx525_2 := hB HB hx525_2
   replace hx525_3 := hB HB hx525_3
   replace hx525_4 := hB HB hx525_4
   replace hx525_5 := hB HB hx525_5
   replace hx525_6 := hB HB hx525_6
   replace hx525_7 := hB HB hx525_7
   replace p525 := eq_true p525
   replace q525 := eq_true q525
   have p529 : 0 ≤ (0 : Int) := (by omega)
   have q529 : 0 < (l1.length : Int) := of_decide_eq_true am
   obtain ⟨ad529, e529, hx529_0, hx529_1, hx529_2, hx529_3, hx529_4, hx529_5, hx529_6, hx529_7⟩ := qDB HR1.out 0 p529 q529
   have hw529_7 := hx529_7
   (try rw [show ((0 : Int)).toNat = 0 from rfl] at hw529_7)
   (try rw [show 0 * 8 = 0 from rfl] at hw529_7)
   (try rw [Addr.add_zero'] at hw529_7)
   have hw529_6 := hx529_6
   (try rw [show ((0 : Int)).toNat = 0 from rfl] at hw529_6)
   (try rw [show 0 * 8 = 0 from rfl] at hw529_6)
   (try rw [Addr.add_zero'] at hw529_6)
   have hw529_5 := hx529_5
   (try rw [show ((0 : Int)).toNat = 0 from rfl] at hw529_5)
   (try rw [show 0 * 8 = 0 from rfl] at hw529_5)
   (try rw [Addr.add_zero'] at hw529_5)
   have hw529_4 := hx529_4
   (try rw [show ((0 : Int)).toNat = 0 from rfl] at hw529_4)
   (try rw [show 0 * 8 = 0 from rfl] at hw529_4)
   (try rw [Addr.add_zero'] at hw529_4)
   have hw529_3 := hx529_3
   (try rw [show ((0 : Int)).toNat = 0 from rfl] at hw529_3)
   (try rw [show 0 * 8 = 0 from rfl] at hw529_3)
   (try rw [Addr.add_zero'] at hw529_3)
   have hw529_2 := hx529_2
   (try rw [show ((0 : Int)).toNat = 0 from rfl] at hw529_2)
   (try rw [show 0 * 8 = 0 from rfl] at hw529_2)
   (try rw [Addr.add_zero'] at hw529_2)
   have hw529_1 := hx529_1
   (try rw [show ((0 : Int)).toNat = 0 from rfl] at hw529_1)
   (try rw [show 0 * 8 = 0 from rfl] at hw529_1)
   (try rw [Addr.add_zero'] at hw529_1)
   have hw529_0 := hx529_0
   (try rw [show ((0 : Int)).toNat = 0 from rfl] at hw529_0)
   (try rw [show 0 * 8 = 0 from rfl] at hw529_0)
   (try rw [Addr.add_zero'] at hw529_0)
   obtain rfl : ad524 = ad529 := (by injection e529)
   have qi529 : (0 < l1.length) = True := eq_true (by omega)
   (try rw [show ((0 : Int)).toNat = 0 from rfl] at hx529_0)
   (try rw [show 0 * 8 = 0 from rfl] at hx529_0)
   (try rw [Addr.add_zero'] at hx529_0)
   (try rw [show ((0 : Int)).toNat = 0 from rfl] at hx529_1)
   (try rw [show 0 * 8 = 0 from rfl] at hx529_1)
   (try rw [Addr.add_zero'] at hx529_1)
   (try rw [show ((0 : Int)).toNat = 0 from rfl] at hx529_2)
   (try rw [show 0 * 8 = 0 from rfl] at hx529_2)
   (try rw [Addr.add_zero'] at hx529_2)
   (try rw [show ((0 : Int)).toNat = 0 from rfl] at hx529_3)
   (try rw [show 0 * 8 = 0 from rfl] at hx529_3)
   (try rw [Addr.add_zero'] at hx529_3)
   (try rw [show ((0 : Int)).toNat = 0 from rfl] at hx529_4)
   (try rw [show 0 * 8 = 0 from rfl] at hx529_4)
   (try rw [Addr.add_zero'] at hx529_4)
   (try rw [show ((0 : Int)).toNat = 0 from rfl] at hx529_5)
   (try rw [show 0 * 8 = 0 from rfl] at hx529_5)
   (try rw [Addr.add_zero'] at hx529_5)
   (try rw [show ((0 : Int)).toNat = 0 from rfl] at hx529_6)
   (try rw [show 0 * 8 = 0 from rfl] at hx529_6)
   (try rw [Addr.add_zero'] at hx529_6)
   (try rw [show ((0 : Int)).toNat = 0 from rfl] at hx529_7)
   (try rw [show 0 * 8 = 0 from rfl] at hx529_7)
   (try rw [Addr.add_zero'] at hx529_7)
   replace hx529_0 := hB HB hx529_0
   replace hx529_1 := hB HB hx529_1
   replace hx529_2 := hB HB hx529_2
   replace hx529_3 := hB HB hx529_3
   replace hx529_4 := hB HB hx529_4
   replace hx529_5 := hB HB hx529_5
   replace hx529_6 := hB HB hx529_6
   replace hx529_7 := hB HB hx529_7
   replace p529 := eq_true p529
   replace q529 := eq_true q529
   have p530 : 0 ≤ (0 : Int) := (by omega)
   have q530 : 0 < (l1.length : Int) := of_decide_eq_true am
   obtain ⟨ad530, e530, hx530_0, hx530_1, hx530_2, hx530_3, hx530_4, hx530_5, hx530_6, hx530_7⟩ := qDB HR1.out 0 p530 q530
   have hw530_7 := hx530_7
   (try rw [show ((0 : Int)).toNat = 0 from rfl] at hw530_7)
   (try rw [show 0 * 8 = 0 from rfl] at hw530_7)
   (try rw [Addr.add_zero'] at hw530_7)
   have hw530_6 := hx530_6
   (try rw [show ((0 : Int)).toNat = 0 from rfl] at hw530_6)
   (try rw [show 0 * 8 = 0 from rfl] at hw530_6)
   (try rw [Addr.add_zero'] at hw530_6)
   have hw530_5 := hx530_5
   (try rw [show ((0 : Int)).toNat = 0 from rfl] at hw530_5)
   (try rw [show 0 * 8 = 0 from rfl] at hw530_5)
   (try rw [Addr.add_zero'] at hw530_5)
   have hw530_4 := hx530_4
   (try rw [show ((0 : Int)).toNat = 0 from rfl] at hw530_4)
   (try rw [show 0 * 8 = 0 from rfl] at hw530_4)
   (try rw [Addr.add_zero'] at hw530_4)
   have hw530_3 := hx530_3
   (try rw [show ((0 : Int)).toNat = 0 from rfl] at hw530_3)
   (try rw [show 0 * 8 = 0 from rfl] at hw530_3)
   (try rw [Addr.add_zero'] at hw530_3)
   have hw530_2 := hx530_2
   (try rw [show ((0 : Int)).toNat = 0 from rfl] at hw530_2)
   (try rw [show 0 * 8 = 0 from rfl] at hw530_2)
   (try rw [Addr.add_zero'] at hw530_2)
   have hw530_1 := hx530_1
   (try rw [show ((0 : Int)).toNat = 0 from rfl] at hw530_1)
   (try rw [show 0 * 8 = 0 from rfl] at hw530_1)
   (try rw [Addr.add_zero'] at hw530_1)
   have hw530_0 := hx530_0
   (try rw [show ((0 : Int)).toNat = 0 from rfl] at hw530_0)
   (try rw [show 0 * 8 = 0 from rfl] at hw530_0)
   (try rw [Addr.add_zero'] at hw530_0)
   obtain rfl : ad524 = ad530 := (by injection e530)
   have qi530 : (0 < l1.length) = True := eq_true (by omega)
   (try rw [show ((0 : Int)).toNat = 0 from rfl] at hx530_0)
   (try rw [show 0 * 8 = 0 from rfl] at hx530_0)
   (try rw [Addr.add_zero'] at hx530_0)
   (try rw [show ((0 : Int)).toNat = 0 from rfl] at hx530_1)
   (try rw [show 0 * 8 = 0 from rfl] at hx530_1)
   (try rw [Addr.add_zero'] at hx530_1)
   (try rw [show ((0 : Int)).toNat = 0 from rfl] at hx530_2)
   (try rw [show 0 * 8 = 0 from rfl] at hx530_2)
   (try rw [Addr.add_zero'] at hx530_2)
   (try rw [show ((0 : Int)).toNat = 0 from rfl] at hx530_3)
   (try rw [show 0 * 8 = 0 from rfl] at hx530_3)
   (try rw [Addr.add_zero'] at hx530_3)
   (try rw [show ((0 : Int)).toNat = 0 from rfl] at hx530_4)
   (try rw [show 0 * 8 = 0 from rfl] at hx530_4)
   (try rw [Addr.add_zero'] at hx530_4)
   (try rw [show ((0 : Int)).toNat = 0 from rfl] at hx530_5)
   (try rw [show 0 * 8 = 0 from rfl] at hx530_5)
   (try rw [Addr.add_zero'] at hx530_5)
   (try rw [show ((0 : Int)).toNat = 0 from rfl] at hx530_6)
   (try rw [show 0 * 8 = 0 from rfl] at hx530_6)
   (try rw [Addr.add_zero'] at hx530_6)
   (try rw [show ((0 : Int)).toNat = 0 from rfl] at hx530_7)
   (try rw [show 0 * 8 = 0 from rfl] at hx530_7)
   (try rw [Addr.add_zero'] at hx530_7)
   replace hx530_0 := hB HB hx530_0
   replace hx530_1 := hB HB hx530_1
   replace hx530_2 := hB HB hx530_2
   replace hx530_3 := hB HB hx530_3
   replace hx530_4 := hB HB hx530_4
   replace hx530_5 := hB HB hx530_5
   replace hx530_6 := hB HB hx530_6
   replace hx530_7 := hB HB hx530_7
   replace p530 := eq_true p530
   replace q530 := eq_true q530
   refine qIB (n := 26) (S := fun w' => True) (ds := []) #[false, false, false, false, false, false, false, false, false, false, false, false, false, false, false, false, false, false, false, false, false, false, false, false, false, false] (by kernel_rfl) rfl rfl trivial (fun hHeld => ?_); refine qPA qNA.tab4 qNA.bits4 (fun HT_ HW_ => ?_)
   generalize w13.drew = w14 at HO521 BK523 HB hx524_0 hx524_1 hx524_2 hx524_3 hx524_4 hx524_5 hx524_6 hx524_7 hx525_0 hx525_1 hx525_2 hx525_3 hx525_4 hx525_5 hx525_6 hx525_7 hx529_0 hx529_1 hx529_2 hx529_3 hx529_4 hx529_5 hx529_6 hx529_7 hx530_0 hx530_1 hx530_2 hx530_3 hx530_4 hx530_5 hx530_6 hx530_7 hHeld ⊢
   refine pS (i := 1) (N := some 22) #[false, true, false, false, false, false, false, false, false, false, false, false, false, false, false, false, false, false, false, false, false, false, false, false, false, false] HT_ ?_
   refine pS (i := 2) (N := some 23) #[false, true, true, false, false, false, false, false, false, false, false, false, false, false, false, false, false, false, false, false, false, false, false, false, false, false] HT_ ?_
   refine pS (i := 6) (N := some 27) #[false, true, true, false, false, false, true, false, false, false, false, false, false, false, false, false, false, false, false, false, false, false, false, false, false, false] HT_ ?_
   refine pS (i := 11) (N := some 32) #[false, true, true, false, false, false, true, false, false, false, false, true, false, false, false, false, false, false, false, false, false, false, false, false, false, false] HT_ ?_
   refine pS (i := 15) (N := some 36) #[false, true, true, false, false, false, true, false, false, false, false, true, false, false, false, true, false, false, false, false, false, false, false, false, false, false] HT_ ?_
   refine qcE [0, 3, 4, 5, 7, 8, 9, 10, 12, 13, 14, 16, 17, 18, 19, 20, 21, 22, 23, 24, 25] (fun a0_ b a w' => ∃ (v527 : Value) (v532 : Value) (v535 : Value), a = putSel a0_ b [(0, 21, .agg #[.int .i64 t517, .int .i64 t518, .slice Ao12 t519.length co12]), (3, 24, .pointer (some (ad524.add 8))), (4, 25, .pointer (some (ad524.add 8))), (5, 26, .int .i64 ((qA l1 1).f0)), (7, 28, .pointer (some (ad524.add 8))), (8, 29, .pointer (some ⟨(ad524.add 8).block, (ad524.add 8).off + 1, none⟩)), (9, 30, .int .i64 ((qA l1 1).f1)), (10, 31, v527), (12, 33, .pointer (some ad524)), (13, 34, .pointer (some ad524)), (14, 35, .int .i64 ((qA l1 0).f0)), (16, 37, .pointer (some ad524)), (17, 38, .pointer (some ⟨ad524.block, ad524.off + 1, none⟩)), (18, 39, .int .i64 ((qA l1 0).f1)), (19, 40, v532), (20, 41, v535), (21, 42, .tuple #[.string t537, .bool t538]), (22, 43, .string t537), (23, 44, .bool t538), (24, 4, .string t537), (25, 5, .bool t538)] ∧ (Kd.R (Kd.int .u8) 5 w' w.heap.size (fun _ => True) (.slice Ao12 t519.length co12) t519) ∧ (w'.heap[gb523]? = some (.cells #[.int .i64 t517, .int .i64 t518, .slice Ao12 t519.length co12] 40 (0, 0))) ∧ (Below w.heap.size w w') ∧ (b 10 = true → b 20 = false → Kd.R (Kd.int .i64) 3 w' w.heap.size (fun _ => True) v527 y526) ∧ (b 19 = true → b 20 = false → Kd.R (Kd.int .i64) 3 w' w.heap.size (fun _ => True) v532 y531) ∧ (b 20 = true → Kd.N (Kd.slice 3 (Kd.int .i64)) 69 w' w.heap.size (fun k_ => some k_ ≠ (.slice Ao12 t519.length co12 : Value).ownBlock ∧ k_ ≠ gb523) v535 y534)) HT_.out HW_.out (by kernel_rfl) (by kernel_rfl) ?_ ?_ ?_
   ·exact ⟨.bool false, .bool false, .bool false, by simp only [putSel, Bool.false_eq_true, if_false], HO521.out, BK523.out, HB.out, fun h_ => absurd h_ (by decide), fun h_ => absurd h_ (by decide), fun h_ => absurd h_ (by decide)⟩
   ·skip
    clear BK523 HB HO521
    refine qP ?_ ?_
    ·rintro b a w' ⟨v527, v532, v535, ha, Q_HO521, Q_BK523, Q_HB, Q_HO528, Q_HO533, Q_HO536⟩ hb_ hon hoff
     refine ⟨_, rfl, fun K hK => ?_⟩
     have e6 : a.tmps[6]? = some (.pointer (some ⟨gb523, 0, none⟩)) := by rw [ha]; exact (qDA rfl).trans rfl
     replace ha := aM ha
     have HO521 := aM Q_HO521
     have BK523 := aM Q_BK523
     have HB := aM Q_HB
     have hc0_ : w'.cell? ⟨gb523, 0, none⟩ = some (.int .i64 t517) := bc BK523 0
     have hc1_ : w'.cell? ⟨gb523, 1, none⟩ = some (.int .i64 t518) := bc BK523 1
     have hc2_ : w'.cell? ⟨gb523, 2, none⟩ = some (.slice Ao12 t519.length co12) := bc BK523 2
     refine qQA (w1 := w') (v := .agg #[.int .i64 t517, .int .i64 t518, .slice Ao12 t519.length co12]) (by rfl) rfl ?_ ?_
     ·go_simp
      (try simp only [i64_w])
      try rfl
     refine hK.out _ _ ⟨v527, v532, v535, (by rw [ha.out]; exact qR 0 hb_ rfl rfl rfl), Q_HO521, Q_BK523, Q_HB, Q_HO528, Q_HO533, Q_HO536⟩
    refine qP ?_ ?_
    ·rintro b a w' ⟨v527, v532, v535, ha, Q_HO521, Q_BK523, Q_HB, Q_HO528, Q_HO533, Q_HO536⟩ hb_ hon hoff
     refine ⟨_, rfl, fun K hK => ?_⟩
     have e23 : a.tmps[23]? = some (.slice (some ad524) l1.length c1) := by rw [ha]; exact (qDA rfl).trans rfl
     replace ha := aM ha
     have HO521 := aM Q_HO521
     have BK523 := aM Q_BK523
     have HB := aM Q_HB
     have hs0_ : w'.cell? ⟨ad524.block, ad524.off + 8, none⟩ = some (.int .i64 ((qA l1 1).f0)) := (hB HB hw524_0 :)
     have hs1_ : w'.cell? ⟨ad524.block, ad524.off + 8 + 1, none⟩ = some (.int .i64 ((qA l1 1).f1)) := (hB HB hw524_1 :)
     have hs2_ : w'.cell? ⟨ad524.block, ad524.off + 8 + 2, none⟩ = some (.int .i64 ((qA l1 1).f2.f0)) := (hB HB hw524_2 :)
     have hs3_ : w'.cell? ⟨ad524.block, ad524.off + 8 + 3, none⟩ = some (.int .i64 ((qA l1 1).f2.f1)) := (hB HB hw524_3 :)
     have hs4_ : w'.cell? ⟨ad524.block, ad524.off + 8 + 4, none⟩ = some (.int .i64 ((qA l1 1).f2.f2)) := (hB HB hw524_4 :)
     have hs5_ : w'.cell? ⟨ad524.block, ad524.off + 8 + 5, none⟩ = some (.int .i64 ((qA l1 1).f2.f3)) := (hB HB hw524_5 :)
     have hs6_ : w'.cell? ⟨ad524.block, ad524.off + 8 + 6, none⟩ = some (.int .i64 ((qA l1 1).f2.f4)) := (hB HB hw524_6 :)
     have hs7_ : w'.cell? ⟨ad524.block, ad524.off + 8 + 7, none⟩ = some (.int .i64 ((qA l1 1).f2.f5)) := (hB HB hw524_7 :)
     refine qQA (w1 := w') (v := .pointer (some (ad524.add 8))) (by rfl) rfl ?_ ?_
     ·go_simp
      (try simp only [i64_w])
      try rfl
     refine hK.out _ _ ⟨v527, v532, v535, (by rw [ha.out]; exact qR 1 hb_ rfl rfl rfl), Q_HO521, Q_BK523, Q_HB, fun h0_ _ => aF (hoff 10 kr) h0_, Q_HO533, fun h0_ => aF (hoff 20 kr) h0_⟩
    refine qP ?_ ?_
    ·rintro b a w' ⟨v527, v532, v535, ha, Q_HO521, Q_BK523, Q_HB, Q_HO528, Q_HO533, Q_HO536⟩ hb_ hon hoff
     refine ⟨_, rfl, fun K hK => ?_⟩
     have e24 : a.tmps[24]? = some (.pointer (some (ad524.add 8))) := by rw [ha]; exact qa (e := (3, 24, .pointer (some (ad524.add 8)))) 1 rfl rfl (hon 3 kr) rfl
     replace ha := aM ha
     have HO521 := aM Q_HO521
     have BK523 := aM Q_BK523
     have HB := aM Q_HB
     refine qQA (w1 := w') (v := .pointer (some (ad524.add 8))) (by rfl) rfl ?_ ?_
     ·go_simp
      (try simp only [i64_w])
      try rfl
     refine hK.out _ _ ⟨v527, v532, v535, (by rw [ha.out]; exact qR 2 hb_ rfl rfl rfl), Q_HO521, Q_BK523, Q_HB, fun h0_ _ => aF (hoff 10 kr) h0_, Q_HO533, fun h0_ => aF (hoff 20 kr) h0_⟩
    refine qP ?_ ?_
    ·rintro b a w' ⟨v527, v532, v535, ha, Q_HO521, Q_BK523, Q_HB, Q_HO528, Q_HO533, Q_HO536⟩ hb_ hon hoff
     refine ⟨_, rfl, fun K hK => ?_⟩
     have e25 : a.tmps[25]? = some (.pointer (some (ad524.add 8))) := by rw [ha]; exact qa (e := (4, 25, .pointer (some (ad524.add 8)))) 2 rfl rfl (hon 4 kr) rfl
     replace ha := aM ha
     have HO521 := aM Q_HO521
     have BK523 := aM Q_BK523
     have HB := aM Q_HB
     have hs0_ : w'.cell? ⟨ad524.block, ad524.off + 8, none⟩ = some (.int .i64 ((qA l1 1).f0)) := (hB HB hw524_0 :)
     have hs1_ : w'.cell? ⟨ad524.block, ad524.off + 8 + 1, none⟩ = some (.int .i64 ((qA l1 1).f1)) := (hB HB hw524_1 :)
     have hs2_ : w'.cell? ⟨ad524.block, ad524.off + 8 + 2, none⟩ = some (.int .i64 ((qA l1 1).f2.f0)) := (hB HB hw524_2 :)
     have hs3_ : w'.cell? ⟨ad524.block, ad524.off + 8 + 3, none⟩ = some (.int .i64 ((qA l1 1).f2.f1)) := (hB HB hw524_3 :)
     have hs4_ : w'.cell? ⟨ad524.block, ad524.off + 8 + 4, none⟩ = some (.int .i64 ((qA l1 1).f2.f2)) := (hB HB hw524_4 :)
     have hs5_ : w'.cell? ⟨ad524.block, ad524.off + 8 + 5, none⟩ = some (.int .i64 ((qA l1 1).f2.f3)) := (hB HB hw524_5 :)
     have hs6_ : w'.cell? ⟨ad524.block, ad524.off + 8 + 6, none⟩ = some (.int .i64 ((qA l1 1).f2.f4)) := (hB HB hw524_6 :)
     have hs7_ : w'.cell? ⟨ad524.block, ad524.off + 8 + 7, none⟩ = some (.int .i64 ((qA l1 1).f2.f5)) := (hB HB hw524_7 :)
     refine qQA (w1 := w') (v := .int .i64 ((qA l1 1).f0)) (by rfl) rfl ?_ ?_
     ·go_simp
      (try simp only [i64_w])
      try rfl
     refine hK.out _ _ ⟨v527, v532, v535, (by rw [ha.out]; exact qR 3 hb_ rfl rfl rfl), Q_HO521, Q_BK523, Q_HB, fun h0_ _ => aF (hoff 10 kr) h0_, Q_HO533, fun h0_ => aF (hoff 20 kr) h0_⟩
    refine qP ?_ ?_
    ·rintro b a w' ⟨v527, v532, v535, ha, Q_HO521, Q_BK523, Q_HB, Q_HO528, Q_HO533, Q_HO536⟩ hb_ hon hoff
     refine ⟨_, rfl, fun K hK => ?_⟩
     have e27 : a.tmps[27]? = some (.slice (some ad524) l1.length c1) := by rw [ha]; exact (qDA rfl).trans rfl
     replace ha := aM ha
     have HO521 := aM Q_HO521
     have BK523 := aM Q_BK523
     have HB := aM Q_HB
     have hs8_ : w'.cell? ⟨ad524.block, ad524.off + 8, none⟩ = some (.int .i64 ((qA l1 1).f0)) := (hB HB hw525_0 :)
     have hs9_ : w'.cell? ⟨ad524.block, ad524.off + 8 + 1, none⟩ = some (.int .i64 ((qA l1 1).f1)) := (hB HB hw525_1 :)
     have hs10_ : w'.cell? ⟨ad524.block, ad524.off + 8 + 2, none⟩ = some (.int .i64 ((qA l1 1).f2.f0)) := (hB HB hw525_2 :)
     have hs11_ : w'.cell? ⟨ad524.block, ad524.off + 8 + 3, none⟩ = some (.int .i64 ((qA l1 1).f2.f1)) := (hB HB hw525_3 :)
     have hs12_ : w'.cell? ⟨ad524.block, ad524.off + 8 + 4, none⟩ = some (.int .i64 ((qA l1 1).f2.f2)) := (hB HB hw525_4 :)
     have hs13_ : w'.cell? ⟨ad524.block, ad524.off + 8 + 5, none⟩ = some (.int .i64 ((qA l1 1).f2.f3)) := (hB HB hw525_5 :)
     have hs14_ : w'.cell? ⟨ad524.block, ad524.off + 8 + 6, none⟩ = some (.int .i64 ((qA l1 1).f2.f4)) := (hB HB hw525_6 :)
     have hs15_ : w'.cell? ⟨ad524.block, ad524.off + 8 + 7, none⟩ = some (.int .i64 ((qA l1 1).f2.f5)) := (hB HB hw525_7 :)
     refine qQA (w1 := w') (v := .pointer (some (ad524.add 8))) (by rfl) rfl ?_ ?_
     ·go_simp
      (try simp only [i64_w])
      try rfl
     refine hK.out _ _ ⟨v527, v532, v535, (by rw [ha.out]; exact qR 4 hb_ rfl rfl rfl), Q_HO521, Q_BK523, Q_HB, fun h0_ _ => aF (hoff 10 kr) h0_, Q_HO533, fun h0_ => aF (hoff 20 kr) h0_⟩
    refine qP ?_ ?_
    ·rintro b a w' ⟨v527, v532, v535, ha, Q_HO521, Q_BK523, Q_HB, Q_HO528, Q_HO533, Q_HO536⟩ hb_ hon hoff
     refine ⟨_, rfl, fun K hK => ?_⟩
     have e28 : a.tmps[28]? = some (.pointer (some (ad524.add 8))) := by rw [ha]; exact qa (e := (7, 28, .pointer (some (ad524.add 8)))) 4 rfl rfl (hon 7 kr) rfl
     replace ha := aM ha
     have HO521 := aM Q_HO521
     have BK523 := aM Q_BK523
     have HB := aM Q_HB
     refine qQA (w1 := w') (v := .pointer (some ⟨(ad524.add 8).block, (ad524.add 8).off + 1, none⟩)) (by rfl) rfl ?_ ?_
     ·go_simp
      (try simp only [i64_w])
      try rfl
     refine hK.out _ _ ⟨v527, v532, v535, (by rw [ha.out]; exact qR 5 hb_ rfl rfl rfl), Q_HO521, Q_BK523, Q_HB, fun h0_ _ => aF (hoff 10 kr) h0_, Q_HO533, fun h0_ => aF (hoff 20 kr) h0_⟩
    refine qP ?_ ?_
    ·rintro b a w' ⟨v527, v532, v535, ha, Q_HO521, Q_BK523, Q_HB, Q_HO528, Q_HO533, Q_HO536⟩ hb_ hon hoff
     refine ⟨_, rfl, fun K hK => ?_⟩
     have e29 : a.tmps[29]? = some (.pointer (some ⟨(ad524.add 8).block, (ad524.add 8).off + 1, none⟩)) := by rw [ha]; exact qa (e := (8, 29, .pointer (some ⟨(ad524.add 8).block, (ad524.add 8).off + 1, none⟩))) 5 rfl rfl (hon 8 kr) rfl
     replace ha := aM ha
     have HO521 := aM Q_HO521
     have BK523 := aM Q_BK523
     have HB := aM Q_HB
     have hs8_ : w'.cell? ⟨ad524.block, ad524.off + 8, none⟩ = some (.int .i64 ((qA l1 1).f0)) := (hB HB hw525_0 :)
     have hs9_ : w'.cell? ⟨ad524.block, ad524.off + 8 + 1, none⟩ = some (.int .i64 ((qA l1 1).f1)) := (hB HB hw525_1 :)
     have hs10_ : w'.cell? ⟨ad524.block, ad524.off + 8 + 2, none⟩ = some (.int .i64 ((qA l1 1).f2.f0)) := (hB HB hw525_2 :)
     have hs11_ : w'.cell? ⟨ad524.block, ad524.off + 8 + 3, none⟩ = some (.int .i64 ((qA l1 1).f2.f1)) := (hB HB hw525_3 :)
     have hs12_ : w'.cell? ⟨ad524.block, ad524.off + 8 + 4, none⟩ = some (.int .i64 ((qA l1 1).f2.f2)) := (hB HB hw525_4 :)
     have hs13_ : w'.cell? ⟨ad524.block, ad524.off + 8 + 5, none⟩ = some (.int .i64 ((qA l1 1).f2.f3)) := (hB HB hw525_5 :)
     have hs14_ : w'.cell? ⟨ad524.block, ad524.off + 8 + 6, none⟩ = some (.int .i64 ((qA l1 1).f2.f4)) := (hB HB hw525_6 :)
     have hs15_ : w'.cell? ⟨ad524.block, ad524.off + 8 + 7, none⟩ = some (.int .i64 ((qA l1 1).f2.f5)) := (hB HB hw525_7 :)
     refine qQA (w1 := w') (v := .int .i64 ((qA l1 1).f1)) (by rfl) rfl ?_ ?_
     ·go_simp
      (try simp only [i64_w])
      try rfl
     refine hK.out _ _ ⟨v527, v532, v535, (by rw [ha.out]; exact qR 6 hb_ rfl rfl rfl), Q_HO521, Q_BK523, Q_HB, fun h0_ _ => aF (hoff 10 kr) h0_, Q_HO533, fun h0_ => aF (hoff 20 kr) h0_⟩
    refine qP ?_ ?_
    ·rintro b a w' ⟨v527, v532, v535, ha, Q_HO521, Q_BK523, Q_HB, Q_HO528, Q_HO533, Q_HO536⟩ hb_ hon hoff
     refine ⟨_, rfl, fun K hK => ?_⟩
     have e26 : a.tmps[26]? = some (.int .i64 ((qA l1 1).f0)) := by rw [ha]; exact qa (e := (5, 26, .int .i64 ((qA l1 1).f0))) 3 rfl rfl (hon 5 kr) rfl
     have e30 : a.tmps[30]? = some (.int .i64 ((qA l1 1).f1)) := by rw [ha]; exact qa (e := (9, 30, .int .i64 ((qA l1 1).f1))) 6 rfl rfl (hon 9 kr) rfl
     replace ha := aM ha
     have HO521 := aM Q_HO521
     have BK523 := aM Q_BK523
     have HB := aM Q_HB
     refine Kd.qYA (Kd.int .i64) _ 3 ?hg (N := 31) ?hd (xs := ([(qA l1 1).f0, (qA l1 1).f1] : List Int)) (inner := [.int .i64 ((qA l1 1).f0), .int .i64 ((qA l1 1).f1)]) (ok := fun _ => True) (okp := fun _ => True) ?hr ?hp (fun _ hk => hk) trivial (Below.refl _ _) (Nat.le_refl _) (by simp) ?_; (case hd => rfl); (case hg => rfl); (case hr => exact gS); (case hp => exact (Reps.one (show Kd.M (Kd.int .i64) _ _ _ ((qA l1 1).f0) [.int .i64 ((qA l1 1).f0)] from rfl) (Reps.one (show Kd.M (Kd.int .i64) _ _ _ ((qA l1 1).f1) [.int .i64 ((qA l1 1).f1)] from rfl) (Reps.none _ _))))
     intro v527 w15 ho16 hb hg_ hnew_
     clear hg_ hnew_
     (first | rw [← Ny526.out] at ho16 | (simp only [Int.reduceToNat] at ho16; rw [← Ny526.out] at ho16))
     have n0_ := aM (Kd.qe (rR HO521) hb)
     have n1_ := aM (Kd.qAA ho16 (qJ bl))
     have n2_ := aM (bb BK523 hb)
     have n3_ := aM (qB bl hb)
     have z_HO533 := fun (h0_ : b 19 = true) (h1_ : b 20 = false) => (show Kd.R (Kd.int .i64) 3 w15 w.heap.size (fun _ => True) v532 y531 from by first | exact (Kd.qIA (by (with_reducible repeat (first | apply Kd.qL | apply Kd.qO | apply Kd.qQ)); exact (Q_HO533 h0_ h1_)) (Kd.qcA ho16) hb) | exact Kd.qX (Kd.qIA (by (with_reducible repeat (first | apply Kd.qL | apply Kd.qO | apply Kd.qQ)); exact (Q_HO533 h0_ h1_)) (Kd.qcA ho16) hb) (fun _ h_ => by first | trivial | exact h_ | exact h_.1))
     clear HO521 BK523 HB
     have HO521 := n0_
     have HO528 := n1_
     have BK523 := n2_
     have HB := n3_
     clear n0_ n1_ n2_ n3_ hb ho16
     refine hK.out _ _ ⟨v527, v532, v535, (by rw [ha.out]; exact qR 7 hb_ rfl rfl rfl), (rR HO521), (rB BK523), bl, fun _ _ => (rR HO528), z_HO533, fun h0_ => aF (hoff 20 kr) h0_⟩
    refine qP ?_ ?_
    ·rintro b a w' ⟨v527, v532, v535, ha, Q_HO521, Q_BK523, Q_HB, Q_HO528, Q_HO533, Q_HO536⟩ hb_ hon hoff
     refine ⟨_, rfl, fun K hK => ?_⟩
     have e32 : a.tmps[32]? = some (.slice (some ad524) l1.length c1) := by rw [ha]; exact (qDA rfl).trans rfl
     replace ha := aM ha
     have HO521 := aM Q_HO521
     have BK523 := aM Q_BK523
     have HB := aM Q_HB
     have hs16_ : w'.cell? ad524 = some (.int .i64 ((qA l1 0).f0)) := (hB HB hw529_0 :)
     have hs17_ : w'.cell? ⟨ad524.block, ad524.off + 1, none⟩ = some (.int .i64 ((qA l1 0).f1)) := (hB HB hw529_1 :)
     have hs18_ : w'.cell? ⟨ad524.block, ad524.off + 2, none⟩ = some (.int .i64 ((qA l1 0).f2.f0)) := (hB HB hw529_2 :)
     have hs19_ : w'.cell? ⟨ad524.block, ad524.off + 3, none⟩ = some (.int .i64 ((qA l1 0).f2.f1)) := (hB HB hw529_3 :)
     have hs20_ : w'.cell? ⟨ad524.block, ad524.off + 4, none⟩ = some (.int .i64 ((qA l1 0).f2.f2)) := (hB HB hw529_4 :)
     have hs21_ : w'.cell? ⟨ad524.block, ad524.off + 5, none⟩ = some (.int .i64 ((qA l1 0).f2.f3)) := (hB HB hw529_5 :)
     have hs22_ : w'.cell? ⟨ad524.block, ad524.off + 6, none⟩ = some (.int .i64 ((qA l1 0).f2.f4)) := (hB HB hw529_6 :)
     have hs23_ : w'.cell? ⟨ad524.block, ad524.off + 7, none⟩ = some (.int .i64 ((qA l1 0).f2.f5)) := (hB HB hw529_7 :)
     refine qQA (w1 := w') (v := .pointer (some ad524)) (by rfl) rfl ?_ ?_
     ·go_simp
      (try simp only [i64_w])
      try rfl
     refine hK.out _ _ ⟨v527, v532, v535, (by rw [ha.out]; exact qR 8 hb_ rfl rfl rfl), Q_HO521, Q_BK523, Q_HB, Q_HO528, fun h0_ _ => aF (hoff 19 kr) h0_, fun h0_ => aF (hoff 20 kr) h0_⟩
    refine qP ?_ ?_
    ·rintro b a w' ⟨v527, v532, v535, ha, Q_HO521, Q_BK523, Q_HB, Q_HO528, Q_HO533, Q_HO536⟩ hb_ hon hoff
     refine ⟨_, rfl, fun K hK => ?_⟩
     have e33 : a.tmps[33]? = some (.pointer (some ad524)) := by rw [ha]; exact qa (e := (12, 33, .pointer (some ad524))) 8 rfl rfl (hon 12 kr) rfl
     replace ha := aM ha
     have HO521 := aM Q_HO521
     have BK523 := aM Q_BK523
     have HB := aM Q_HB
     refine qQA (w1 := w') (v := .pointer (some ad524)) (by rfl) rfl ?_ ?_
     ·go_simp
      (try simp only [i64_w])
      try rfl
     refine hK.out _ _ ⟨v527, v532, v535, (by rw [ha.out]; exact qR 9 hb_ rfl rfl rfl), Q_HO521, Q_BK523, Q_HB, Q_HO528, fun h0_ _ => aF (hoff 19 kr) h0_, fun h0_ => aF (hoff 20 kr) h0_⟩
    refine qP ?_ ?_
    ·rintro b a w' ⟨v527, v532, v535, ha, Q_HO521, Q_BK523, Q_HB, Q_HO528, Q_HO533, Q_HO536⟩ hb_ hon hoff
     refine ⟨_, rfl, fun K hK => ?_⟩
     have e34 : a.tmps[34]? = some (.pointer (some ad524)) := by rw [ha]; exact qa (e := (13, 34, .pointer (some ad524))) 9 rfl rfl (hon 13 kr) rfl
     replace ha := aM ha
     have HO521 := aM Q_HO521
     have BK523 := aM Q_BK523
     have HB := aM Q_HB
     have hs16_ : w'.cell? ad524 = some (.int .i64 ((qA l1 0).f0)) := (hB HB hw529_0 :)
     have hs17_ : w'.cell? ⟨ad524.block, ad524.off + 1, none⟩ = some (.int .i64 ((qA l1 0).f1)) := (hB HB hw529_1 :)
     have hs18_ : w'.cell? ⟨ad524.block, ad524.off + 2, none⟩ = some (.int .i64 ((qA l1 0).f2.f0)) := (hB HB hw529_2 :)
     have hs19_ : w'.cell? ⟨ad524.block, ad524.off + 3, none⟩ = some (.int .i64 ((qA l1 0).f2.f1)) := (hB HB hw529_3 :)
     have hs20_ : w'.cell? ⟨ad524.block, ad524.off + 4, none⟩ = some (.int .i64 ((qA l1 0).f2.f2)) := (hB HB hw529_4 :)
     have hs21_ : w'.cell? ⟨ad524.block, ad524.off + 5, none⟩ = some (.int .i64 ((qA l1 0).f2.f3)) := (hB HB hw529_5 :)
     have hs22_ : w'.cell? ⟨ad524.block, ad524.off + 6, none⟩ = some (.int .i64 ((qA l1 0).f2.f4)) := (hB HB hw529_6 :)
     have hs23_ : w'.cell? ⟨ad524.block, ad524.off + 7, none⟩ = some (.int .i64 ((qA l1 0).f2.f5)) := (hB HB hw529_7 :)
     refine qQA (w1 := w') (v := .int .i64 ((qA l1 0).f0)) (by rfl) rfl ?_ ?_
     ·go_simp
      (try simp only [i64_w])
      try rfl
     refine hK.out _ _ ⟨v527, v532, v535, (by rw [ha.out]; exact qR 10 hb_ rfl rfl rfl), Q_HO521, Q_BK523, Q_HB, Q_HO528, fun h0_ _ => aF (hoff 19 kr) h0_, fun h0_ => aF (hoff 20 kr) h0_⟩
    refine qP ?_ ?_
    ·rintro b a w' ⟨v527, v532, v535, ha, Q_HO521, Q_BK523, Q_HB, Q_HO528, Q_HO533, Q_HO536⟩ hb_ hon hoff
     refine ⟨_, rfl, fun K hK => ?_⟩
     have e36 : a.tmps[36]? = some (.slice (some ad524) l1.length c1) := by rw [ha]; exact (qDA rfl).trans rfl
     replace ha := aM ha
     have HO521 := aM Q_HO521
     have BK523 := aM Q_BK523
     have HB := aM Q_HB
     have hs24_ : w'.cell? ad524 = some (.int .i64 ((qA l1 0).f0)) := (hB HB hw530_0 :)
     have hs25_ : w'.cell? ⟨ad524.block, ad524.off + 1, none⟩ = some (.int .i64 ((qA l1 0).f1)) := (hB HB hw530_1 :)
     have hs26_ : w'.cell? ⟨ad524.block, ad524.off + 2, none⟩ = some (.int .i64 ((qA l1 0).f2.f0)) := (hB HB hw530_2 :)
     have hs27_ : w'.cell? ⟨ad524.block, ad524.off + 3, none⟩ = some (.int .i64 ((qA l1 0).f2.f1)) := (hB HB hw530_3 :)
     have hs28_ : w'.cell? ⟨ad524.block, ad524.off + 4, none⟩ = some (.int .i64 ((qA l1 0).f2.f2)) := (hB HB hw530_4 :)
     have hs29_ : w'.cell? ⟨ad524.block, ad524.off + 5, none⟩ = some (.int .i64 ((qA l1 0).f2.f3)) := (hB HB hw530_5 :)
     have hs30_ : w'.cell? ⟨ad524.block, ad524.off + 6, none⟩ = some (.int .i64 ((qA l1 0).f2.f4)) := (hB HB hw530_6 :)
     have hs31_ : w'.cell? ⟨ad524.block, ad524.off + 7, none⟩ = some (.int .i64 ((qA l1 0).f2.f5)) := (hB HB hw530_7 :)
     refine qQA (w1 := w') (v := .pointer (some ad524)) (by rfl) rfl ?_ ?_
     ·go_simp
      (try simp only [i64_w])
      try rfl
     refine hK.out _ _ ⟨v527, v532, v535, (by rw [ha.out]; exact qR 11 hb_ rfl rfl rfl), Q_HO521, Q_BK523, Q_HB, Q_HO528, fun h0_ _ => aF (hoff 19 kr) h0_, fun h0_ => aF (hoff 20 kr) h0_⟩
    refine qP ?_ ?_
    ·rintro b a w' ⟨v527, v532, v535, ha, Q_HO521, Q_BK523, Q_HB, Q_HO528, Q_HO533, Q_HO536⟩ hb_ hon hoff
     refine ⟨_, rfl, fun K hK => ?_⟩
     have e37 : a.tmps[37]? = some (.pointer (some ad524)) := by rw [ha]; exact qa (e := (16, 37, .pointer (some ad524))) 11 rfl rfl (hon 16 kr) rfl
     replace ha := aM ha
     have HO521 := aM Q_HO521
     have BK523 := aM Q_BK523
     have HB := aM Q_HB
     refine qQA (w1 := w') (v := .pointer (some ⟨ad524.block, ad524.off + 1, none⟩)) (by rfl) rfl ?_ ?_
     ·go_simp
      (try simp only [i64_w])
      try rfl
     refine hK.out _ _ ⟨v527, v532, v535, (by rw [ha.out]; exact qR 12 hb_ rfl rfl rfl), Q_HO521, Q_BK523, Q_HB, Q_HO528, fun h0_ _ => aF (hoff 19 kr) h0_, fun h0_ => aF (hoff 20 kr) h0_⟩
    refine qP ?_ ?_
    ·rintro b a w' ⟨v527, v532, v535, ha, Q_HO521, Q_BK523, Q_HB, Q_HO528, Q_HO533, Q_HO536⟩ hb_ hon hoff
     refine ⟨_, rfl, fun K hK => ?_⟩
     have e38 : a.tmps[38]? = some (.pointer (some ⟨ad524.block, ad524.off + 1, none⟩)) := by rw [ha]; exact qa (e := (17, 38, .pointer (some ⟨ad524.block, ad524.off + 1, none⟩))) 12 rfl rfl (hon 17 kr) rfl
     replace ha := aM ha
     have HO521 := aM Q_HO521
     have BK523 := aM Q_BK523
     have HB := aM Q_HB
     have hs24_ : w'.cell? ad524 = some (.int .i64 ((qA l1 0).f0)) := (hB HB hw530_0 :)
     have hs25_ : w'.cell? ⟨ad524.block, ad524.off + 1, none⟩ = some (.int .i64 ((qA l1 0).f1)) := (hB HB hw530_1 :)
     have hs26_ : w'.cell? ⟨ad524.block, ad524.off + 2, none⟩ = some (.int .i64 ((qA l1 0).f2.f0)) := (hB HB hw530_2 :)
     have hs27_ : w'.cell? ⟨ad524.block, ad524.off + 3, none⟩ = some (.int .i64 ((qA l1 0).f2.f1)) := (hB HB hw530_3 :)
     have hs28_ : w'.cell? ⟨ad524.block, ad524.off + 4, none⟩ = some (.int .i64 ((qA l1 0).f2.f2)) := (hB HB hw530_4 :)
     have hs29_ : w'.cell? ⟨ad524.block, ad524.off + 5, none⟩ = some (.int .i64 ((qA l1 0).f2.f3)) := (hB HB hw530_5 :)
     have hs30_ : w'.cell? ⟨ad524.block, ad524.off + 6, none⟩ = some (.int .i64 ((qA l1 0).f2.f4)) := (hB HB hw530_6 :)
     have hs31_ : w'.cell? ⟨ad524.block, ad524.off + 7, none⟩ = some (.int .i64 ((qA l1 0).f2.f5)) := (hB HB hw530_7 :)
     refine qQA (w1 := w') (v := .int .i64 ((qA l1 0).f1)) (by rfl) rfl ?_ ?_
     ·go_simp
      (try simp only [i64_w])
      try rfl
     refine hK.out _ _ ⟨v527, v532, v535, (by rw [ha.out]; exact qR 13 hb_ rfl rfl rfl), Q_HO521, Q_BK523, Q_HB, Q_HO528, fun h0_ _ => aF (hoff 19 kr) h0_, fun h0_ => aF (hoff 20 kr) h0_⟩
    refine qP ?_ ?_
    ·rintro b a w' ⟨v527, v532, v535, ha, Q_HO521, Q_BK523, Q_HB, Q_HO528, Q_HO533, Q_HO536⟩ hb_ hon hoff
     refine ⟨_, rfl, fun K hK => ?_⟩
     have e35 : a.tmps[35]? = some (.int .i64 ((qA l1 0).f0)) := by rw [ha]; exact qa (e := (14, 35, .int .i64 ((qA l1 0).f0))) 10 rfl rfl (hon 14 kr) rfl
     have e39 : a.tmps[39]? = some (.int .i64 ((qA l1 0).f1)) := by rw [ha]; exact qa (e := (18, 39, .int .i64 ((qA l1 0).f1))) 13 rfl rfl (hon 18 kr) rfl
     replace ha := aM ha
     have HO521 := aM Q_HO521
     have BK523 := aM Q_BK523
     have HB := aM Q_HB
     refine Kd.qYA (Kd.int .i64) _ 3 ?hg (N := 40) ?hd (xs := ([(qA l1 0).f0, (qA l1 0).f1] : List Int)) (inner := [.int .i64 ((qA l1 0).f0), .int .i64 ((qA l1 0).f1)]) (ok := fun _ => True) (okp := fun _ => True) ?hr ?hp (fun _ hk => hk) trivial (Below.refl _ _) (Nat.le_refl _) (by simp) ?_; (case hd => rfl); (case hg => rfl); (case hr => exact gS); (case hp => exact (Reps.one (show Kd.M (Kd.int .i64) _ _ _ ((qA l1 0).f0) [.int .i64 ((qA l1 0).f0)] from rfl) (Reps.one (show Kd.M (Kd.int .i64) _ _ _ ((qA l1 0).f1) [.int .i64 ((qA l1 0).f1)] from rfl) (Reps.none _ _))))
     intro v532 w15 ho16 hb hg_ hnew_
     clear hg_ hnew_
     (first | rw [← Ny531.out] at ho16 | (simp only [Int.reduceToNat] at ho16; rw [← Ny531.out] at ho16))
     have n0_ := aM (Kd.qe (rR HO521) hb)
     have n1_ := aM (Kd.qAA ho16 (qJ bl))
     have n2_ := aM (bb BK523 hb)
     have n3_ := aM (qB bl hb)
     have z_HO528 := fun (h0_ : b 10 = true) (h1_ : b 20 = false) => (show Kd.R (Kd.int .i64) 3 w15 w.heap.size (fun _ => True) v527 y526 from by first | exact (Kd.qIA (by (with_reducible repeat (first | apply Kd.qL | apply Kd.qO | apply Kd.qQ)); exact (Q_HO528 h0_ h1_)) (Kd.qcA ho16) hb) | exact Kd.qX (Kd.qIA (by (with_reducible repeat (first | apply Kd.qL | apply Kd.qO | apply Kd.qQ)); exact (Q_HO528 h0_ h1_)) (Kd.qcA ho16) hb) (fun _ h_ => by first | trivial | exact h_ | exact h_.1))
     clear HO521 BK523 HB
     have HO521 := n0_
     have HO533 := n1_
     have BK523 := n2_
     have HB := n3_
     clear n0_ n1_ n2_ n3_ hb ho16
     refine hK.out _ _ ⟨v527, v532, v535, (by rw [ha.out]; exact qR 14 hb_ rfl rfl rfl), (rR HO521), (rB BK523), bl, z_HO528, fun _ _ => (rR HO533), fun h0_ => aF (hoff 20 kr) h0_⟩
    refine qP ?_ ?_
    ·rintro b a w' ⟨v527, v532, v535, ha, Q_HO521, Q_BK523, Q_HB, Q_HO528, Q_HO533, Q_HO536⟩ hb_ hon hoff
     refine ⟨_, rfl, fun K hK => ?_⟩
     have e31 : a.tmps[31]? = some (v527) := by rw [ha]; exact qa (e := (10, 31, v527)) 7 rfl rfl (hon 10 kr) rfl
     have e40 : a.tmps[40]? = some (v532) := by rw [ha]; exact qa (e := (19, 40, v532)) 14 rfl rfl (hon 19 kr) rfl
     replace ha := aM ha
     have HO521 := aM Q_HO521
     have BK523 := aM Q_BK523
     have HB := aM Q_HB
     have HO528 := aM (Q_HO528 (hon 10 kr) hb_)
     have HO533 := aM (Q_HO533 (hon 19 kr) hb_)
     obtain ⟨Ao20, co20, eo20⟩ := Kd.qCA HO528.out
     (first | subst eo20 | (injection eo20 with f1_ f2_ f3_; have f4_ := f1_.symm; have f5_ := f3_.symm; clear f1_ f2_ f3_; subst f4_; subst f5_))
     obtain ⟨Ao21, co21, eo21⟩ := Kd.qCA HO533.out
     (first | subst eo21 | (injection eo21 with f1_ f2_ f3_; have f4_ := f1_.symm; have f5_ := f3_.symm; clear f1_ f2_ f3_; subst f4_; subst f5_))
     refine Kd.N_lit_step (Kd.slice 3 (Kd.int .i64)) _ 69 ?hg (N' := 41) ?hd (xs := ([y526, y531] : List (List Int))) (inner := [.slice Ao20 y526.length co20, .slice Ao21 y531.length co21]) (ok := (fun k_ => some k_ ≠ (.slice Ao12 t519.length co12 : Value).ownBlock ∧ k_ ≠ gb523)) (okp := (fun k_ => some k_ ≠ (.slice Ao12 t519.length co12 : Value).ownBlock ∧ k_ ≠ gb523)) ?hr ?hp (fun _ hk => hk) ((show ∀ k_, w'.heap.size ≤ k_ → (fun k_ => some k_ ≠ (.slice Ao12 t519.length co12 : Value).ownBlock ∧ k_ ≠ gb523) k_ from fun k_ hk => ⟨Kd.fresh' (Kd.R_lt (rR HO521)) k_ hk, Kd.freshB (rB BK523) k_ hk⟩) _ (Nat.le_refl _)) (Below.refl _ _) (Nat.le_refl _) (by simp) ?_; (case hd => rfl); (case hg => rfl); (case hr => exact gS); (case hp => exact (Reps.one (show Kd.FK (Kd.slice 3 (Kd.int .i64)) _ _ y526 [.slice Ao20 y526.length co20] from (Kd.qIC (Kd.qN (Kd.qX (ok' := (fun k_ => some k_ ≠ (.slice Ao12 t519.length co12 : Value).ownBlock ∧ k_ ≠ gb523)) (Kd.qBB (Kd.qaB (HO528.out) (Kd.qzA HO521.out) (by decide)) BK523.out (by decide)) (fun k_ hk => ⟨hk.1.2, hk.2⟩))).2.1 (Kd.R_F (Kd.qX (ok' := (fun k_ => some k_ ≠ (.slice Ao12 t519.length co12 : Value).ownBlock ∧ k_ ≠ gb523)) (Kd.qBB (Kd.qaB (HO528.out) (Kd.qzA HO521.out) (by decide)) BK523.out (by decide)) (fun k_ hk => ⟨hk.1.2, hk.2⟩))))) (Reps.one (show Kd.FK (Kd.slice 3 (Kd.int .i64)) _ _ y531 [.slice Ao21 y531.length co21] from (Kd.qIC (Kd.qN (Kd.qX (ok' := (fun k_ => some k_ ≠ (.slice Ao12 t519.length co12 : Value).ownBlock ∧ k_ ≠ gb523)) (Kd.qBB (Kd.qaB (HO533.out) (Kd.qzA HO521.out) (by decide)) BK523.out (by decide)) (fun k_ hk => ⟨hk.1.2, hk.2⟩))).2.1 (Kd.R_F (Kd.qX (ok' := (fun k_ => some k_ ≠ (.slice Ao12 t519.length co12 : Value).ownBlock ∧ k_ ≠ gb523)) (Kd.qBB (Kd.qaB (HO533.out) (Kd.qzA HO521.out) (by decide)) BK523.out (by decide)) (fun k_ hk => ⟨hk.1.2, hk.2⟩))))) (Reps.none _ _))))
     intro v535 w22 ho23 hb hg_ hnew_
     clear hg_ hnew_
     (first | rw [← Ny534.out] at ho23 | (simp only [Int.reduceToNat] at ho23; rw [← Ny534.out] at ho23))
     have HO536 := aM (Kd.qYE ho23 (qJ bl))
     replace HO521 := aM (Kd.qe (rR HO521) hb)
     replace BK523 := aM (bb BK523 hb)
     replace HB := aM (qB bl hb)
     clear HO528
     clear HO533
     clear hb ho23
     refine hK.out _ _ ⟨.slice Ao20 y526.length co20, .slice Ao21 y531.length co21, v535, (by rw [ha.out]; exact qR 15 hb_ rfl rfl rfl), (rR HO521), (rB BK523), bl, fun _ h1_ => absurd ((qOB b 20).symm.trans h1_) (by decide), fun _ h1_ => absurd ((qOB b 20).symm.trans h1_) (by decide), fun _ => (rN HO536)⟩
    refine qP ?_ ?_
    ·rintro b a w' ⟨v527, v532, v535, ha, Q_HO521, Q_BK523, Q_HB, Q_HO528, Q_HO533, Q_HO536⟩ hb_ hon hoff
     refine ⟨_, rfl, fun K hK => ?_⟩
     have e21 : a.tmps[21]? = some (.agg #[.int .i64 t517, .int .i64 t518, .slice Ao12 t519.length co12]) := by rw [ha]; exact qa (e := (0, 21, .agg #[.int .i64 t517, .int .i64 t518, .slice Ao12 t519.length co12])) 0 rfl rfl (hon 0 kr) rfl
     have e22 : a.tmps[22]? = some (.slice (some ad524) l1.length c1) := by rw [ha]; exact (qDA rfl).trans rfl
     have e41 : a.tmps[41]? = some (v535) := by rw [ha]; exact qa (e := (20, 41, v535)) 15 rfl rfl (hon 20 kr) rfl
     replace ha := aM ha
     have HO521 := aM Q_HO521
     have BK523 := aM Q_BK523
     have HB := aM Q_HB
     have HO536 := aM (Q_HO536 (hon 20 kr))
     obtain ⟨Ao24, co24, eo24⟩ := Kd.qCD HO536.out
     (first | subst eo24 | (injection eo24 with f1_ f2_ f3_; have f4_ := f1_.symm; have f5_ := f3_.symm; clear f1_ f2_ f3_; subst f4_; subst f5_))
     refine goes_ Tryz.func30 (by kernel_rfl) rfl #[.agg #[.int .i64 t517, .int .i64 t518, .slice Ao12 t519.length co12], .slice (some ad524) l1.length c1, .slice Ao24 y534.length co24] (by rfl) rfl rfl (by first | (simp only [List.map_toArray, List.map_cons, List.map_nil, Act.eval, Array.getD_eq_getD_getElem?, Option.getD_some, e21, e22, e41]; done) | (simp only [List.map_toArray, List.map_cons, List.map_nil, Act.eval, Array.getD_eq_getD_getElem?, Option.getD_some, e21, e22, e41]; rfl)) ?_
     with_reducible refine (qtA.calls k t517 t518 _ _ t519 _ _ l1 _ _ y534 t537 t538 _ ?side1 ?side2 ?side3 ?side4 ?side5 ?side6 A8.out).mono ?_
     (case side1 => repeat (first | exact (Kd.qN HO521.out).2.2 | (with_reducible refine Kd.qV ?_ _) | (with_reducible refine Kd.qU ?_ _) | (with_reducible refine Kd.qf ?_)))
     (case side2 => exact (Kd.qN HO521.out).2.1)
     (case side3 => repeat (first | exact (Kd.qY HR1.out HB.out) | (with_reducible refine Kd.qV ?_ _) | (with_reducible refine Kd.qU ?_ _) | (with_reducible refine Kd.qf ?_)))
     (case side4 => exact HC1.out)
     (case side5 => repeat (first | exact (Kd.qbB HO536.out).2.2 | (with_reducible refine Kd.qV ?_ _) | (with_reducible refine Kd.qU ?_ _) | (with_reducible refine Kd.qf ?_)))
     (case side6 => exact (Kd.qbB HO536.out).2.1)
     rintro e w25 ⟨rfl, hb⟩
     refine ⟨_, rfl, ?_⟩
     replace HO521 := aM (Kd.qe (rR HO521) hb)
     replace HO536 := aM (Kd.qqB (rN HO536) hb)
     replace BK523 := aM (bb BK523 hb)
     replace HB := aM (qB bl hb); (try clear hb); (try clear hb2); (try clear hk); (try clear hi)
     refine hK.out _ _ ⟨v527, v532, .slice Ao24 y534.length co24, (by rw [ha.out]; exact qR 16 hb_ rfl rfl rfl), (rR HO521), (rB BK523), bl, fun _ h1_ => aT (hon 20 kr) h1_, fun _ h1_ => aT (hon 20 kr) h1_, fun _ => (rN HO536)⟩
    refine qP ?_ ?_
    ·rintro b a w' ⟨v527, v532, v535, ha, Q_HO521, Q_BK523, Q_HB, Q_HO528, Q_HO533, Q_HO536⟩ hb_ hon hoff
     refine ⟨_, rfl, fun K hK => ?_⟩
     have e42 : a.tmps[42]? = some (.tuple #[.string t537, .bool t538]) := by rw [ha]; exact qa (e := (21, 42, .tuple #[.string t537, .bool t538])) 16 rfl rfl (hon 21 kr) rfl
     replace ha := aM ha
     have HO521 := aM Q_HO521
     have BK523 := aM Q_BK523
     have HB := aM Q_HB
     have HO536 := aM (Q_HO536 (hon 20 kr))
     refine qQA (w1 := w') (v := .string t537) (by rfl) rfl ?_ ?_
     ·go_simp
      (try simp only [i64_w])
      try rfl
     refine hK.out _ _ ⟨v527, v532, v535, (by rw [ha.out]; exact qR 17 hb_ rfl rfl rfl), Q_HO521, Q_BK523, Q_HB, fun _ h1_ => aT (hon 20 kr) h1_, fun _ h1_ => aT (hon 20 kr) h1_, Q_HO536⟩
    refine qP ?_ ?_
    ·rintro b a w' ⟨v527, v532, v535, ha, Q_HO521, Q_BK523, Q_HB, Q_HO528, Q_HO533, Q_HO536⟩ hb_ hon hoff
     refine ⟨_, rfl, fun K hK => ?_⟩
     have e42 : a.tmps[42]? = some (.tuple #[.string t537, .bool t538]) := by rw [ha]; exact qa (e := (21, 42, .tuple #[.string t537, .bool t538])) 16 rfl rfl (hon 21 kr) rfl
     replace ha := aM ha
     have HO521 := aM Q_HO521
     have BK523 := aM Q_BK523
     have HB := aM Q_HB
     have HO536 := aM (Q_HO536 (hon 20 kr))
     refine qQA (w1 := w') (v := .bool t538) (by rfl) rfl ?_ ?_
     ·go_simp
      (try simp only [i64_w])
      try rfl
     refine hK.out _ _ ⟨v527, v532, v535, (by rw [ha.out]; exact qR 18 hb_ rfl rfl rfl), Q_HO521, Q_BK523, Q_HB, fun _ h1_ => aT (hon 20 kr) h1_, fun _ h1_ => aT (hon 20 kr) h1_, Q_HO536⟩
    refine qP ?_ ?_
    ·rintro b a w' ⟨v527, v532, v535, ha, Q_HO521, Q_BK523, Q_HB, Q_HO528, Q_HO533, Q_HO536⟩ hb_ hon hoff
     refine ⟨_, rfl, fun K hK => ?_⟩
     have e43 : a.tmps[43]? = some (.string t537) := by rw [ha]; exact qa (e := (22, 43, .string t537)) 17 rfl rfl (hon 22 kr) rfl
     replace ha := aM ha
     have HO521 := aM Q_HO521
     have BK523 := aM Q_BK523
     have HB := aM Q_HB
     have HO536 := aM (Q_HO536 (hon 20 kr))
     refine qQA (w1 := w') (v := .string t537) (by rfl) rfl ?_ ?_
     ·go_simp
      (try simp only [i64_w])
      try rfl
     refine hK.out _ _ ⟨v527, v532, v535, (by rw [ha.out]; exact qR 19 hb_ rfl rfl rfl), Q_HO521, Q_BK523, Q_HB, fun _ h1_ => aT (hon 20 kr) h1_, fun _ h1_ => aT (hon 20 kr) h1_, Q_HO536⟩
    refine qP ?_ ?_
    ·rintro b a w' ⟨v527, v532, v535, ha, Q_HO521, Q_BK523, Q_HB, Q_HO528, Q_HO533, Q_HO536⟩ hb_ hon hoff
     refine ⟨_, rfl, fun K hK => ?_⟩
     have e44 : a.tmps[44]? = some (.bool t538) := by rw [ha]; exact qa (e := (23, 44, .bool t538)) 18 rfl rfl (hon 23 kr) rfl
     replace ha := aM ha
     have HO521 := aM Q_HO521
     have BK523 := aM Q_BK523
     have HB := aM Q_HB
     have HO536 := aM (Q_HO536 (hon 20 kr))
     refine qQA (w1 := w') (v := .bool t538) (by rfl) rfl ?_ ?_
     ·go_simp
      (try simp only [i64_w])
      try rfl
     refine hK.out _ _ ⟨v527, v532, v535, (by rw [ha.out]; exact qR 20 hb_ rfl rfl rfl), Q_HO521, Q_BK523, Q_HB, fun _ h1_ => aT (hon 20 kr) h1_, fun _ h1_ => aT (hon 20 kr) h1_, Q_HO536⟩
    exact qED
   rintro b a w25 hall ⟨v527, v532, v535, ha, Q_HO521, Q_BK523, Q_HB, Q_HO528, Q_HO533, Q_HO536⟩
   clear BK523 HB HO521
   have hb0_ := hall 0 (by kernel_rfl)
   have hb3_ := hall 3 (by kernel_rfl)
   have hb4_ := hall 4 (by kernel_rfl)
   have hb5_ := hall 5 (by kernel_rfl)
   have hb7_ := hall 7 (by kernel_rfl)
   have hb8_ := hall 8 (by kernel_rfl)
   have hb9_ := hall 9 (by kernel_rfl)
   have hb10_ := hall 10 (by kernel_rfl)
   have hb12_ := hall 12 (by kernel_rfl)
   have hb13_ := hall 13 (by kernel_rfl)
   have hb14_ := hall 14 (by kernel_rfl)
   have hb16_ := hall 16 (by kernel_rfl)
   have hb17_ := hall 17 (by kernel_rfl)
   have hb18_ := hall 18 (by kernel_rfl)
   have hb19_ := hall 19 (by kernel_rfl)
   have hb20_ := hall 20 (by kernel_rfl)
   have hb21_ := hall 21 (by kernel_rfl)
   have hb22_ := hall 22 (by kernel_rfl)
   have hb23_ := hall 23 (by kernel_rfl)
   have hb24_ := hall 24 (by kernel_rfl)
   have hb25_ := hall 25 (by kernel_rfl)
   subst ha
   simp only [putSel, hb0_, hb3_, hb4_, hb5_, hb7_, hb8_, hb9_, hb10_, hb12_, hb13_, hb14_, hb16_, hb17_, hb18_, hb19_, hb20_, hb21_, hb22_, hb23_, hb24_, hb25_, if_true, Act.put, List.setIfInBounds_toArray, List.set_cons_zero, List.set_cons_succ]
   have HO521 := aM Q_HO521
   clear Q_HO521
   have BK523 := aM Q_BK523
   clear Q_BK523
   have HB := aM Q_HB
   clear Q_HB Q_HO528 Q_HO533
   have HO536 := aM (Q_HO536 hb20_)
   clear Q_HO536 hall hb0_ hb3_ hb4_ hb5_ hb7_ hb8_ hb9_ hb10_ hb12_ hb13_ hb14_ hb16_ hb17_ hb18_ hb19_ hb20_ hb21_ hb22_ hb23_ hb24_ hb25_
   try go_wp2
   go_ret2
   exact ⟨sR, bl⟩
  ·rw [if_neg c5] at H
   have c5b0 := beq_eq_false_iff_ne.mpr c5
   have c5b1 := bne_iff_ne.mpr c5
   simp only [Option.some.injEq, Prod.mk.injEq] at H
   obtain ⟨rfl, rfl⟩ := H
   go_enter Tryz.func11, Tryz.ntmps11
   go_wp2_with (first | ((with_reducible refine qI (f := 18) rfl ?_); refine qu (some 11) rfl rfl Tryz.func18 (by kernel_rfl) rfl #[.string a0, .slice A1 l1.length c1] rfl gA ?_; (with_reducible refine (qJA.calls k a0 _ _ l1 t517 t518 t519 true _ ?side1 ?side2 A3.out).mono ?_); (case side1 => repeat (first | exact HR1.out | (with_reducible refine Kd.qV ?_ _) | (with_reducible refine Kd.qU ?_ _) | (with_reducible refine Kd.qf ?_))); (case side2 => exact HC1.out); rintro e w26 ⟨v520, rfl, ho0, hb⟩; refine ⟨_, rfl, ?_⟩; have HO521 := aM (Kd.qAA ho0 (qJ bl)); replace HB := aM (qB bl hb); (try clear hb); (try clear hb2); (try clear hk); (try clear hi); (try clear ho0)) | ((with_reducible refine qG (N := 6) rfl ?_); (try (refine qtB (by rfl) ?_; dsimp only)); refine bE (N := 6) (cs := #[.int .i64 0, .int .i64 0, .slice none 0 0]) (t := 40) ?_; intro gb523 hg w27 hbox hb; have BK523 := aM (hbox); have GW523 := aM ((gg hg)); have GE523 := aM ((gg hg)); replace HO521 := aM (Kd.qe (rR HO521) hb); replace HB := aM (qB bl hb); clear hb hbox hg; (refine cb3 BK523 ?_; intro _ _ _); (refine cz3 BK523 ?_; intro _ _ _); obtain ⟨Ao29, co29, eo29⟩ := Kd.qCA HO521.out; subst eo29))
   go_ret2
   exact ⟨sR, bl⟩
 ·replace c4 := Bool.eq_false_iff.mpr c4
  subst c4
  replace H := iF H
  simp only [Option.some.injEq, Prod.mk.injEq] at H
  obtain ⟨rfl, rfl⟩ := H
  go_enter Tryz.func11, Tryz.ntmps11
  go_wp2_with (first | ((with_reducible refine qI (f := 18) rfl ?_); refine qu (some 11) rfl rfl Tryz.func18 (by kernel_rfl) rfl #[.string a0, .slice A1 l1.length c1] rfl gA ?_; (with_reducible refine (qJA.calls k a0 _ _ l1 t517 t518 t519 false _ ?side1 ?side2 A3.out).mono ?_); (case side1 => repeat (first | exact HR1.out | (with_reducible refine Kd.qV ?_ _) | (with_reducible refine Kd.qU ?_ _) | (with_reducible refine Kd.qf ?_))); (case side2 => exact HC1.out); rintro e w30 ⟨v520, rfl, ho0, hb⟩; refine ⟨_, rfl, ?_⟩; have HO521 := aM (Kd.qAA ho0 (qJ bl)); replace HB := aM (qB bl hb); (try clear hb); (try clear hb2); (try clear hk); (try clear hi); (try clear ho0)) | ((with_reducible refine qG (N := 6) rfl ?_); (try (refine qtB (by rfl) ?_; dsimp only)); refine bE (N := 6) (cs := #[.int .i64 0, .int .i64 0, .slice none 0 0]) (t := 40) ?_; intro gb523 hg w31 hbox hb; have BK523 := aM (hbox); have GW523 := aM ((gg hg)); have GE523 := aM ((gg hg)); replace HO521 := aM (Kd.qe (rR HO521) hb); replace HB := aM (qB bl hb); clear hb hbox hg; (refine cb3 BK523 ?_; intro _ _ _); (refine cz3 BK523 ?_; intro _ _ _); obtain ⟨Ao33, co33, eo33⟩ := Kd.qCA HO521.out; subst eo33))
  go_ret2
  exact ⟨sR, bl⟩
end Go.Proofs.YthhiiceligjleaaGreatDoor.P
namespace Go.Proofs.YthhiiceligjleaaGreatDoor
open Go.RowKit Go.Proofs.YthhiiceligjleaaGreatDoorW.PrintWords Go.Proofs.YthhiiceligjleaaGreatDoorW.PrintLast
set_option linter.unusedVariables false
set_option linter.unusedSimpArgs false
theorem Ev.at_ {α : Type} {g : Nat → Option α} {r : α} (n : Nat) (h : ∀ k, g (k + n) = some r) : Ev g r := ⟨n, fun k hk => by
 obtain ⟨m, rfl⟩ : ∃ m, k = m + n := ⟨k - n, by omega⟩
 exact h m⟩
theorem Ev.pos {α : Type} {c : Prop} [Decidable c] {g f : Nat → Option α} {r : α} (hc : c) (h : Ev g r) : Ev (fun k => if c then g k else f k) r := h.congr fun k => if_pos hc
theorem Ev.neg {α : Type} {c : Prop} [Decidable c] {g f : Nat → Option α} {r : α} (hc : ¬ c) (h : Ev f r) : Ev (fun k => if c then g k else f k) r := h.congr fun k => if_neg hc
theorem Ev.some_ {α : Type} {a r : α} (h : a = r) : Ev (fun _ => some a) r := ⟨0, fun _ _ => by rw [h]⟩
theorem Ev.bindc {α β : Type} {o : Option α} {f : Nat → α → Option β} {a : α} {r : β} (h : o = some a) (k : Ev (fun n => f n a) r) : Ev (fun n => o.bind (f n)) r := k.congr fun n => by rw [h]; rfl
theorem w64 {i : Int} (h0 : -9223372036854775808 ≤ i) (h1 : i ≤ 9223372036854775807) : wrap64 i = i := by unfold wrap64; omega
end Go.Proofs.YthhiiceligjleaaGreatDoor
namespace Go.Proofs.YthhiiceligjleaaGreatDoor
open Go.RowKit Go.Proofs.YthhiiceligjleaaGreatDoor.P Go.Proofs.YthhiiceligjleaaGreatDoorW.PrintWords Go.Proofs.YthhiiceligjleaaGreatDoorW.PrintLast
set_option linter.unusedVariables false
set_option linter.unusedSimpArgs false
abbrev XS := S53
theorem rdXS (l : List XS) (i : Nat) (h : i < l.length) : qA l (i : Int) = l[i] := by
 unfold qA
 rw [Int.toNat_natCast, List.getD_eq_getElem?_getD, List.getElem?_eq_getElem h]; rfl
theorem eqState_rfl (a b c d e f g h : Int) : qYB.f a b c d e f g h a b c d e f g h = some true := by
 unfold qYB.f qsB.f
 simp
theorem eqStateS_loop (a : List XS) (ha : a.length ≤ 140737488355328) (d : Nat) : ∀ i : Nat, i ≤ a.length → a.length - i = d → Ev (fun k => qm.l0 k a a (i : Int)) true := by
 induction d with
 | zero =>
  intro i hi hd
  exact Ev.step (f := fun k => _) (fun k => by rw [qm.l0]) (Ev.neg (by omega) (Ev.now _))
 | succ d ih =>
  intro i hi hd
  refine Ev.step (f := fun k => _) (fun k => by rw [qm.l0]) (Ev.pos (by omega) (Ev.pos (by omega) (Ev.pos (by omega) (Ev.bindc (eqState_rfl _ _ _ _ _ _ _ _) (Ev.pos rfl ?_)))))
  rw [show wrap64 ((i : Int) + 1) = ((i + 1 : Nat) : Int) by unfold wrap64; omega]
  exact ih (i + 1) (by omega) (by omega)
theorem eqStateS_refl (a : List XS) (ha : a.length ≤ 140737488355328) : Ev (fun k => qm.f k a a) true := by
 unfold qm.f
 exact Ev.pos rfl (eqStateS_loop a ha a.length 0 (by omega) (by omega))
abbrev LS := S57
def convS (x : LS) : XS := ⟨x.f0, x.f1, ⟨x.f2.f0, x.f2.f1, x.f2.f2, x.f2.f3, x.f2.f4, x.f2.f5⟩⟩
theorem rdLS (l : List LS) (i : Nat) (h : i < l.length) : qxA l (i : Int) = l[i] := by
 unfold qxA
 rw [Int.toNat_natCast, List.getD_eq_getElem?_getD, List.getElem?_eq_getElem h]; rfl
theorem toStateS_loop (l : List LS) (ha : l.length ≤ 2000000) (d : Nat) : ∀ (i : Nat) (t : List XS), i ≤ l.length → l.length - i = d → t.length = l.length - i →
  Ev (fun k => qq.l0 k l (i : Int) ((l.take i).map convS ++ t)) (l.map convS) := by
 induction d with
 | zero =>
  intro i t hi hd ht
  obtain rfl : i = l.length := by omega
  obtain rfl : t = [] := List.eq_nil_of_length_eq_zero (by omega)
  exact Ev.step (f := fun k => _) (fun k => by rw [qq.l0]) (Ev.neg (by omega) (Ev.some_ (by simp)))
 | succ d ih =>
  intro i t hi hd ht
  have h : i < l.length := by omega
  cases t with
  | nil => simp at ht; omega
  | cons t0 t =>
   refine Ev.step (f := fun k => _) (fun k => by rw [qq.l0]) (Ev.pos (by omega) (Ev.pos (by omega) (Ev.bindc (show qvB.f _ _ _ _ _ _ _ _ = some _ from rfl) (Ev.pos ?_ ?_))))
   ·simp; omega
   ·rw [show wrap64 ((i : Int) + 1) = ((i + 1 : Nat) : Int) by unfold wrap64; omega, rdLS l i h]
    have := ih (i + 1) t (by omega) (by omega) (by simp at ht; omega)
    rw [List.take_succ_eq_append_getElem h, List.map_append, List.append_assoc] at this
    have e : ((l.take i).map convS ++ t0 :: t).set ((i : Int).toNat) (convS l[i]) = (l.take i).map convS ++ ([l[i]].map convS ++ t) := by
     rw [Int.toNat_natCast, List.set_append_right _ _ (by simp; omega)]
     simp [show i - min i l.length = 0 by omega]
    rw [← e] at this
    exact this
theorem toStateS_ev (l : List LS) (ha : l.length ≤ 2000000) : Ev (fun k => qq.f k l) (l.map convS) := by
 unfold qq.f
 refine Ev.pos (by omega) (Ev.pos (by omega) ?_)
 have := toStateS_loop l ha l.length 0 (List.replicate l.length z53) (by omega) (by omega) (by simp)
 simpa using this
end Go.Proofs.YthhiiceligjleaaGreatDoor
namespace Go.Proofs.YthhiiceligjleaaGreatDoor
open Go.RowKit Go.Proofs.YthhiiceligjleaaGreatDoor.P Go.Proofs.YthhiiceligjleaaGreatDoorW.PrintWords Go.Proofs.YthhiiceligjleaaGreatDoorW.PrintLast Go.Proofs.YthhiiceligjleaaGreatDoorW.PrintMore
set_option linter.unusedVariables false
set_option linter.unusedSimpArgs false
def numsX (x : XS) : List Int := [x.f0, x.f1, x.f2.f0, x.f2.f1, x.f2.f2, x.f2.f3, x.f2.f4, x.f2.f5]
def flatS (l : List XS) : List Int := l.flatMap numsX
theorem qPC (x : XS) : (numsX x).length = 8 := rfl
theorem qfB : ∀ l : List XS, (flatS l).length = l.length * 8
 | [] => rfl
 | x :: l => by
  have := qfB l
  unfold flatS at this ⊢
  rw [List.flatMap_cons, List.length_append, this, qPC, List.length_cons]; omega
def keyL (l : List XS) : List Int := flatS l ++ List.replicate (16 - l.length * 8) 0
theorem qlC (l : List XS) (h : l.length ≤ 2) : (keyL l).length = 16 := by
 unfold keyL
 rw [List.length_append, qfB, List.length_replicate]; omega
abbrev kyC (m : List Int) : Array Value := (m.map (Value.int .i64)).toArray
theorem key_is (l : List XS) : flatS l ++ (List.replicate 16 (0 : Int)).drop (flatS l).length = keyL l := by
 unfold keyL
 rw [qfB, List.drop_replicate]
def encK (l : List XS) : Value := .agg (kyC (keyL l))
theorem flatS_get : ∀ (l : List XS) (j : Nat) (x : XS) (i : Nat) (v : Int), l[j]? = some x → (numsX x)[i]? = some v → (flatS l)[j * 8 + i]? = some v
 | [], j, x, i, v, h, _ => by simp at h
 | y :: l, 0, x, i, v, h, hv => by
  injection h with h
  subst h
  have hi := (List.getElem?_eq_some_iff.1 hv).1
  unfold flatS
  rw [List.flatMap_cons, Nat.zero_mul, Nat.zero_add, List.getElem?_append_left hi]
  exact hv
 | y :: l, j + 1, x, i, v, h, hv => by
  have := flatS_get l j x i v h hv
  unfold flatS at this ⊢
  rw [List.flatMap_cons, List.getElem?_append_right (by rw [qPC]; omega), qPC, show (j + 1) * 8 + i - 8 = j * 8 + i by omega]
  exact this
theorem numsX_enc {w : World} {x : XS} {cs : List Value} (h : k53.K w x cs) : cs = (numsX x).map (Value.int .i64) := k53_open h
theorem cells_flat {w : World} {ad : Addr} {l : List XS} (h : Kd.C k53 w (some ad) l.length l) (j : Nat) (v : Value) (hv : ((flatS l).map (Value.int .i64))[j]? = some v) : w.cell? (ad.add j) = some v := by
 have hj := (List.getElem?_eq_some_iff.1 hv).1
 rw [List.length_map, qfB] at hj
 have hjl : j / 8 < l.length := by omega
 obtain ⟨ad', e, hc⟩ := h.2.2 (by omega)
 injection e with e
 subst e
 obtain ⟨c, hcl, hK, hcell⟩ := hc (j / 8) _ (List.getElem?_eq_getElem hjl)
 have hc8 := numsX_enc hK
 have hi : j % 8 < (numsX l[j / 8]).length := by rw [qPC]; omega
 have h1 := flatS_get l (j / 8) _ (j % 8) _ (List.getElem?_eq_getElem hjl) (List.getElem?_eq_getElem hi)
 have h2 := hcell (j % 8) (.int .i64 (numsX l[j / 8])[j % 8]) (by rw [hc8, List.getElem?_map, List.getElem?_eq_getElem hi]; rfl)
 rw [List.getElem?_map, show j = j / 8 * 8 + j % 8 by omega, h1] at hv
 injection hv with hv
 rw [← hv, ← h2]
 have e8 : k53.sz = 8 := rfl
 rw [e8, show j / 8 * 8 + j % 8 = j by omega]
structure KyIs (w w' : World) (g1 g2 : Nat) (m o : List Int) : Prop where
 tab : w'.heap[g1]? = some (.cells (kyC m) 94 (0, 0))
 opp : w'.heap[g2]? = some (.cells (kyC o) 94 (0, 0))
 ne : g1 ≠ g2
 ge : w.heap.size ≤ g1
 ge2 : w.heap.size ≤ g2
 below : Below w.heap.size w w'
theorem kyC_at (m : List Int) (j : Nat) (hj : j < m.length) : (kyC m)[j]? = some (.int .i64 (m.getD j 0)) := by
 rw [List.getD_eq_getElem?_getD, List.getElem?_eq_getElem hj]
 simp [kyC, hj]
theorem kyC_one (m : List Int) : (kyC m).all (·.oneCell') = true := all_oneCell_toArray (cs := m.map (Value.int .i64)) fun v hv => by obtain ⟨x, _, rfl⟩ := List.mem_map.1 hv; rfl
theorem KyIs.range2 {w w' : World} {g1 g2 : Nat} {m o : List Int} (h : KyIs w w' g1 g2 m o) : w'.rangeAt g2 0 (o.map (Value.int .i64)) := fun j v hv => by
 have hj := (List.getElem?_eq_some_iff.1 hv).1
 rw [Nat.zero_add, qy h.opp j]
 simpa [kyC] using hv
theorem KyIs.there1 {w w' : World} {g1 g2 : Nat} {m o : List Int} (h : KyIs w w' g1 g2 m o) (n : Nat) (hn : n ≤ m.length) : w'.there g1 0 n := fun j hj => by
 rw [Nat.zero_add, qy h.tab j, kyC_at m j (by omega)]
 exact ⟨rfl, qZ h.tab j⟩
theorem KyIs.there2 {w w' : World} {g1 g2 : Nat} {m o : List Int} (h : KyIs w w' g1 g2 m o) (n : Nat) (hn : n ≤ o.length) : w'.there g2 0 n := fun j hj => by
 rw [Nat.zero_add, qy h.opp j, kyC_at o j (by omega)]
 exact ⟨rfl, qZ h.opp j⟩
def kySet : List Int → Nat → List Int → List Int
 | m, _, [] => m
 | m, j, v :: vs => kySet (m.set j v) (j + 1) vs
theorem qFE : ∀ (vs m : List Int) (j : Nat), j + vs.length ≤ m.length → kySet m j vs = m.take j ++ vs ++ m.drop (j + vs.length)
 | [], m, j, h => by simp [kySet]
 | v :: vs, m, j, h => by
  simp only [List.length_cons] at h
  rw [kySet, qFE vs (m.set j v) (j + 1) (by rw [List.length_set]; omega)]
  have e1 : (m.set j v).take (j + 1) = m.take j ++ [v] := by
   rw [List.take_succ_eq_append_getElem (by rw [List.length_set]; omega), List.getElem_set_self, List.take_set_of_le (Nat.le_refl _)]
  have e2 : (m.set j v).drop (j + 1 + vs.length) = m.drop (j + (v :: vs).length) := by
   rw [List.drop_set_of_lt (by omega)]
   congr 1
   simp only [List.length_cons]; omega
  rw [e1, e2]
  simp
theorem KyIs.put {w w' : World} {g1 g2 : Nat} {m o : List Int} (h : KyIs w w' g1 g2 m o) (j : Nat) (v : Int) : KyIs w (w'.setCell ⟨g1, j, none⟩ (.int .i64 v)) g1 g2 (m.set j v) o := by
 refine ⟨qKA h.tab j _ ?_, qRB h.opp (fun e => h.ne e.symm) _, h.ne, h.ge, h.ge2, qFA h.below h.ge⟩
 simp [kyC, List.map_set]
theorem KyIs.put2 {w w' : World} {g1 g2 : Nat} {m o : List Int} (h : KyIs w w' g1 g2 m o) (j : Nat) (v : Int) : KyIs w (w'.setCell ⟨g2, j, none⟩ (.int .i64 v)) g1 g2 m (o.set j v) := by
 refine ⟨qRB h.tab h.ne _, qKA h.opp j _ ?_, h.ne, h.ge, h.ge2, qFA h.below h.ge2⟩
 simp [kyC, List.map_set]
theorem KyIs.puts {w : World} {g1 g2 : Nat} : ∀ (vs : List Int) (j : Nat) (m o : List Int) (w' : World), KyIs w w' g1 g2 m o → KyIs w (w'.setCells g1 j (vs.map (Value.int .i64))) g1 g2 (kySet m j vs) o
 | [], j, m, o, w', h => h
 | v :: vs, j, m, o, w', h => KyIs.puts vs (j + 1) _ o _ (h.put j v)
theorem KyIs.puts2 {w : World} {g1 g2 : Nat} : ∀ (vs : List Int) (j : Nat) (m o : List Int) (w' : World), KyIs w w' g1 g2 m o → KyIs w (w'.setCells g2 j (vs.map (Value.int .i64))) g1 g2 m (kySet o j vs)
 | [], j, m, o, w', h => h
 | v :: vs, j, m, o, w', h => KyIs.puts2 vs (j + 1) m _ _ (h.put2 j v)
theorem KyIs.whole {w w' W : World} {g1 g2 : Nat} {m o vs : List Int} (h : KyIs w w' g1 g2 m o) (hW : w'.setCells g1 0 (kyC vs).toList = W) (hl : vs.length = m.length) : KyIs w W g1 g2 vs o := by
 have := KyIs.puts vs 0 m o w' h
 rw [qFE vs m 0 (by omega), List.take_zero, List.nil_append, Nat.zero_add, hl, List.drop_length, List.append_nil] at this
 rw [← hW]
 exact this
theorem KyIs.front2 {w w' W : World} {g1 g2 : Nat} {m o vs : List Int} (h : KyIs w w' g1 g2 m o) (hW : w'.setCells g2 0 (vs.map (Value.int .i64)) = W) (hl : vs.length ≤ o.length) : KyIs w W g1 g2 m (vs ++ o.drop vs.length) := by
 have := KyIs.puts2 vs 0 m o w' h
 rw [qFE vs o 0 (by omega), List.take_zero, List.nil_append, Nat.zero_add] at this
 rw [← hW]
 exact this
theorem KyIs.start (w : World) : KyIs w ((w.alloc (.cells (kyC (List.replicate 16 0)) 94)).alloc (.cells (kyC (List.replicate 16 0)) 94)) w.heap.size (w.heap.size + 1) (List.replicate 16 0) (List.replicate 16 0) := by
 refine ⟨qE (qpD w _) _, ?_, by omega, Nat.le_refl _, by omega, qt (qt (Below.refl _ _) _) _⟩
 have := qpD (w.alloc (.cells (kyC (List.replicate 16 0)) 94 (0, 0))) (.cells (kyC (List.replicate 16 0)) 94 (0, 0))
 rw [show (w.alloc (.cells (kyC (List.replicate 16 0)) 94 (0, 0))).heap.size = w.heap.size + 1 by simp] at this
 exact this
section
variable {P : Program}
theorem run_copy_wide (w : World) (dT sT ty elem : TypeId) (s b o dLen dCap : Nat) (a : Addr) (sLen sCap : Nat) (cs : List Value)
  (hu : P.underlying dT = some (.slice elem)) (hs : (P.info? elem).map (·.size) = some s) (hn : cs.length = Nat.min sLen dLen * s)
  (hsrc : ∀ j v, cs[j]? = some v → w.cell? (a.add j) = some v) (hc : ∀ j, j < cs.length → (w.cell? ⟨b, o + j, none⟩).isSome = true) (hf : ∀ j, j < cs.length → w.frozen? ⟨b, o + j, none⟩ = false) (h1 : ∀ v ∈ cs, v.oneCell' = true) :
  (Builtin.copy_ #[dT, sT] ty #[.slice (some ⟨b, o, none⟩) dLen dCap, .slice (some a) sLen sCap]).run P w = .ok (goInt (Nat.min sLen dLen)) (w.setCells b o cs) := by
 have hl := run_loadCells_list (P := P) w a cs hsrc
 have hst := run_storeCells_cells (P := P) b o cs 0 w (by simpa using hc) (by simpa using hf) h1
 rw [hn] at hl
 cases hq : P.info? elem with
 | none => simp [hq] at hs
 | some i =>
  have hi : i.size = s := by simpa [hq] using hs
  simp [Builtin.copy_, run_underlying hu, Builtin.lenOf, Builtin.firstCells, sizeOf, typeInfo, hq, hi, hl, hst]
end
theorem qGE : (Tryz.prog.info? 94).map (·.size) = some 16 := by kernel_rfl
set_option maxHeartbeats 8000000 in
set_option maxRecDepth 100000 in
theorem qkD (A0 : Option Addr) (c0 : Nat) (l0 : List XS) (w : World) (hr0 : Kd.C k53 w A0 l0.length l0) (hp : 1 ≤ l0.length) (hl : l0.length ≤ 2) :
  Calls Tryz.prog 51 #[.slice A0 l0.length c0] w fun e w' => e = .returned (encK l0) ∧ Below w.heap.size w w' := by
 have hu71 := Tryz.underlying94
 obtain ⟨ad, rfl, _⟩ := hr0.2.2 hp
 have HR := aM hr0
 have HPL := aM (And.intro hp hl)
 clear hr0 hp hl
 have IS := aM (KyIs.start w)
 go_enter Tryz.func51, Tryz.ntmps51
 go_wp2_with (first
  | ((with_reducible refine qCB (b := .copy) (xs := #[.tmp 5, .tmp 6]) rfl ?_); go_loud (refine Lib.wpList_copy_run _ rfl (.tmp 5) (.tmp 6) 26 26 rfl _ _ rfl rfl (run_copy_wide _ 26 26 _ 53 8 (w.heap.size + 1) 0 2 2 ad l0.length c0 ((flatS l0).map (Value.int .i64)) Tryz.underlying26 (by kernel_rfl) ?hn ?hsrc ?hc ?hf ?h1) ?_; (case hn => have := HPL.out; rw [List.length_map, qfB]; show _ = min l0.length 2 * 8; omega); (case hsrc => exact cells_flat (Kd.qY HR.out IS.out.below)); (case hc => intro j hj; rw [List.length_map, qfB] at hj; have h_ := HPL.out; exact (IS.out.there2 16 (by decide) j (by omega)).1); (case hf => intro j hj; rw [List.length_map, qfB] at hj; have h_ := HPL.out; exact (IS.out.there2 16 (by decide) j (by omega)).2); (case h1 => intro v hv; obtain ⟨x, _, rfl⟩ := List.mem_map.1 hv; rfl); generalize hW : World.setCells _ _ _ _ = W; have n_ := aM (KyIs.front2 (vs := flatS l0) IS.out hW (by rw [qfB, List.length_replicate]; have := HPL.out; omega)); clear IS hW; have IS := n_; clear n_))
  | ((with_reducible refine qG (N := 8) rfl ?_); go_loud (refine wpList_load_mid (by rfl) 94 (.tmp 3) (by rfl) (w.heap.size + 1) 0 rfl ((keyL l0).map (Value.int .i64)) (.array 2 53) ?hc hu71 rfl ?hi ?_; (case hc => have h_ := IS.out.range2; rw [key_is] at h_; exact h_); (case hi => have h_ := HPL.out; rw [List.length_map, qlC _ h_.2]; exact qGE)))
  | ((with_reducible refine qzB (t := 94) (p := 2) rfl ?_); go_loud (refine wpList_store_mid (by rfl) 94 (.tmp 2) (.tmp 8) (by rfl) w.heap.size 0 (kyC (keyL l0)) rfl rfl ?ht ?hi (kyC_one _) ?_; (case hi => have h_ := HPL.out; rw [show (kyC (keyL l0)).size = 16 by simp [kyC, qlC _ h_.2]]; exact qGE); (case ht => have h_ := HPL.out; rw [show (kyC (keyL l0)).size = 16 by simp [kyC, qlC _ h_.2]]; exact IS.out.there1 16 (by decide)); generalize hW : World.setCells _ _ _ _ = W; have n_ := aM (KyIs.whole IS.out hW (by have h_ := HPL.out; rw [qlC _ h_.2]; rfl)); clear IS hW; have IS := n_; clear n_)))
 refine bodyPost_ret (results_cell_row rfl _ _ w.heap.size 94 (kyC (keyL l0)) (0, 0) _ rfl IS.out.tab Tryz.underlying94 rfl (by have h_ := HPL.out; rw [show (kyC (keyL l0)).size = 16 by simp [kyC, qlC _ h_.2]]; exact qGE)) rfl ?_
 exact ⟨rfl, IS.out.below⟩
end Go.Proofs.YthhiiceligjleaaGreatDoor
namespace Go.Proofs.YthhiiceligjleaaGreatDoor
open Go Go.ChangeMaps Go.MapKept
open Go.Maps (Keyed IsMap Tidy)
set_option linter.unusedVariables false
set_option linter.unusedSectionVars false
theorem plainElem_bool_inv {H : Type} {P : Program} {e : TypeId} (he : P.underlying e = some .bool) {v : Value} {z : DataW H × List MemPlace} (h : plainElem P e v = some z) : ∃ x, v = .bool x ∧ z = (.lit (.bool x), []) := by
 unfold plainElem at h
 rw [he] at h
 cases v <;> simp at h
 exact ⟨_, rfl, h.symm⟩
structure MapKit (P : Program) (κ ν : Type) where
 t : TypeId
 k : TypeId
 e : TypeId
 law : Keyed P k
 ht : P.underlying t = some (.map k e)
 okK : κ → Prop
 key : κ → Value
 lit : κ → Lit
 hkey : ∀ x, okK x → keyOf P k (key x) = some (lit x)
 inj : ∀ x y, key x = key y → x = y
 okV : ν → Prop
 val : ν → Value
 dat : ν → DataW Unit
 R : Value → Option (DataW Unit × List MemPlace)
 hval : ∀ v, okV v → R (val v) = some (dat v, [])
 hdat : ∀ v u ps, R u = some (dat v, ps) → u = val v
 zero : ν
 okz : okV zero
 hz : ∀ w, (zeroValue e).run P w = .ok (val zero) w
namespace MapKit
variable {P : Program} {κ ν : Type} [DecidableEq κ] (M : MapKit P κ ν)
def datum : List (κ × ν) → DataW Unit
 | [] => .map []
 | x :: l => (datum l).put (M.lit x.1) (M.dat x.2)
def look (l : List (κ × ν)) (x : κ) : ν := match l.find? fun y => decide (y.1 = x) with | some y => y.2 | none => M.zero
def met (l : List (κ × ν)) (x : κ) : Bool := l.any fun y => decide (y.1 = x)
structure Is (w : World) (b : Nat) (l : List (κ × ν)) : Prop where
 ok : ∀ y ∈ l, M.okK y.1 ∧ M.okV y.2
 own : w.ownsMap P M.k M.R b l.length (M.datum l)
theorem datum_isMap : ∀ l : List (κ × ν), IsMap (M.datum l)
 | [] => Go.Maps.isMap_empty
 | x :: l => (datum_isMap l).put _ _
theorem lit_ne {x y : κ} (hx : M.okK x) (hy : M.okK y) (h : x ≠ y) : M.lit x ≠ M.lit y := fun e =>
 h (M.inj _ _ (M.law.inj (M.hkey x hx) (by rw [M.hkey y hy, e])))
theorem at_datum {x : κ} (hx : M.okK x) : ∀ (l : List (κ × ν)), (∀ y ∈ l, M.okK y.1 ∧ M.okV y.2) → (M.datum l).atKey (M.lit x) (M.dat M.zero) = M.dat (M.look l x)
 | [], _ => rfl
 | y :: l, h => by
  have ih := at_datum hx l (fun z hz => h z (List.mem_cons_of_mem _ hz))
  have hy := (h y List.mem_cons_self).1
  show ((M.datum l).put (M.lit y.1) (M.dat y.2)).atKey (M.lit x) (M.dat M.zero) = _
  unfold look at ih ⊢
  by_cases e : y.1 = x
  case pos => rw [List.find?_cons_of_pos (by simpa using e), e]; exact Go.Maps.atKey_put_same (M.datum_isMap l) (M.law.key (M.hkey x hx)) _ _
  rw [List.find?_cons_of_neg (by simpa using e), ← ih]
  exact Go.Maps.atKey_put_other (M.lit_ne hx hy (fun q => e q.symm)) _ _
variable {M} {w : World} {b : Nat} {l : List (κ × ν)}
theorem Is.made (w : World) : M.Is (w.alloc (.map #[] 0)) w.heap.size [] := ⟨fun _ h => (List.not_mem_nil h).elim, World.ownsMap_made _ _ _ _⟩
theorem Is.lt (h : M.Is w b l) : b < w.heap.size := h.own.lt
theorem Is.kept {w' : World} {row : Option Nat} (h : M.Is w b l) (hg : w.grownBy w' row) (hne : some b ≠ row) : M.Is w' b l := ⟨h.ok, h.own.kept hg hne⟩
theorem Is.alloc (h : M.Is w b l) (o : Obj) : M.Is (w.alloc o) b l := ⟨h.ok, h.own.alloc o⟩
theorem Is.setCell (h : M.Is w b l) {a : Addr} (ha : b ≠ a.block) (u : Value) : M.Is (w.setCell a u) b l := ⟨h.ok, h.own.setCell ha u⟩
theorem Is.qxB {w' : World} (h : M.Is w b l) (e : w'.heap[b]? = w.heap[b]?) : M.Is w' b l := by
 obtain ⟨es, clock, hb, r⟩ := h.own
 exact ⟨h.ok, es, clock, by rw [e, hb], r⟩
theorem Is.run_look (h : M.Is w b l) {x : κ} (hx : M.okK x) : (Instr.lookup M.t (.map (some b)) (M.key x) false).run P w = .ok (M.val (M.look l x)) w := by
 obtain ⟨v, ps, hrun, hv⟩ := h.own.lookup M.law M.ht (M.hz w) (M.hval _ M.okz) (M.hkey x hx)
 rw [M.at_datum hx l h.ok] at hv
 rw [hrun, M.hdat _ _ _ hv]
theorem Is.run_put (h : M.Is w b l) (hn : l.length < maxLen) {x : κ} (hx : M.okK x) {v : ν} (hv : M.okV v) : ∃ w', (Instr.mapUpdate M.t (.map (some b)) (M.key x) (M.val v)).run P w = .ok () w' ∧ M.Is w' b ((x, v) :: l) ∧ w.grownBy w' (some b) := by
 obtain ⟨w', hrun, h1, h2⟩ := h.own.update M.law M.ht hn (M.hkey x hx) (M.hval v hv)
 refine ⟨w', hrun, ⟨fun y hy => ?_, h1⟩, h2⟩
 rcases List.mem_cons.1 hy with rfl | hy
 ·exact ⟨hx, hv⟩
 ·exact h.ok y hy
variable {ops : Array Oper} {rest : List Oper} {o : Oper} {a : Act} {Q : Exit → Act → World → Prop}
end MapKit
theorem elem_bool {P : Program} {e : TypeId} (he : P.underlying e = some .bool) : (∀ v : Bool, True → plainElem (H := Unit) P e (.bool v) = some (.lit (.bool v), [])) ∧ ∀ (v : Bool) (u : Value) ps, plainElem (H := Unit) P e u = some (.lit (.bool v), ps) → u = .bool v := by
 refine ⟨fun v _ => plainElem_bool he v, fun v u ps h => ?_⟩
 obtain ⟨x, rfl, hz⟩ := plainElem_bool_inv he h
 simp only [Prod.mk.injEq, DataW.lit.injEq, Lit.bool.injEq] at hz
 rw [hz.1]
end Go.Proofs.YthhiiceligjleaaGreatDoor
namespace Go.Proofs.YthhiiceligjleaaGreatDoor
open Go.RowKit Go.Proofs.YthhiiceligjleaaGreatDoorW.PrintWords Go.Proofs.YthhiiceligjleaaGreatDoorW.PrintLast
set_option linter.unusedVariables false
set_option linter.unusedSectionVars false
namespace MapKit
variable {P : Program} {κ ν : Type} [DecidableEq κ] {M : MapKit P κ ν} {w w1 : World} {b : Nat} {l : List (κ × ν)}
theorem Is.below (h : M.Is w b l) (hb : Below w.heap.size w w1) : M.Is w1 b l := h.qxB (hb.block b h.lt)
theorem Is.drewN (h : M.Is w b l) (n : Nat) : M.Is (w.drewN n) b l := h.qxB rfl
theorem Is.drew (h : M.Is w b l) : M.Is w.drew b l := h.qxB rfl
theorem Is.obj (h : M.Is w b l) : ∃ es clock, w.heap[b]? = some (.map es clock) := by
 obtain ⟨es, clock, hb, _⟩ := h.own
 exact ⟨es, clock, hb⟩
theorem Is.off (h : M.Is w b l) {k : Nat} {cells : Array Value} {q : TypeId} (hc : w.heap[k]? = some (.cells cells q (0, 0))) : k ≠ b := by
 rintro rfl
 obtain ⟨es, clock, hb⟩ := h.obj
 rw [hb] at hc
 cases hc
theorem Is.ne (h : M.Is w b l) {α : Type} {d : Kd α} {e base : Nat} {ok : Nat → Prop} {v : Value} {xs : List α} (hR : d.R e w base ok v xs) : some b ≠ v.ownBlock := by
 intro he
 obtain ⟨_, _, _, q, _, cells, hc⟩ := (Kd.qpB hR).1 b he.symm
 exact h.off hc rfl
theorem Is.row (h : M.Is w b l) {α : Type} {d : Kd α} {e base : Nat} {ok : Nat → Prop} {v : Value} {xs : List α} (hR : d.R e w base ok v xs) (hg : w.grownBy w1 (some b)) : d.R e w1 base ok v xs :=
 Kd.qX (Kd.qwD (Kd.qpB hR) (fun k hk hlt => hg.block k hlt (fun e_ => by
  injection e_ with e_
  obtain ⟨_, _, _, q, _, cells, hc⟩ := hk
  exact h.off hc e_))) (fun _ hk => hk.1)
end MapKit
end Go.Proofs.YthhiiceligjleaaGreatDoor
namespace Go.Proofs
open Go.Shelf
def Tryz.lays146_ren : Go.Shelf.Ren := ⟨fun | 146 => 75 | 221 => 88 | 268 => 99 | 138 => 100 | 143 => 101 | 195 => 107 | 197 => 103 | 218 => 108 | 219 => 109 | 260 => 110 | 217 => 113 | 225 => 114 | 224 => 115 | 267 => 116 | 266 => 119 | 314 => 120 | n => n, fun | 9 => 9 | 31 => 61 | 3 => 3 | 4 => 4 | 0 => 0 | 105 => 142 | 21 => 21 | 5 => 5 | 46 => 149 | 119 => 150 | 139 => 153 | 138 => 152 | 146 => 156 | 51 => 155 | n => n, fun | 1 => 0 | 3 => 1 | 4 => 2 | n => n⟩
theorem Tryz.lays146 : Go.Proofs.Lays.n146 Tryz.prog Tryz.lays146_ren := {
 mixed := by kernel_rfl
 f138 := Tryz.func100.trans (congrArg some (by kernel_rfl))
 f143 := Tryz.func101.trans (congrArg some (by kernel_rfl))
 f146 := Tryz.func75.trans (congrArg some (by kernel_rfl))
 f195 := Tryz.func107.trans (congrArg some (by kernel_rfl))
 f197 := Tryz.func103.trans (congrArg some (by kernel_rfl))
 f217 := Tryz.func113.trans (congrArg some (by kernel_rfl))
 f218 := Tryz.func108.trans (congrArg some (by kernel_rfl))
 f219 := Tryz.func109.trans (congrArg some (by kernel_rfl))
 f221 := Tryz.func88.trans (congrArg some (by kernel_rfl))
 f224 := Tryz.func115.trans (congrArg some (by kernel_rfl))
 f225 := Tryz.func114.trans (congrArg some (by kernel_rfl))
 f260 := Tryz.func110.trans (congrArg some (by kernel_rfl))
 f266 := Tryz.func119.trans (congrArg some (by kernel_rfl))
 f267 := Tryz.func116.trans (congrArg some (by kernel_rfl))
 f268 := Tryz.func99.trans (congrArg some (by kernel_rfl))
 f314 := Tryz.func120.trans (congrArg some (by kernel_rfl))
 t0 := Tryz.underlying0
 a0 := Tryz.isAgg0
 z0 := Tryz.sizeOf0
 v0 := Tryz.zeroValue0
 t3 := Tryz.underlying3
 a3 := Tryz.isAgg3
 z3 := Tryz.sizeOf3
 v3 := Tryz.zeroValue3
 t4 := Tryz.underlying4
 a4 := Tryz.isAgg4
 z4 := Tryz.sizeOf4
 v4 := Tryz.zeroValue4
 t5 := Tryz.underlying5
 a5 := Tryz.isAgg5
 z5 := Tryz.sizeOf5
 v5 := Tryz.zeroValue5
 t9 := Tryz.underlying9
 a9 := Tryz.isAgg9
 z9 := Tryz.sizeOf9
 v9 := Tryz.zeroValue9
 t21 := Tryz.underlying21
 a21 := Tryz.isAgg21
 z21 := Tryz.sizeOf21
 v21 := Tryz.zeroValue21
 t31 := Tryz.underlying61
 a31 := Tryz.isAgg61
 z31 := Tryz.sizeOf61
 v31 := Tryz.zeroValue61
 t46 := Tryz.underlying149
 a46 := Tryz.isAgg149
 z46 := Tryz.sizeOf149
 v46 := Tryz.zeroValue149
 t51 := Tryz.underlying155
 a51 := Tryz.isAgg155
 z51 := Tryz.sizeOf155
 v51 := Tryz.zeroValue155
 t105 := Tryz.underlying142
 a105 := Tryz.isAgg142
 z105 := Tryz.sizeOf142
 v105 := Tryz.zeroValue142
 t119 := Tryz.underlying150
 a119 := Tryz.isAgg150
 z119 := Tryz.sizeOf150
 t138 := Tryz.underlying152
 a138 := Tryz.isAgg152
 z138 := Tryz.sizeOf152
 v138 := Tryz.zeroValue152
 t139 := Tryz.underlying153
 a139 := Tryz.isAgg153
 z139 := Tryz.sizeOf153
 v139 := Tryz.zeroValue153
 t146 := Tryz.underlying156
 a146 := Tryz.isAgg156
 z146 := Tryz.sizeOf156
 v146 := Tryz.zeroValue156
 g1 := by kernel_rfl
 g3 := by kernel_rfl
 g4 := by kernel_rfl }
open Go.RowKit Go.Lib in
theorem Tryz.strings_Split (s sep : ByteArray) (m : Int) (w : World) (hs : s.size < 4294967281) (hm : w.cell? ⟨0, 0, none⟩ = some (.int .i64 m)) (h1 : 1 ≤ sep.size) :
  Calls Tryz.prog 75 #[.string s, .string sep] w fun e w' =>
   e = .returned (.slice (some ⟨w.heap.size, 0, none⟩) (Lib.countB s sep + 1) (Lib.countB s sep + 1)) ∧ w' = w.alloc (.cells ((Lib.splitB sep 0 (Lib.countB s sep) s).map Value.string).toArray 9) := Any.strings_Split Tryz.lays146 (by kernel_rfl) s sep m w hs hm h1
def Tryz.lays160_ren : Go.Shelf.Ren := ⟨fun | 160 => 76 | 232 => 90 | 231 => 89 | 227 => 91 | 234 => 93 | 233 => 92 | 236 => 95 | 235 => 94 | 228 => 102 | 271 => 105 | 151 => 104 | 197 => 103 | 120 => 112 | 152 => 111 | 260 => 110 | 137 => 117 | 119 => 118 | 224 => 115 | 225 => 114 | 217 => 113 | 266 => 119 | n => n, fun | 9 => 9 | 4 => 4 | 3 => 3 | 5 => 5 | 117 => 132 | 116 => 131 | 0 => 0 | 124 => 135 | 21 => 21 | 105 => 142 | 46 => 149 | 119 => 150 | 139 => 153 | 138 => 152 | n => n, fun | 3 => 1 | 4 => 2 | n => n⟩
theorem Tryz.lays160 : Go.Proofs.Lays.n160 Tryz.prog Tryz.lays160_ren := {
 mixed := by kernel_rfl
 f119 := Tryz.func118.trans (congrArg some (by kernel_rfl))
 f120 := Tryz.func112.trans (congrArg some (by kernel_rfl))
 f137 := Tryz.func117.trans (congrArg some (by kernel_rfl))
 f151 := Tryz.func104.trans (congrArg some (by kernel_rfl))
 f152 := Tryz.func111.trans (congrArg some (by kernel_rfl))
 f160 := Tryz.func76.trans (congrArg some (by kernel_rfl))
 f197 := Tryz.func103.trans (congrArg some (by kernel_rfl))
 f217 := Tryz.func113.trans (congrArg some (by kernel_rfl))
 f224 := Tryz.func115.trans (congrArg some (by kernel_rfl))
 f225 := Tryz.func114.trans (congrArg some (by kernel_rfl))
 f227 := Tryz.func91.trans (congrArg some (by kernel_rfl))
 f228 := Tryz.func102.trans (congrArg some (by kernel_rfl))
 f231 := Tryz.func89.trans (congrArg some (by kernel_rfl))
 f232 := Tryz.func90.trans (congrArg some (by kernel_rfl))
 f233 := Tryz.func92.trans (congrArg some (by kernel_rfl))
 f234 := Tryz.func93.trans (congrArg some (by kernel_rfl))
 f235 := Tryz.func94.trans (congrArg some (by kernel_rfl))
 f236 := Tryz.func95.trans (congrArg some (by kernel_rfl))
 f260 := Tryz.func110.trans (congrArg some (by kernel_rfl))
 f266 := Tryz.func119.trans (congrArg some (by kernel_rfl))
 f271 := Tryz.func105.trans (congrArg some (by kernel_rfl))
 t0 := Tryz.underlying0
 a0 := Tryz.isAgg0
 z0 := Tryz.sizeOf0
 v0 := Tryz.zeroValue0
 t3 := Tryz.underlying3
 a3 := Tryz.isAgg3
 z3 := Tryz.sizeOf3
 v3 := Tryz.zeroValue3
 t4 := Tryz.underlying4
 a4 := Tryz.isAgg4
 z4 := Tryz.sizeOf4
 v4 := Tryz.zeroValue4
 t5 := Tryz.underlying5
 a5 := Tryz.isAgg5
 z5 := Tryz.sizeOf5
 v5 := Tryz.zeroValue5
 t9 := Tryz.underlying9
 a9 := Tryz.isAgg9
 z9 := Tryz.sizeOf9
 v9 := Tryz.zeroValue9
 t21 := Tryz.underlying21
 a21 := Tryz.isAgg21
 z21 := Tryz.sizeOf21
 v21 := Tryz.zeroValue21
 t46 := Tryz.underlying149
 a46 := Tryz.isAgg149
 z46 := Tryz.sizeOf149
 v46 := Tryz.zeroValue149
 t105 := Tryz.underlying142
 a105 := Tryz.isAgg142
 z105 := Tryz.sizeOf142
 v105 := Tryz.zeroValue142
 t116 := Tryz.underlying131
 a116 := Tryz.isAgg131
 z116 := Tryz.sizeOf131
 t117 := Tryz.underlying132
 a117 := Tryz.isAgg132
 z117 := Tryz.sizeOf132
 v117 := Tryz.zeroValue132
 t119 := Tryz.underlying150
 a119 := Tryz.isAgg150
 z119 := Tryz.sizeOf150
 t124 := Tryz.underlying135
 a124 := Tryz.isAgg135
 z124 := Tryz.sizeOf135
 v124 := Tryz.zeroValue135
 t138 := Tryz.underlying152
 a138 := Tryz.isAgg152
 z138 := Tryz.sizeOf152
 v138 := Tryz.zeroValue152
 t139 := Tryz.underlying153
 a139 := Tryz.isAgg153
 z139 := Tryz.sizeOf153
 v139 := Tryz.zeroValue153
 g3 := by kernel_rfl
 g4 := by kernel_rfl }
end Go.Proofs
namespace Go.Proofs.YthhiiceligjleaaGreatDoor
open Go.RowKit Go.Proofs.YthhiiceligjleaaGreatDoorW.PrintWords Go.Proofs.YthhiiceligjleaaGreatDoorW.PrintLast
set_option linter.unusedVariables false
set_option linter.unusedSimpArgs false
def strings_Split.f (a0 a1 : ByteArray) : Option (List ByteArray) := if a0.size < 4294967281 ∧ 1 ≤ a1.size then some (Lib.splitB a1 0 (Lib.countB a0 a1) a0) else none
theorem strings_Split.calls (a0 a1 : ByteArray) (r : List ByteArray) (w : World) (hL : Laid w) (h : strings_Split.f a0 a1 = some r) :
  Calls Tryz.prog 75 #[.string a0, .string a1] w fun e w' => ∃ v0_ : Value, e = .returned v0_ ∧ Kd.R Kd.string 9 w' w.heap.size (fun _ => True) v0_ r ∧ Below w.heap.size w w' := by
 unfold strings_Split.f at h
 split at h
 ·rename_i hs
  obtain rfl := Option.some.inj h
  obtain ⟨m, hm⟩ := hL
  have hlen := Lib.splitB_all a1 hs.2 0 _ a0 rfl
  have hle := Lib.countB_le a1 hs.2 a0.size a0 (Nat.le_refl _)
  refine (Tryz.strings_Split a0 a1 m w hs.1 hm hs.2).mono fun e w' ⟨h1, h2⟩ => ⟨_, h1, ?_, ?_⟩
  ·subst h2
   generalize Lib.splitB a1 0 (Lib.countB a0 a1) a0 = l at *
   rw [← hlen]
   refine Kd.R_of_own ⟨by rw [qzC, Nat.mul_one], .inr ⟨w.heap.size, l.length, (l.map Value.string).toArray, rfl, Nat.le_refl _, ?_, Nat.le_refl _, ?_, ?_, ?_⟩⟩ (fun _ _ => trivial)
   ·exact qpD _ _
   ·unfold maxLen; omega
   ·simp
   ·simp only [encs, Nat.mul_one]
    rw [List.take_of_length_le (by simp)]
  ·subst h2
   exact qt (Below.refl _ _) _
 ·cases h
def qMB.f (a0 a1 : ByteArray) : Option ByteArray := if a0.size ≤ 9223372036854775807 ∧ a1.size < 4294967281 ∧ (a1.data.toList.all fun b => decide (b.toNat < 128)) = true then some ⟨(Lib.trimS a0.data.toList a1.data.toList).toArray⟩ else none
theorem qMB.calls (a0 a1 : ByteArray) (r : ByteArray) (w : World) (h : qMB.f a0 a1 = some r) :
  Calls Tryz.prog 76 #[.string a0, .string a1] w fun e w' => e = .returned (.string r) ∧ Below w.heap.size w w' := by
 unfold qMB.f at h
 split at h
 ·rename_i hs
  obtain rfl := Option.some.inj h
  exact Any.strings_Trim_laid Tryz.lays160 (by kernel_rfl) a0 a1 w hs.1 hs.2.1 (ascii_of_all hs.2.2)
 ·cases h
def sp (c : UInt8) : List UInt8 → List UInt8 × List (List UInt8)
 | [] => ([], [])
 | b :: r => if b = c then ([], (sp c r).1 :: (sp c r).2) else (b :: (sp c r).1, (sp c r).2)
theorem splitK_sp (c : UInt8) (l : List UInt8) : Lib.splitK [c] 0 (Lib.count l [c]) l = (sp c l).1 :: (sp c l).2 := by
 induction l with
 | nil =>
  have : Lib.count [] [c] = 0 := by rw [Lib.count_one]; rfl
  rw [this]; rfl
 | cons b l ih =>
  by_cases h : b = c
  case pos => subst h; (have hix : Lib.index (b :: l) [b] = 0 := by rw [Lib.index]; simp [List.isPrefixOf]); rw [Lib.count_cons_eq, show 1 + Lib.count l [b] = Lib.count l [b] + 1 by omega, Lib.splitK, hix]; simp only [sp, if_true]; rw [if_neg (by decide), ← ih]; rfl
  have hp : ([c] : List UInt8).isPrefixOf (b :: l) = false := by simp [List.isPrefixOf, Ne.symm h]
  have hix : Lib.index (b :: l) [c] = if Lib.index l [c] == -1 then -1 else Lib.index l [c] + 1 := by rw [Lib.index, hp]; simp
  rw [Lib.count_cons_ne b c l h]
  simp only [sp, if_neg h]
  by_cases hm : Lib.index l [c] = -1
  case pos => have h0 : Lib.count l [c] = 0 := Lib.count_miss hm; rw [h0] at ih ⊢; simp only [Lib.splitK] at ih ⊢; injection ih with e1 e2; rw [← e1, ← e2]
  have hge := Lib.index_ge l [c]
  obtain ⟨j, hj⟩ : ∃ j : Nat, Lib.index l [c] = j := ⟨(Lib.index l [c]).toNat, by omega⟩
  have hc := Lib.count_hit (sub := [c]) (by simp) hj
  obtain ⟨k, hk⟩ : ∃ k, Lib.count l [c] = k + 1 := ⟨Lib.count l [c] - 1, by omega⟩
  rw [hk] at ih ⊢
  have hne : ¬ ((j : Int) == -1) = true := by intro e; have := beq_iff_eq.1 e; omega
  have hne' : ¬ ((j : Int) + 1 == -1) = true := by intro e; have := beq_iff_eq.1 e; omega
  rw [Lib.splitK, hj, if_neg hne] at ih
  rw [Lib.splitK, hix, hj, if_neg hne, if_neg hne']
  have e1 : ((j : Int) + 1).toNat = j + 1 := by omega
  rw [e1]
  simp only [Int.toNat_natCast, Nat.add_zero, List.length_singleton] at ih ⊢
  injection ih with i1 i2
  rw [← i1, ← i2]
  rfl
theorem split_sp (a : ByteArray) (c : UInt8) : (Lib.splitB ⟨#[c]⟩ 0 (Lib.countB a ⟨#[c]⟩) a).map (·.data.toList) = (sp c a.data.toList).1 :: (sp c a.data.toList).2 := by
 rw [Lib.splitB_data]
 exact splitK_sp c a.data.toList
theorem qfD (c : UInt8) (l : List UInt8) : l.length = (sp c l).1.length + ((sp c l).2.map List.length).sum + (sp c l).2.length := by
 induction l with
 | nil => rfl
 | cons b l ih =>
  by_cases h : b = c
  case pos => simp only [sp, if_pos h, List.length_cons, List.length_nil, List.map_cons, List.sum_cons]; omega
  simp only [sp, if_neg h, List.length_cons]; omega
theorem sp_all (c : UInt8) (p : UInt8 → Bool) (l : List UInt8) (hp : p c = false) : ((sp c l).1.all p && (sp c l).2.all (·.all p)) = l.all fun b => b == c || p b := by
 induction l with
 | nil => rfl
 | cons b l ih =>
  by_cases h : b = c
  case pos => subst h; simp only [sp, if_true, List.all_nil, Bool.true_and, List.all_cons, ih, beq_self_eq_true, Bool.true_or]
  have : (b == c) = false := by simpa using h
  simp only [sp, if_neg h, List.all_cons, Bool.and_assoc, ih, this, Bool.false_or]
theorem qrB {p : UInt8 → Bool} {e : UInt8} (he : p e = false) : ∀ l : List UInt8, e ∈ l → e ∈ l.dropWhile p
 | [], h => h
 | b :: l, h => by
  rw [List.dropWhile_cons]
  split
  ·rename_i hb
   rcases List.mem_cons.1 h with rfl | h
   ·rw [he] at hb; cases hb
   ·exact qrB he l h
  ·exact h
theorem dropWhile_all {p : UInt8 → Bool} : ∀ l : List UInt8, l.all p = true → l.dropWhile p = []
 | [], _ => rfl
 | b :: l, h => by
  rw [List.all_cons, Bool.and_eq_true] at h
  rw [List.dropWhile_cons, if_pos h.1]
  exact dropWhile_all l h.2
theorem trimS_nil (l cs : List UInt8) : (Lib.trimS l cs = []) ↔ l.all (cs.contains ·) = true := by
 unfold Lib.trimS Lib.trimLeftS Lib.trimRightS
 constructor
 ·intro h
  rw [List.all_eq_true]
  intro e he
  cases hc : cs.contains e with
  | true => rfl
  | false =>
   have h1 := qrB (p := (cs.contains ·)) (e := e) hc l.reverse (by simpa using he)
   have h2 := qrB (p := (cs.contains ·)) (e := e) hc (l.reverse.dropWhile (cs.contains ·)).reverse (by simpa using h1)
   rw [h] at h2; cases h2
 ·intro h
  rw [dropWhile_all l.reverse (by rw [List.all_reverse]; exact h)]
  rfl
end Go.Proofs.YthhiiceligjleaaGreatDoor
namespace Go.Proofs.YthhiiceligjleaaGreatDoor.P
open Go.RowKit Go.Proofs.YthhiiceligjleaaGreatDoorW.PrintWords Go.Proofs.YthhiiceligjleaaGreatDoorW.PrintLast Go.Proofs.YthhiiceligjleaaGreatDoorW.PrintMore
attribute [local go_sem] qk qi qx qw qc qb qj qh
set_option linter.unusedVariables false
set_option linter.unusedSimpArgs false
def qkA.f (a0 : Int) (a1 : Int) (a2 : Int) : Option (Bool) := if a1 ≤ a0 then (some (decide (a0 ≤ a2))) else (some false)
set_option maxHeartbeats 8000000 in
set_option maxRecDepth 100000 in
theorem qkA.calls (a0 : Int) (a1 : Int) (a2 : Int) (r : Bool) (w : World) (h : qkA.f a0 a1 a2 = some r) :
  Calls Tryz.prog 59 #[.int .i64 a0, .int .i64 a1, .int .i64 a2] w fun e w' => e = .returned (.bool r) ∧ Drawn0 w w' := by
 have H : (if a1 ≤ a0 then (some (decide (a0 ≤ a2))) else (some false)) = some r := h
 clear h
 by_cases c4 : a1 ≤ a0
 ·rw [if_pos c4] at H
  have c4b0 := decide_eq_true c4
  clear c4
  obtain rfl := Option.some.inj H
  go_enter Tryz.func59, Tryz.ntmps59
  go_wp2
  go_ret
  exact ⟨by first | rfl | (simp; done) | (simp [*]; done), dR⟩
 ·rw [if_neg c4] at H
  have c4b0 := decide_eq_false c4
  clear c4
  obtain rfl := Option.some.inj H
  go_enter Tryz.func59, Tryz.ntmps59
  go_wp2
  go_ret
  exact ⟨by first | rfl | (simp; done) | (simp [*]; done), dR⟩
def qaA.l0 : Nat → ByteArray → Int → List ByteArray → Int → Int → Option (List ByteArray × Bool)
 | 0, _, _, _, _, _ => none
 | k + 1, x1, x7, x11, x17, x18 => if x18 < x17 then (if 0 ≤ x18 then (if x18 < (x11.length : Int) then (if ((rdOf ByteArray.empty x11 x18).size : Int) = x7 then ((qMB.f (rdOf ByteArray.empty x11 x18) x1).bind fun t398 => (if t398.toList = ([] : List UInt8) then (qaA.l0 k x1 x7 x11 x17 (wrap64 (x18 + 1))) else (some (([] : List ByteArray), false)))) else (some (([] : List ByteArray), false))) else (none)) else (none)) else ((qkA.f (x11.length : Int) 1 7).bind fun t399 => (if t399 = true then ((qkA.f x7 1 7).bind fun t400 => (if t400 = true then (some (x11, decide ((wrap64 (x7 * (x11.length : Int))) ≤ 36))) else (some (x11, false)))) else (some (x11, false))))
def qaA.f (k : Nat) (a0 : ByteArray) (a1 : ByteArray) : Option (List ByteArray × Bool) := (strings_Split.f a0 (⟨#[47]⟩ : ByteArray)).bind fun t393 => (if 0 < (t393.length : Int) then (qaA.l0 k a1 ((rdOf ByteArray.empty t393 0).size : Int) t393 (t393.length : Int) 0) else (none))
set_option maxHeartbeats 8000000 in
set_option maxRecDepth 100000 in
theorem qaA.calls (k : Nat) (a0 : ByteArray) (a1 : ByteArray) (r1 : List ByteArray) (r2 : Bool) (w : World) (hL : Laid w) (h : qaA.f k a0 a1 = some (r1, r2)) :
  Calls Tryz.prog 57 #[.string a0, .string a1] w fun e w' => ∃ v0_ : Value, e = .returned (.tuple #[v0_, .bool r2]) ∧ Kd.R Kd.string 9 w' w.heap.size (fun _ => True) v0_ r1 ∧ Below w.heap.size w w' := by
 have HLD := aM hL
 clear hL
 have HB := aM (Below.refl w.heap.size w)
 have H : ((strings_Split.f a0 (⟨#[47]⟩ : ByteArray)).bind fun t393 => (if 0 < (t393.length : Int) then (qaA.l0 k a1 ((rdOf ByteArray.empty t393 0).size : Int) t393 (t393.length : Int) 0) else (none))) = some (r1, r2) := h
 clear h
 replace H := bO H
 obtain ⟨t393, A3, H⟩ := H
 by_cases c4 : 0 < (t393.length : Int)
 ·rw [if_pos c4] at H
  have c4b0 := decide_eq_true c4
  have c4b1 : decide (0 < t393.length) = true := decide_eq_true (by omega)
  clear c4
  have H' := aM H
  clear H
  go_enter Tryz.func57, Tryz.ntmps57
  go_wp2_with (first | ((with_reducible refine qI (f := 75) rfl ?_); refine qu (some 11) rfl rfl Tryz.func75 (by kernel_rfl) rfl #[.string a0, .string (⟨#[47]⟩ : ByteArray)] rfl gA ?_; (with_reducible refine (strings_Split.calls a0 (⟨#[47]⟩ : ByteArray) t393 _ ?side1 A3.out).mono ?_); (case side1 => first | (with_reducible exact HLD.out) | exact Laid.below HLD.out bl); rintro e w5 ⟨v394, rfl, ho0, hb⟩; refine ⟨_, rfl, ?_⟩; have HO395 := aM (Kd.qAA ho0 (qJ bl)); replace HB := aM (qB bl hb); (try clear hb); (try clear hb2); (try clear hk); (try clear hi); (try clear ho0); obtain ⟨Ao6, co6, eo6⟩ := Kd.qCA HO395.out; subst eo6; have p396 : 0 ≤ (0 : Int) := (by omega); have q396 : 0 < (t393.length : Int) := of_decide_eq_true am; obtain ⟨ad396, e396, hx396_0⟩ := Kd.qnB (Kd.qN HO395.out).2.2 0 p396 q396; cases e396; have qi396 : (0 < t393.length) = True := eq_true (by omega); (try rw [show ((0 : Int)).toNat = 0 from rfl] at hx396_0); (try rw [Addr.add_zero'] at hx396_0); replace p396 := eq_true p396; replace q396 := eq_true q396))
  go_loopg [18] k (fun kq v18 w' => ∃ (x18_1 : Int), v18 = .int .i64 x18_1 ∧ Aside0 (qaA.l0 kq a1 ((rdOf ByteArray.empty t393 0).size : Int) t393 (t393.length : Int) x18_1 = some (r1, r2)) ∧ Aside0 (kq ≤ k) ∧ Aside0 (Kd.R Kd.string 9 w' w.heap.size (fun _ => True) (.slice (some ad396) t393.length co6) t393) ∧ Aside0 (Below w.heap.size w w'))
  case atStart => exact ⟨(0), sD, H', ⟨Nat.le_refl _⟩, ⟨rR HO395⟩, ⟨bl⟩⟩
  case round =>
   clear H'; (try clear p2); (try clear p3); (try clear q3); (try clear hx3); (try clear qi3); (try clear c4); (try clear c4b0); (try clear c4b1); (try clear c5); (try clear hx396_0); (try clear p396); (try clear q396)
   obtain ⟨x18_1, rfl, HA, HK1, HO_11, HB⟩ := hrel
   cases gk with
   | zero => exact absurd HA.out (by simp [qaA.l0])
   | succ k1 =>
    have H := HA.out
    clear HA
    simp only [qaA.l0] at H
    by_cases c7 : x18_1 < (t393.length : Int)
    ·rw [if_pos c7] at H
     have c7b0 := decide_eq_true c7
     clear c7
     by_cases c8 : 0 ≤ x18_1
     case neg => exact nN c8 H
     rw [if_pos c8] at H
     have c8b0 := decide_eq_true c8
     clear c8
     by_cases c9 : x18_1 < (t393.length : Int)
     case neg => exact nN c9 H
     rw [if_pos c9] at H
     have c9b0 := decide_eq_true c9
     clear c9
     by_cases c10 : ((rdOf ByteArray.empty t393 x18_1).size : Int) = ((rdOf ByteArray.empty t393 0).size : Int)
     ·rw [if_pos c10] at H
      have c10b0 := beq_iff_eq.mpr c10
      have c10b1 := bne_eq_false_iff_eq.mpr c10
      have c10b2 : ((rdOf ByteArray.empty t393 x18_1).size == (rdOf ByteArray.empty t393 0).size) = true := by first | simpa using c10 | (simp at c10 ⊢; omega)
      clear c10
      replace H := bO H
      obtain ⟨t398, A11, H⟩ := H
      by_cases c12 : t398.toList = ([] : List UInt8)
      ·rw [if_pos c12] at H
       have c12b0 := beq_iff_eq.mpr c12
       have c12b1 := bne_eq_false_iff_eq.mpr c12
       clear c12
       have H' := aM H
       clear H
       have p397 : 0 ≤ (x18_1 : Int) := of_decide_eq_true am
       have q397 : x18_1 < (t393.length : Int) := of_decide_eq_true am
       obtain ⟨ad397, e397, hx397_0⟩ := Kd.qnB (Kd.qN HO_11.out).2.2 x18_1 p397 q397
       obtain rfl : ad396 = ad397 := (by injection e397)
       replace p397 := eq_true p397
       replace q397 := eq_true q397
       go_wp2_with (first | (go_at_call 76; (with_reducible refine (qMB.calls (rdOf ByteArray.empty t393 x18_1) a1 t398 _ A11.out).mono ?_); rintro e w13 ⟨rfl, hb⟩; replace HO_11 := aM (Kd.qe (rR HO_11) hb); replace HB := aM (qB bl hb); (try clear hb); (try clear hb2); (try clear hk); (try clear hi)))
       go_roundg k1
       case measure => have := HK1.out; omega
       case rel => exact ⟨(wrap64 (x18_1 + 1)), sD, H', ⟨by have := HK1.out; omega⟩, ⟨rR HO_11⟩, ⟨bl⟩⟩
      ·rw [if_neg c12] at H
       have c12b0 := beq_eq_false_iff_ne.mpr c12
       have c12b1 := bne_iff_ne.mpr c12
       simp only [Option.some.injEq, Prod.mk.injEq] at H
       obtain ⟨rfl, rfl⟩ := H
       have p397 : 0 ≤ (x18_1 : Int) := of_decide_eq_true am
       have q397 : x18_1 < (t393.length : Int) := of_decide_eq_true am
       obtain ⟨ad397, e397, hx397_0⟩ := Kd.qnB (Kd.qN HO_11.out).2.2 x18_1 p397 q397
       obtain rfl : ad396 = ad397 := (by injection e397)
       replace p397 := eq_true p397
       replace q397 := eq_true q397
       go_wp2_with (first | (go_at_call 76; (with_reducible refine (qMB.calls (rdOf ByteArray.empty t393 x18_1) a1 t398 _ A11.out).mono ?_); rintro e w14 ⟨rfl, hb⟩; replace HO_11 := aM (Kd.qe (rR HO_11) hb); replace HB := aM (qB bl hb); (try clear hb); (try clear hb2); (try clear hk); (try clear hi)))
       go_ret2
       exact ⟨_, sR, nK, bl⟩
     ·rw [if_neg c10] at H
      have c10b0 := beq_eq_false_iff_ne.mpr c10
      have c10b1 := bne_iff_ne.mpr c10
      have c10b2 : ((rdOf ByteArray.empty t393 x18_1).size == (rdOf ByteArray.empty t393 0).size) = false := by first | simpa using c10 | (simp at c10 ⊢; omega)
      simp only [Option.some.injEq, Prod.mk.injEq] at H
      obtain ⟨rfl, rfl⟩ := H
      have p397 : 0 ≤ (x18_1 : Int) := of_decide_eq_true am
      have q397 : x18_1 < (t393.length : Int) := of_decide_eq_true am
      obtain ⟨ad397, e397, hx397_0⟩ := Kd.qnB (Kd.qN HO_11.out).2.2 x18_1 p397 q397
      obtain rfl : ad396 = ad397 := (by injection e397)
      replace p397 := eq_true p397
      replace q397 := eq_true q397
      go_wp2
      go_ret2
      exact ⟨_, sR, nK, bl⟩
    ·rw [if_neg c7] at H
     have c7b0 := decide_eq_false c7
     clear c7
     replace H := bO H
     obtain ⟨t399, A15, H⟩ := H
     by_cases c16 : t399 = true
     ·subst c16
      replace H := iT H
      replace H := bO H
      obtain ⟨t400, A17, H⟩ := H
      by_cases c18 : t400 = true
      ·subst c18
       replace H := iT H
       simp only [Option.some.injEq, Prod.mk.injEq] at H
       obtain ⟨rfl, rfl⟩ := H
       go_wp2_with (first | ((with_reducible refine qI (f := 59) rfl ?_); refine qu (some 36) rfl rfl Tryz.func59 (by kernel_rfl) rfl #[.int .i64 (t393.length : Int), .int .i64 1, .int .i64 7] rfl gA ?_; (with_reducible refine (qkA.calls (t393.length : Int) 1 7 true _ A15.out).mono ?_); rintro e w' ⟨rfl, ⟨nd, rfl⟩⟩; refine ⟨_, rfl, ?_⟩) | (go_at_call 59; (with_reducible refine (qkA.calls ((rdOf ByteArray.empty t393 0).size : Int) 1 7 true _ A17.out).mono ?_); rintro e w' ⟨rfl, ⟨nd, rfl⟩⟩))
       go_ret2
       exact ⟨_, sR, by (with_reducible repeat (first | apply Kd.qL | apply Kd.qO | apply Kd.qQ)); exact HO_11.out, bl⟩
      ·replace c18 := Bool.eq_false_iff.mpr c18
       subst c18
       replace H := iF H
       simp only [Option.some.injEq, Prod.mk.injEq] at H
       obtain ⟨rfl, rfl⟩ := H
       go_wp2_with (first | ((with_reducible refine qI (f := 59) rfl ?_); refine qu (some 36) rfl rfl Tryz.func59 (by kernel_rfl) rfl #[.int .i64 (t393.length : Int), .int .i64 1, .int .i64 7] rfl gA ?_; (with_reducible refine (qkA.calls (t393.length : Int) 1 7 true _ A15.out).mono ?_); rintro e w' ⟨rfl, ⟨nd, rfl⟩⟩; refine ⟨_, rfl, ?_⟩) | (go_at_call 59; (with_reducible refine (qkA.calls ((rdOf ByteArray.empty t393 0).size : Int) 1 7 false _ A17.out).mono ?_); rintro e w' ⟨rfl, ⟨nd, rfl⟩⟩))
       go_ret2
       exact ⟨_, sR, by (with_reducible repeat (first | apply Kd.qL | apply Kd.qO | apply Kd.qQ)); exact HO_11.out, bl⟩
     ·replace c16 := Bool.eq_false_iff.mpr c16
      subst c16
      replace H := iF H
      simp only [Option.some.injEq, Prod.mk.injEq] at H
      obtain ⟨rfl, rfl⟩ := H
      go_wp2_with (first | ((with_reducible refine qI (f := 59) rfl ?_); refine qu (some 36) rfl rfl Tryz.func59 (by kernel_rfl) rfl #[.int .i64 (t393.length : Int), .int .i64 1, .int .i64 7] rfl gA ?_; (with_reducible refine (qkA.calls (t393.length : Int) 1 7 false _ A15.out).mono ?_); rintro e w' ⟨rfl, ⟨nd, rfl⟩⟩; refine ⟨_, rfl, ?_⟩))
      go_ret2
      exact ⟨_, sR, by (with_reducible repeat (first | apply Kd.qL | apply Kd.qO | apply Kd.qQ)); exact HO_11.out, bl⟩
 ·rw [if_neg c4] at H
  exact absurd H (by simp)
end Go.Proofs.YthhiiceligjleaaGreatDoor.P
namespace Go.Proofs.YthhiiceligjleaaGreatDoor
open Go.RowKit Go.Proofs.YthhiiceligjleaaGreatDoor.P Go.Proofs.YthhiiceligjleaaGreatDoorW.PrintWords Go.Proofs.YthhiiceligjleaaGreatDoorW.PrintLast
set_option linter.unusedVariables false
set_option linter.unusedSimpArgs false
theorem qmC (n a b : Int) : qkA.f n a b = some (decide (a ≤ n) && decide (n ≤ b)) := by
 unfold qkA.f
 by_cases h : a ≤ n
 case pos => rw [if_pos h, decide_eq_true h, Bool.true_and]
 rw [if_neg h, decide_eq_false h, Bool.false_and]
theorem qdE (l : List ByteArray) (i : Nat) (h : i < l.length) : rdOf ByteArray.empty l (i : Int) = l[i] := by
 unfold rdOf
 rw [Int.toNat_natCast, List.getD_eq_getElem?_getD, List.getElem?_eq_getElem h]; rfl
theorem qFC (s : ByteArray) : s.data.toList.length = s.size := by rw [Array.length_toList]; rfl
theorem gr_bt (s : ByteArray) (i : Nat) (h : i < s.data.toList.length) : bt s (i : Int) = ((s.data.toList[i]).toNat : Int) := by
 have h' : i < s.size := by rw [← qFC]; exact h
 unfold bt
 rw [dif_pos (by simpa using h')]
 simp only [Int.toNat_natCast, Array.getElem_toList]
 rfl
def fitR (C : List UInt8) (w : Nat) (r : List UInt8) : Bool := decide (r.length = w) && r.all (C.contains ·)
def szR (w h : Nat) : Bool := decide (1 ≤ h) && decide (h ≤ 7) && decide (1 ≤ w) && decide (w ≤ 7) && decide (w * h ≤ 36)
theorem rowsOf_loop (C : ByteArray) (hC : C.size < 100) (hA : (C.data.toList.all fun b => decide (b.toNat < 128)) = true) (w : Nat) (hw : w ≤ 4294967281) (L : List ByteArray) (hL : L.length ≤ 4294967281) (hs : ∀ x ∈ L, x.size ≤ 4294967281) (d : Nat) : ∀ i : Nat, i ≤ L.length → L.length - i = d →
  Ev (fun k => qaA.l0 k C (w : Int) L (L.length : Int) (i : Int)) (if (L.drop i).all (fun x => fitR C.data.toList w x.data.toList) then (L, szR w L.length) else ([], false)) := by
 induction d with
 | zero =>
  intro i hi hd
  refine Ev.step (f := fun k => _) (fun k => by rw [qaA.l0]) ?_
  refine Ev.neg (by omega) (Ev.bindc (qmC _ _ _) ?_)
  rw [List.drop_eq_nil_of_le (by omega), List.all_nil, if_pos rfl]
  by_cases h1 : 1 ≤ L.length ∧ L.length ≤ 7
  ·have e1 : (decide ((1 : Int) ≤ (L.length : Int)) && decide ((L.length : Int) ≤ 7)) = true := by rw [decide_eq_true (by omega), decide_eq_true (by omega)]; rfl
   refine Ev.pos e1 (Ev.bindc (qmC _ _ _) ?_)
   by_cases h2 : 1 ≤ w ∧ w ≤ 7
   ·have e2 : (decide ((1 : Int) ≤ (w : Int)) && decide ((w : Int) ≤ 7)) = true := by rw [decide_eq_true (by omega), decide_eq_true (by omega)]; rfl
    refine Ev.pos e2 (Ev.some_ ?_)
    have hm : w * L.length ≤ 7 * 7 := Nat.mul_le_mul h2.2 h1.2
    have hc : ((w : Int) * (L.length : Int)) = ((w * L.length : Nat) : Int) := by push_cast; rfl
    rw [hc]
    generalize hn : w * L.length = n at *
    have ew : wrap64 (n : Int) = (n : Int) := by unfold wrap64; omega
    rw [ew]
    have : szR w L.length = decide (n ≤ 36) := by
     unfold szR
     rw [hn, decide_eq_true h1.1, decide_eq_true h1.2, decide_eq_true h2.1, decide_eq_true h2.2]; rfl
    rw [this]
    congr 1
    exact decide_eq_decide.2 (by omega)
   ·refine Ev.neg (by simp only [Bool.and_eq_true, decide_eq_true_eq]; omega) (Ev.some_ ?_)
    have : szR w L.length = false := by
     unfold szR
     simp only [Bool.and_eq_false_iff, decide_eq_false_iff_not]; omega
    rw [this]
  ·refine Ev.neg (by simp only [Bool.and_eq_true, decide_eq_true_eq]; omega) (Ev.some_ ?_)
   have : szR w L.length = false := by
    unfold szR
    simp only [Bool.and_eq_false_iff, decide_eq_false_iff_not]; omega
   rw [this]
 | succ d ih =>
  intro i hi hd
  have h : i < L.length := by omega
  refine Ev.step (f := fun k => _) (fun k => by rw [qaA.l0]) ?_
  refine Ev.pos (by omega) (Ev.pos (by omega) (Ev.pos (by omega) ?_))
  rw [qdE L i h, List.drop_eq_getElem_cons h, List.all_cons, show wrap64 ((i : Int) + 1) = ((i + 1 : Nat) : Int) by unfold wrap64; omega]
  have hsz := hs _ (List.getElem_mem h)
  have ihh := ih (i + 1) (by omega) (by omega)
  generalize L[i] = x at *
  by_cases hx : x.size = w
  ·refine Ev.pos (by omega) (Ev.bindc (show qMB.f x C = some _ from by unfold qMB.f; rw [if_pos ⟨by omega, by omega, hA⟩]) ?_)
   have ht : (⟨(Lib.trimS x.data.toList C.data.toList).toArray⟩ : ByteArray).toList = Lib.trimS x.data.toList C.data.toList := by
    rw [Lib.toList_data]
   by_cases hal : x.data.toList.all (C.data.toList.contains ·) = true
   ·refine Ev.pos (by rw [ht]; exact (trimS_nil _ _).2 hal) ?_
    have : fitR C.data.toList w x.data.toList = true := by
     unfold fitR
     rw [hal, Bool.and_true, decide_eq_true (by rw [qFC]; exact hx)]
    rw [this, Bool.true_and]
    exact ihh
   ·refine Ev.neg (by rw [ht]; exact fun e => hal ((trimS_nil _ _).1 e)) (Ev.some_ ?_)
    have : fitR C.data.toList w x.data.toList = false := by
     unfold fitR
     rw [Bool.eq_false_iff.2 hal, Bool.and_false]
    rw [this]; rfl
  ·refine Ev.neg (by omega) (Ev.some_ ?_)
   have : fitR C.data.toList w x.data.toList = false := by
    unfold fitR
    rw [decide_eq_false (by rw [qFC]; exact hx), Bool.false_and]
   rw [this]; rfl
def rowsT (a : ByteArray) : List ByteArray := Lib.splitB ⟨#[47]⟩ 0 (Lib.countB a ⟨#[47]⟩) a
theorem qNC (a : ByteArray) : (rowsT a).map (·.data.toList) = (sp 47 a.data.toList).1 :: (sp 47 a.data.toList).2 := split_sp a 47
def wideT (a : ByteArray) : Nat := (sp 47 a.data.toList).1.length
def highT (a : ByteArray) : Nat := (sp 47 a.data.toList).2.length + 1
theorem qJC (a : ByteArray) : (rowsT a).length = highT a := by
 have := congrArg List.length (qNC a)
 simpa [highT] using this
def rowsFit (C : List UInt8) (a : ByteArray) : Bool := ((sp 47 a.data.toList).1 :: (sp 47 a.data.toList).2).all (fitR C (wideT a))
theorem sum_le_mem (l : List Nat) : ∀ x ∈ l, x ≤ l.sum := by
 induction l with
 | nil => intro x h; cases h
 | cons b l ih =>
  intro x h
  rw [List.sum_cons]
  rcases List.mem_cons.1 h with rfl | h
  ·omega
  ·have := ih x h; omega
theorem rowsT_size (a : ByteArray) : ∀ x ∈ rowsT a, x.size ≤ a.size := by
 intro x hx
 have h1 : x.data.toList ∈ (rowsT a).map (·.data.toList) := List.mem_map_of_mem hx
 rw [qNC] at h1
 have h2 := qfD 47 a.data.toList
 rw [qFC] at h2
 rw [← qFC x]
 rcases List.mem_cons.1 h1 with h | h
 ·rw [h]; omega
 ·have := sum_le_mem _ _ (List.mem_map_of_mem (f := List.length) h); omega
theorem rowsOf_ev (a C : ByteArray) (ha : a.size ≤ 1048576) (hC : C.size < 100) (hA : (C.data.toList.all fun b => decide (b.toNat < 128)) = true) :
  Ev (fun k => qaA.f k a C) (if rowsFit C.data.toList a then (rowsT a, szR (wideT a) (highT a)) else ([], false)) := by
 unfold qaA.f
 refine Ev.bindc (show strings_Split.f a ⟨#[47]⟩ = some (rowsT a) from by unfold strings_Split.f; rw [if_pos ⟨by omega, by decide⟩]; rfl) ?_
 have hlen := qJC a
 have hl2 := qfD 47 a.data.toList
 rw [qFC] at hl2
 have hh : highT a ≤ a.size + 1 := by unfold highT; omega
 have h0 : 0 < (rowsT a).length := by rw [hlen]; unfold highT; omega
 refine Ev.pos (by omega) ?_
 have e0 : rdOf ByteArray.empty (rowsT a) 0 = (rowsT a)[0] := qdE (rowsT a) 0 h0
 have e1 : ((rowsT a)[0]).size = wideT a := by
  have := qNC a
  have h2 : ((rowsT a).map (·.data.toList))[0]'(by simpa using h0) = (sp 47 a.data.toList).1 := by
   simp only [this, List.getElem_cons_zero]
  rw [List.getElem_map] at h2
  rw [← qFC, h2]; rfl
 rw [e0, e1]
 have hw : wideT a ≤ a.size := by rw [← e1]; exact rowsT_size a _ (List.getElem_mem h0)
 have := rowsOf_loop C hC hA (wideT a) (by omega) (rowsT a) (by omega) (fun x hx => by have := rowsT_size a x hx; omega) (rowsT a).length 0 (by omega) (by omega)
 rw [List.drop_zero] at this
 have e2 : (rowsT a).all (fun x => fitR C.data.toList (wideT a) x.data.toList) = rowsFit C.data.toList a := by
  unfold rowsFit
  rw [← qNC, List.all_map]; rfl
 rw [e2] at this
 rw [← hlen]
 exact this
end Go.Proofs.YthhiiceligjleaaGreatDoor
namespace Go.Proofs.YthhiiceligjleaaGreatDoor.P
open Go.RowKit Go.Proofs.YthhiiceligjleaaGreatDoorW.PrintWords Go.Proofs.YthhiiceligjleaaGreatDoorW.PrintLast Go.Proofs.YthhiiceligjleaaGreatDoorW.PrintMore
attribute [local go_sem] qk qi qx qw qc qb qj qh
set_option linter.unusedVariables false
set_option linter.unusedSimpArgs false
def qTB.f (k : Nat) (a0 : ByteArray) : Option (List ByteArray × Bool) := (qaA.f k a0 (⟨#[46, 35]⟩ : ByteArray)).bind fun bt401 => (some (bt401.1, bt401.2))
set_option maxHeartbeats 8000000 in
set_option maxRecDepth 100000 in
theorem qTB.calls (k : Nat) (a0 : ByteArray) (r1 : List ByteArray) (r2 : Bool) (w : World) (hL : Laid w) (h : qTB.f k a0 = some (r1, r2)) :
  Calls Tryz.prog 34 #[.string a0] w fun e w' => ∃ v0_ : Value, e = .returned (.tuple #[v0_, .bool r2]) ∧ Kd.R Kd.string 9 w' w.heap.size (fun _ => True) v0_ r1 ∧ Below w.heap.size w w' := by
 have HLD := aM hL
 clear hL
 have HB := aM (Below.refl w.heap.size w)
 have H : ((qaA.f k a0 (⟨#[46, 35]⟩ : ByteArray)).bind fun bt401 => (some (bt401.1, bt401.2))) = some (r1, r2) := h
 clear h
 replace H := bO H
 obtain ⟨⟨t401, t402⟩, A2, H⟩ := H
 dsimp only at H A2
 simp only [Option.some.injEq, Prod.mk.injEq] at H
 obtain ⟨rfl, rfl⟩ := H
 go_enter Tryz.func34, Tryz.ntmps34
 go_wp2_with (first | ((with_reducible refine qI (f := 57) rfl ?_); refine qu (some 5) rfl rfl Tryz.func57 (by kernel_rfl) rfl #[.string a0, .string (⟨#[46, 35]⟩ : ByteArray)] rfl gA ?_; (with_reducible refine (qaA.calls k a0 (⟨#[46, 35]⟩ : ByteArray) t401 t402 _ ?side1 A2.out).mono ?_); (case side1 => first | (with_reducible exact HLD.out) | exact Laid.below HLD.out bl); rintro e w3 ⟨v403, rfl, ho0, hb⟩; refine ⟨_, rfl, ?_⟩; have HO404 := aM (Kd.qAA ho0 (qJ bl)); replace HB := aM (qB bl hb); (try clear hb); (try clear hb2); (try clear hk); (try clear hi); (try clear ho0)))
 go_ret2
 exact ⟨_, sR, by (with_reducible repeat (first | apply Kd.qL | apply Kd.qO | apply Kd.qQ)); exact HO404.out, bl⟩
end Go.Proofs.YthhiiceligjleaaGreatDoor.P
namespace Go.Proofs.YthhiiceligjleaaGreatDoor
open Go.RowKit Go.Proofs.YthhiiceligjleaaGreatDoor.P Go.Proofs.YthhiiceligjleaaGreatDoorW.PrintWords Go.Proofs.YthhiiceligjleaaGreatDoorW.PrintLast
set_option linter.unusedVariables false
set_option linter.unusedSimpArgs false
abbrev RdG := Int × Int × List Int × Bool
def badG : RdG := (0, 0, [], false)
def finG (w h : Nat) (cs : List Int) : RdG := if 7 < w then badG else if 7 < h then badG else if 36 < cs.length then badG else ((w : Int), (h : Int), cs, true)
def runG : List UInt8 → Nat → Nat → Nat → List Int → RdG
 | [], x, w, h, cs => if (0 < h ∧ x ≠ w) ∨ x = 0 then badG else finG x (h + 1) cs
 | c :: r, x, w, h, cs =>
  if c = 47 then (if (0 < h ∧ x ≠ w) ∨ x = 0 then badG else runG r 0 x (h + 1) cs)
  else if c = 46 ∨ c = 35 then runG r (x + 1) w h (cs ++ [(c.toNat : Int)])
  else badG
theorem u8eq (c : UInt8) (n : Nat) (hn : n < 256) : ((c.toNat : Int) = (n : Int)) ↔ c = UInt8.ofNat n := by
 constructor
 ·intro h
  have : c.toNat = n := by omega
  rw [← this]; simp
 ·intro h
  subst h
  simp; omega
theorem bx_end (a : ByteArray) (ha : a.size ≤ 42) (w h : Nat) (cs : List Int) : Ev (fun k => qW.l0 k a 0 ((a.size : Int) + 1) (w : Int) (h : Int) cs) (finG w h cs) := by
 refine Ev.step (f := fun k => _) (fun k => by rw [qW.l0]) ?_
 refine Ev.neg (by omega) ?_
 unfold finG
 by_cases h1 : 7 < w
 ·rw [if_pos h1]; exact Ev.pos (by omega) (Ev.now _)
 rw [if_neg h1]; refine Ev.neg (by omega) ?_
 by_cases h2 : 7 < h
 ·rw [if_pos h2]; exact Ev.pos (by omega) (Ev.now _)
 rw [if_neg h2]; refine Ev.neg (by omega) ?_
 by_cases h3 : 36 < cs.length
 ·rw [if_pos h3]; exact Ev.pos (by omega) (Ev.now _)
 rw [if_neg h3]; exact Ev.neg (by omega) (Ev.now _)
theorem bx_sep (a : ByteArray) (i x w h : Nat) (cs : List Int) (hx : x ≤ 100) (hh : h ≤ 100) (hi : i ≤ 100) (R : RdG)
  (hR : Ev (fun k => qW.l0 k a 0 ((i : Int) + 1) (x : Int) ((h + 1 : Nat) : Int) cs) R) :
  Ev (fun k => qW.j1 k a (x : Int) (i : Int) false (w : Int) (h : Int) cs) (if (0 < h ∧ x ≠ w) ∨ x = 0 then badG else R) := by
 have w1 : wrap64 ((i : Int) + 1) = (i : Int) + 1 := by unfold wrap64; omega
 have w2 : wrap64 ((h : Int) + 1) = ((h + 1 : Nat) : Int) := by unfold wrap64; omega
 refine Ev.step (f := fun k => _) (fun k => by rw [qW.j1]) ?_
 refine Ev.neg (by decide) ?_
 rw [w1, w2]
 by_cases h1 : 0 < h
 ·refine Ev.pos (by omega) ?_
  by_cases h2 : x = w
  case neg => rw [if_pos (.inl ⟨h1, h2⟩)]; exact Ev.neg (by omega) (Ev.now _)
  refine Ev.pos (by omega) ?_
  by_cases h3 : x = 0
  case neg => rw [if_neg (by omega)]; exact Ev.neg (by omega) hR
  rw [if_pos (.inr h3)]; exact Ev.pos (by omega) (Ev.now _)
 ·refine Ev.neg (by omega) ?_
  by_cases h3 : x = 0
  case pos => rw [if_pos (.inr h3)]; exact Ev.pos (by omega) (Ev.now _)
  rw [if_neg (by omega)]; exact Ev.neg (by omega) hR
theorem bx_loop (a : ByteArray) (ha : a.size ≤ 42) (d : Nat) : ∀ (i x w h : Nat) (cs : List Int), i ≤ a.size → a.size - i = d → x ≤ i → h ≤ i → cs.length ≤ i →
  Ev (fun k => qW.l0 k a (x : Int) (i : Int) (w : Int) (h : Int) cs) (runG (a.data.toList.drop i) x w h cs) := by
 have hsz := qFC a
 induction d with
 | zero =>
  intro i x w h cs hi hd hx hh hc
  obtain rfl : i = a.size := by omega
  refine Ev.step (f := fun k => _) (fun k => by rw [qW.l0]) ?_
  refine Ev.pos (by omega) (Ev.neg (by omega) ?_)
  rw [List.drop_eq_nil_of_le (by omega), runG]
  exact bx_sep a a.size x w h cs (by omega) (by omega) (by omega) _ (bx_end a ha x (h + 1) cs)
 | succ d ih =>
  intro i x w h cs hi hd hx hh hc
  have hl : i < a.data.toList.length := by omega
  have e1 : ((i : Int) + 1) = ((i + 1 : Nat) : Int) := by omega
  have w1 : wrap64 ((i : Int) + 1) = ((i + 1 : Nat) : Int) := by unfold wrap64; omega
  have w2 : wrap64 ((x : Int) + 1) = ((x + 1 : Nat) : Int) := by unfold wrap64; omega
  have hdr := List.drop_eq_getElem_cons hl
  obtain ⟨c, hcc, hb⟩ : ∃ c, a.data.toList[i] = c ∧ bt a (i : Int) = (c.toNat : Int) := ⟨_, rfl, gr_bt a i hl⟩
  rw [hcc] at hdr
  clear hcc
  have HB := Lib.hid hb
  have HW1 := Lib.hid w1
  have HW2 := Lib.hid w2
  have HD := Lib.hid hdr
  clear hb w1 w2 hdr
  refine Ev.step (f := fun k => _) (fun k => by rw [qW.l0]) ?_
  refine Ev.pos (by omega) (Ev.pos (by omega) (Ev.pos (by omega) ?_))
  rw [HD.out, HB.out, runG]
  by_cases h47 : c = 47
  ·rw [show ((c.toNat : Int) != 47) = false by subst h47; rfl, if_pos h47]
   clear HB HD h47
   refine bx_sep a i x w h cs (by omega) (by omega) (by omega) _ ?_
   rw [e1]
   exact ih (i + 1) 0 x (h + 1) cs (by omega) (by omega) (by omega) (by omega) (by omega)
  ·rw [show ((c.toNat : Int) != 47) = true by
    rw [bne_iff_ne]; intro e; exact h47 ((u8eq c 47 (by decide)).1 e), if_neg h47]
   have go1 := ih (i + 1) (x + 1) w h (cs ++ [(c.toNat : Int)]) (by omega) (by omega) (by omega) (by omega) (by simp; omega)
   have step : ∀ R, Ev (fun k => qW.l0 k a ((x + 1 : Nat) : Int) ((i + 1 : Nat) : Int) (w : Int) (h : Int) (cs ++ [(c.toNat : Int)])) R →
     Ev (fun k => qW.j2 k a (x : Int) (i : Int) false (w : Int) (h : Int) cs) R := fun R hR => by
    refine Ev.step (f := fun k => _) (fun k => by rw [qW.j2]) ?_
    refine Ev.neg (by decide) (Ev.pos (by omega) (Ev.pos (by omega) (Ev.pos (by omega) ?_)))
    rw [HW1.out, HW2.out, HB.out]
    exact hR
   refine Ev.step (f := fun k => _) (fun k => by rw [qW.j1]) ?_
   refine Ev.pos rfl (Ev.pos (by omega) (Ev.pos (by omega) ?_))
   rw [HB.out]
   by_cases h46 : c = 46
   case pos => rw [if_pos (.inl h46)]; exact Ev.pos (by subst h46; rfl) (step _ go1)
   refine Ev.neg (fun e => h46 ((u8eq c 46 (by decide)).1 e)) ?_
   by_cases h35 : c = 35
   case pos => rw [if_pos (.inr h35), show ((c.toNat : Int) != 35) = false by subst h35; rfl]; exact step _ go1
   rw [if_neg (by simp [h46, h35]), show ((c.toNat : Int) != 35) = true by
     rw [bne_iff_ne]; intro e; exact h35 ((u8eq c 35 (by decide)).1 e)]
   refine Ev.step (f := fun k => _) (fun k => by rw [qW.j2]) ?_
   exact Ev.pos rfl (Ev.now _)
def cB : List UInt8 := [46, 35]
def numsOf (l : List UInt8) : List Int := l.map fun c => (c.toNat : Int)
def flatT (l : List UInt8) : List UInt8 := (sp 47 l).1 ++ (sp 47 l).2.flatten
theorem runG_eq (l : List UInt8) : ∀ (x w h : Nat) (cs : List Int), runG l x w h cs =
  if (l.all (fun b => b == 47 || cB.contains b)) = true ∧ x + (sp 47 l).1.length ≠ 0 ∧ (0 < h → x + (sp 47 l).1.length = w) ∧ (∀ r ∈ (sp 47 l).2, r.length = x + (sp 47 l).1.length)
  then finG (x + (sp 47 l).1.length) (h + ((sp 47 l).2.length + 1)) (cs ++ numsOf (flatT l)) else badG := by
 induction l with
 | nil =>
  intro x w h cs
  rw [runG]
  simp only [sp, List.all_nil, List.length_nil, Nat.add_zero, flatT, List.flatten_nil, List.append_nil, numsOf, List.map_nil, Nat.zero_add]
  by_cases hb : (0 < h ∧ x ≠ w) ∨ x = 0
  case neg => rw [if_neg hb, if_pos ⟨trivial, fun e => hb (.inr e), fun h3 => Classical.byContradiction fun h4 => hb (.inl ⟨h3, h4⟩), by simp⟩]
  rw [if_pos hb, if_neg (by rintro ⟨_, h1, h2, _⟩; exact hb.elim (fun h34 => h34.2 (h2 h34.1)) h1)]
 | cons c r ih =>
  intro x w h cs
  rw [runG]
  by_cases h47 : c = 47
  ·subst h47
   rw [if_pos rfl]
   simp only [sp, if_true, List.all_cons, beq_self_eq_true, Bool.true_or, Bool.true_and, List.length_nil, Nat.add_zero, flatT, List.nil_append, List.flatten_cons, List.length_cons]
   by_cases hb : (0 < h ∧ x ≠ w) ∨ x = 0
   case pos => rw [if_pos hb, if_neg (by rintro ⟨_, h1, h2, _⟩; exact hb.elim (fun h34 => h34.2 (h2 h34.1)) h1)]
   rw [if_neg hb, ih]
   have hx0 : x ≠ 0 := fun e => hb (.inr e)
   have hxw : 0 < h → x = w := fun h3 => Classical.byContradiction fun h4 => hb (.inl ⟨h3, h4⟩)
   by_cases hg : (r.all (fun b => b == 47 || cB.contains b)) = true ∧ ∀ q ∈ (sp 47 r).1 :: (sp 47 r).2, q.length = x
   ·have hf : (sp 47 r).1.length = x := hg.2 _ (List.mem_cons_self)
    rw [if_pos ⟨hg.1, by omega, fun _ => by omega, fun q hq => by have := hg.2 q (List.mem_cons_of_mem _ hq); omega⟩, if_pos ⟨hg.1, hx0, hxw, hg.2⟩]
    congr 1
    ·omega
    ·omega
   ·rw [if_neg, if_neg]
    ·rintro ⟨h1, _, _, h4⟩; exact hg ⟨h1, h4⟩
    ·rintro ⟨h1, _, h3, h4⟩
     have h5 := h3 (by omega)
     refine hg ⟨h1, fun q hq => ?_⟩
     rcases List.mem_cons.1 hq with rfl | hq
     ·omega
     ·have := h4 q hq; omega
  ·rw [if_neg h47]
   have e47 : (c == 47) = false := by simpa using h47
   simp only [sp, if_neg h47, List.all_cons, e47, Bool.false_or, List.length_cons]
   have hsh : x + ((sp 47 r).1.length + 1) = x + 1 + (sp 47 r).1.length := by omega
   by_cases h3 : c = 46 ∨ c = 35
   case pos => (have hc : cB.contains c = true := by rcases h3 with rfl | rfl <;> decide); rw [if_pos h3, ih, hc, Bool.true_and, hsh]; simp only [flatT, sp, if_neg h47, numsOf, List.cons_append, List.map_cons, List.append_assoc, List.nil_append]
   rw [if_neg h3, if_neg]
   rintro ⟨h1, _⟩
   have : cB.contains c = false := by
    simp only [cB, List.contains_cons, List.contains_nil, Bool.or_false, Bool.or_eq_false_iff, beq_eq_false_iff_ne]
    exact ⟨fun e => h3 (.inl e), fun e => h3 (.inr e)⟩
   rw [this] at h1; simp at h1
theorem qME (f : Nat) : ∀ (L : List (List UInt8)), (∀ r ∈ L, r.length = f) → L.flatten.length = f * L.length ∧ (L.map List.length).sum = f * L.length
 | [], _ => by simp
 | a :: L, h => by
  obtain ⟨h1, h2⟩ := qME f L (fun r hr => h r (List.mem_cons_of_mem _ hr))
  have h3 := h a List.mem_cons_self
  simp only [List.flatten_cons, List.length_append, List.map_cons, List.sum_cons, List.length_cons, h1, h2, h3, Nat.mul_add, Nat.mul_one]
  omega
def boardB (a : ByteArray) : Bool := rowsFit cB a && szR (wideT a) (highT a)
theorem qVC (a : ByteArray) : rowsFit cB a = true ↔ (a.data.toList.all (fun b => b == 47 || cB.contains b)) = true ∧ ∀ r ∈ (sp 47 a.data.toList).2, r.length = wideT a := by
 have hs := sp_all 47 (cB.contains ·) a.data.toList (by decide)
 unfold rowsFit
 rw [← hs, List.all_cons]
 unfold fitR wideT
 simp only [Bool.and_eq_true, decide_eq_true_eq, List.all_eq_true, true_and]
 constructor
 ·rintro ⟨h1, h2⟩
  exact ⟨⟨h1, fun r hr => (h2 r hr).2⟩, fun r hr => (h2 r hr).1⟩
 ·rintro ⟨⟨h1, h2⟩, h3⟩
  exact ⟨h1, fun r hr => ⟨h3 r hr, h2 r hr⟩⟩
theorem boRead_ev (a : ByteArray) : Ev (fun k => qW.f k a) (if boardB a then ((wideT a : Int), (highT a : Int), numsOf (flatT a.data.toList), true) else badG) := by
 have hl := qfD 47 a.data.toList
 rw [qFC] at hl
 unfold qW.f
 by_cases h42 : a.size ≤ 42
 ·refine Ev.neg (by omega) ?_
  have := bx_loop a h42 a.size 0 0 0 0 [] (by omega) (by omega) (by omega) (by omega) (by simp)
  rw [List.drop_zero, runG_eq] at this
  simp only [Nat.zero_add, List.nil_append, Nat.lt_irrefl, false_implies, true_and] at this
  have e : (if (a.data.toList.all (fun b => b == 47 || cB.contains b)) = true ∧ (sp 47 a.data.toList).1.length ≠ 0 ∧ (∀ r ∈ (sp 47 a.data.toList).2, r.length = (sp 47 a.data.toList).1.length) then finG (sp 47 a.data.toList).1.length ((sp 47 a.data.toList).2.length + 1) (numsOf (flatT a.data.toList)) else badG) = (if boardB a then ((wideT a : Int), (highT a : Int), numsOf (flatT a.data.toList), true) else badG) := by
   have hw : (sp 47 a.data.toList).1.length = wideT a := rfl
   have hh : (sp 47 a.data.toList).2.length + 1 = highT a := rfl
   rw [hw, hh]
   unfold boardB
   by_cases hr : rowsFit cB a = true
   case neg => rw [if_neg (fun h => hr ((qVC a).2 ⟨h.1, h.2.2⟩)), Bool.eq_false_iff.2 hr]; simp
   obtain ⟨h1, h2⟩ := (qVC a).1 hr
   obtain ⟨f1, f2⟩ := qME (wideT a) (sp 47 a.data.toList).2 h2
   have hfl : (numsOf (flatT a.data.toList)).length = wideT a * highT a := by
    simp only [numsOf, List.length_map, flatT, List.length_append, f1, hw, ← hh, Nat.mul_add, Nat.mul_one]; omega
   rw [hr, Bool.true_and]
   by_cases h0 : wideT a ≠ 0
   ·rw [if_pos ⟨h1, h0, h2⟩]
    unfold finG szR
    rw [hfl]
    have hh1 : 1 ≤ highT a := by omega
    rw [decide_eq_true hh1, Bool.true_and, decide_eq_true (show 1 ≤ wideT a by omega)]
    by_cases a1 : 7 < wideT a
    ·rw [if_pos a1, decide_eq_false (show ¬ wideT a ≤ 7 by omega)]; simp
    rw [if_neg a1, decide_eq_true (show wideT a ≤ 7 by omega)]
    by_cases a2 : 7 < highT a
    ·rw [if_pos a2, decide_eq_false (show ¬ highT a ≤ 7 by omega)]; simp
    rw [if_neg a2, decide_eq_true (show highT a ≤ 7 by omega)]
    by_cases a3 : 36 < wideT a * highT a
    case neg => rw [if_neg a3, decide_eq_true (show wideT a * highT a ≤ 36 by omega)]; simp
    rw [if_pos a3, decide_eq_false (show ¬ wideT a * highT a ≤ 36 by omega)]; simp
   ·rw [if_neg (fun h => h0 h.2.1)]
    have : szR (wideT a) (highT a) = false := by
     unfold szR
     simp only [Bool.and_eq_false_iff, decide_eq_false_iff_not]; omega
    rw [this]; simp
  rw [e] at this
  exact this
 ·refine Ev.pos (by omega) (Ev.some_ ?_)
  have : boardB a = false := by
   cases hg : boardB a with
   | false => rfl
   | true =>
    unfold boardB szR at hg
    simp only [Bool.and_eq_true, decide_eq_true_eq] at hg
    obtain ⟨hr, ⟨⟨⟨g1, g2⟩, g3⟩, g4⟩, g5⟩ := hg
    obtain ⟨h1, h2⟩ := (qVC a).1 hr
    obtain ⟨f1, f2⟩ := qME (wideT a) (sp 47 a.data.toList).2 h2
    rw [f2] at hl
    have hw : (sp 47 a.data.toList).1.length = wideT a := rfl
    have hh : (sp 47 a.data.toList).2.length + 1 = highT a := rfl
    have : wideT a * highT a = wideT a + wideT a * (sp 47 a.data.toList).2.length := by rw [← hh, Nat.mul_add, Nat.mul_one]; omega
    omega
  rw [this]; rfl
theorem board_ev (a : ByteArray) (ha : a.size ≤ 1048576) : ∃ rows : List ByteArray, Ev (fun k => qTB.f k a) (rows, boardB a) ∧ (boardB a = true → rows = rowsT a) := by
 have h := rowsOf_ev a ⟨#[46, 35]⟩ ha (by decide) (by decide)
 have hc : (⟨#[46, 35]⟩ : ByteArray).data.toList = cB := rfl
 rw [hc] at h
 unfold qTB.f
 unfold boardB
 cases hr : rowsFit cB a with
 | false =>
  rw [hr, if_neg (by decide)] at h
  exact ⟨[], Ev.bind h (Ev.now _), fun e => by cases e⟩
 | true =>
  rw [hr, if_pos rfl] at h
  rw [Bool.true_and]
  exact ⟨rowsT a, Ev.bind h (Ev.now _), fun _ => rfl⟩
end Go.Proofs.YthhiiceligjleaaGreatDoor
namespace Go.Proofs.YthhiiceligjleaaGreatDoor.P
open Go.RowKit Go.Proofs.YthhiiceligjleaaGreatDoorW.PrintWords Go.Proofs.YthhiiceligjleaaGreatDoorW.PrintLast Go.Proofs.YthhiiceligjleaaGreatDoorW.PrintMore
attribute [local go_sem] qk qi qx qw qc qb qj qh
set_option linter.unusedVariables false
set_option linter.unusedSimpArgs false
def qAB.f (l0 : List ByteArray) (a1 : Int) (a2 : Int) : Option (Bool) := (qkA.f a2 0 (wrap64 ((l0.length : Int) - 1))).bind fun t405 => (if t405 = true then (if 0 < (l0.length : Int) then ((qkA.f a1 0 (wrap64 (((rdOf ByteArray.empty l0 0).size : Int) - 1))).bind fun t407 => (some t407)) else (none)) else (some false))
set_option maxHeartbeats 8000000 in
set_option maxRecDepth 100000 in
theorem qAB.calls (A0 : Option Addr) (c0 : Nat) (l0 : List ByteArray) (a1 : Int) (a2 : Int) (r : Bool) (w : World) (hr0 : Kd.C Kd.string w A0 l0.length l0) (hc0 : l0.length ≤ c0) (h : qAB.f l0 a1 a2 = some r) :
  Calls Tryz.prog 37 #[.slice A0 l0.length c0, .int .i64 a1, .int .i64 a2] w fun e w' => e = .returned (.bool r) ∧ Drawn0 w w' := by
 have HR0 := aM hr0
 have HC0 := aM hc0
 clear hr0 hc0
 have H : ((qkA.f a2 0 (wrap64 ((l0.length : Int) - 1))).bind fun t405 => (if t405 = true then (if 0 < (l0.length : Int) then ((qkA.f a1 0 (wrap64 (((rdOf ByteArray.empty l0 0).size : Int) - 1))).bind fun t407 => (some t407)) else (none)) else (some false))) = some r := h
 clear h
 replace H := bO H
 obtain ⟨t405, A4, H⟩ := H
 by_cases c5 : t405 = true
 ·subst c5
  replace H := iT H
  by_cases c6 : 0 < (l0.length : Int)
  case neg => exact nN c6 H
  rw [if_pos c6] at H
  have c6b0 := decide_eq_true c6
  have c6b1 : decide (0 < l0.length) = true := decide_eq_true (by omega)
  clear c6
  replace H := bO H
  obtain ⟨t407, A7, H⟩ := H
  obtain rfl := Option.some.inj H
  go_enter Tryz.func37, Tryz.ntmps37
  go_wp2_with (first | ((with_reducible refine qI (f := 59) rfl ?_); refine qu (some 11) rfl rfl Tryz.func59 (by kernel_rfl) rfl #[.int .i64 a2, .int .i64 0, .int .i64 (wrap64 ((l0.length : Int) - 1))] rfl gA ?_; (with_reducible refine (qkA.calls a2 0 (wrap64 ((l0.length : Int) - 1)) true _ A4.out).mono ?_); rintro e w' ⟨rfl, ⟨nd, rfl⟩⟩; refine ⟨_, rfl, ?_⟩; have p406 : 0 ≤ (0 : Int) := (by omega); have q406 : 0 < (l0.length : Int) := of_decide_eq_true am; obtain ⟨ad406, e406, hx406_0⟩ := Kd.qnB HR0.out 0 p406 q406; cases e406; have qi406 : (0 < l0.length) = True := eq_true (by omega); (try rw [show ((0 : Int)).toNat = 0 from rfl] at hx406_0); (try rw [Addr.add_zero'] at hx406_0); replace p406 := eq_true p406; replace q406 := eq_true q406) | (go_at_call 59; (with_reducible refine (qkA.calls a1 0 (wrap64 (((rdOf ByteArray.empty l0 0).size : Int) - 1)) t407 _ A7.out).mono ?_); rintro e w' ⟨rfl, ⟨nd, rfl⟩⟩))
  go_ret
  exact ⟨by first | rfl | (simp; done) | (simp [*]; done), dR⟩
 ·replace c5 := Bool.eq_false_iff.mpr c5
  subst c5
  replace H := iF H
  obtain rfl := Option.some.inj H
  go_enter Tryz.func37, Tryz.ntmps37
  go_wp2_with (first | ((with_reducible refine qI (f := 59) rfl ?_); refine qu (some 11) rfl rfl Tryz.func59 (by kernel_rfl) rfl #[.int .i64 a2, .int .i64 0, .int .i64 (wrap64 ((l0.length : Int) - 1))] rfl gA ?_; (with_reducible refine (qkA.calls a2 0 (wrap64 ((l0.length : Int) - 1)) false _ A4.out).mono ?_); rintro e w' ⟨rfl, ⟨nd, rfl⟩⟩; refine ⟨_, rfl, ?_⟩))
  go_ret
  exact ⟨by first | rfl | (simp; done) | (simp [*]; done), dR⟩
def qhA.f (l0 : List ByteArray) (a1 : Int) (a2 : Int) : Option (Int) := (qAB.f l0 a1 a2).bind fun t408 => (if t408 = true then (if 0 ≤ a2 then (if a2 < (l0.length : Int) then (if 0 ≤ a1 then (if a1 < ((rdOf ByteArray.empty l0 a2).size : Int) then (some (bt (rdOf ByteArray.empty l0 a2) a1)) else (none)) else (none)) else (none)) else (none)) else (some 0))
set_option maxHeartbeats 8000000 in
set_option maxRecDepth 100000 in
theorem qhA.calls (A0 : Option Addr) (c0 : Nat) (l0 : List ByteArray) (a1 : Int) (a2 : Int) (r : Int) (w : World) (hr0 : Kd.C Kd.string w A0 l0.length l0) (hc0 : l0.length ≤ c0) (h : qhA.f l0 a1 a2 = some r) :
  Calls Tryz.prog 85 #[.slice A0 l0.length c0, .int .i64 a1, .int .i64 a2] w fun e w' => e = .returned (.int .u8 r) ∧ Drawn0 w w' := by
 have HR0 := aM hr0
 have HC0 := aM hc0
 clear hr0 hc0
 have H : ((qAB.f l0 a1 a2).bind fun t408 => (if t408 = true then (if 0 ≤ a2 then (if a2 < (l0.length : Int) then (if 0 ≤ a1 then (if a1 < ((rdOf ByteArray.empty l0 a2).size : Int) then (some (bt (rdOf ByteArray.empty l0 a2) a1)) else (none)) else (none)) else (none)) else (none)) else (some 0))) = some r := h
 clear h
 replace H := bO H
 obtain ⟨t408, A4, H⟩ := H
 by_cases c5 : t408 = true
 ·subst c5
  replace H := iT H
  by_cases c6 : 0 ≤ a2
  case neg => exact nN c6 H
  rw [if_pos c6] at H
  have c6b0 := decide_eq_true c6
  clear c6
  by_cases c7 : a2 < (l0.length : Int)
  case neg => exact nN c7 H
  rw [if_pos c7] at H
  have c7b0 := decide_eq_true c7
  clear c7
  by_cases c8 : 0 ≤ a1
  case neg => exact nN c8 H
  rw [if_pos c8] at H
  have c8b0 := decide_eq_true c8
  clear c8
  by_cases c9 : a1 < ((rdOf ByteArray.empty l0 a2).size : Int)
  case neg => exact nN c9 H
  rw [if_pos c9] at H
  have c9b0 := decide_eq_true c9
  clear c9
  obtain rfl := Option.some.inj H
  go_enter Tryz.func85, Tryz.ntmps85
  go_wp2_with (first | ((with_reducible refine qI (f := 37) rfl ?_); refine qu (some 10) rfl rfl Tryz.func37 (by kernel_rfl) rfl #[.slice A0 l0.length c0, .int .i64 a1, .int .i64 a2] rfl gA ?_; (with_reducible refine (qAB.calls _ _ l0 a1 a2 true _ ?side1 ?side2 A4.out).mono ?_); (case side1 => repeat (first | exact HR0.out | (with_reducible refine Kd.qV ?_ _) | (with_reducible refine Kd.qU ?_ _) | (with_reducible refine Kd.qf ?_))); (case side2 => exact HC0.out); rintro e w' ⟨rfl, ⟨nd, rfl⟩⟩; refine ⟨_, rfl, ?_⟩; have p409 : 0 ≤ (a2 : Int) := of_decide_eq_true am; have q409 : a2 < (l0.length : Int) := of_decide_eq_true am; obtain ⟨ad409, e409, hx409_0⟩ := Kd.qnB HR0.out a2 p409 q409; cases e409; replace p409 := eq_true p409; replace q409 := eq_true q409; have p10 : 0 ≤ (a1 : Int) := of_decide_eq_true am; have q10 : a1 < ((rdOf ByteArray.empty l0 a2).size : Int) := of_decide_eq_true am; have hx10 := bt_at (rdOf ByteArray.empty l0 a2) a1; replace p10 := eq_true p10; replace q10 := eq_true q10))
  go_ret
  exact ⟨by first | rfl | (simp; done) | (simp [*]; done), dR⟩
 ·replace c5 := Bool.eq_false_iff.mpr c5
  subst c5
  replace H := iF H
  obtain rfl := Option.some.inj H
  go_enter Tryz.func85, Tryz.ntmps85
  go_wp2_with (first | ((with_reducible refine qI (f := 37) rfl ?_); refine qu (some 10) rfl rfl Tryz.func37 (by kernel_rfl) rfl #[.slice A0 l0.length c0, .int .i64 a1, .int .i64 a2] rfl gA ?_; (with_reducible refine (qAB.calls _ _ l0 a1 a2 false _ ?side1 ?side2 A4.out).mono ?_); (case side1 => repeat (first | exact HR0.out | (with_reducible refine Kd.qV ?_ _) | (with_reducible refine Kd.qU ?_ _) | (with_reducible refine Kd.qf ?_))); (case side2 => exact HC0.out); rintro e w' ⟨rfl, ⟨nd, rfl⟩⟩; refine ⟨_, rfl, ?_⟩))
  go_ret
  exact ⟨by first | rfl | (simp; done) | (simp [*]; done), dR⟩
end Go.Proofs.YthhiiceligjleaaGreatDoor.P
namespace Go.Proofs.YthhiiceligjleaaGreatDoor
open Go.RowKit Go.Proofs.YthhiiceligjleaaGreatDoor.P Go.Proofs.YthhiiceligjleaaGreatDoorW.PrintWords Go.Proofs.YthhiiceligjleaaGreatDoorW.PrintLast
set_option linter.unusedVariables false
set_option linter.unusedSimpArgs false
theorem qoD (n a b : Int) : qlA.f n a b = some (decide (a ≤ n) && decide (n ≤ b)) := by
 unfold qlA.f
 by_cases h : n ≥ a
 case pos => rw [if_pos h, decide_eq_true (show a ≤ n from h), Bool.true_and]
 rw [if_neg h, decide_eq_false (show ¬ a ≤ n from h), Bool.false_and]
def rowsL (a : ByteArray) : List (List UInt8) := (sp 47 a.data.toList).1 :: (sp 47 a.data.toList).2
theorem flat_get (w : Nat) : ∀ (L : List (List UInt8)) (i j : Nat), (∀ r ∈ L, r.length = w) → i < L.length → j < w → L.flatten[i * w + j]? = (L[i]?.bind fun r => r[j]?)
 | [], i, j, _, hi, _ => by simp at hi
 | r :: L, 0, j, h, _, hj => by
  have := h r List.mem_cons_self
  simp only [List.flatten_cons, Nat.zero_mul, Nat.zero_add, List.getElem?_cons_zero, Option.bind_some]
  rw [List.getElem?_append_left (by omega)]
 | r :: L, i + 1, j, h, hi, hj => by
  have h1 := h r List.mem_cons_self
  have ih := flat_get w L i j (fun q hq => h q (List.mem_cons_of_mem _ hq)) (by simpa using hi) hj
  simp only [List.flatten_cons, List.getElem?_cons_succ]
  have e : (i + 1) * w + j = r.length + (i * w + j) := by rw [Nat.add_mul, h1]; omega
  rw [e, List.getElem?_append_right (by omega), Nat.add_sub_cancel_left]
  exact ih
structure Gnd (a : ByteArray) : Prop where
 w1 : 1 ≤ wideT a
 w7 : wideT a ≤ 7
 h1 : 1 ≤ highT a
 h7 : highT a ≤ 7
 rows : ∀ r ∈ rowsL a, r.length = wideT a
theorem qTE {a : ByteArray} (h : boardB a = true) : Gnd a := by
 unfold boardB szR at h
 simp only [Bool.and_eq_true, decide_eq_true_eq] at h
 obtain ⟨hr, ⟨⟨⟨g1, g2⟩, g3⟩, g4⟩, g5⟩ := h
 obtain ⟨_, h2⟩ := (qVC a).1 hr
 exact ⟨g3, g4, g1, g2, fun r hr => by
  rcases List.mem_cons.1 hr with rfl | hr
  ·rfl
  ·exact h2 r hr⟩
theorem qKC (a : ByteArray) : (rowsL a).length = highT a := rfl
theorem rowsT_get (a : ByteArray) (i : Nat) (h : i < (rowsT a).length) (h' : i < (rowsL a).length) : ((rowsT a)[i]).data.toList = (rowsL a)[i] := by
 have := qNC a
 have e : ((rowsT a).map (·.data.toList))[i]'(by simpa using h) = (rowsL a)[i] := by
  simp only [this]; rfl
 rwa [List.getElem_map] at e
theorem flatT_eq (a : ByteArray) : flatT a.data.toList = (rowsL a).flatten := rfl
def hasB (a : ByteArray) (x y : Int) : Bool := decide (0 ≤ y) && decide (y ≤ (highT a : Int) - 1) && (decide (0 ≤ x) && decide (x ≤ (wideT a : Int) - 1))
def cellU (a : ByteArray) (x y : Int) : UInt8 := ((rowsL a).getD y.toNat []).getD x.toNat 0
def cellN (a : ByteArray) (x y : Int) : Int := ((cellU a x y).toNat : Int)
theorem qYD (a : ByteArray) (x y : Int) : hasB a x y = true ↔ (0 ≤ y ∧ y < (highT a : Int)) ∧ (0 ≤ x ∧ x < (wideT a : Int)) := by
 unfold hasB
 simp only [Bool.and_eq_true, decide_eq_true_eq]
 omega
theorem gr_size {a : ByteArray} (g : Gnd a) (i : Nat) (h : i < (rowsT a).length) : ((rowsT a)[i]).size = wideT a := by
 have h' : i < (rowsL a).length := by rw [qKC, ← qJC]; exact h
 rw [← qFC, rowsT_get a i h h']
 exact g.rows _ (List.getElem_mem h')
theorem qkE {a : ByteArray} (g : Gnd a) (x y : Int) : qAB.f (rowsT a) x y = some (hasB a x y) := by
 have hl := qJC a
 have h0 : 0 < (rowsT a).length := by rw [hl]; exact g.h1
 have e0 : rdOf ByteArray.empty (rowsT a) 0 = (rowsT a)[0] := qdE (rowsT a) 0 h0
 have e1 := gr_size g 0 h0
 have g1 := g.h7
 have g2 := g.w7
 unfold qAB.f
 rw [qmC, hl, e0, e1]
 have w1 : wrap64 ((highT a : Int) - 1) = (highT a : Int) - 1 := by unfold wrap64; omega
 have w2 : wrap64 ((wideT a : Int) - 1) = (wideT a : Int) - 1 := by unfold wrap64; omega
 rw [w1, w2]
 simp only [Option.bind_some]
 have g0 := g.h1
 unfold hasB
 by_cases h : (decide (0 ≤ y) && decide (y ≤ (highT a : Int) - 1)) = true
 case pos => rw [if_pos h, if_pos (by omega), qmC, h, Bool.true_and]; rfl
 rw [if_neg h, Bool.eq_false_iff.2 h, Bool.false_and]
theorem at_eq {a : ByteArray} (g : Gnd a) (x y : Int) (h : hasB a x y = true) : qhA.f (rowsT a) x y = some (cellN a x y) := by
 obtain ⟨⟨h1, h2⟩, h3, h4⟩ := (qYD a x y).1 h
 obtain ⟨i, rfl⟩ := Int.eq_ofNat_of_zero_le h1
 obtain ⟨j, rfl⟩ := Int.eq_ofNat_of_zero_le h3
 have hl := qJC a
 have hi : i < (rowsT a).length := by omega
 have hi' : i < (rowsL a).length := by rw [qKC]; omega
 have hs := gr_size g i hi
 have hr := rowsT_get a i hi hi'
 have hw := g.rows _ (List.getElem_mem hi')
 unfold qhA.f
 rw [qkE g, h, qdE (rowsT a) i hi]
 simp only [Option.bind_some, if_true]
 rw [if_pos (by omega), if_pos (by omega), if_pos (by omega), if_pos (by rw [hs]; omega)]
 have hj : j < ((rowsT a)[i]).data.toList.length := by rw [qFC, hs]; omega
 rw [gr_bt _ j hj]
 congr 1
 unfold cellN cellU
 have e : (rowsL a).getD i [] = (rowsL a)[i] := by rw [List.getD_eq_getElem?_getD, List.getElem?_eq_getElem hi']; rfl
 have e2 : ((rowsT a)[i]).data.toList[j] = ((rowsL a)[i])[j]'(by rw [← hr]; exact hj) := by simp only [hr]
 rw [e2, Int.toNat_natCast, Int.toNat_natCast, e, List.getD_eq_getElem?_getD, List.getElem?_eq_getElem (by rw [← hr]; exact hj)]
 rfl
theorem boCell_eq {a : ByteArray} (g : Gnd a) (cs : List Int) (x y : Int) : qXB.f (wideT a : Int) (highT a : Int) cs x y = some (hasB a x y) := by
 have g1 := g.h7
 have g2 := g.w7
 unfold qXB.f
 have w1 : wrap64 ((highT a : Int) - 1) = (highT a : Int) - 1 := by unfold wrap64; omega
 have w2 : wrap64 ((wideT a : Int) - 1) = (wideT a : Int) - 1 := by unfold wrap64; omega
 rw [w1, w2, qoD, qoD]
 simp only [Option.bind_some]
 unfold hasB
 by_cases h : (decide (0 ≤ x) && decide (x ≤ (wideT a : Int) - 1)) = true
 case pos => rw [if_pos h, h, Bool.and_true]
 rw [if_neg h, Bool.eq_false_iff.2 h, Bool.and_false]
theorem spec_at {a : ByteArray} (g : Gnd a) (x y : Int) (h : hasB a x y = true) :
  0 ≤ wrap64 (wrap64 (y * (wideT a : Int)) + x) ∧ wrap64 (wrap64 (y * (wideT a : Int)) + x) < ((numsOf (flatT a.data.toList)).length : Int) ∧ rd (numsOf (flatT a.data.toList)) (wrap64 (wrap64 (y * (wideT a : Int)) + x)) = cellN a x y := by
 obtain ⟨⟨h1, h2⟩, h3, h4⟩ := (qYD a x y).1 h
 obtain ⟨i, rfl⟩ := Int.eq_ofNat_of_zero_le h1
 obtain ⟨j, rfl⟩ := Int.eq_ofNat_of_zero_le h3
 have g1 := g.h7
 have g2 := g.w7
 have hi' : i < (rowsL a).length := by rw [qKC]; omega
 have hf := flat_get (wideT a) (rowsL a) i j g.rows hi' (by omega)
 have hw := g.rows _ (List.getElem_mem hi')
 have hj : j < ((rowsL a)[i]).length := by omega
 rw [List.getElem?_eq_getElem hi', Option.bind_some, List.getElem?_eq_getElem hj] at hf
 have hm : i * wideT a ≤ 7 * 7 := Nat.mul_le_mul (by omega) g2
 have ec : ((i : Int) * (wideT a : Int)) = ((i * wideT a : Nat) : Int) := by push_cast; rfl
 rw [ec]
 have e : wrap64 (wrap64 ((i * wideT a : Nat) : Int) + (j : Int)) = ((i * wideT a + j : Nat) : Int) := by
  generalize i * wideT a = m at *
  unfold wrap64; omega
 rw [e, flatT_eq]
 obtain ⟨hlt, hv⟩ := List.getElem?_eq_some_iff.1 hf
 refine ⟨by omega, ?_, ?_⟩
 ·unfold numsOf
  rw [List.length_map]; omega
 ·unfold rd numsOf cellN cellU
  rw [Int.toNat_natCast, List.getD_eq_getElem?_getD, List.getElem?_map, hf, Int.toNat_natCast, Int.toNat_natCast, List.getD_eq_getElem?_getD (l := rowsL a), List.getElem?_eq_getElem hi']
  simp only [Option.map_some, Option.getD_some]
  rw [List.getD_eq_getElem?_getD, List.getElem?_eq_getElem hj]
  rfl
theorem at_all {a : ByteArray} (g : Gnd a) (x y : Int) : qhA.f (rowsT a) x y = some (if hasB a x y = true then cellN a x y else 0) := by
 cases h : hasB a x y with
 | true => rw [at_eq g x y h]; rfl
 | false =>
  unfold qhA.f
  rw [qkE g, h]; rfl
def floorB (a : ByteArray) (x y : Int) : Bool := hasB a x y && (cellN a x y == 46)
theorem at_floor {a : ByteArray} (g : Gnd a) (x y : Int) : ∃ c, qhA.f (rowsT a) x y = some c ∧ decide (c = 46) = floorB a x y := by
 refine ⟨_, at_all g x y, ?_⟩
 unfold floorB
 cases h : hasB a x y with
 | true => rw [if_pos rfl, Bool.true_and]; rfl
 | false => rw [if_neg (by decide)]; rfl
end Go.Proofs.YthhiiceligjleaaGreatDoor
namespace Go.Proofs.YthhiiceligjleaaGreatDoor.P
open Go.RowKit Go.Proofs.YthhiiceligjleaaGreatDoorW.PrintWords Go.Proofs.YthhiiceligjleaaGreatDoorW.PrintLast Go.Proofs.YthhiiceligjleaaGreatDoorW.PrintMore
attribute [local go_sem] qk qi qx qw qc qb qj qh
set_option linter.unusedVariables false
set_option linter.unusedSimpArgs false
def qeB.f (a0_0 : Int) (a0_1 : Int) (a0_2 : Int) (a0_3 : Int) (a0_4 : Int) (a0_5 : Int) : Option (List Int) := some (([a0_0, a0_1, a0_2, a0_3, a0_4, a0_5] : List Int))
set_option maxHeartbeats 8000000 in
set_option maxRecDepth 100000 in
theorem qeB.calls (a0_0 : Int) (a0_1 : Int) (a0_2 : Int) (a0_3 : Int) (a0_4 : Int) (a0_5 : Int) (r : List Int) (w : World) (h : qeB.f a0_0 a0_1 a0_2 a0_3 a0_4 a0_5 = some r) :
  Calls Tryz.prog 97 #[.agg #[.int .i64 a0_0, .int .i64 a0_1, .int .i64 a0_2, .int .i64 a0_3, .int .i64 a0_4, .int .i64 a0_5]] w fun e w' => ∃ v0_ : Value, e = .returned (v0_) ∧ Kd.R (Kd.int .i64) 3 w' w.heap.size (fun _ => True) v0_ r ∧ Below w.heap.size w w' := by
 have hu51 := Tryz.underlying51
 have HB := aM (Below.refl w.heap.size w)
 have H : (some (([a0_0, a0_1, a0_2, a0_3, a0_4, a0_5] : List Int))) = some r := h
 clear h
 obtain ⟨y411, hy411⟩ : ∃ y_ : List Int, y_ = (([a0_0, a0_1, a0_2, a0_3, a0_4, a0_5] : List Int)) := ⟨_, rfl⟩
 replace H : (some y411) = some r := by first | (rw [hy411]; with_reducible exact H) | (have H2_ := (Option.bind_some _ _).symm.trans H; rw [hy411]; with_reducible exact H2_) | (have H2_ := (Option.bind_some _ _).symm.trans H; with_reducible exact H2_) | with_reducible exact H | (rw [hy411]; exact H) | exact H
 have Ny411 := aM hy411
 clear hy411
 obtain rfl := Option.some.inj H
 go_enter Tryz.func97, Tryz.ntmps97
 go_wp2_with (first | ((with_reducible refine qG (N := 1) rfl ?_); refine bE (N := 1) (cs := #[.int .i64 a0_0, .int .i64 a0_1, .int .i64 a0_2, .int .i64 a0_3, .int .i64 a0_4, .int .i64 a0_5]) (t := 51) ?_; intro gb410 hg w2 hbox hb; have BK410 := aM (hbox); have GW410 := aM ((gg hg)); have GE410 := aM ((gg hg)); replace HB := aM (qB bl hb); clear hb hbox hg; (refine cb6 BK410 ?_; intro _ _ _ _ _ _); (refine cz6 BK410 ?_; intro _ _ _ _ _ _)) | ((with_reducible refine qG (N := 15) rfl ?_); refine Kd.R_lit (Kd.int .i64) _ 3 ?hg (N := 15) ?hd (xs := ([a0_0, a0_1, a0_2, a0_3, a0_4, a0_5] : List Int)) (inner := [.int .i64 a0_0, .int .i64 a0_1, .int .i64 a0_2, .int .i64 a0_3, .int .i64 a0_4, .int .i64 a0_5]) (ok := fun _ => True) (okp := fun _ => True) ?hr ?hp (fun _ hk => hk) trivial (Below.refl _ _) (Nat.le_refl _) (by simp) ?_; (case hd => rfl); (case hg => rfl); (case hr => exact gS); (case hp => exact (Reps.one (show Kd.M (Kd.int .i64) _ _ _ a0_0 [.int .i64 a0_0] from rfl) (Reps.one (show Kd.M (Kd.int .i64) _ _ _ a0_1 [.int .i64 a0_1] from rfl) (Reps.one (show Kd.M (Kd.int .i64) _ _ _ a0_2 [.int .i64 a0_2] from rfl) (Reps.one (show Kd.M (Kd.int .i64) _ _ _ a0_3 [.int .i64 a0_3] from rfl) (Reps.one (show Kd.M (Kd.int .i64) _ _ _ a0_4 [.int .i64 a0_4] from rfl) (Reps.one (show Kd.M (Kd.int .i64) _ _ _ a0_5 [.int .i64 a0_5] from rfl) (Reps.none _ _)))))))); intro v412 w4 ho5 hb hg_ hnew_; clear hg_ hnew_; (first | rw [← Ny411.out] at ho5 | (simp only [Int.reduceToNat] at ho5; rw [← Ny411.out] at ho5)); have HO413 := aM (Kd.qAA ho5 (qJ bl)); replace BK410 := aM (bb BK410 hb); replace HB := aM (qB bl hb); clear hb ho5))
 go_ret
 exact ⟨_, sR, by (with_reducible repeat (first | apply Kd.qL | apply Kd.qO | apply Kd.qQ)); exact HO413.out, bl⟩
def qZB.f (a0 : Int) : Option (Bool) := (qkA.f a0 0 9).bind fun t414 => (some (!t414))
set_option maxHeartbeats 8000000 in
set_option maxRecDepth 100000 in
theorem qZB.calls (a0 : Int) (r : Bool) (w : World) (h : qZB.f a0 = some r) :
  Calls Tryz.prog 98 #[.int .i64 a0] w fun e w' => e = .returned (.bool r) ∧ Drawn0 w w' := by
 have H : ((qkA.f a0 0 9).bind fun t414 => (some (!t414))) = some r := h
 clear h
 replace H := bO H
 obtain ⟨t414, A2, H⟩ := H
 obtain rfl := Option.some.inj H
 go_enter Tryz.func98, Tryz.ntmps98
 go_wp2_with (first | ((with_reducible refine qI (f := 59) rfl ?_); refine qu (some 4) rfl rfl Tryz.func59 (by kernel_rfl) rfl #[.int .i64 a0, .int .i64 0, .int .i64 9] rfl gA ?_; (with_reducible refine (qkA.calls a0 0 9 t414 _ A2.out).mono ?_); rintro e w' ⟨rfl, ⟨nd, rfl⟩⟩; refine ⟨_, rfl, ?_⟩))
 go_ret
 exact ⟨by first | rfl | (simp; done) | (simp [*]; done), dR⟩
def qH.l0 : Nat → List Int → Int → Int → Option (Int)
 | 0, _, _, _ => none
 | k + 1, x0, x7, x8 => if x8 < x7 then (if 0 ≤ x8 then (if x8 < (x0.length : Int) then ((qZB.f (rd x0 x8)).bind fun t416 => (if t416 = true then (some x8) else (qH.l0 k x0 x7 (wrap64 (x8 + 1))))) else (none)) else (none)) else (some (-1))
def qH.f (k : Nat) (l0 : List Int)  : Option (Int) := qH.l0 k l0 (l0.length : Int) 0
set_option maxHeartbeats 8000000 in
set_option maxRecDepth 100000 in
theorem qH.calls (k : Nat) (A0 : Option Addr) (c0 : Nat) (l0 : List Int)  (r : Int) (w : World) (hr0 : Kd.C (Kd.int .i64) w A0 l0.length l0) (hc0 : l0.length ≤ c0) (h : qH.f k l0 = some r) :
  Calls Tryz.prog 106 #[.slice A0 l0.length c0, .func (.func 98) #[] #[]] w fun e w' => e = .returned (.int .i64 r) ∧ Drawn0 w w' := by
 have HR0 := aM hr0
 have HC0 := aM hc0
 clear hr0 hc0
 have H : (qH.l0 k l0 (l0.length : Int) 0) = some r := h
 clear h
 have H' := aM H
 clear H
 go_enter Tryz.func106, Tryz.ntmps106
 go_wp2
 go_loopg [8] k (fun kq v8 w' => ∃ (x8_1 : Int), v8 = .int .i64 x8_1 ∧ Aside0 (qH.l0 kq l0 (l0.length : Int) x8_1 = some r) ∧ Aside0 (kq ≤ k) ∧ Drawn0 w w')
 case atStart => exact ⟨(0), sD, H', ⟨Nat.le_refl _⟩, dR⟩
 case round =>
  clear H'; (try clear p2)
  obtain ⟨x8_1, rfl, HA, HK1, ⟨m1, rfl⟩⟩ := hrel
  cases gk with
  | zero => exact absurd HA.out (by simp [qH.l0])
  | succ k1 =>
   have H := HA.out
   clear HA
   simp only [qH.l0] at H
   by_cases c3 : x8_1 < (l0.length : Int)
   ·rw [if_pos c3] at H
    have c3b0 := decide_eq_true c3
    clear c3
    by_cases c4 : 0 ≤ x8_1
    case neg => exact nN c4 H
    rw [if_pos c4] at H
    have c4b0 := decide_eq_true c4
    clear c4
    by_cases c5 : x8_1 < (l0.length : Int)
    case neg => exact nN c5 H
    rw [if_pos c5] at H
    have c5b0 := decide_eq_true c5
    clear c5
    replace H := bO H
    obtain ⟨t416, A6, H⟩ := H
    by_cases c7 : t416 = true
    ·subst c7
     replace H := iT H
     obtain rfl := Option.some.inj H
     have p415 : 0 ≤ (x8_1 : Int) := of_decide_eq_true am
     have q415 : x8_1 < (l0.length : Int) := of_decide_eq_true am
     obtain ⟨ad415, e415, hx415_0⟩ := Kd.qgB HR0.out x8_1 p415 q415
     cases e415
     replace p415 := eq_true p415
     replace q415 := eq_true q415
     go_wp2_with (first | ((with_reducible refine qSC (s := 11) rfl ?_); refine qnD (some 16) 11 rfl rfl Tryz.func98 (by kernel_rfl) rfl #[.int .i64 (rd l0 x8_1)] rfl rfl gA ?_; (with_reducible refine (qZB.calls (rd l0 x8_1) true _ A6.out).mono ?_); rintro e w' ⟨rfl, ⟨nd, rfl⟩⟩; refine ⟨_, rfl, ?_⟩))
     go_ret
     exact ⟨by first | rfl | (simp; done) | (simp [*]; done), dR⟩
    ·replace c7 := Bool.eq_false_iff.mpr c7
     subst c7
     replace H := iF H
     have H' := aM H
     clear H
     have p415 : 0 ≤ (x8_1 : Int) := of_decide_eq_true am
     have q415 : x8_1 < (l0.length : Int) := of_decide_eq_true am
     obtain ⟨ad415, e415, hx415_0⟩ := Kd.qgB HR0.out x8_1 p415 q415
     cases e415
     replace p415 := eq_true p415
     replace q415 := eq_true q415
     go_wp2_with (first | ((with_reducible refine qSC (s := 11) rfl ?_); refine qnD (some 16) 11 rfl rfl Tryz.func98 (by kernel_rfl) rfl #[.int .i64 (rd l0 x8_1)] rfl rfl gA ?_; (with_reducible refine (qZB.calls (rd l0 x8_1) false _ A6.out).mono ?_); rintro e w' ⟨rfl, ⟨nd, rfl⟩⟩; refine ⟨_, rfl, ?_⟩))
     go_roundg k1
     case measure => have := HK1.out; omega
     case rel => exact ⟨(wrap64 (x8_1 + 1)), sD, H', ⟨by have := HK1.out; omega⟩, dR⟩
   ·rw [if_neg c3] at H
    have c3b0 := decide_eq_false c3
    clear c3
    obtain rfl := Option.some.inj H
    go_wp2
    go_ret
    exact ⟨by first | rfl | (simp; done) | (simp [*]; done), dR⟩
def qp.f (k : Nat) (l0 : List Int)  : Option (Bool) := (qH.f k l0).bind fun t417 => (some (decide (t417 ≥ 0)))
set_option maxHeartbeats 8000000 in
set_option maxRecDepth 100000 in
theorem qp.calls (k : Nat) (A0 : Option Addr) (c0 : Nat) (l0 : List Int)  (r : Bool) (w : World) (hr0 : Kd.C (Kd.int .i64) w A0 l0.length l0) (hc0 : l0.length ≤ c0) (h : qp.f k l0 = some r) :
  Calls Tryz.prog 96 #[.slice A0 l0.length c0, .func (.func 98) #[] #[]] w fun e w' => e = .returned (.bool r) ∧ Drawn0 w w' := by
 have HR0 := aM hr0
 have HC0 := aM hc0
 clear hr0 hc0
 have H : ((qH.f k l0).bind fun t417 => (some (decide (t417 ≥ 0)))) = some r := h
 clear h
 replace H := bO H
 obtain ⟨t417, A3, H⟩ := H
 obtain rfl := Option.some.inj H
 go_enter Tryz.func96, Tryz.ntmps96
 go_wp2_with (first | ((with_reducible refine qI (f := 106) rfl ?_); refine qu (some 7) rfl rfl Tryz.func106 (by kernel_rfl) rfl #[.slice A0 l0.length c0, .func (.func 98) #[] #[]] rfl gA ?_; (with_reducible refine (qH.calls k _ _ l0  t417 _ ?side1 ?side2 A3.out).mono ?_); (case side1 => repeat (first | exact HR0.out | (with_reducible refine Kd.qV ?_ _) | (with_reducible refine Kd.qU ?_ _) | (with_reducible refine Kd.qf ?_))); (case side2 => exact HC0.out); rintro e w' ⟨rfl, ⟨nd, rfl⟩⟩; refine ⟨_, rfl, ?_⟩))
 go_ret
 exact ⟨by first | rfl | (simp; done) | (simp [*]; done), dR⟩
def qkB.f (k : Nat) (a0_0 : Int) (a0_1 : Int) (a0_2 : Int) (a0_3 : Int) (a0_4 : Int) (a0_5 : Int) : Option (Bool) := (qeB.f a0_0 a0_1 a0_2 a0_3 a0_4 a0_5).bind fun t419 => ((qp.f k t419).bind fun t422 => (some (!t422)))
set_option maxHeartbeats 8000000 in
set_option maxRecDepth 100000 in
theorem qkB.calls (k : Nat) (a0_0 : Int) (a0_1 : Int) (a0_2 : Int) (a0_3 : Int) (a0_4 : Int) (a0_5 : Int) (r : Bool) (w : World) (h : qkB.f k a0_0 a0_1 a0_2 a0_3 a0_4 a0_5 = some r) :
  Calls Tryz.prog 87 #[.agg #[.int .i64 a0_0, .int .i64 a0_1, .int .i64 a0_2, .int .i64 a0_3, .int .i64 a0_4, .int .i64 a0_5]] w fun e w' => e = .returned (.bool r) ∧ Below w.heap.size w w' := by
 have hu51 := Tryz.underlying51
 have HB := aM (Below.refl w.heap.size w)
 have H : ((qeB.f a0_0 a0_1 a0_2 a0_3 a0_4 a0_5).bind fun t419 => ((qp.f k t419).bind fun t422 => (some (!t422)))) = some r := h
 clear h
 replace H := bO H
 obtain ⟨t419, A2, H⟩ := H
 replace H := bO H
 obtain ⟨t422, A3, H⟩ := H
 obtain rfl := Option.some.inj H
 go_enter Tryz.func87, Tryz.ntmps87
 go_wp2_with (first | ((with_reducible refine qG (N := 1) rfl ?_); refine bE (N := 1) (cs := #[.int .i64 a0_0, .int .i64 a0_1, .int .i64 a0_2, .int .i64 a0_3, .int .i64 a0_4, .int .i64 a0_5]) (t := 51) ?_; intro gb418 hg w4 hbox hb; have BK418 := aM (hbox); have GW418 := aM ((gg hg)); have GE418 := aM ((gg hg)); replace HB := aM (qB bl hb); clear hb hbox hg; (refine cb6 BK418 ?_; intro _ _ _ _ _ _); (refine cz6 BK418 ?_; intro _ _ _ _ _ _)) | ((with_reducible refine qI (f := 97) rfl ?_); refine qu (some 4) rfl rfl Tryz.func97 (by kernel_rfl) rfl #[.agg #[.int .i64 a0_0, .int .i64 a0_1, .int .i64 a0_2, .int .i64 a0_3, .int .i64 a0_4, .int .i64 a0_5]] rfl gA ?_; (with_reducible refine (qeB.calls a0_0 a0_1 a0_2 a0_3 a0_4 a0_5 t419 _ A2.out).mono ?_); rintro e w6 ⟨v420, rfl, ho0, hb⟩; refine ⟨_, rfl, ?_⟩; have HO421 := aM (Kd.qAA ho0 (qJ bl)); replace BK418 := aM (bb BK418 hb); replace HB := aM (qB bl hb); (try clear hb); (try clear hb2); (try clear hk); (try clear hi); (try clear ho0); obtain ⟨Ao7, co7, eo7⟩ := Kd.qCA HO421.out; subst eo7) | ((with_reducible refine qI (f := 96) rfl ?_); refine qu (some 5) rfl rfl Tryz.func96 (by kernel_rfl) rfl #[.slice Ao7 t419.length co7, .func (.func 98) #[] #[]] rfl gA ?_; (with_reducible refine (qp.calls k _ _ t419  t422 _ ?side1 ?side2 A3.out).mono ?_); (case side1 => repeat (first | exact (Kd.qN HO421.out).2.2 | (with_reducible refine Kd.qV ?_ _) | (with_reducible refine Kd.qU ?_ _) | (with_reducible refine Kd.qf ?_))); (case side2 => exact (Kd.qN HO421.out).2.1); rintro e w' ⟨rfl, ⟨nd, rfl⟩⟩; refine ⟨_, rfl, ?_⟩))
 go_ret
 exact ⟨sR, bl⟩
end Go.Proofs.YthhiiceligjleaaGreatDoor.P
