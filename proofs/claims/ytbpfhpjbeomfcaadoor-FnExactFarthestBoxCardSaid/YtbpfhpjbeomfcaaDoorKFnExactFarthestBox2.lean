/- The program's FarthestBox returns what the reference's returns, for all texts and boxes (the law lets longer texts by). No further condition. -/
import Derived.Test.YtbpfhpjbeomfcaaDoorKFnExactFarthestBox1

namespace Go.Proofs.YtbpfhpjbeomfcaaDoor.P
open Go.RowKit Go.Proofs.YtbpfhpjbeomfcaaDoorW.PrintWords Go.Proofs.YtbpfhpjbeomfcaaDoorW.PrintLast Go.Proofs.YtbpfhpjbeomfcaaDoorW.PrintMore
attribute [local go_sem] qz qx qJA qIA qp qo qy qw
set_option linter.unusedVariables false
set_option linter.unusedSimpArgs false
attribute [local go_sem high] eqA27
mutual
def qZ.l0 : Nat → Int → Int → Int → List Int → List (S27) → List ByteArray → Option ((List (S27)) × List ByteArray × Bool)
 | 0, _, _, _, _, _, _ => none
 | k + 1, x7, x409000, x409001, x409002, x418000, x418001 => if x7 < (x418000.length : Int) then (qZ.l1 k x7 0 x409000 x409001 x409002 x418000 x418001) else (some (x418000, x418001, true))
def qZ.l1 : Nat → Int → Int → Int → Int → List Int → List (S27) → List ByteArray → Option ((List (S27)) × List ByteArray × Bool)
 | 0, _, _, _, _, _, _, _ => none
 | k + 1, x7, x8, x409000, x409001, x409002, x418000, x418001 => if x8 < 4 then (if 0 ≤ x7 then (if x7 < (x418000.length : Int) then ((qlA.f k x409000 x409001 x409002 ((qJ x418000 x7).f0) ((qJ x418000 x7).f1) ((qJ x418000 x7).f2) x8).bind fun bt419 => (if bt419.2.2.2 = true then (qZ.l2 k x7 x8 false x418000 (x418000.length : Int) 0 x409000 x409001 x409002 x418000 x418001 bt419.1 bt419.2.1 bt419.2.2.1) else (qZ.l1 k x7 (wrap64 (x8 + 1)) x409000 x409001 x409002 x418000 x418001))) else (none)) else (none)) else (if (x418000.length : Int) > 400 then (some (x418000, x418001, false)) else (qZ.l0 k (wrap64 (x7 + 1)) x409000 x409001 x409002 x418000 x418001))
def qZ.l2 : Nat → Int → Int → Bool → List (S27) → Int → Int → Int → Int → List Int → List (S27) → List ByteArray → Int → Int → Int → Option ((List (S27)) × List ByteArray × Bool)
 | 0, _, _, _, _, _, _, _, _, _, _, _, _, _, _ => none
 | k + 1, x7, x8, x11, x32, x44, x45, x409000, x409001, x409002, x418000, x418001, x424000, x424001, x424002 => if x45 < x44 then (if 0 ≤ x45 then (if x45 < (x32.length : Int) then (if x11 = true then (qZ.l2 k x7 x8 true x32 x44 (wrap64 (x45 + 1)) x409000 x409001 x409002 x418000 x418001 x424000 x424001 x424002) else (qZ.l2 k x7 x8 (((qJ x32 x45).f0) == x424000 && (((qJ x32 x45).f1) == x424001 && (((qJ x32 x45).f2) == x424002))) x32 x44 (wrap64 (x45 + 1)) x409000 x409001 x409002 x418000 x418001 x424000 x424001 x424002)) else (none)) else (none)) else (if x11 = true then (qZ.l1 k x7 (wrap64 (x8 + 1)) x409000 x409001 x409002 x418000 x418001) else (if x418000.length < 5864062014805 then (if 0 ≤ x7 then (if x7 < (x418001.length : Int) then ((qwA.f).bind fun t430 => (if 0 ≤ x8 then (if x8 ≤ (wrap64 (x8 + 1)) then (if (wrap64 (x8 + 1)) ≤ (t430.size : Int) then (if (rdOf ByteArray.empty x418001 x7).size + (t430.extract (x8 : Int).toNat ((wrap64 (x8 + 1)) : Int).toNat).size ≤ 9223372036854775807 then (if x418001.length < 8796093022208 then (qZ.l1 k x7 (wrap64 (x8 + 1)) x409000 x409001 x409002 (x418000 ++ [(⟨x424000, x424001, x424002⟩ : S27)]) (x418001 ++ [(rdOf ByteArray.empty x418001 x7) ++ (t430.extract (x8 : Int).toNat ((wrap64 (x8 + 1)) : Int).toNat)])) else (none)) else (none)) else (none)) else (none)) else (none))) else (none)) else (none)) else (none)))
end
def qZ.f (k : Nat) (a0_0 : Int) (a0_1 : Int) (l0_2 : List Int) (a1_0 : Int) (a1_1 : Int) (a1_2 : Int) : Option ((List (S27)) × List ByteArray × Bool) := qZ.l0 k 0 a0_0 a0_1 l0_2 (([(⟨a1_0, a1_1, a1_2⟩ : S27)] : List (S27))) (([(⟨#[]⟩ : ByteArray)] : List ByteArray))
def qZ.T8 : Bool × List (List Nat × List Nat) := (true, [([], []), ([], []), ([1], [1]), ([], []), ([2, 3], [2, 3]), ([4], [4]), ([], []), ([0, 5, 6], [0, 5, 6]), ([7], [7]), ([8], [8]), ([8], [8]), ([], []), ([11, 9, 7, 0, 1, 2, 3, 4, 5, 6, 7, 8, 9, 11], [9, 11]), ([10, 12, 0, 1, 2, 3, 4, 5, 6, 7, 8, 9, 10, 11, 12], [10])])
def qZ.B8 : List Nat := [0, 0, 2, 0, 14, 30, 0, 127, 255, 511, 511, 0, 3071, 8191]
theorem qZ.tab8 : rtab .any (opsOf Tryd.f90 8) = qZ.T8 := by kernel_rfl
theorem qZ.bits8 : waitsOk qZ.T8.2 qZ.B8 = true := by kernel_rfl
def qZ.T18 : Bool × List (List Nat × List Nat) := (true, [([], []), ([0], [0]), ([], []), ([2], [2]), ([], []), ([3, 4], [3, 4]), ([5], [5]), ([], []), ([], []), ([], []), ([9], [9]), ([7, 8, 10], [7, 8, 10]), ([6, 11], [6, 11]), ([12], [12]), ([1, 13, 7], [1, 13]), ([0, 1, 2, 3, 4, 5, 6, 7, 8, 9, 10, 11, 12, 13, 14], []), ([15, 14, 14, 0, 1, 2, 3, 4, 5, 6, 7, 8, 9, 10, 11, 12, 13, 14], [14, 15])])
def qZ.B18 : List Nat := [0, 1, 0, 4, 0, 28, 60, 0, 0, 0, 512, 1920, 4092, 8188, 16383, 32767, 65535]
theorem qZ.tab18 : rtab .any (opsOf Tryd.f90 18) = qZ.T18 := by kernel_rfl
theorem qZ.bits18 : waitsOk qZ.T18.2 qZ.B18 = true := by kernel_rfl
set_option maxHeartbeats 8000000 in
set_option maxRecDepth 100000 in
theorem qZ.calls (k : Nat) (a0_0 : Int) (a0_1 : Int) (A0_2 : Option Addr) (c0_2 : Nat) (l0_2 : List Int) (a1_0 : Int) (a1_1 : Int) (a1_2 : Int) (r1 : List (S27)) (r2 : List ByteArray) (r3 : Bool) (w : World) (hr0_2 : Kd.C (Kd.int .u8) w A0_2 l0_2.length l0_2) (hc0_2 : l0_2.length ≤ c0_2) (h : qZ.f k a0_0 a0_1 l0_2 a1_0 a1_1 a1_2 = some (r1, r2, r3)) :
  Calls Tryd.prog 90 #[.agg #[.int .i64 a0_0, .int .i64 a0_1, .slice A0_2 l0_2.length c0_2], .agg #[.int .i64 a1_0, .int .i64 a1_1, .int .i64 a1_2]] w fun e w' => ∃ v0_ v1_ : Value, e = .returned (.tuple #[.agg #[v0_, v1_], .bool r3]) ∧ Kd.R k27 27 w' w.heap.size (fun _ => True) v0_ r1 ∧ Kd.R Kd.string 9 w' w.heap.size (fun _ => True) v1_ r2 ∧ Below w.heap.size w w' := by
 have hu57 := Tryd.underlying57
 have hu27 := Tryd.underlying27
 have hu75 := Tryd.underlying75
 have HR0_2 := Aside0.mk hr0_2
 have HC0_2 := Aside0.mk hc0_2
 clear hr0_2 hc0_2
 have HB := Aside0.mk (Below.refl w.heap.size w)
 have H : (qZ.l0 k 0 a0_0 a0_1 l0_2 (([(⟨a1_0, a1_1, a1_2⟩ : S27)] : List (S27))) (([(⟨#[]⟩ : ByteArray)] : List ByteArray))) = some (r1, r2, r3) := h
 clear h
 obtain ⟨y411, hy411⟩ : ∃ y_ : List (S27), y_ = (([(⟨a1_0, a1_1, a1_2⟩ : S27)] : List (S27))) := ⟨_, rfl⟩
 replace H : (qZ.l0 k 0 a0_0 a0_1 l0_2 y411 (([(⟨#[]⟩ : ByteArray)] : List ByteArray))) = some (r1, r2, r3) := by first | (rw [hy411]; with_reducible exact H) | (have H2_ := (Option.bind_some _ _).symm.trans H; rw [hy411]; with_reducible exact H2_) | (have H2_ := (Option.bind_some _ _).symm.trans H; with_reducible exact H2_) | with_reducible exact H | (rw [hy411]; exact H) | exact H
 have Ny411 := Aside0.mk hy411
 clear hy411
 obtain ⟨y414, hy414⟩ : ∃ y_ : List ByteArray, y_ = (([(⟨#[]⟩ : ByteArray)] : List ByteArray)) := ⟨_, rfl⟩
 replace H : (qZ.l0 k 0 a0_0 a0_1 l0_2 y411 y414) = some (r1, r2, r3) := by first | (rw [hy414]; with_reducible exact H) | (have H2_ := (Option.bind_some _ _).symm.trans H; rw [hy414]; with_reducible exact H2_) | (have H2_ := (Option.bind_some _ _).symm.trans H; with_reducible exact H2_) | with_reducible exact H | (rw [hy414]; exact H) | exact H
 have Ny414 := Aside0.mk hy414
 clear hy414
 have H' := Aside0.mk H
 clear H
 go_enter Tryd.func90, Tryd.ntmps90
 go_wp2_with (first | ((with_reducible refine qV (N := 2) rfl ?_); refine qU ?hg (N := 2) ?hd (cs := #[.int .i64 a0_0, .int .i64 a0_1, .slice A0_2 l0_2.length c0_2]) (t := 57) ?hr ?_; (case hd => rfl); (case hg => rfl); (case hr => first | (go_simp; done) | (go_simp; rfl)); intro gb408 hg w3 hbox hb; have n0_ := Aside0.mk (qG bl hb); have n1_ := Aside0.mk (hbox); have n2_ := Aside0.mk ((gg hg)); have n3_ := Aside0.mk ((gg hg)); clear HB; have HB := n0_; have BK408 := n1_; have GW408 := n2_; have GE408 := n3_; clear n0_ n1_ n2_ n3_; clear hb hbox hg) | ((with_reducible refine qV (N := 3) rfl ?_); refine qU ?hg (N := 3) ?hd (cs := #[.int .i64 a1_0, .int .i64 a1_1, .int .i64 a1_2]) (t := 27) ?hr ?_; (case hd => rfl); (case hg => rfl); (case hr => first | (go_simp; done) | (go_simp; rfl)); intro gb409 hg w4 hbox hb; have n0_ := Aside0.mk (bb BK408 hb); have n1_ := Aside0.mk (qG bl hb); have n2_ := Aside0.mk (hbox); have n3_ := Aside0.mk ((gg hg)); have n4_ := Aside0.mk ((gg hg)); have n5_ := Aside0.mk ((nl BK408 hg)); have n6_ := Aside0.mk ((nr BK408 hg)); clear BK408; clear HB; have BK408 := n0_; have HB := n1_; have BK409 := n2_; have GW409 := n3_; have GE409 := n4_; have NB408_409 := n5_; have NB409_408 := n6_; clear n0_ n1_ n2_ n3_ n4_ n5_ n6_; clear hb hbox hg) | ((with_reducible refine qV (N := 4) rfl ?_); refine qU ?hg (N := 4) ?hd (cs := #[.slice none 0 0, .slice none 0 0]) (t := 75) ?hr ?_; (case hd => rfl); (case hg => rfl); (case hr => first | (go_simp; done) | (go_simp; rfl)); intro gb410 hg w5 hbox hb; have n0_ := Aside0.mk (bb BK408 hb); have n1_ := Aside0.mk (bb BK409 hb); have n2_ := Aside0.mk (qG bl hb); have n3_ := Aside0.mk (hbox); have n4_ := Aside0.mk ((gg hg)); have n5_ := Aside0.mk ((gg hg)); have n6_ := Aside0.mk ((nl BK408 hg)); have n7_ := Aside0.mk ((nr BK408 hg)); have n8_ := Aside0.mk ((nl BK409 hg)); have n9_ := Aside0.mk ((nr BK409 hg)); clear BK408; clear BK409; clear HB; have BK408 := n0_; have BK409 := n1_; have HB := n2_; have BK410 := n3_; have GW410 := n4_; have GE410 := n5_; have NB408_410 := n6_; have NB410_408 := n7_; have NB409_410 := n8_; have NB410_409 := n9_; clear n0_ n1_ n2_ n3_ n4_ n5_ n6_ n7_ n8_ n9_; clear hb hbox hg; have hnb6 := NB409_408.out; have hnc6 := NB408_409.out; have hnb7 := NB409_410.out; have hnc7 := NB410_409.out; have hcz8_0 := bc BK409 0; have hcz8_1 := bc BK409 1; have hcz8_2 := bc BK409 2; have hfz8_0 := qD BK409.out 0; have hfz8_1 := qD BK409.out 1; have hfz8_2 := qD BK409.out 2) | ((with_reducible refine qV (N := 15) rfl ?_); refine Kd.R_lit k27 _ 27 ?hg (N := 15) ?hd (xs := ([(⟨a1_0, a1_1, a1_2⟩ : S27)] : List (S27))) (inner := [.int .i64 a1_0, .int .i64 a1_1, .int .i64 a1_2]) (ok := fun _ => True) (okp := fun _ => True) ?hr ?hp (fun _ hk => hk) trivial (Below.refl _ _) (Nat.le_refl _) (by simp) ?_; (case hd => rfl); (case hg => rfl); (case hr => first | (go_simp; done) | (go_simp; rfl)); (case hp => exact (Reps.c3 (show Kd.M k27 _ _ _ (⟨a1_0, a1_1, a1_2⟩ : S27) [.int .i64 a1_0, .int .i64 a1_1, .int .i64 a1_2] from (qAC _ _ _ (⟨a1_0, a1_1, a1_2⟩ : S27) )) (Reps.none _ _))); intro v412 w9 ho10 hb hg_ hnew_; clear hg_ hnew_; (first | rw [← Ny411.out] at ho10 | (simp only [Int.reduceToNat] at ho10; rw [← Ny411.out] at ho10)); have n0_ := Aside0.mk (Kd.qBA (Kd.qMB ho10 (g := gb409) (o := .cells #[.int .i64 a1_0, .int .i64 a1_1, .int .i64 a1_2] 27 (0, 0)) (by (with_reducible repeat (first | refine qB ?_ _ | refine qC ?_ | refine qA ?_ _)); exact BK409.out)) (qg bl)); have n1_ := Aside0.mk (bb BK408 hb); have n2_ := Aside0.mk (bb BK409 hb); have n3_ := Aside0.mk (bb BK410 hb); have n4_ := Aside0.mk (qG bl hb); clear BK408; clear BK409; clear BK410; clear HB; have HO413 := n0_; have BK408 := n1_; have BK409 := n2_; have BK410 := n3_; have HB := n4_; clear n0_ n1_ n2_ n3_ n4_; clear hb ho10) | ((with_reducible refine qV (N := 16) rfl ?_); refine Kd.R_lit Kd.string _ 9 ?hg (N := 16) ?hd (xs := ([(⟨#[]⟩ : ByteArray)] : List ByteArray)) (inner := [.string (⟨#[]⟩ : ByteArray)]) (ok := fun _ => True) (okp := fun _ => True) ?hr ?hp (fun _ hk => hk) trivial (Below.refl _ _) (Nat.le_refl _) (by simp) ?_; (case hd => rfl); (case hg => rfl); (case hr => first | (go_simp; done) | (go_simp; rfl)); (case hp => exact (Reps.one (show Kd.M Kd.string _ _ _ (⟨#[]⟩ : ByteArray) [.string (⟨#[]⟩ : ByteArray)] from rfl) (Reps.none _ _))); intro v415 w11 ho12 hb hg_ hnew_; clear hg_ hnew_; (first | rw [← Ny414.out] at ho12 | (simp only [Int.reduceToNat] at ho12; rw [← Ny414.out] at ho12)); have n0_ := Aside0.mk (Kd.qY (by (with_reducible repeat (first | apply Kd.qF | apply Kd.qE | apply Kd.qI)); exact HO413.out) hb); have n1_ := Aside0.mk (Kd.qBA ho12 (qg bl)); have n2_ := Aside0.mk (bb BK408 hb); have n3_ := Aside0.mk (bb BK409 hb); have n4_ := Aside0.mk (bb BK410 hb); have n5_ := Aside0.mk (qG bl hb); clear HO413; clear BK408; clear BK409; clear BK410; clear HB; have HO413 := n0_; have HO416 := n1_; have BK408 := n2_; have BK409 := n3_; have BK410 := n4_; have HB := n5_; clear n0_ n1_ n2_ n3_ n4_ n5_; clear hb ho12; obtain ⟨Ao13, co13, eo13⟩ := Kd.qt HO416.out; subst eo13; obtain ⟨Ao14, co14, eo14⟩ := Kd.qt HO413.out; subst eo14) | ((with_reducible refine qV (N := 6) rfl ?_); refine qU ?hg (N := 6) ?hd (cs := #[.slice none 0 0, .slice none 0 0]) (t := 75) ?hr ?_; (case hd => rfl); (case hg => rfl); (case hr => first | (go_simp; done) | (go_simp; rfl)); intro gb417 hg w15 hbox hb; have n0_ := Aside0.mk (Kd.qY (by (with_reducible repeat (first | apply Kd.qF | apply Kd.qE | apply Kd.qI)); exact HO413.out) hb); have n1_ := Aside0.mk (Kd.qY (by (with_reducible repeat (first | apply Kd.qF | apply Kd.qE | apply Kd.qI)); exact HO416.out) hb); have n2_ := Aside0.mk (bb BK408 hb); have n3_ := Aside0.mk (bb BK409 hb); have n4_ := Aside0.mk (bb BK410 hb); have n5_ := Aside0.mk (qG bl hb); have n6_ := Aside0.mk (hbox); have n7_ := Aside0.mk ((gg hg)); have n8_ := Aside0.mk ((gg hg)); have n9_ := Aside0.mk ((nl BK408 hg)); have n10_ := Aside0.mk ((nr BK408 hg)); have n11_ := Aside0.mk ((nl BK409 hg)); have n12_ := Aside0.mk ((nr BK409 hg)); have n13_ := Aside0.mk ((nl BK410 hg)); have n14_ := Aside0.mk ((nr BK410 hg)); clear HO413; clear HO416; clear BK408; clear BK409; clear BK410; clear HB; have HO413 := n0_; have HO416 := n1_; have BK408 := n2_; have BK409 := n3_; have BK410 := n4_; have HB := n5_; have BK417 := n6_; have GW417 := n7_; have GE417 := n8_; have NB408_417 := n9_; have NB417_408 := n10_; have NB409_417 := n11_; have NB417_409 := n12_; have NB410_417 := n13_; have NB417_410 := n14_; clear n0_ n1_ n2_ n3_ n4_ n5_ n6_ n7_ n8_ n9_ n10_ n11_ n12_ n13_ n14_; clear hb hbox hg; have hnb16 := NB417_408.out; have hnc16 := NB408_417.out; have hnb17 := NB417_409.out; have hnc17 := NB409_417.out; have hnb18 := NB417_410.out; have hnc18 := NB410_417.out; have hcz19_0 := bc BK417 0; have hcz19_1 := bc BK417 1; have hfz19_0 := qD BK417.out 0; have hfz19_1 := qD BK417.out 1))
 go_loopg [7] k (fun kq v7 w' => ∃ (x7_1 : Int) (x418000_1 : List (S27)) (x418001_1 : List ByteArray) (u418000 : Value) (u418001 : Value), v7 = .int .i64 x7_1 ∧ Aside0 (qZ.l0 kq x7_1 a0_0 a0_1 l0_2 x418000_1 x418001_1 = some (r1, r2, r3)) ∧ Aside0 (kq ≤ k) ∧ Aside0 (Kd.R k27 27 w' w.heap.size (fun k_ => k_ ≠ gb409) u418000 x418000_1) ∧ Aside0 (Kd.R Kd.string 9 w' w.heap.size (fun _ => True) u418001 x418001_1) ∧ Aside0 (w'.heap[gb408]? = some (.cells #[.int .i64 a0_0, .int .i64 a0_1, (.slice A0_2 l0_2.length c0_2)] 57 (0, 0))) ∧ Aside0 (w'.heap[gb409]? = some (.cells #[.int .i64 a1_0, .int .i64 a1_1, .int .i64 a1_2] 27 (0, 0))) ∧ Aside0 (w'.heap[gb410]? = some (.cells #[(.slice none 0 0), (.slice none 0 0)] 75 (0, 0))) ∧ Aside0 (w'.heap[gb417]? = some (.cells #[u418000, u418001] 75 (0, 0))) ∧ Aside0 (Below w.heap.size w w'))
 case atStart => exact ⟨(0), (y411), (y414), (.slice Ao14 y411.length co14), (.slice Ao13 y414.length co13), (by first | rfl | (simp; done) | (simp [*]; done)), H', ⟨Nat.le_refl _⟩, ⟨by (with_reducible repeat (first | apply Kd.qF | apply Kd.qE | apply Kd.qI)); exact Kd.qh (Kd.R_far (p := ⟨gb417, 1, none⟩) (Kd.R_far (p := ⟨gb417, 0, none⟩) (Kd.qr HO413.out BK417.out (by decide)) (fun _ hk => hk.2) (.slice Ao14 y411.length co14)) (fun _ hk => hk.2) (.slice Ao13 y414.length co13)) (fun _ hk => hk.1.2)⟩, ⟨by (with_reducible repeat (first | apply Kd.qF | apply Kd.qE | apply Kd.qI)); exact Kd.qh (Kd.R_far (p := ⟨gb417, 1, none⟩) (Kd.R_far (p := ⟨gb417, 0, none⟩) (Kd.qr HO416.out BK417.out (by decide)) (fun _ hk => hk.2) (.slice Ao14 y411.length co14)) (fun _ hk => hk.2) (.slice Ao13 y414.length co13)) (fun _ hk => trivial)⟩, ⟨by (with_reducible repeat (first | refine qB ?_ _ | refine qC ?_ | refine qA ?_ _)); refine qH ?_ NB408_417.out _; (with_reducible repeat (first | refine qB ?_ _ | refine qC ?_ | refine qA ?_ _)); refine qH ?_ NB408_417.out _; (with_reducible repeat (first | refine qB ?_ _ | refine qC ?_ | refine qA ?_ _)); exact BK408.out⟩, ⟨by (with_reducible repeat (first | refine qB ?_ _ | refine qC ?_ | refine qA ?_ _)); refine qH ?_ NB409_417.out _; (with_reducible repeat (first | refine qB ?_ _ | refine qC ?_ | refine qA ?_ _)); refine qH ?_ NB409_417.out _; (with_reducible repeat (first | refine qB ?_ _ | refine qC ?_ | refine qA ?_ _)); exact BK409.out⟩, ⟨by (with_reducible repeat (first | refine qB ?_ _ | refine qC ?_ | refine qA ?_ _)); refine qH ?_ NB410_417.out _; (with_reducible repeat (first | refine qB ?_ _ | refine qC ?_ | refine qA ?_ _)); refine qH ?_ NB410_417.out _; (with_reducible repeat (first | refine qB ?_ _ | refine qC ?_ | refine qA ?_ _)); exact BK410.out⟩, ⟨by (with_reducible repeat (first | refine qB ?_ _ | refine qC ?_ | refine qA ?_ _)); refine qO (cs := #[.slice Ao14 y411.length co14, .slice none 0 0]) ?_ 1 _ rfl; (with_reducible repeat (first | refine qB ?_ _ | refine qC ?_ | refine qA ?_ _)); refine qO (cs := #[.slice none 0 0, .slice none 0 0]) ?_ 0 _ rfl; (with_reducible repeat (first | refine qB ?_ _ | refine qC ?_ | refine qA ?_ _)); exact BK417.out⟩, ⟨bl⟩⟩
 case round =>
  clear H'
  try clear c1
  try clear p2
  try clear c3
  try clear c6
  try clear c7
  try clear c9
  try clear c16
  try clear c17
  try clear c18
  try clear hcz19_0
  try clear hcz19_1
  try clear hcz8_0
  try clear hcz8_1
  try clear hcz8_2
  try clear hfz19_0
  try clear hfz19_1
  try clear hfz8_0
  try clear hfz8_1
  try clear hfz8_2
  obtain ⟨x7_1, x418000_1, x418001_1, u418000, u418001, rfl, HA, HK1, HO_418000, HO_418001, BK408, BK409, BK410, BK417, HB⟩ := hrel
  cases gk with
  | zero => exact absurd HA.out (by simp [qZ.l0])
  | succ k1 =>
   have H := HA.out
   clear HA
   simp only [qZ.l0] at H
   by_cases c20 : x7_1 < (x418000_1.length : Int)
   ·rw [if_pos c20] at H
    have c20b0 : decide (x7_1 < (x418000_1.length : Int)) = true := decide_eq_true c20
    clear c20
    have H' := Aside0.mk H
    clear H
    have hnb21 := NB417_408.out
    have hnc21 := NB408_417.out
    have hnb22 := NB417_409.out
    have hnc22 := NB409_417.out
    have hnb23 := NB417_410.out
    have hnc23 := NB410_417.out
    have hcz24_0 := bc BK417 0
    have hcz24_1 := bc BK417 1
    have hfz24_0 := qD BK417.out 0
    have hfz24_1 := qD BK417.out 1
    obtain ⟨Ao25, co25, eo25⟩ := Kd.qt HO_418000.out
    subst eo25
    go_wp2
    go_loopg [8] k1 (fun kq v8 w' => ∃ (x8_2 : Int) (x418000_2 : List (S27)) (x418001_2 : List ByteArray) (u418000 : Value) (u418001 : Value), v8 = .int .i64 x8_2 ∧ Aside0 (qZ.l1 kq x7_1 x8_2 a0_0 a0_1 l0_2 x418000_2 x418001_2 = some (r1, r2, r3)) ∧ Aside0 (kq ≤ k1) ∧ Aside0 (Kd.R k27 27 w' w.heap.size (fun k_ => k_ ≠ gb409) u418000 x418000_2) ∧ Aside0 (Kd.R Kd.string 9 w' w.heap.size (fun _ => True) u418001 x418001_2) ∧ Aside0 (w'.heap[gb408]? = some (.cells #[.int .i64 a0_0, .int .i64 a0_1, (.slice A0_2 l0_2.length c0_2)] 57 (0, 0))) ∧ Aside0 (w'.heap[gb409]? = some (.cells #[.int .i64 a1_0, .int .i64 a1_1, .int .i64 a1_2] 27 (0, 0))) ∧ Aside0 (w'.heap[gb410]? = some (.cells #[(.slice none 0 0), (.slice none 0 0)] 75 (0, 0))) ∧ Aside0 (w'.heap[gb417]? = some (.cells #[u418000, u418001] 75 (0, 0))) ∧ Aside0 (Below w.heap.size w w'))
    case atStart => exact ⟨(0), (x418000_1), (x418001_1), (.slice Ao25 x418000_1.length co25), (u418001), (by first | rfl | (simp; done) | (simp [*]; done)), H', ⟨Nat.le_refl _⟩, ⟨by (with_reducible repeat (first | apply Kd.qF | apply Kd.qE | apply Kd.qI)); exact HO_418000.out⟩, ⟨by (with_reducible repeat (first | apply Kd.qF | apply Kd.qE | apply Kd.qI)); exact HO_418001.out⟩, ⟨by (with_reducible repeat (first | refine qB ?_ _ | refine qC ?_ | refine qA ?_ _)); exact BK408.out⟩, ⟨by (with_reducible repeat (first | refine qB ?_ _ | refine qC ?_ | refine qA ?_ _)); exact BK409.out⟩, ⟨by (with_reducible repeat (first | refine qB ?_ _ | refine qC ?_ | refine qA ?_ _)); exact BK410.out⟩, ⟨by (with_reducible repeat (first | refine qB ?_ _ | refine qC ?_ | refine qA ?_ _)); exact BK417.out⟩, ⟨bl⟩⟩
    case round =>
     clear H'
     try clear c1
     try clear c2
     try clear p2
     try clear c3
     try clear c6
     try clear c7
     try clear c9
     try clear c16
     try clear c17
     try clear c18
     try clear c20
     try clear c20b0
     try clear c21
     try clear c22
     try clear c23
     try clear hcz19_0
     try clear hcz19_1
     try clear hcz24_0
     try clear hcz24_1
     try clear hcz8_0
     try clear hcz8_1
     try clear hcz8_2
     try clear hfz19_0
     try clear hfz19_1
     try clear hfz24_0
     try clear hfz24_1
     try clear hfz8_0
     try clear hfz8_1
     try clear hfz8_2
     try clear p2
     obtain ⟨x8_2, x418000_2, x418001_2, u418000, u418001, rfl, HA, HK2, HO_418000, HO_418001, BK408, BK409, BK410, BK417, HB⟩ := hrel
     cases gk with
     | zero => exact absurd HA.out (by simp [qZ.l1])
     | succ k2 =>
      have H := HA.out
      clear HA
      simp only [qZ.l1] at H
      by_cases c26 : x8_2 < 4
      ·rw [if_pos c26] at H
       have c26b0 : decide (x8_2 < 4) = true := decide_eq_true c26
       clear c26
       by_cases c27 : 0 ≤ x7_1
       ·rw [if_pos c27] at H
        have c27b0 : decide (0 ≤ x7_1) = true := decide_eq_true c27
        clear c27
        by_cases c28 : x7_1 < (x418000_2.length : Int)
        ·rw [if_pos c28] at H
         have c28b0 : decide (x7_1 < (x418000_2.length : Int)) = true := decide_eq_true c28
         clear c28
         replace H := Option.bind_eq_some_iff.mp H
         obtain ⟨⟨t419, t420, t421, t422⟩, A290, H⟩ := H
         replace H : (if t422 = true then (qZ.l2 k2 x7_1 x8_2 false x418000_2 (x418000_2.length : Int) 0 a0_0 a0_1 l0_2 x418000_2 x418001_2 t419 t420 t421) else (qZ.l1 k2 x7_1 (wrap64 (x8_2 + 1)) a0_0 a0_1 l0_2 x418000_2 x418001_2)) = some (r1, r2, r3) := H
         have A29 := Aside0.mk A290
         clear A290
         by_cases c30 : t422 = true
         ·subst c30
          have H1 : (qZ.l2 k2 x7_1 x8_2 false x418000_2 (x418000_2.length : Int) 0 a0_0 a0_1 l0_2 x418000_2 x418001_2 t419 t420 t421) = some (r1, r2, r3) := by rw [if_pos rfl] at H; exact H
          clear H
          have H := H1
          clear H1
          have H' := Aside0.mk H
          clear H
          try go_wp2
          have n0_ := Aside0.mk (Kd.qI HO_418000.out)
          have n1_ := Aside0.mk (Kd.qI HO_418001.out)
          have n2_ := Aside0.mk (qC BK408.out)
          have n3_ := Aside0.mk (qC BK409.out)
          have n4_ := Aside0.mk (qC BK410.out)
          have n5_ := Aside0.mk (qC BK417.out)
          have n6_ := Aside0.mk (qn HB.out)
          clear HO_418000
          clear HO_418001
          clear BK408
          clear BK409
          clear BK410
          clear BK417
          clear HB
          have HO_418000 := n0_
          have HO_418001 := n1_
          have BK408 := n2_
          have BK409 := n3_
          have BK410 := n4_
          have BK417 := n5_
          have HB := n6_
          clear n0_ n1_ n2_ n3_ n4_ n5_ n6_
          obtain ⟨Ao32, co32, eo32⟩ := Kd.qt HO_418000.out
          (first | subst eo32 | (injection eo32 with f1_ f2_ f3_; have f4_ := f1_.symm; have f5_ := f3_.symm; clear f1_ f2_ f3_; subst f4_; subst f5_))
          have p418 : 0 ≤ (x7_1 : Int) := of_decide_eq_true (by first | (with_reducible assumption) | assumption)
          have q418 : x7_1 < (x418000_2.length : Int) := of_decide_eq_true (by first | (with_reducible assumption) | assumption)
          obtain ⟨ad418, e418, hx418_0, hx418_1, hx418_2⟩ := qFB (Kd.qf HO_418000.out).2.2 x7_1 p418 q418
          cases e418
          replace p418 := eq_true p418
          replace q418 := eq_true q418
          refine qxA (n := 14) (S := fun w' => w'.cell? ⟨gb408, 0, none⟩ = some (.int .i64 a0_0) ∧ w'.cell? ⟨gb408, 1, none⟩ = some (.int .i64 a0_1) ∧ w'.cell? ⟨gb408, 2, none⟩ = some (.slice A0_2 l0_2.length c0_2) ∧ w'.cell? ⟨gb417, 0, none⟩ = some (.slice (some ad418) x418000_2.length co32) ∧ w'.cell? ⟨gb417, 1, none⟩ = some (u418001) ∧ w'.cell? (ad418.add ((x7_1).toNat * 3)) = some (.int .i64 ((qJ x418000_2 x7_1).f0)) ∧ w'.cell? ⟨(ad418.add ((x7_1).toNat * 3)).block, (ad418.add ((x7_1).toNat * 3)).off + 1, none⟩ = some (.int .i64 ((qJ x418000_2 x7_1).f1)) ∧ w'.cell? ⟨(ad418.add ((x7_1).toNat * 3)).block, (ad418.add ((x7_1).toNat * 3)).off + 2, none⟩ = some (.int .i64 ((qJ x418000_2 x7_1).f2))) (ds := []) #[false, false, false, false, false, false, false, false, false, false, false, false, false, false] (by kernel_rfl) rfl rfl ⟨(qK BK408.out 0).trans rfl, (qK BK408.out 1).trans rfl, (qK BK408.out 2).trans rfl, (qK BK417.out 0).trans rfl, (qK BK417.out 1).trans rfl, hx418_0, hx418_1, hx418_2⟩ (fun hHeld => ?_); refine qTA qZ.tab8 qZ.bits8 (fun HT_ HW_ => ?_)
          generalize wr.drew = w31 at HO_418000 HO_418001 BK408 BK409 BK410 BK417 HB hx418_0 hx418_1 hx418_2 hHeld ⊢
          refine pS (i := 1) (N := some 31) #[false, true, false, false, false, false, false, false, false, false, false, false, false, false] HT_ ?_
          refine pS (i := 3) (N := some 33) #[false, true, false, true, false, false, false, false, false, false, false, false, false, false] HT_ ?_
          refine pS (i := 6) (N := some 36) #[false, true, false, true, false, false, true, false, false, false, false, false, false, false] HT_ ?_
          refine tS (i := 0) (N := some 30) #[true, true, false, true, false, false, true, false, false, false, false, false, false, false] HT_ HW_ hHeld ?_
          refine tS (i := 2) (N := some 32) #[true, true, true, true, false, false, true, false, false, false, false, false, false, false] HT_ HW_ hHeld ?_
          refine pS (i := 4) (N := some 34) #[true, true, true, true, true, false, true, false, false, false, false, false, false, false] HT_ ?_
          refine tS (i := 5) (N := some 35) #[true, true, true, true, true, true, true, false, false, false, false, false, false, false] HT_ HW_ hHeld ?_
          refine join_ (σ := Nat) 2 #[true, true, true, true, true, true, true, true, true, true, true, true, false, false] (fun s_ => [(37, .tuple #[.agg #[.int .i64 t419, .int .i64 t420, .int .i64 t421], .bool true]), (9, .pointer (some ⟨s_, 0, none⟩)), (29, .tuple #[.agg #[.int .i64 t419, .int .i64 t420, .int .i64 t421], .bool true]), (38, .agg #[.int .i64 t419, .int .i64 t420, .int .i64 t421]), (39, .bool true)]) (fun s_ w' => (w'.cell? ⟨gb408, 0, none⟩ = some (.int .i64 a0_0) ∧ w'.cell? ⟨gb408, 1, none⟩ = some (.int .i64 a0_1) ∧ w'.cell? ⟨gb408, 2, none⟩ = some (.slice A0_2 l0_2.length c0_2) ∧ w'.cell? ⟨gb417, 0, none⟩ = some (.slice (some ad418) x418000_2.length co32) ∧ w'.cell? ⟨gb417, 1, none⟩ = some (u418001) ∧ w'.cell? (ad418.add ((x7_1).toNat * 3)) = some (.int .i64 ((qJ x418000_2 x7_1).f0)) ∧ w'.cell? ⟨(ad418.add ((x7_1).toNat * 3)).block, (ad418.add ((x7_1).toNat * 3)).off + 1, none⟩ = some (.int .i64 ((qJ x418000_2 x7_1).f1)) ∧ w'.cell? ⟨(ad418.add ((x7_1).toNat * 3)).block, (ad418.add ((x7_1).toNat * 3)).off + 2, none⟩ = some (.int .i64 ((qJ x418000_2 x7_1).f2))) ∧ (Kd.R k27 27 w' w.heap.size (fun k_ => k_ ≠ gb409 ∧ k_ ≠ s_) (.slice (some ad418) x418000_2.length co32) x418000_2) ∧ (Kd.R Kd.string 9 w' w.heap.size (fun _ => True) u418001 x418001_2) ∧ (w'.heap[gb408]? = some (.cells #[.int .i64 a0_0, .int .i64 a0_1, .slice A0_2 l0_2.length c0_2] 57 (0, 0))) ∧ (w'.heap[gb409]? = some (.cells #[.int .i64 a1_0, .int .i64 a1_1, .int .i64 a1_2] 27 (0, 0))) ∧ (w'.heap[gb410]? = some (.cells #[.slice none 0 0, .slice none 0 0] 75 (0, 0))) ∧ (w'.heap[gb417]? = some (.cells #[.slice (some ad418) x418000_2.length co32, u418001] 75 (0, 0))) ∧ (w'.heap[s_]? = some (.cells #[.int .i64 0, .int .i64 0, .int .i64 0] 27 (0, 0))) ∧ (w.heap.size ≤ s_) ∧ (w.heap.size ≤ s_) ∧ (gb408 ≠ s_) ∧ (s_ ≠ gb408) ∧ (gb409 ≠ s_) ∧ (s_ ≠ gb409) ∧ (gb410 ≠ s_) ∧ (s_ ≠ gb410) ∧ (gb417 ≠ s_) ∧ (s_ ≠ gb417) ∧ (Below w.heap.size w w')) ?_ ?_
          rotate_left
          ·intro hCont
           refine two_ (i := 7) (j := 11) (Ni := some 37) (Nj := some 9) #[true, true, true, true, true, true, true, true, false, false, false, false, false, false] #[true, true, true, true, true, true, true, false, false, false, false, true, false, false] rfl rfl rfl rfl (qwB HT_.out (by kernel_rfl)) (by decide) (by decide) (fun K hK => ?_) (fun K hK => ?_)
           ·skip
            refine goes_ Tryd.func60 (by kernel_rfl) rfl #[.agg #[.int .i64 a0_0, .int .i64 a0_1, .slice A0_2 l0_2.length c0_2], .agg #[.int .i64 ((qJ x418000_2 x7_1).f0), .int .i64 ((qJ x418000_2 x7_1).f1), .int .i64 ((qJ x418000_2 x7_1).f2)], .int .i64 x8_2] (by rfl) rfl rfl (by (try simp only [List.map_toArray, List.map_cons, List.map_nil]); first | done | rfl | (simp only [List.length_drop, List.length_take]; rfl)) ?_
            with_reducible refine (qlA.calls k2 a0_0 a0_1 _ _ l0_2 ((qJ x418000_2 x7_1).f0) ((qJ x418000_2 x7_1).f1) ((qJ x418000_2 x7_1).f2) x8_2 t419 t420 t421 true _ ?side1 ?side2 A29.out).mono ?_
            (case side1 => repeat (first | exact (Kd.qUA HR0_2.out HB.out) | (with_reducible refine Kd.qHA ?_ _) | (with_reducible refine Kd.qGA ?_ _) | (with_reducible refine Kd.qNA ?_)))
            (case side2 => exact HC0_2.out)
            rintro e w33 ⟨rfl, hb⟩
            have HS5_ := (hb.cell (World.block_lt_of_cell? _ _ (hHeld.2.2.2.2.2.1))).trans (hHeld.2.2.2.2.2.1)
            have HS6_ := (hb.cell (World.block_lt_of_cell? _ _ (hHeld.2.2.2.2.2.2.1))).trans (hHeld.2.2.2.2.2.2.1)
            have HS7_ := (hb.cell (World.block_lt_of_cell? _ _ (hHeld.2.2.2.2.2.2.2))).trans (hHeld.2.2.2.2.2.2.2)
            refine ⟨_, rfl, ?_⟩
            have n0_ := Aside0.mk (Kd.qY (by (with_reducible repeat (first | apply Kd.qF | apply Kd.qE | apply Kd.qI)); exact HO_418000.out) hb)
            have n1_ := Aside0.mk (Kd.qY (by (with_reducible repeat (first | apply Kd.qF | apply Kd.qE | apply Kd.qI)); exact HO_418001.out) hb)
            have n2_ := Aside0.mk (bb BK408 hb)
            have n3_ := Aside0.mk (bb BK409 hb)
            have n4_ := Aside0.mk (bb BK410 hb)
            have n5_ := Aside0.mk (bb BK417 hb)
            have n6_ := Aside0.mk (qG bl hb)
            clear HO_418000
            clear HO_418001
            clear BK408
            clear BK409
            clear BK410
            clear BK417
            clear HB
            have HO_418000 := n0_
            have HO_418001 := n1_
            have BK408 := n2_
            have BK409 := n3_
            have BK410 := n4_
            have BK417 := n5_
            have HB := n6_
            clear n0_ n1_ n2_ n3_ n4_ n5_ n6_
            (try clear hb)
            (try clear hb2)
            (try clear hk)
            (try clear hi)
            refine hK.out _ _ ⟨(qK BK408.out 0).trans rfl, (qK BK408.out 1).trans rfl, (qK BK408.out 2).trans rfl, (qK BK417.out 0).trans rfl, (qK BK417.out 1).trans rfl, HS5_, HS6_, HS7_⟩ (fun hHeld => ?_)
            clear hK K
            refine norm_ (a' := ?_) ?_ ?_
            rotate_left
            ·show Act.put _ (some 37) _ = _
             simp only [Act.put, List.setIfInBounds_toArray, List.set_cons_zero, List.set_cons_succ, i64_w, i32_w]
             rfl
            refine pS (i := 8) (N := some 29) #[true, true, true, true, true, true, true, true, true, false, false, false, false, false] HT_ ?_
            refine pS (i := 9) (N := some 38) #[true, true, true, true, true, true, true, true, true, true, false, false, false, false] HT_ ?_
            refine pS (i := 10) (N := some 39) #[true, true, true, true, true, true, true, true, true, true, true, false, false, false] HT_ ?_
            refine one_ (i := 11) (N := some 9) #[true, true, true, true, true, true, true, true, true, true, true, true, false, false] rfl rfl (qPA HT_.out (by kernel_rfl)) (by decide) (fun K hK => ?_)
            refine qAB ?hg (N := 9) ?hd (cs := #[.int .i64 0, .int .i64 0, .int .i64 0]) (t := 27) ?hr ?_; (case hd => rfl); (case hg => rfl); (case hr => first | (go_simp; done) | (go_simp; rfl))
            intro gb423 hg w34 hbox hb
            have HS5_ := (hb.cell (World.block_lt_of_cell? _ _ (hHeld.2.2.2.2.2.1))).trans (hHeld.2.2.2.2.2.1)
            have HS6_ := (hb.cell (World.block_lt_of_cell? _ _ (hHeld.2.2.2.2.2.2.1))).trans (hHeld.2.2.2.2.2.2.1)
            have HS7_ := (hb.cell (World.block_lt_of_cell? _ _ (hHeld.2.2.2.2.2.2.2))).trans (hHeld.2.2.2.2.2.2.2)
            have n0_ := Aside0.mk (Kd.qY (Kd.qYA (by (with_reducible repeat (first | apply Kd.qF | apply Kd.qE | apply Kd.qI)); exact HO_418000.out) gb423 (Nat.le_of_eq hg.symm)) hb)
            have n1_ := Aside0.mk (Kd.qY (by (with_reducible repeat (first | apply Kd.qF | apply Kd.qE | apply Kd.qI)); exact HO_418001.out) hb)
            have n2_ := Aside0.mk (bb BK408 hb)
            have n3_ := Aside0.mk (bb BK409 hb)
            have n4_ := Aside0.mk (bb BK410 hb)
            have n5_ := Aside0.mk (bb BK417 hb)
            have n6_ := Aside0.mk (qG bl hb)
            have n7_ := Aside0.mk (hbox)
            have n8_ := Aside0.mk ((gg hg))
            have n9_ := Aside0.mk ((gg hg))
            have n10_ := Aside0.mk ((nl BK408 hg))
            have n11_ := Aside0.mk ((nr BK408 hg))
            have n12_ := Aside0.mk ((nl BK409 hg))
            have n13_ := Aside0.mk ((nr BK409 hg))
            have n14_ := Aside0.mk ((nl BK410 hg))
            have n15_ := Aside0.mk ((nr BK410 hg))
            have n16_ := Aside0.mk ((nl BK417 hg))
            have n17_ := Aside0.mk ((nr BK417 hg))
            clear HO_418000
            clear HO_418001
            clear BK408
            clear BK409
            clear BK410
            clear BK417
            clear HB
            have HO_418000 := n0_
            have HO_418001 := n1_
            have BK408 := n2_
            have BK409 := n3_
            have BK410 := n4_
            have BK417 := n5_
            have HB := n6_
            have BK423 := n7_
            have GW423 := n8_
            have GE423 := n9_
            have NB408_423 := n10_
            have NB423_408 := n11_
            have NB409_423 := n12_
            have NB423_409 := n13_
            have NB410_423 := n14_
            have NB423_410 := n15_
            have NB417_423 := n16_
            have NB423_417 := n17_
            clear n0_ n1_ n2_ n3_ n4_ n5_ n6_ n7_ n8_ n9_ n10_ n11_ n12_ n13_ n14_ n15_ n16_ n17_
            clear hb hbox hg
            refine hK.out _ _ ⟨(qK BK408.out 0).trans rfl, (qK BK408.out 1).trans rfl, (qK BK408.out 2).trans rfl, (qK BK417.out 0).trans rfl, (qK BK417.out 1).trans rfl, HS5_, HS6_, HS7_⟩ (fun hHeld => ?_)
            clear hK K
            refine norm_ (a' := ?_) ?_ ?_
            rotate_left
            ·show Act.put _ (some 9) _ = _
             simp only [Act.put, List.setIfInBounds_toArray, List.set_cons_zero, List.set_cons_succ, i64_w, i32_w]
             rfl
            exact norm_ (by simp only [putAll, Act.put, List.setIfInBounds_toArray, List.set_cons_zero, List.set_cons_succ]) (hCont (gb423) _ ⟨hHeld, (by (with_reducible repeat (first | apply Kd.qF | apply Kd.qE | apply Kd.qI)); exact HO_418000.out), (by (with_reducible repeat (first | apply Kd.qF | apply Kd.qE | apply Kd.qI)); exact HO_418001.out), (by (with_reducible repeat (first | refine qB ?_ _ | refine qC ?_ | refine qA ?_ _)); exact BK408.out), (by (with_reducible repeat (first | refine qB ?_ _ | refine qC ?_ | refine qA ?_ _)); exact BK409.out), (by (with_reducible repeat (first | refine qB ?_ _ | refine qC ?_ | refine qA ?_ _)); exact BK410.out), (by (with_reducible repeat (first | refine qB ?_ _ | refine qC ?_ | refine qA ?_ _)); exact BK417.out), (by (with_reducible repeat (first | refine qB ?_ _ | refine qC ?_ | refine qA ?_ _)); exact BK423.out), GW423.out, GE423.out, NB408_423.out, NB423_408.out, NB409_423.out, NB423_409.out, NB410_423.out, NB423_410.out, NB417_423.out, NB423_417.out, bl⟩)
           ·skip
            refine qAB ?hg (N := 9) ?hd (cs := #[.int .i64 0, .int .i64 0, .int .i64 0]) (t := 27) ?hr ?_; (case hd => rfl); (case hg => rfl); (case hr => first | (go_simp; done) | (go_simp; rfl))
            intro gb423 hg w33 hbox hb
            have HS5_ := (hb.cell (World.block_lt_of_cell? _ _ (hHeld.2.2.2.2.2.1))).trans (hHeld.2.2.2.2.2.1)
            have HS6_ := (hb.cell (World.block_lt_of_cell? _ _ (hHeld.2.2.2.2.2.2.1))).trans (hHeld.2.2.2.2.2.2.1)
            have HS7_ := (hb.cell (World.block_lt_of_cell? _ _ (hHeld.2.2.2.2.2.2.2))).trans (hHeld.2.2.2.2.2.2.2)
            have n0_ := Aside0.mk (Kd.qY (Kd.qYA (by (with_reducible repeat (first | apply Kd.qF | apply Kd.qE | apply Kd.qI)); exact HO_418000.out) gb423 (Nat.le_of_eq hg.symm)) hb)
            have n1_ := Aside0.mk (Kd.qY (by (with_reducible repeat (first | apply Kd.qF | apply Kd.qE | apply Kd.qI)); exact HO_418001.out) hb)
            have n2_ := Aside0.mk (bb BK408 hb)
            have n3_ := Aside0.mk (bb BK409 hb)
            have n4_ := Aside0.mk (bb BK410 hb)
            have n5_ := Aside0.mk (bb BK417 hb)
            have n6_ := Aside0.mk (qG bl hb)
            have n7_ := Aside0.mk (hbox)
            have n8_ := Aside0.mk ((gg hg))
            have n9_ := Aside0.mk ((gg hg))
            have n10_ := Aside0.mk ((nl BK408 hg))
            have n11_ := Aside0.mk ((nr BK408 hg))
            have n12_ := Aside0.mk ((nl BK409 hg))
            have n13_ := Aside0.mk ((nr BK409 hg))
            have n14_ := Aside0.mk ((nl BK410 hg))
            have n15_ := Aside0.mk ((nr BK410 hg))
            have n16_ := Aside0.mk ((nl BK417 hg))
            have n17_ := Aside0.mk ((nr BK417 hg))
            clear HO_418000
            clear HO_418001
            clear BK408
            clear BK409
            clear BK410
            clear BK417
            clear HB
            have HO_418000 := n0_
            have HO_418001 := n1_
            have BK408 := n2_
            have BK409 := n3_
            have BK410 := n4_
            have BK417 := n5_
            have HB := n6_
            have BK423 := n7_
            have GW423 := n8_
            have GE423 := n9_
            have NB408_423 := n10_
            have NB423_408 := n11_
            have NB409_423 := n12_
            have NB423_409 := n13_
            have NB410_423 := n14_
            have NB423_410 := n15_
            have NB417_423 := n16_
            have NB423_417 := n17_
            clear n0_ n1_ n2_ n3_ n4_ n5_ n6_ n7_ n8_ n9_ n10_ n11_ n12_ n13_ n14_ n15_ n16_ n17_
            clear hb hbox hg
            refine hK.out _ _ ⟨(qK BK408.out 0).trans rfl, (qK BK408.out 1).trans rfl, (qK BK408.out 2).trans rfl, (qK BK417.out 0).trans rfl, (qK BK417.out 1).trans rfl, HS5_, HS6_, HS7_⟩ (fun hHeld => ?_)
            clear hK K
            refine norm_ (a' := ?_) ?_ ?_
            rotate_left
            ·show Act.put _ (some 9) _ = _
             simp only [Act.put, List.setIfInBounds_toArray, List.set_cons_zero, List.set_cons_succ, i64_w, i32_w]
             rfl
            refine one_ (i := 7) (N := some 37) #[true, true, true, true, true, true, true, true, false, false, false, true, false, false] rfl rfl (qPA HT_.out (by kernel_rfl)) (by decide) (fun K hK => ?_)
            refine goes_ Tryd.func60 (by kernel_rfl) rfl #[.agg #[.int .i64 a0_0, .int .i64 a0_1, .slice A0_2 l0_2.length c0_2], .agg #[.int .i64 ((qJ x418000_2 x7_1).f0), .int .i64 ((qJ x418000_2 x7_1).f1), .int .i64 ((qJ x418000_2 x7_1).f2)], .int .i64 x8_2] (by rfl) rfl rfl (by (try simp only [List.map_toArray, List.map_cons, List.map_nil]); first | done | rfl | (simp only [List.length_drop, List.length_take]; rfl)) ?_
            with_reducible refine (qlA.calls k2 a0_0 a0_1 _ _ l0_2 ((qJ x418000_2 x7_1).f0) ((qJ x418000_2 x7_1).f1) ((qJ x418000_2 x7_1).f2) x8_2 t419 t420 t421 true _ ?side1 ?side2 A29.out).mono ?_
            (case side1 => repeat (first | exact (Kd.qUA HR0_2.out HB.out) | (with_reducible refine Kd.qHA ?_ _) | (with_reducible refine Kd.qGA ?_ _) | (with_reducible refine Kd.qNA ?_)))
            (case side2 => exact HC0_2.out)
            rintro e w34 ⟨rfl, hb⟩
            have HS5_ := (hb.cell (World.block_lt_of_cell? _ _ (hHeld.2.2.2.2.2.1))).trans (hHeld.2.2.2.2.2.1)
            have HS6_ := (hb.cell (World.block_lt_of_cell? _ _ (hHeld.2.2.2.2.2.2.1))).trans (hHeld.2.2.2.2.2.2.1)
            have HS7_ := (hb.cell (World.block_lt_of_cell? _ _ (hHeld.2.2.2.2.2.2.2))).trans (hHeld.2.2.2.2.2.2.2)
            refine ⟨_, rfl, ?_⟩
            have n0_ := Aside0.mk (Kd.qY (by (with_reducible repeat (first | apply Kd.qF | apply Kd.qE | apply Kd.qI)); exact HO_418000.out) hb)
            have n1_ := Aside0.mk (Kd.qY (by (with_reducible repeat (first | apply Kd.qF | apply Kd.qE | apply Kd.qI)); exact HO_418001.out) hb)
            have n2_ := Aside0.mk (bb BK408 hb)
            have n3_ := Aside0.mk (bb BK409 hb)
            have n4_ := Aside0.mk (bb BK410 hb)
            have n5_ := Aside0.mk (bb BK417 hb)
            have n6_ := Aside0.mk (bb BK423 hb)
            have n7_ := Aside0.mk (qG bl hb)
            clear HO_418000
            clear HO_418001
            clear BK408
            clear BK409
            clear BK410
            clear BK417
            clear BK423
            clear HB
            have HO_418000 := n0_
            have HO_418001 := n1_
            have BK408 := n2_
            have BK409 := n3_
            have BK410 := n4_
            have BK417 := n5_
            have BK423 := n6_
            have HB := n7_
            clear n0_ n1_ n2_ n3_ n4_ n5_ n6_ n7_
            (try clear hb)
            (try clear hb2)
            (try clear hk)
            (try clear hi)
            refine hK.out _ _ ⟨(qK BK408.out 0).trans rfl, (qK BK408.out 1).trans rfl, (qK BK408.out 2).trans rfl, (qK BK417.out 0).trans rfl, (qK BK417.out 1).trans rfl, HS5_, HS6_, HS7_⟩ (fun hHeld => ?_)
            clear hK K
            refine norm_ (a' := ?_) ?_ ?_
            rotate_left
            ·show Act.put _ (some 37) _ = _
             simp only [Act.put, List.setIfInBounds_toArray, List.set_cons_zero, List.set_cons_succ, i64_w, i32_w]
             rfl
            refine pS (i := 8) (N := some 29) #[true, true, true, true, true, true, true, true, true, false, false, true, false, false] HT_ ?_
            refine pS (i := 9) (N := some 38) #[true, true, true, true, true, true, true, true, true, true, false, true, false, false] HT_ ?_
            refine pS (i := 10) (N := some 39) #[true, true, true, true, true, true, true, true, true, true, true, true, false, false] HT_ ?_
            exact norm_ (by simp only [putAll, Act.put, List.setIfInBounds_toArray, List.set_cons_zero, List.set_cons_succ]) (hCont (gb423) _ ⟨hHeld, (by (with_reducible repeat (first | apply Kd.qF | apply Kd.qE | apply Kd.qI)); exact HO_418000.out), (by (with_reducible repeat (first | apply Kd.qF | apply Kd.qE | apply Kd.qI)); exact HO_418001.out), (by (with_reducible repeat (first | refine qB ?_ _ | refine qC ?_ | refine qA ?_ _)); exact BK408.out), (by (with_reducible repeat (first | refine qB ?_ _ | refine qC ?_ | refine qA ?_ _)); exact BK409.out), (by (with_reducible repeat (first | refine qB ?_ _ | refine qC ?_ | refine qA ?_ _)); exact BK410.out), (by (with_reducible repeat (first | refine qB ?_ _ | refine qC ?_ | refine qA ?_ _)); exact BK417.out), (by (with_reducible repeat (first | refine qB ?_ _ | refine qC ?_ | refine qA ?_ _)); exact BK423.out), GW423.out, GE423.out, NB408_423.out, NB423_408.out, NB409_423.out, NB423_409.out, NB410_423.out, NB423_410.out, NB417_423.out, NB423_417.out, bl⟩)
          rintro gb423 w35 ⟨hS_, h0_, h1_, h2_, h3_, h4_, h5_, h6_, h7_, h8_, h9_, h10_, h11_, h12_, h13_, h14_, h15_, h16_, h17_⟩
          have n0_ : Aside0 (Kd.R k27 27 w35 w.heap.size (fun k_ => k_ ≠ gb409 ∧ k_ ≠ gb423) (.slice (some ad418) x418000_2.length co32) x418000_2) := ⟨h0_⟩
          have n1_ : Aside0 (Kd.R Kd.string 9 w35 w.heap.size (fun _ => True) u418001 x418001_2) := ⟨h1_⟩
          have n2_ : Aside0 (w35.heap[gb408]? = some (.cells #[.int .i64 a0_0, .int .i64 a0_1, .slice A0_2 l0_2.length c0_2] 57 (0, 0))) := ⟨h2_⟩
          have n3_ : Aside0 (w35.heap[gb409]? = some (.cells #[.int .i64 a1_0, .int .i64 a1_1, .int .i64 a1_2] 27 (0, 0))) := ⟨h3_⟩
          have n4_ : Aside0 (w35.heap[gb410]? = some (.cells #[.slice none 0 0, .slice none 0 0] 75 (0, 0))) := ⟨h4_⟩
          have n5_ : Aside0 (w35.heap[gb417]? = some (.cells #[.slice (some ad418) x418000_2.length co32, u418001] 75 (0, 0))) := ⟨h5_⟩
          have n6_ : Aside0 (w35.heap[gb423]? = some (.cells #[.int .i64 0, .int .i64 0, .int .i64 0] 27 (0, 0))) := ⟨h6_⟩
          have n7_ : Aside0 (w.heap.size ≤ gb423) := ⟨h7_⟩
          have n8_ : Aside0 (w.heap.size ≤ gb423) := ⟨h8_⟩
          have n9_ : Aside0 (gb408 ≠ gb423) := ⟨h9_⟩
          have n10_ : Aside0 (gb423 ≠ gb408) := ⟨h10_⟩
          have n11_ : Aside0 (gb409 ≠ gb423) := ⟨h11_⟩
          have n12_ : Aside0 (gb423 ≠ gb409) := ⟨h12_⟩
          have n13_ : Aside0 (gb410 ≠ gb423) := ⟨h13_⟩
          have n14_ : Aside0 (gb423 ≠ gb410) := ⟨h14_⟩
          have n15_ : Aside0 (gb417 ≠ gb423) := ⟨h15_⟩
          have n16_ : Aside0 (gb423 ≠ gb417) := ⟨h16_⟩
          have n17_ : Aside0 (Below w.heap.size w w35) := ⟨h17_⟩
          clear HO_418000
          clear HO_418001
          clear BK408
          clear BK409
          clear BK410
          clear BK417
          clear HB
          clear h0_ h1_ h2_ h3_ h4_ h5_ h6_ h7_ h8_ h9_ h10_ h11_ h12_ h13_ h14_ h15_ h16_ h17_
          have HO_418000 := n0_
          have HO_418001 := n1_
          have BK408 := n2_
          have BK409 := n3_
          have BK410 := n4_
          have BK417 := n5_
          have BK423 := n6_
          have GW423 := n7_
          have GE423 := n8_
          have NB408_423 := n9_
          have NB423_408 := n10_
          have NB409_423 := n11_
          have NB423_409 := n12_
          have NB410_423 := n13_
          have NB423_410 := n14_
          have NB417_423 := n15_
          have NB423_417 := n16_
          have HB := n17_
          clear n0_ n1_ n2_ n3_ n4_ n5_ n6_ n7_ n8_ n9_ n10_ n11_ n12_ n13_ n14_ n15_ n16_ n17_
          have hHeld : w35.cell? ⟨gb408, 0, none⟩ = some (.int .i64 a0_0) ∧ w35.cell? ⟨gb408, 1, none⟩ = some (.int .i64 a0_1) ∧ w35.cell? ⟨gb408, 2, none⟩ = some (.slice A0_2 l0_2.length c0_2) ∧ w35.cell? ⟨gb417, 0, none⟩ = some (.slice (some ad418) x418000_2.length co32) ∧ w35.cell? ⟨gb417, 1, none⟩ = some (u418001) ∧ w35.cell? (ad418.add ((x7_1).toNat * 3)) = some (.int .i64 ((qJ x418000_2 x7_1).f0)) ∧ w35.cell? ⟨(ad418.add ((x7_1).toNat * 3)).block, (ad418.add ((x7_1).toNat * 3)).off + 1, none⟩ = some (.int .i64 ((qJ x418000_2 x7_1).f1)) ∧ w35.cell? ⟨(ad418.add ((x7_1).toNat * 3)).block, (ad418.add ((x7_1).toNat * 3)).off + 2, none⟩ = some (.int .i64 ((qJ x418000_2 x7_1).f2)) := hS_
          refine norm_ (a' := ?_) ?_ ?_
          rotate_left
          ·simp only [putAll, Act.put, List.setIfInBounds_toArray, List.set_cons_zero, List.set_cons_succ]
           rfl
          refine one_ (i := 12) (N := none) #[true, true, true, true, true, true, true, true, true, true, true, true, true, false] rfl rfl (qPA HT_.out (by kernel_rfl)) (by decide) (fun K hK => ?_)
          have hs36 : w35.cell? ⟨gb423, 0, none⟩ = some (.int .i64 0) := (qK BK423.out 0).trans rfl
          have hfs36 := qD BK423.out 0
          have hns36_0 := NB408_423.out
          have hns36_1 := NB409_423.out
          have hns36_2 := NB410_423.out
          have hns36_3 := NB417_423.out
          have hms36_0 := NB423_408.out
          have hms36_1 := NB423_409.out
          have hms36_2 := NB423_410.out
          have hms36_3 := NB423_417.out
          have hs37 : w35.cell? ⟨gb423, 1, none⟩ = some (.int .i64 0) := (qK BK423.out 1).trans rfl
          have hfs37 := qD BK423.out 1
          have hns37_0 := NB408_423.out
          have hns37_1 := NB409_423.out
          have hns37_2 := NB410_423.out
          have hns37_3 := NB417_423.out
          have hms37_0 := NB423_408.out
          have hms37_1 := NB423_409.out
          have hms37_2 := NB423_410.out
          have hms37_3 := NB423_417.out
          have hs38 : w35.cell? ⟨gb423, 2, none⟩ = some (.int .i64 0) := (qK BK423.out 2).trans rfl
          have hfs38 := qD BK423.out 2
          have hns38_0 := NB408_423.out
          have hns38_1 := NB409_423.out
          have hns38_2 := NB410_423.out
          have hns38_3 := NB417_423.out
          have hms38_0 := NB423_408.out
          have hms38_1 := NB423_409.out
          have hms38_2 := NB423_410.out
          have hms38_3 := NB423_417.out
          refine skip_ (w1 := ?_) (by rfl) rfl ?_ ?_
          rotate_left
          ·go_simp
           rfl
          refine hK.out _ _ ⟨((qQ (p := ⟨gb423, _, none⟩) NB408_423.out _).trans (((qQ (p := ⟨gb423, _, none⟩) NB408_423.out _).trans (((qQ (p := ⟨gb423, _, none⟩) NB408_423.out _).trans (hHeld.1)))))), ((qQ (p := ⟨gb423, _, none⟩) NB408_423.out _).trans (((qQ (p := ⟨gb423, _, none⟩) NB408_423.out _).trans (((qQ (p := ⟨gb423, _, none⟩) NB408_423.out _).trans (hHeld.2.1)))))), ((qQ (p := ⟨gb423, _, none⟩) NB408_423.out _).trans (((qQ (p := ⟨gb423, _, none⟩) NB408_423.out _).trans (((qQ (p := ⟨gb423, _, none⟩) NB408_423.out _).trans (hHeld.2.2.1)))))), ((qQ (p := ⟨gb423, _, none⟩) NB417_423.out _).trans (((qQ (p := ⟨gb423, _, none⟩) NB417_423.out _).trans (((qQ (p := ⟨gb423, _, none⟩) NB417_423.out _).trans (hHeld.2.2.2.1)))))), ((qQ (p := ⟨gb423, _, none⟩) NB417_423.out _).trans (((qQ (p := ⟨gb423, _, none⟩) NB417_423.out _).trans (((qQ (p := ⟨gb423, _, none⟩) NB417_423.out _).trans (hHeld.2.2.2.2.1)))))), ((qQ (p := ⟨gb423, _, none⟩) (by first | exact Kd.qN (Kd.qT HO_418000.out (fun _ hk => hk.2)) | (rw [qP]; exact Kd.qN (Kd.qT HO_418000.out (fun _ hk => hk.2))) | (show (Addr.add _ _).block ≠ _; rw [qP]; exact Kd.qN (Kd.qT HO_418000.out (fun _ hk => hk.2))) | (dsimp only; exact Kd.qN (Kd.qT HO_418000.out (fun _ hk => hk.2)))) _).trans (((qQ (p := ⟨gb423, _, none⟩) (by first | exact Kd.qN (Kd.qT HO_418000.out (fun _ hk => hk.2)) | (rw [qP]; exact Kd.qN (Kd.qT HO_418000.out (fun _ hk => hk.2))) | (show (Addr.add _ _).block ≠ _; rw [qP]; exact Kd.qN (Kd.qT HO_418000.out (fun _ hk => hk.2))) | (dsimp only; exact Kd.qN (Kd.qT HO_418000.out (fun _ hk => hk.2)))) _).trans (((qQ (p := ⟨gb423, _, none⟩) (by first | exact Kd.qN (Kd.qT HO_418000.out (fun _ hk => hk.2)) | (rw [qP]; exact Kd.qN (Kd.qT HO_418000.out (fun _ hk => hk.2))) | (show (Addr.add _ _).block ≠ _; rw [qP]; exact Kd.qN (Kd.qT HO_418000.out (fun _ hk => hk.2))) | (dsimp only; exact Kd.qN (Kd.qT HO_418000.out (fun _ hk => hk.2)))) _).trans (hHeld.2.2.2.2.2.1)))))), ((qQ (p := ⟨gb423, _, none⟩) (by first | exact Kd.qN (Kd.qT HO_418000.out (fun _ hk => hk.2)) | (rw [qP]; exact Kd.qN (Kd.qT HO_418000.out (fun _ hk => hk.2))) | (show (Addr.add _ _).block ≠ _; rw [qP]; exact Kd.qN (Kd.qT HO_418000.out (fun _ hk => hk.2))) | (dsimp only; exact Kd.qN (Kd.qT HO_418000.out (fun _ hk => hk.2)))) _).trans (((qQ (p := ⟨gb423, _, none⟩) (by first | exact Kd.qN (Kd.qT HO_418000.out (fun _ hk => hk.2)) | (rw [qP]; exact Kd.qN (Kd.qT HO_418000.out (fun _ hk => hk.2))) | (show (Addr.add _ _).block ≠ _; rw [qP]; exact Kd.qN (Kd.qT HO_418000.out (fun _ hk => hk.2))) | (dsimp only; exact Kd.qN (Kd.qT HO_418000.out (fun _ hk => hk.2)))) _).trans (((qQ (p := ⟨gb423, _, none⟩) (by first | exact Kd.qN (Kd.qT HO_418000.out (fun _ hk => hk.2)) | (rw [qP]; exact Kd.qN (Kd.qT HO_418000.out (fun _ hk => hk.2))) | (show (Addr.add _ _).block ≠ _; rw [qP]; exact Kd.qN (Kd.qT HO_418000.out (fun _ hk => hk.2))) | (dsimp only; exact Kd.qN (Kd.qT HO_418000.out (fun _ hk => hk.2)))) _).trans (hHeld.2.2.2.2.2.2.1)))))), ((qQ (p := ⟨gb423, _, none⟩) (by first | exact Kd.qN (Kd.qT HO_418000.out (fun _ hk => hk.2)) | (rw [qP]; exact Kd.qN (Kd.qT HO_418000.out (fun _ hk => hk.2))) | (show (Addr.add _ _).block ≠ _; rw [qP]; exact Kd.qN (Kd.qT HO_418000.out (fun _ hk => hk.2))) | (dsimp only; exact Kd.qN (Kd.qT HO_418000.out (fun _ hk => hk.2)))) _).trans (((qQ (p := ⟨gb423, _, none⟩) (by first | exact Kd.qN (Kd.qT HO_418000.out (fun _ hk => hk.2)) | (rw [qP]; exact Kd.qN (Kd.qT HO_418000.out (fun _ hk => hk.2))) | (show (Addr.add _ _).block ≠ _; rw [qP]; exact Kd.qN (Kd.qT HO_418000.out (fun _ hk => hk.2))) | (dsimp only; exact Kd.qN (Kd.qT HO_418000.out (fun _ hk => hk.2)))) _).trans (((qQ (p := ⟨gb423, _, none⟩) (by first | exact Kd.qN (Kd.qT HO_418000.out (fun _ hk => hk.2)) | (rw [qP]; exact Kd.qN (Kd.qT HO_418000.out (fun _ hk => hk.2))) | (show (Addr.add _ _).block ≠ _; rw [qP]; exact Kd.qN (Kd.qT HO_418000.out (fun _ hk => hk.2))) | (dsimp only; exact Kd.qN (Kd.qT HO_418000.out (fun _ hk => hk.2)))) _).trans (hHeld.2.2.2.2.2.2.2))))))⟩ (fun hHeld => ?_)
          clear hK K
          refine pS (i := 13) (N := some 10) #[true, true, true, true, true, true, true, true, true, true, true, true, true, true] HT_ ?_
          refine done_ (qpA HT_.out (by kernel_rfl)) ?_
          have hnb39 := NB417_408.out
          have hnc39 := NB408_417.out
          have hnb40 := NB417_409.out
          have hnc40 := NB409_417.out
          have hnb41 := NB417_410.out
          have hnc41 := NB410_417.out
          have hnb42 := NB417_423.out
          have hnc42 := NB423_417.out
          have hcz43_0 := bc BK417 0
          have hcz43_1 := bc BK417 1
          have hfz43_0 := qD BK417.out 0
          have hfz43_1 := qD BK417.out 1
          try go_wp2
          go_loopg [11, 45] k2 (fun kq v11 v45 w' => ∃ (x11_3 : Bool) (x45_3 : Int), v11 = .bool x11_3 ∧ v45 = .int .i64 x45_3 ∧ Aside0 (qZ.l2 kq x7_1 x8_2 x11_3 x418000_2 (x418000_2.length : Int) x45_3 a0_0 a0_1 l0_2 x418000_2 x418001_2 t419 t420 t421 = some (r1, r2, r3)) ∧ Aside0 (kq ≤ k2) ∧ Aside0 (Kd.R k27 27 w' w.heap.size (fun k_ => k_ ≠ gb409 ∧ k_ ≠ gb423) (.slice (some ad418) x418000_2.length co32) x418000_2) ∧ Aside0 (Kd.R k27 27 w' w.heap.size (fun k_ => k_ ≠ gb409 ∧ k_ ≠ gb423) (.slice (some ad418) x418000_2.length co32) x418000_2) ∧ Aside0 (Kd.R Kd.string 9 w' w.heap.size (fun _ => True) u418001 x418001_2) ∧ Aside0 (w'.heap[gb408]? = some (.cells #[.int .i64 a0_0, .int .i64 a0_1, (.slice A0_2 l0_2.length c0_2)] 57 (0, 0))) ∧ Aside0 (w'.heap[gb409]? = some (.cells #[.int .i64 a1_0, .int .i64 a1_1, .int .i64 a1_2] 27 (0, 0))) ∧ Aside0 (w'.heap[gb410]? = some (.cells #[(.slice none 0 0), (.slice none 0 0)] 75 (0, 0))) ∧ Aside0 (w'.heap[gb417]? = some (.cells #[(.slice (some ad418) x418000_2.length co32), u418001] 75 (0, 0))) ∧ Aside0 (w'.heap[gb423]? = some (.cells #[.int .i64 t419, .int .i64 t420, .int .i64 t421] 27 (0, 0))) ∧ Aside0 (Below w.heap.size w w'))
          case atStart => exact ⟨(false), (0), (by first | rfl | (simp; done) | (simp [*]; done)), (by first | rfl | (simp; done) | (simp [*]; done)), H', ⟨Nat.le_refl _⟩, ⟨by (with_reducible repeat (first | apply Kd.qF | apply Kd.qE | apply Kd.qI)); exact Kd.qh (Kd.R_far (p := ⟨gb423, 2, none⟩) (Kd.R_far (p := ⟨gb423, 1, none⟩) (Kd.R_far (p := ⟨gb423, 0, none⟩) (Kd.qh HO_418000.out (fun k_ hk => (⟨hk, hk.2⟩ : _ ∧ k_ ≠ gb423))) (fun _ hk => hk.2) (.int .i64 t419)) (fun _ hk => hk.2) (.int .i64 t420)) (fun _ hk => hk.2) (.int .i64 t421)) (fun _ hk => ⟨hk.1.1, hk.1.2⟩)⟩, ⟨by (with_reducible repeat (first | apply Kd.qF | apply Kd.qE | apply Kd.qI)); exact Kd.qh (Kd.R_far (p := ⟨gb423, 2, none⟩) (Kd.R_far (p := ⟨gb423, 1, none⟩) (Kd.R_far (p := ⟨gb423, 0, none⟩) (Kd.qh HO_418000.out (fun k_ hk => (⟨hk, hk.2⟩ : _ ∧ k_ ≠ gb423))) (fun _ hk => hk.2) (.int .i64 t419)) (fun _ hk => hk.2) (.int .i64 t420)) (fun _ hk => hk.2) (.int .i64 t421)) (fun _ hk => ⟨hk.1.1, hk.1.2⟩)⟩, ⟨by (with_reducible repeat (first | apply Kd.qF | apply Kd.qE | apply Kd.qI)); exact Kd.qh (Kd.R_far (p := ⟨gb423, 2, none⟩) (Kd.R_far (p := ⟨gb423, 1, none⟩) (Kd.R_far (p := ⟨gb423, 0, none⟩) (Kd.qr HO_418001.out BK423.out (by decide)) (fun _ hk => hk.2) (.int .i64 t419)) (fun _ hk => hk.2) (.int .i64 t420)) (fun _ hk => hk.2) (.int .i64 t421)) (fun _ hk => trivial)⟩, ⟨by (with_reducible repeat (first | refine qB ?_ _ | refine qC ?_ | refine qA ?_ _)); refine qH ?_ NB408_423.out _; (with_reducible repeat (first | refine qB ?_ _ | refine qC ?_ | refine qA ?_ _)); refine qH ?_ NB408_423.out _; (with_reducible repeat (first | refine qB ?_ _ | refine qC ?_ | refine qA ?_ _)); refine qH ?_ NB408_423.out _; (with_reducible repeat (first | refine qB ?_ _ | refine qC ?_ | refine qA ?_ _)); exact BK408.out⟩, ⟨by (with_reducible repeat (first | refine qB ?_ _ | refine qC ?_ | refine qA ?_ _)); refine qH ?_ NB409_423.out _; (with_reducible repeat (first | refine qB ?_ _ | refine qC ?_ | refine qA ?_ _)); refine qH ?_ NB409_423.out _; (with_reducible repeat (first | refine qB ?_ _ | refine qC ?_ | refine qA ?_ _)); refine qH ?_ NB409_423.out _; (with_reducible repeat (first | refine qB ?_ _ | refine qC ?_ | refine qA ?_ _)); exact BK409.out⟩, ⟨by (with_reducible repeat (first | refine qB ?_ _ | refine qC ?_ | refine qA ?_ _)); refine qH ?_ NB410_423.out _; (with_reducible repeat (first | refine qB ?_ _ | refine qC ?_ | refine qA ?_ _)); refine qH ?_ NB410_423.out _; (with_reducible repeat (first | refine qB ?_ _ | refine qC ?_ | refine qA ?_ _)); refine qH ?_ NB410_423.out _; (with_reducible repeat (first | refine qB ?_ _ | refine qC ?_ | refine qA ?_ _)); exact BK410.out⟩, ⟨by (with_reducible repeat (first | refine qB ?_ _ | refine qC ?_ | refine qA ?_ _)); refine qH ?_ NB417_423.out _; (with_reducible repeat (first | refine qB ?_ _ | refine qC ?_ | refine qA ?_ _)); refine qH ?_ NB417_423.out _; (with_reducible repeat (first | refine qB ?_ _ | refine qC ?_ | refine qA ?_ _)); refine qH ?_ NB417_423.out _; (with_reducible repeat (first | refine qB ?_ _ | refine qC ?_ | refine qA ?_ _)); exact BK417.out⟩, ⟨by (with_reducible repeat (first | refine qB ?_ _ | refine qC ?_ | refine qA ?_ _)); refine qO (cs := #[.int .i64 t419, .int .i64 t420, .int .i64 0]) ?_ 2 _ rfl; (with_reducible repeat (first | refine qB ?_ _ | refine qC ?_ | refine qA ?_ _)); refine qO (cs := #[.int .i64 t419, .int .i64 0, .int .i64 0]) ?_ 1 _ rfl; (with_reducible repeat (first | refine qB ?_ _ | refine qC ?_ | refine qA ?_ _)); refine qO (cs := #[.int .i64 0, .int .i64 0, .int .i64 0]) ?_ 0 _ rfl; (with_reducible repeat (first | refine qB ?_ _ | refine qC ?_ | refine qA ?_ _)); exact BK423.out⟩, ⟨bl⟩⟩
          case round =>
           clear H'
           try clear c1
           try clear c2
           try clear p2
           try clear c3
           try clear c4
           try clear p4
           try clear q4
           try clear hx4
           try clear c6
           try clear p6
           try clear c7
           try clear c9
           try clear c16
           try clear c17
           try clear c18
           try clear c20
           try clear c20b0
           try clear c21
           try clear c22
           try clear c23
           try clear c26
           try clear c26b0
           try clear c27
           try clear c27b0
           try clear c28
           try clear c28b0
           try clear c30
           try clear c39
           try clear c40
           try clear c41
           try clear p41
           try clear q41
           try clear hx41
           try clear c42
           try clear hcz19_0
           try clear hcz19_1
           try clear hcz24_0
           try clear hcz24_1
           try clear hcz43_0
           try clear hcz43_1
           try clear hcz8_0
           try clear hcz8_1
           try clear hcz8_2
           try clear hfz19_0
           try clear hfz19_1
           try clear hfz24_0
           try clear hfz24_1
           try clear hfz43_0
           try clear hfz43_1
           try clear hfz8_0
           try clear hfz8_1
           try clear hfz8_2
           try clear hx418_0
           try clear hx418_1
           try clear hx418_2
           try clear p2
           try clear p418
           try clear q418
           obtain ⟨x11_3, x45_3, rfl, rfl, HA, HK3, HO_32, HO_418000, HO_418001, BK408, BK409, BK410, BK417, BK423, HB⟩ := hrel
           cases gk with
           | zero => exact absurd HA.out (by simp [qZ.l2])
           | succ k3 =>
            have H := HA.out
            clear HA
            simp only [qZ.l2] at H
            by_cases c44 : x45_3 < (x418000_2.length : Int)
            ·rw [if_pos c44] at H
             have c44b0 : decide (x45_3 < (x418000_2.length : Int)) = true := decide_eq_true c44
             clear c44
             by_cases c45 : 0 ≤ x45_3
             ·rw [if_pos c45] at H
              have c45b0 : decide (0 ≤ x45_3) = true := decide_eq_true c45
              clear c45
              by_cases c46 : x45_3 < (x418000_2.length : Int)
              ·rw [if_pos c46] at H
               have c46b0 : decide (x45_3 < (x418000_2.length : Int)) = true := decide_eq_true c46
               clear c46
               by_cases c47 : x11_3 = true
               ·subst c47
                have H1 : (qZ.l2 k3 x7_1 x8_2 true x418000_2 (x418000_2.length : Int) (wrap64 (x45_3 + 1)) a0_0 a0_1 l0_2 x418000_2 x418001_2 t419 t420 t421) = some (r1, r2, r3) := by rw [if_pos rfl] at H; exact H
                clear H
                have H := H1
                clear H1
                have H' := Aside0.mk H
                clear H
                have p424 : 0 ≤ (x45_3 : Int) := of_decide_eq_true (by first | (with_reducible assumption) | assumption)
                have q424 : x45_3 < (x418000_2.length : Int) := of_decide_eq_true (by first | (with_reducible assumption) | assumption)
                obtain ⟨ad424, e424, hx424_0, hx424_1, hx424_2⟩ := qFB (Kd.qf HO_32.out).2.2 x45_3 p424 q424
                obtain rfl : ad418 = ad424 := (by injection e424)
                replace p424 := eq_true p424
                replace q424 := eq_true q424
                go_wp2_with (first | ((with_reducible refine qV (N := 13) rfl ?_); refine qU ?hg (N := 13) ?hd (cs := #[.int .i64 0, .int .i64 0, .int .i64 0]) (t := 27) ?hr ?_; (case hd => rfl); (case hg => rfl); (case hr => first | (go_simp; done) | (go_simp; rfl)); intro gb425 hg w48 hbox hb; have n0_ := Aside0.mk (Kd.qY (Kd.qYA (by (with_reducible repeat (first | apply Kd.qF | apply Kd.qE | apply Kd.qI)); exact HO_32.out) gb425 (Nat.le_of_eq hg.symm)) hb); have n1_ := Aside0.mk (Kd.qY (Kd.qYA (by (with_reducible repeat (first | apply Kd.qF | apply Kd.qE | apply Kd.qI)); exact HO_418000.out) gb425 (Nat.le_of_eq hg.symm)) hb); have n2_ := Aside0.mk (Kd.qY (by (with_reducible repeat (first | apply Kd.qF | apply Kd.qE | apply Kd.qI)); exact HO_418001.out) hb); have n3_ := Aside0.mk (bb BK408 hb); have n4_ := Aside0.mk (bb BK409 hb); have n5_ := Aside0.mk (bb BK410 hb); have n6_ := Aside0.mk (bb BK417 hb); have n7_ := Aside0.mk (bb BK423 hb); have n8_ := Aside0.mk (qG bl hb); have n9_ := Aside0.mk (hbox); have n10_ := Aside0.mk ((gg hg)); have n11_ := Aside0.mk ((gg hg)); have n12_ := Aside0.mk ((nl BK408 hg)); have n13_ := Aside0.mk ((nr BK408 hg)); have n14_ := Aside0.mk ((nl BK409 hg)); have n15_ := Aside0.mk ((nr BK409 hg)); have n16_ := Aside0.mk ((nl BK410 hg)); have n17_ := Aside0.mk ((nr BK410 hg)); have n18_ := Aside0.mk ((nl BK417 hg)); have n19_ := Aside0.mk ((nr BK417 hg)); have n20_ := Aside0.mk ((nl BK423 hg)); have n21_ := Aside0.mk ((nr BK423 hg)); clear HO_32; clear HO_418000; clear HO_418001; clear BK408; clear BK409; clear BK410; clear BK417; clear BK423; clear HB; have HO_32 := n0_; have HO_418000 := n1_; have HO_418001 := n2_; have BK408 := n3_; have BK409 := n4_; have BK410 := n5_; have BK417 := n6_; have BK423 := n7_; have HB := n8_; have BK425 := n9_; have GW425 := n10_; have GE425 := n11_; have NB408_425 := n12_; have NB425_408 := n13_; have NB409_425 := n14_; have NB425_409 := n15_; have NB410_425 := n16_; have NB425_410 := n17_; have NB417_425 := n18_; have NB425_417 := n19_; have NB423_425 := n20_; have NB425_423 := n21_; clear n0_ n1_ n2_ n3_ n4_ n5_ n6_ n7_ n8_ n9_ n10_ n11_ n12_ n13_ n14_ n15_ n16_ n17_ n18_ n19_ n20_ n21_; clear hb hbox hg; have hnb49 := NB425_408.out; have hnc49 := NB408_425.out; have hnb50 := NB425_409.out; have hnc50 := NB409_425.out; have hnb51 := NB425_410.out; have hnc51 := NB410_425.out; have hnb52 := NB425_417.out; have hnc52 := NB417_425.out; have hnb53 := NB425_423.out; have hnc53 := NB423_425.out; have hcz54_0 := bc BK425 0; have hcz54_1 := bc BK425 1; have hcz54_2 := bc BK425 2; have hfz54_0 := qD BK425.out 0; have hfz54_1 := qD BK425.out 1; have hfz54_2 := qD BK425.out 2))
                go_roundg k3
                case measure => have := HK1.out; have := HK2.out; have := HK3.out; omega
                case rel => exact ⟨(true), (wrap64 (x45_3 + 1)), (by first | rfl | (simp; done) | (simp [*]; done)), (by first | rfl | (simp; done) | (simp [*]; done)), H', ⟨by have := HK1.out; have := HK2.out; have := HK3.out; omega⟩, ⟨by (with_reducible repeat (first | apply Kd.qF | apply Kd.qE | apply Kd.qI)); exact Kd.qh (Kd.R_far (p := ⟨gb425, 2, none⟩) (Kd.R_far (p := ⟨gb425, 1, none⟩) (Kd.R_far (p := ⟨gb425, 0, none⟩) (Kd.qh HO_32.out (fun k_ hk => (⟨hk, hk.2⟩ : _ ∧ k_ ≠ gb425))) (fun _ hk => hk.2) (.int .i64 ((qJ x418000_2 x45_3).f0))) (fun _ hk => hk.2) (.int .i64 ((qJ x418000_2 x45_3).f1))) (fun _ hk => hk.2) (.int .i64 ((qJ x418000_2 x45_3).f2))) (fun _ hk => ⟨hk.1.1.1, hk.1.1.2⟩)⟩, ⟨by (with_reducible repeat (first | apply Kd.qF | apply Kd.qE | apply Kd.qI)); exact Kd.qh (Kd.R_far (p := ⟨gb425, 2, none⟩) (Kd.R_far (p := ⟨gb425, 1, none⟩) (Kd.R_far (p := ⟨gb425, 0, none⟩) (Kd.qh HO_418000.out (fun k_ hk => (⟨hk, hk.2⟩ : _ ∧ k_ ≠ gb425))) (fun _ hk => hk.2) (.int .i64 ((qJ x418000_2 x45_3).f0))) (fun _ hk => hk.2) (.int .i64 ((qJ x418000_2 x45_3).f1))) (fun _ hk => hk.2) (.int .i64 ((qJ x418000_2 x45_3).f2))) (fun _ hk => ⟨hk.1.1.1, hk.1.1.2⟩)⟩, ⟨by (with_reducible repeat (first | apply Kd.qF | apply Kd.qE | apply Kd.qI)); exact Kd.qh (Kd.R_far (p := ⟨gb425, 2, none⟩) (Kd.R_far (p := ⟨gb425, 1, none⟩) (Kd.R_far (p := ⟨gb425, 0, none⟩) (Kd.qr HO_418001.out BK425.out (by decide)) (fun _ hk => hk.2) (.int .i64 ((qJ x418000_2 x45_3).f0))) (fun _ hk => hk.2) (.int .i64 ((qJ x418000_2 x45_3).f1))) (fun _ hk => hk.2) (.int .i64 ((qJ x418000_2 x45_3).f2))) (fun _ hk => trivial)⟩, ⟨by (with_reducible repeat (first | refine qB ?_ _ | refine qC ?_ | refine qA ?_ _)); refine qH ?_ NB408_425.out _; (with_reducible repeat (first | refine qB ?_ _ | refine qC ?_ | refine qA ?_ _)); refine qH ?_ NB408_425.out _; (with_reducible repeat (first | refine qB ?_ _ | refine qC ?_ | refine qA ?_ _)); refine qH ?_ NB408_425.out _; (with_reducible repeat (first | refine qB ?_ _ | refine qC ?_ | refine qA ?_ _)); exact BK408.out⟩, ⟨by (with_reducible repeat (first | refine qB ?_ _ | refine qC ?_ | refine qA ?_ _)); refine qH ?_ NB409_425.out _; (with_reducible repeat (first | refine qB ?_ _ | refine qC ?_ | refine qA ?_ _)); refine qH ?_ NB409_425.out _; (with_reducible repeat (first | refine qB ?_ _ | refine qC ?_ | refine qA ?_ _)); refine qH ?_ NB409_425.out _; (with_reducible repeat (first | refine qB ?_ _ | refine qC ?_ | refine qA ?_ _)); exact BK409.out⟩, ⟨by (with_reducible repeat (first | refine qB ?_ _ | refine qC ?_ | refine qA ?_ _)); refine qH ?_ NB410_425.out _; (with_reducible repeat (first | refine qB ?_ _ | refine qC ?_ | refine qA ?_ _)); refine qH ?_ NB410_425.out _; (with_reducible repeat (first | refine qB ?_ _ | refine qC ?_ | refine qA ?_ _)); refine qH ?_ NB410_425.out _; (with_reducible repeat (first | refine qB ?_ _ | refine qC ?_ | refine qA ?_ _)); exact BK410.out⟩, ⟨by (with_reducible repeat (first | refine qB ?_ _ | refine qC ?_ | refine qA ?_ _)); refine qH ?_ NB417_425.out _; (with_reducible repeat (first | refine qB ?_ _ | refine qC ?_ | refine qA ?_ _)); refine qH ?_ NB417_425.out _; (with_reducible repeat (first | refine qB ?_ _ | refine qC ?_ | refine qA ?_ _)); refine qH ?_ NB417_425.out _; (with_reducible repeat (first | refine qB ?_ _ | refine qC ?_ | refine qA ?_ _)); exact BK417.out⟩, ⟨by (with_reducible repeat (first | refine qB ?_ _ | refine qC ?_ | refine qA ?_ _)); refine qH ?_ NB423_425.out _; (with_reducible repeat (first | refine qB ?_ _ | refine qC ?_ | refine qA ?_ _)); refine qH ?_ NB423_425.out _; (with_reducible repeat (first | refine qB ?_ _ | refine qC ?_ | refine qA ?_ _)); refine qH ?_ NB423_425.out _; (with_reducible repeat (first | refine qB ?_ _ | refine qC ?_ | refine qA ?_ _)); exact BK423.out⟩, ⟨bl⟩⟩
               ·replace c47 := Bool.eq_false_iff.mpr c47
                subst c47
                have H1 : (qZ.l2 k3 x7_1 x8_2 (((qJ x418000_2 x45_3).f0) == t419 && (((qJ x418000_2 x45_3).f1) == t420 && (((qJ x418000_2 x45_3).f2) == t421))) x418000_2 (x418000_2.length : Int) (wrap64 (x45_3 + 1)) a0_0 a0_1 l0_2 x418000_2 x418001_2 t419 t420 t421) = some (r1, r2, r3) := by rw [if_neg (show ¬ (false = true) by decide)] at H; exact H
                clear H
                have H := H1
                clear H1
                have H' := Aside0.mk H
                clear H
                have p424 : 0 ≤ (x45_3 : Int) := of_decide_eq_true (by first | (with_reducible assumption) | assumption)
                have q424 : x45_3 < (x418000_2.length : Int) := of_decide_eq_true (by first | (with_reducible assumption) | assumption)
                obtain ⟨ad424, e424, hx424_0, hx424_1, hx424_2⟩ := qFB (Kd.qf HO_32.out).2.2 x45_3 p424 q424
                obtain rfl : ad418 = ad424 := (by injection e424)
                replace p424 := eq_true p424
                replace q424 := eq_true q424
                go_wp2_with (first | ((with_reducible refine qV (N := 13) rfl ?_); refine qU ?hg (N := 13) ?hd (cs := #[.int .i64 0, .int .i64 0, .int .i64 0]) (t := 27) ?hr ?_; (case hd => rfl); (case hg => rfl); (case hr => first | (go_simp; done) | (go_simp; rfl)); intro gb425 hg w55 hbox hb; have n0_ := Aside0.mk (Kd.qY (Kd.qYA (by (with_reducible repeat (first | apply Kd.qF | apply Kd.qE | apply Kd.qI)); exact HO_32.out) gb425 (Nat.le_of_eq hg.symm)) hb); have n1_ := Aside0.mk (Kd.qY (Kd.qYA (by (with_reducible repeat (first | apply Kd.qF | apply Kd.qE | apply Kd.qI)); exact HO_418000.out) gb425 (Nat.le_of_eq hg.symm)) hb); have n2_ := Aside0.mk (Kd.qY (by (with_reducible repeat (first | apply Kd.qF | apply Kd.qE | apply Kd.qI)); exact HO_418001.out) hb); have n3_ := Aside0.mk (bb BK408 hb); have n4_ := Aside0.mk (bb BK409 hb); have n5_ := Aside0.mk (bb BK410 hb); have n6_ := Aside0.mk (bb BK417 hb); have n7_ := Aside0.mk (bb BK423 hb); have n8_ := Aside0.mk (qG bl hb); have n9_ := Aside0.mk (hbox); have n10_ := Aside0.mk ((gg hg)); have n11_ := Aside0.mk ((gg hg)); have n12_ := Aside0.mk ((nl BK408 hg)); have n13_ := Aside0.mk ((nr BK408 hg)); have n14_ := Aside0.mk ((nl BK409 hg)); have n15_ := Aside0.mk ((nr BK409 hg)); have n16_ := Aside0.mk ((nl BK410 hg)); have n17_ := Aside0.mk ((nr BK410 hg)); have n18_ := Aside0.mk ((nl BK417 hg)); have n19_ := Aside0.mk ((nr BK417 hg)); have n20_ := Aside0.mk ((nl BK423 hg)); have n21_ := Aside0.mk ((nr BK423 hg)); clear HO_32; clear HO_418000; clear HO_418001; clear BK408; clear BK409; clear BK410; clear BK417; clear BK423; clear HB; have HO_32 := n0_; have HO_418000 := n1_; have HO_418001 := n2_; have BK408 := n3_; have BK409 := n4_; have BK410 := n5_; have BK417 := n6_; have BK423 := n7_; have HB := n8_; have BK425 := n9_; have GW425 := n10_; have GE425 := n11_; have NB408_425 := n12_; have NB425_408 := n13_; have NB409_425 := n14_; have NB425_409 := n15_; have NB410_425 := n16_; have NB425_410 := n17_; have NB417_425 := n18_; have NB425_417 := n19_; have NB423_425 := n20_; have NB425_423 := n21_; clear n0_ n1_ n2_ n3_ n4_ n5_ n6_ n7_ n8_ n9_ n10_ n11_ n12_ n13_ n14_ n15_ n16_ n17_ n18_ n19_ n20_ n21_; clear hb hbox hg; have hnb56 := NB425_408.out; have hnc56 := NB408_425.out; have hnb57 := NB425_409.out; have hnc57 := NB409_425.out; have hnb58 := NB425_410.out; have hnc58 := NB410_425.out; have hnb59 := NB425_417.out; have hnc59 := NB417_425.out; have hnb60 := NB425_423.out; have hnc60 := NB423_425.out; have hcz61_0 := bc BK425 0; have hcz61_1 := bc BK425 1; have hcz61_2 := bc BK425 2; have hfz61_0 := qD BK425.out 0; have hfz61_1 := qD BK425.out 1; have hfz61_2 := qD BK425.out 2; have hnb62 := NB423_408.out; have hnc62 := NB408_423.out; have hnb63 := NB423_409.out; have hnc63 := NB409_423.out; have hnb64 := NB423_410.out; have hnc64 := NB410_423.out; have hnb65 := NB423_417.out; have hnc65 := NB417_423.out; have hcz66_0 := bc BK423 0; have hcz66_1 := bc BK423 1; have hcz66_2 := bc BK423 2; have hfz66_0 := qD BK423.out 0; have hfz66_1 := qD BK423.out 1; have hfz66_2 := qD BK423.out 2))
                go_roundg k3
                case measure => have := HK1.out; have := HK2.out; have := HK3.out; omega
                case rel => exact ⟨((((qJ x418000_2 x45_3).f0) == t419 && (((qJ x418000_2 x45_3).f1) == t420 && (((qJ x418000_2 x45_3).f2) == t421)))), (wrap64 (x45_3 + 1)), (by first | rfl | (simp; done) | (simp [*]; done)), (by first | rfl | (simp; done) | (simp [*]; done)), H', ⟨by have := HK1.out; have := HK2.out; have := HK3.out; omega⟩, ⟨by (with_reducible repeat (first | apply Kd.qF | apply Kd.qE | apply Kd.qI)); exact Kd.qh (Kd.R_far (p := ⟨gb425, 2, none⟩) (Kd.R_far (p := ⟨gb425, 1, none⟩) (Kd.R_far (p := ⟨gb425, 0, none⟩) (Kd.qh HO_32.out (fun k_ hk => (⟨hk, hk.2⟩ : _ ∧ k_ ≠ gb425))) (fun _ hk => hk.2) (.int .i64 ((qJ x418000_2 x45_3).f0))) (fun _ hk => hk.2) (.int .i64 ((qJ x418000_2 x45_3).f1))) (fun _ hk => hk.2) (.int .i64 ((qJ x418000_2 x45_3).f2))) (fun _ hk => ⟨hk.1.1.1, hk.1.1.2⟩)⟩, ⟨by (with_reducible repeat (first | apply Kd.qF | apply Kd.qE | apply Kd.qI)); exact Kd.qh (Kd.R_far (p := ⟨gb425, 2, none⟩) (Kd.R_far (p := ⟨gb425, 1, none⟩) (Kd.R_far (p := ⟨gb425, 0, none⟩) (Kd.qh HO_418000.out (fun k_ hk => (⟨hk, hk.2⟩ : _ ∧ k_ ≠ gb425))) (fun _ hk => hk.2) (.int .i64 ((qJ x418000_2 x45_3).f0))) (fun _ hk => hk.2) (.int .i64 ((qJ x418000_2 x45_3).f1))) (fun _ hk => hk.2) (.int .i64 ((qJ x418000_2 x45_3).f2))) (fun _ hk => ⟨hk.1.1.1, hk.1.1.2⟩)⟩, ⟨by (with_reducible repeat (first | apply Kd.qF | apply Kd.qE | apply Kd.qI)); exact Kd.qh (Kd.R_far (p := ⟨gb425, 2, none⟩) (Kd.R_far (p := ⟨gb425, 1, none⟩) (Kd.R_far (p := ⟨gb425, 0, none⟩) (Kd.qr HO_418001.out BK425.out (by decide)) (fun _ hk => hk.2) (.int .i64 ((qJ x418000_2 x45_3).f0))) (fun _ hk => hk.2) (.int .i64 ((qJ x418000_2 x45_3).f1))) (fun _ hk => hk.2) (.int .i64 ((qJ x418000_2 x45_3).f2))) (fun _ hk => trivial)⟩, ⟨by (with_reducible repeat (first | refine qB ?_ _ | refine qC ?_ | refine qA ?_ _)); refine qH ?_ NB408_425.out _; (with_reducible repeat (first | refine qB ?_ _ | refine qC ?_ | refine qA ?_ _)); refine qH ?_ NB408_425.out _; (with_reducible repeat (first | refine qB ?_ _ | refine qC ?_ | refine qA ?_ _)); refine qH ?_ NB408_425.out _; (with_reducible repeat (first | refine qB ?_ _ | refine qC ?_ | refine qA ?_ _)); exact BK408.out⟩, ⟨by (with_reducible repeat (first | refine qB ?_ _ | refine qC ?_ | refine qA ?_ _)); refine qH ?_ NB409_425.out _; (with_reducible repeat (first | refine qB ?_ _ | refine qC ?_ | refine qA ?_ _)); refine qH ?_ NB409_425.out _; (with_reducible repeat (first | refine qB ?_ _ | refine qC ?_ | refine qA ?_ _)); refine qH ?_ NB409_425.out _; (with_reducible repeat (first | refine qB ?_ _ | refine qC ?_ | refine qA ?_ _)); exact BK409.out⟩, ⟨by (with_reducible repeat (first | refine qB ?_ _ | refine qC ?_ | refine qA ?_ _)); refine qH ?_ NB410_425.out _; (with_reducible repeat (first | refine qB ?_ _ | refine qC ?_ | refine qA ?_ _)); refine qH ?_ NB410_425.out _; (with_reducible repeat (first | refine qB ?_ _ | refine qC ?_ | refine qA ?_ _)); refine qH ?_ NB410_425.out _; (with_reducible repeat (first | refine qB ?_ _ | refine qC ?_ | refine qA ?_ _)); exact BK410.out⟩, ⟨by (with_reducible repeat (first | refine qB ?_ _ | refine qC ?_ | refine qA ?_ _)); refine qH ?_ NB417_425.out _; (with_reducible repeat (first | refine qB ?_ _ | refine qC ?_ | refine qA ?_ _)); refine qH ?_ NB417_425.out _; (with_reducible repeat (first | refine qB ?_ _ | refine qC ?_ | refine qA ?_ _)); refine qH ?_ NB417_425.out _; (with_reducible repeat (first | refine qB ?_ _ | refine qC ?_ | refine qA ?_ _)); exact BK417.out⟩, ⟨by (with_reducible repeat (first | refine qB ?_ _ | refine qC ?_ | refine qA ?_ _)); refine qH ?_ NB423_425.out _; (with_reducible repeat (first | refine qB ?_ _ | refine qC ?_ | refine qA ?_ _)); refine qH ?_ NB423_425.out _; (with_reducible repeat (first | refine qB ?_ _ | refine qC ?_ | refine qA ?_ _)); refine qH ?_ NB423_425.out _; (with_reducible repeat (first | refine qB ?_ _ | refine qC ?_ | refine qA ?_ _)); exact BK423.out⟩, ⟨bl⟩⟩
              ·rw [if_neg c46] at H
               exact absurd H (by simp)
             ·rw [if_neg c45] at H
              exact absurd H (by simp)
            ·rw [if_neg c44] at H
             have c44b0 : decide (x45_3 < (x418000_2.length : Int)) = false := decide_eq_false c44
             clear c44
             by_cases c67 : x11_3 = true
             ·subst c67
              have H1 : (qZ.l1 k3 x7_1 (wrap64 (x8_2 + 1)) a0_0 a0_1 l0_2 x418000_2 x418001_2) = some (r1, r2, r3) := by rw [if_pos rfl] at H; exact H
              clear H
              have H := H1
              clear H1
              have H' := Aside0.mk H
              clear H
              go_wp2
              go_roundg k3
              case measure => have := HK1.out; have := HK2.out; have := HK3.out; omega
              case rel => exact ⟨(wrap64 (x8_2 + 1)), (x418000_2), (x418001_2), (.slice (some ad418) x418000_2.length co32), (u418001), (by first | rfl | (simp; done) | (simp [*]; done)), H', ⟨by have := HK1.out; have := HK2.out; have := HK3.out; omega⟩, ⟨by (with_reducible repeat (first | apply Kd.qF | apply Kd.qE | apply Kd.qI)); exact Kd.qh HO_418000.out (fun _ hk => hk.1)⟩, ⟨by (with_reducible repeat (first | apply Kd.qF | apply Kd.qE | apply Kd.qI)); exact HO_418001.out⟩, ⟨by (with_reducible repeat (first | refine qB ?_ _ | refine qC ?_ | refine qA ?_ _)); exact BK408.out⟩, ⟨by (with_reducible repeat (first | refine qB ?_ _ | refine qC ?_ | refine qA ?_ _)); exact BK409.out⟩, ⟨by (with_reducible repeat (first | refine qB ?_ _ | refine qC ?_ | refine qA ?_ _)); exact BK410.out⟩, ⟨by (with_reducible repeat (first | refine qB ?_ _ | refine qC ?_ | refine qA ?_ _)); exact BK417.out⟩, ⟨bl⟩⟩
             ·replace c67 := Bool.eq_false_iff.mpr c67
              subst c67
              have H1 : (if x418000_2.length < 5864062014805 then (if 0 ≤ x7_1 then (if x7_1 < (x418001_2.length : Int) then ((qwA.f).bind fun t430 => (if 0 ≤ x8_2 then (if x8_2 ≤ (wrap64 (x8_2 + 1)) then (if (wrap64 (x8_2 + 1)) ≤ (t430.size : Int) then (if (rdOf ByteArray.empty x418001_2 x7_1).size + (t430.extract (x8_2 : Int).toNat ((wrap64 (x8_2 + 1)) : Int).toNat).size ≤ 9223372036854775807 then (if x418001_2.length < 8796093022208 then (qZ.l1 k3 x7_1 (wrap64 (x8_2 + 1)) a0_0 a0_1 l0_2 (x418000_2 ++ [(⟨t419, t420, t421⟩ : S27)]) (x418001_2 ++ [(rdOf ByteArray.empty x418001_2 x7_1) ++ (t430.extract (x8_2 : Int).toNat ((wrap64 (x8_2 + 1)) : Int).toNat)])) else (none)) else (none)) else (none)) else (none)) else (none))) else (none)) else (none)) else (none)) = some (r1, r2, r3) := by rw [if_neg (show ¬ (false = true) by decide)] at H; exact H
              clear H
              have H := H1
              clear H1
              by_cases c68 : x418000_2.length < 5864062014805
              ·rw [if_pos c68] at H
               have LMc68 := Aside0.mk c68
               clear c68
               obtain ⟨y426, hy426⟩ : ∃ y_ : List (S27), y_ = (x418000_2 ++ [(⟨t419, t420, t421⟩ : S27)]) := ⟨_, rfl⟩
               replace H : (if 0 ≤ x7_1 then (if x7_1 < (x418001_2.length : Int) then ((qwA.f).bind fun t430 => (if 0 ≤ x8_2 then (if x8_2 ≤ (wrap64 (x8_2 + 1)) then (if (wrap64 (x8_2 + 1)) ≤ (t430.size : Int) then (if (rdOf ByteArray.empty x418001_2 x7_1).size + (t430.extract (x8_2 : Int).toNat ((wrap64 (x8_2 + 1)) : Int).toNat).size ≤ 9223372036854775807 then (if x418001_2.length < 8796093022208 then (qZ.l1 k3 x7_1 (wrap64 (x8_2 + 1)) a0_0 a0_1 l0_2 y426 (x418001_2 ++ [(rdOf ByteArray.empty x418001_2 x7_1) ++ (t430.extract (x8_2 : Int).toNat ((wrap64 (x8_2 + 1)) : Int).toNat)])) else (none)) else (none)) else (none)) else (none)) else (none))) else (none)) else (none)) = some (r1, r2, r3) := by first | (rw [hy426]; with_reducible exact H) | (have H2_ := (Option.bind_some _ _).symm.trans H; rw [hy426]; with_reducible exact H2_) | (have H2_ := (Option.bind_some _ _).symm.trans H; with_reducible exact H2_) | with_reducible exact H | (rw [hy426]; exact H) | exact H
               have Ny426 := Aside0.mk hy426
               clear hy426
               by_cases c69 : 0 ≤ x7_1
               ·rw [if_pos c69] at H
                have c69b0 : decide (0 ≤ x7_1) = true := decide_eq_true c69
                clear c69
                by_cases c70 : x7_1 < (x418001_2.length : Int)
                ·rw [if_pos c70] at H
                 have c70b0 : decide (x7_1 < (x418001_2.length : Int)) = true := decide_eq_true c70
                 clear c70
                 replace H := Option.bind_eq_some_iff.mp H
                 obtain ⟨t430, A710, H⟩ := H
                 replace H : (if 0 ≤ x8_2 then (if x8_2 ≤ (wrap64 (x8_2 + 1)) then (if (wrap64 (x8_2 + 1)) ≤ (t430.size : Int) then (if (rdOf ByteArray.empty x418001_2 x7_1).size + (t430.extract (x8_2 : Int).toNat ((wrap64 (x8_2 + 1)) : Int).toNat).size ≤ 9223372036854775807 then (if x418001_2.length < 8796093022208 then (qZ.l1 k3 x7_1 (wrap64 (x8_2 + 1)) a0_0 a0_1 l0_2 y426 (x418001_2 ++ [(rdOf ByteArray.empty x418001_2 x7_1) ++ (t430.extract (x8_2 : Int).toNat ((wrap64 (x8_2 + 1)) : Int).toNat)])) else (none)) else (none)) else (none)) else (none)) else (none)) = some (r1, r2, r3) := H
                 have A71 := Aside0.mk A710
                 clear A710
                 by_cases c72 : 0 ≤ x8_2
                 ·rw [if_pos c72] at H
                  have c72b0 := eq_true c72
                  have c72b1 : decide (0 ≤ x8_2) = true := decide_eq_true c72
                  clear c72
                  by_cases c73 : x8_2 ≤ (wrap64 (x8_2 + 1))
                  ·rw [if_pos c73] at H
                   have c73b0 := eq_true c73
                   have c73b1 : decide (x8_2 ≤ (wrap64 (x8_2 + 1))) = true := decide_eq_true c73
                   by_cases c74 : (wrap64 (x8_2 + 1)) ≤ (t430.size : Int)
                   ·rw [if_pos c74] at H
                    have c74b0 := eq_true c74
                    have c74b1 : decide ((wrap64 (x8_2 + 1)) ≤ (t430.size : Int)) = true := decide_eq_true c74
                    by_cases c75 : (rdOf ByteArray.empty x418001_2 x7_1).size + (t430.extract (x8_2 : Int).toNat ((wrap64 (x8_2 + 1)) : Int).toNat).size ≤ 9223372036854775807
                    ·rw [if_pos c75] at H
                     have c75b0 := eq_true c75
                     have c75b1 : decide ((rdOf ByteArray.empty x418001_2 x7_1).size + (t430.extract (x8_2 : Int).toNat ((wrap64 (x8_2 + 1)) : Int).toNat).size ≤ 9223372036854775807) = true := decide_eq_true c75
                     try have c75b2 : (9223372036854775807 < (rdOf ByteArray.empty x418001_2 x7_1).size + (t430.extract (x8_2 : Int).toNat ((wrap64 (x8_2 + 1)) : Int).toNat).size) = False := eq_false (Nat.not_lt.2 c75)
                     by_cases c76 : x418001_2.length < 8796093022208
                     ·rw [if_pos c76] at H
                      have LMc76 := Aside0.mk c76
                      clear c76
                      obtain ⟨y431, hy431⟩ : ∃ y_ : List ByteArray, y_ = (x418001_2 ++ [(rdOf ByteArray.empty x418001_2 x7_1) ++ (t430.extract (x8_2 : Int).toNat ((wrap64 (x8_2 + 1)) : Int).toNat)]) := ⟨_, rfl⟩
                      replace H : (qZ.l1 k3 x7_1 (wrap64 (x8_2 + 1)) a0_0 a0_1 l0_2 y426 y431) = some (r1, r2, r3) := by first | (rw [hy431]; with_reducible exact H) | (have H2_ := (Option.bind_some _ _).symm.trans H; rw [hy431]; with_reducible exact H2_) | (have H2_ := (Option.bind_some _ _).symm.trans H; with_reducible exact H2_) | with_reducible exact H | (rw [hy431]; exact H) | exact H
                      have Ny431 := Aside0.mk hy431
                      clear hy431
                      have H' := Aside0.mk H
                      clear H
                      have hnb77 := NB417_408.out
                      have hnc77 := NB408_417.out
                      have hnb78 := NB417_409.out
                      have hnc78 := NB409_417.out
                      have hnb79 := NB417_410.out
                      have hnc79 := NB410_417.out
                      have hnb80 := NB417_423.out
                      have hnc80 := NB423_417.out
                      have hcz81_0 := bc BK417 0
                      have hcz81_1 := bc BK417 1
                      have hfz81_0 := qD BK417.out 0
                      have hfz81_1 := qD BK417.out 1
                      have hnb82 := NB423_408.out
                      have hnc82 := NB408_423.out
                      have hnb83 := NB423_409.out
                      have hnc83 := NB409_423.out
                      have hnb84 := NB423_410.out
                      have hnc84 := NB410_423.out
                      have hcz85_0 := bc BK423 0
                      have hcz85_1 := bc BK423 1
                      have hcz85_2 := bc BK423 2
                      have hfz85_0 := qD BK423.out 0
                      have hfz85_1 := qD BK423.out 1
                      have hfz85_2 := qD BK423.out 2
                      try go_wp2_with (first | ((with_reducible refine qkA (b := .append) (xs := #[.tmp 59, .tmp 61]) rfl ?_); at_builtin; refine Kd.qLC k27 (w0 := w) w.heap.size rfl (.tmp 59) (.tmp 61) 50 27 (.agg #[(.int .i64 0), (.int .i64 0), (.int .i64 0)]) 24 rfl Tryd.underlying50 info27 rfl (by decide) (by omega) (.slice (some ad418) x418000_2.length co32) x418000_2 (⟨t419, t420, t421⟩ : S27) [.int .i64 t419, .int .i64 t420, .int .i64 t421] (fun k_ => k_ ≠ gb409 ∧ k_ ≠ gb423) (fun _ => False) rfl rfl ?aP (fun _ hk => hk.elim) ?aF ?aO ?aB ?aS ?aL ?_; (case aP => exact qAC _ _ _ (⟨t419, t420, t421⟩ : S27)); (case aB => exact bl); (case aF => exact (fun k_ hk => ⟨Kd.freshB (g := gb409) (o := .cells #[.int .i64 a1_0, .int .i64 a1_1, .int .i64 a1_2] 27 (0, 0)) (by (with_reducible repeat (first | refine qB ?_ _ | refine qC ?_ | refine qA ?_ _)); exact BK409.out) k_ hk, Kd.freshB (g := gb423) (o := .cells #[.int .i64 t419, .int .i64 t420, .int .i64 t421] 27 (0, 0)) (by (with_reducible repeat (first | refine qB ?_ _ | refine qC ?_ | refine qA ?_ _)); exact BK423.out) k_ hk⟩)); (case aO => exact (by (with_reducible repeat (first | apply Kd.qF | apply Kd.qE | apply Kd.qI)); exact HO_418000.out)); (case aS => exact (qg bl)); (case aL => have := LMc68.out; omega); intro v427 w86 ho hb hg hat; rw [← Ny426.out] at ho; have n0_ := Aside0.mk (Kd.qHB (by (with_reducible repeat (first | apply Kd.qF | apply Kd.qE | apply Kd.qI)); exact HO_418001.out) (Kd.qGB (by (with_reducible repeat (first | apply Kd.qF | apply Kd.qE | apply Kd.qI)); exact HO_418000.out)) (by decide) hg); have n1_ := Aside0.mk (qCA (g := gb408) (o := .cells #[.int .i64 a0_0, .int .i64 a0_1, .slice A0_2 l0_2.length c0_2] 57 (0, 0)) (by (with_reducible repeat (first | refine qB ?_ _ | refine qC ?_ | refine qA ?_ _)); exact BK408.out) hg (Kd.R_ne HO_418000.out BK408.out (by decide))); have n2_ := Aside0.mk (qCA (g := gb409) (o := .cells #[.int .i64 a1_0, .int .i64 a1_1, .int .i64 a1_2] 27 (0, 0)) (by (with_reducible repeat (first | refine qB ?_ _ | refine qC ?_ | refine qA ?_ _)); exact BK409.out) hg (Kd.qT HO_418000.out (fun _ hk => hk.1))); have n3_ := Aside0.mk (qCA (g := gb410) (o := .cells #[.slice none 0 0, .slice none 0 0] 75 (0, 0)) (by (with_reducible repeat (first | refine qB ?_ _ | refine qC ?_ | refine qA ?_ _)); exact BK410.out) hg (Kd.R_ne HO_418000.out BK410.out (by decide))); have n4_ := Aside0.mk (qCA (g := gb417) (o := .cells #[.slice (some ad418) x418000_2.length co32, u418001] 75 (0, 0)) (by (with_reducible repeat (first | refine qB ?_ _ | refine qC ?_ | refine qA ?_ _)); exact BK417.out) hg (Kd.R_ne HO_418000.out BK417.out (by decide))); have n5_ := Aside0.mk (qCA (g := gb423) (o := .cells #[.int .i64 t419, .int .i64 t420, .int .i64 t421] 27 (0, 0)) (by (with_reducible repeat (first | refine qB ?_ _ | refine qC ?_ | refine qA ?_ _)); exact BK423.out) hg (Kd.qT HO_418000.out (fun _ hk => hk.2))); have n6_ := Aside0.mk (hb); have n7_ := Aside0.mk (ho); clear HO_418001; clear BK408; clear BK409; clear BK410; clear BK417; clear BK423; clear HB; clear HO_418000; have HO_418001 := n0_; have BK408 := n1_; have BK409 := n2_; have BK410 := n3_; have BK417 := n4_; have BK423 := n5_; have HB := n6_; have HO428 := n7_; clear n0_ n1_ n2_ n3_ n4_ n5_ n6_ n7_; clear ho hb hg hat; obtain ⟨Ao87, co87, eo87⟩ := Kd.qt HO428.out; subst eo87; have hcz88_0 := bc BK417 0; have hcz88_1 := bc BK417 1; have hfz88_0 := qD BK417.out 0; have hfz88_1 := qD BK417.out 1))
                      have n0_ : Aside0 (Kd.R Kd.string 9 (w86.setCell ⟨gb417, 0, none⟩ (.slice Ao87 y426.length co87)) w.heap.size (fun _ => True) u418001 x418001_2) := ⟨by (with_reducible repeat (first | apply Kd.qF | apply Kd.qE | apply Kd.qI)); exact Kd.qh (Kd.R_far (p := ⟨gb417, 0, none⟩) (Kd.qr HO_418001.out BK417.out (by decide)) (fun _ hk => hk.2) (.slice Ao87 y426.length co87)) (fun _ hk => trivial)⟩
                      have n1_ : Aside0 (Kd.R k27 27 (w86.setCell ⟨gb417, 0, none⟩ (.slice Ao87 y426.length co87)) w.heap.size (fun k_ => k_ ≠ gb409 ∧ k_ ≠ gb423) (.slice Ao87 y426.length co87) y426) := ⟨by (with_reducible repeat (first | apply Kd.qF | apply Kd.qE | apply Kd.qI)); exact Kd.qh (Kd.R_far (p := ⟨gb417, 0, none⟩) (Kd.qr HO428.out BK417.out (by decide)) (fun _ hk => hk.2) (.slice Ao87 y426.length co87)) (fun _ hk => ⟨hk.1.1, hk.1.2⟩)⟩
                      have n2_ : Aside0 ((w86.setCell ⟨gb417, 0, none⟩ (.slice Ao87 y426.length co87)).heap[gb408]? = some (.cells #[.int .i64 a0_0, .int .i64 a0_1, .slice A0_2 l0_2.length c0_2] 57 (0, 0))) := ⟨by (with_reducible repeat (first | refine qB ?_ _ | refine qC ?_ | refine qA ?_ _)); refine qH ?_ NB408_417.out _; (with_reducible repeat (first | refine qB ?_ _ | refine qC ?_ | refine qA ?_ _)); exact BK408.out⟩
                      have n3_ : Aside0 ((w86.setCell ⟨gb417, 0, none⟩ (.slice Ao87 y426.length co87)).heap[gb409]? = some (.cells #[.int .i64 a1_0, .int .i64 a1_1, .int .i64 a1_2] 27 (0, 0))) := ⟨by (with_reducible repeat (first | refine qB ?_ _ | refine qC ?_ | refine qA ?_ _)); refine qH ?_ NB409_417.out _; (with_reducible repeat (first | refine qB ?_ _ | refine qC ?_ | refine qA ?_ _)); exact BK409.out⟩
                      have n4_ : Aside0 ((w86.setCell ⟨gb417, 0, none⟩ (.slice Ao87 y426.length co87)).heap[gb410]? = some (.cells #[.slice none 0 0, .slice none 0 0] 75 (0, 0))) := ⟨by (with_reducible repeat (first | refine qB ?_ _ | refine qC ?_ | refine qA ?_ _)); refine qH ?_ NB410_417.out _; (with_reducible repeat (first | refine qB ?_ _ | refine qC ?_ | refine qA ?_ _)); exact BK410.out⟩
                      have n5_ : Aside0 ((w86.setCell ⟨gb417, 0, none⟩ (.slice Ao87 y426.length co87)).heap[gb417]? = some (.cells #[.slice Ao87 y426.length co87, u418001] 75 (0, 0))) := ⟨by (with_reducible repeat (first | refine qB ?_ _ | refine qC ?_ | refine qA ?_ _)); refine qO (cs := #[.slice (some ad418) x418000_2.length co32, u418001]) ?_ 0 _ rfl; (with_reducible repeat (first | refine qB ?_ _ | refine qC ?_ | refine qA ?_ _)); exact BK417.out⟩
                      have n6_ : Aside0 ((w86.setCell ⟨gb417, 0, none⟩ (.slice Ao87 y426.length co87)).heap[gb423]? = some (.cells #[.int .i64 t419, .int .i64 t420, .int .i64 t421] 27 (0, 0))) := ⟨by (with_reducible repeat (first | refine qB ?_ _ | refine qC ?_ | refine qA ?_ _)); refine qH ?_ NB423_417.out _; (with_reducible repeat (first | refine qB ?_ _ | refine qC ?_ | refine qA ?_ _)); exact BK423.out⟩
                      have n7_ : Aside0 (Below w.heap.size w (w86.setCell ⟨gb417, 0, none⟩ (.slice Ao87 y426.length co87))) := ⟨bl⟩
                      (try clear HO_418001)
                      (try clear HO428)
                      (try clear BK408)
                      (try clear BK409)
                      (try clear BK410)
                      (try clear BK417)
                      (try clear BK423)
                      (try clear HB)
                      generalize (w86.setCell ⟨gb417, 0, none⟩ (.slice Ao87 y426.length co87)) = w89 at n0_ n1_ n2_ n3_ n4_ n5_ n6_ n7_ ⊢
                      have HO_418001 := n0_
                      have HO428 := n1_
                      have BK408 := n2_
                      have BK409 := n3_
                      have BK410 := n4_
                      have BK417 := n5_
                      have BK423 := n6_
                      have HB := n7_
                      clear n0_ n1_ n2_ n3_ n4_ n5_ n6_ n7_
                      have n0_ := Aside0.mk (Kd.qI HO_418001.out)
                      have n1_ := Aside0.mk (Kd.qI HO428.out)
                      have n2_ := Aside0.mk (qC BK408.out)
                      have n3_ := Aside0.mk (qC BK409.out)
                      have n4_ := Aside0.mk (qC BK410.out)
                      have n5_ := Aside0.mk (qC BK417.out)
                      have n6_ := Aside0.mk (qC BK423.out)
                      have n7_ := Aside0.mk (qn HB.out)
                      clear HO_418001
                      clear HO428
                      clear BK408
                      clear BK409
                      clear BK410
                      clear BK417
                      clear BK423
                      clear HB
                      have HO_418001 := n0_
                      have HO428 := n1_
                      have BK408 := n2_
                      have BK409 := n3_
                      have BK410 := n4_
                      have BK417 := n5_
                      have BK423 := n6_
                      have HB := n7_
                      clear n0_ n1_ n2_ n3_ n4_ n5_ n6_ n7_
                      obtain ⟨Ao91, co91, eo91⟩ := Kd.qt HO_418001.out
                      (first | subst eo91 | (injection eo91 with f1_ f2_ f3_; have f4_ := f1_.symm; have f5_ := f3_.symm; clear f1_ f2_ f3_; subst f4_; subst f5_))
                      have p429 : 0 ≤ (x7_1 : Int) := of_decide_eq_true (by first | (with_reducible assumption) | assumption)
                      have q429 : x7_1 < (x418001_2.length : Int) := of_decide_eq_true (by first | (with_reducible assumption) | assumption)
                      obtain ⟨ad429, e429, hx429_0⟩ := Kd.qdA (Kd.qf HO_418001.out).2.2 x7_1 p429 q429
                      cases e429
                      replace p429 := eq_true p429
                      replace q429 := eq_true q429
                      refine qxA (n := 17) (S := fun w' => w'.cell? ⟨gb417, 0, none⟩ = some (.slice Ao87 y426.length co87) ∧ w'.cell? ⟨gb417, 1, none⟩ = some (.slice (some ad429) x418001_2.length co91) ∧ w'.cell? (ad429.add (x7_1).toNat) = some (.string (rdOf ByteArray.empty x418001_2 x7_1))) (ds := [14, 16]) #[false, false, false, false, false, false, false, false, false, false, false, false, false, false, false, false, false] (by kernel_rfl) rfl rfl ⟨(qK BK417.out 0).trans rfl, (qK BK417.out 1).trans rfl, hx429_0⟩ (fun hHeld => ?_); refine qTA qZ.tab18 qZ.bits18 (fun HT_ HW_ => ?_)
                      generalize w89.drew = w90 at HO_418001 HO428 BK408 BK409 BK410 BK417 BK423 HB hx429_0 hHeld ⊢
                      refine pS (i := 0) (N := some 64) #[true, false, false, false, false, false, false, false, false, false, false, false, false, false, false, false, false] HT_ ?_
                      refine pS (i := 2) (N := some 66) #[true, false, true, false, false, false, false, false, false, false, false, false, false, false, false, false, false] HT_ ?_
                      refine pS (i := 4) (N := some 68) #[true, false, true, false, true, false, false, false, false, false, false, false, false, false, false, false, false] HT_ ?_
                      refine pS (i := 8) (N := some 72) #[true, false, true, false, true, false, false, false, true, false, false, false, false, false, false, false, false] HT_ ?_
                      refine pS (i := 9) (N := some 73) #[true, false, true, false, true, false, false, false, true, true, false, false, false, false, false, false, false] HT_ ?_
                      refine pS (i := 10) (N := some 74) #[true, false, true, false, true, false, false, false, true, true, true, false, false, false, false, false, false] HT_ ?_
                      refine tS (i := 1) (N := some 65) #[true, true, true, false, true, false, false, false, true, true, true, false, false, false, false, false, false] HT_ HW_ hHeld ?_
                      refine tS (i := 3) (N := some 67) #[true, true, true, true, true, false, false, false, true, true, true, false, false, false, false, false, false] HT_ HW_ hHeld ?_
                      refine pS (i := 5) (N := some 69) #[true, true, true, true, true, true, false, false, true, true, true, false, false, false, false, false, false] HT_ ?_
                      refine tS (i := 6) (N := some 70) #[true, true, true, true, true, true, true, false, true, true, true, false, false, false, false, false, false] HT_ HW_ hHeld ?_
                      refine one_ (i := 7) (N := some 71) #[true, true, true, true, true, true, true, true, true, true, true, false, false, false, false, false, false] rfl rfl (qPA HT_.out (by kernel_rfl)) (by decide) (fun K hK => ?_)
                      refine goes_ Tryd.func61 (by kernel_rfl) rfl #[] (by rfl) rfl rfl (by (try simp only [List.map_toArray, List.map_cons, List.map_nil]); first | done | rfl | (simp only [List.length_drop, List.length_take]; rfl)) ?_
                      with_reducible refine (qwA.calls  t430 _ A71.out).mono ?_
                      rintro e w' ⟨rfl, ⟨nd, rfl⟩⟩
                      refine ⟨_, rfl, ?_⟩
                      refine hK.out _ _ ⟨(qK BK417.out 0).trans rfl, (qK BK417.out 1).trans rfl, hHeld.2.2⟩ (fun hHeld => ?_)
                      clear hK K
                      refine norm_ (a' := ?_) ?_ ?_
                      rotate_left
                      ·show Act.put _ (some 71) _ = _
                       simp only [Act.put, List.setIfInBounds_toArray, List.set_cons_zero, List.set_cons_succ, i64_w, i32_w]
                       rfl
                      refine pS (i := 11) (N := some 75) #[true, true, true, true, true, true, true, true, true, true, true, true, false, false, false, false, false] HT_ ?_
                      refine pS (i := 12) (N := some 76) #[true, true, true, true, true, true, true, true, true, true, true, true, true, false, false, false, false] HT_ ?_
                      refine one_ (i := 13) (N := some 77) #[true, true, true, true, true, true, true, true, true, true, true, true, true, true, false, false, false] rfl rfl (qPA HT_.out (by kernel_rfl)) (by decide) (fun K hK => ?_)
                      refine qXC (w1 := ?_) (v := ?_) (by rfl) rfl ?_ ?_
                      rotate_left 2
                      ·go_simp
                       constructor
                       ·rfl
                       ·rfl
                      refine hK.out _ _ ⟨(qK (qA BK417.out _) 0).trans rfl, (qK (qA BK417.out _) 1).trans rfl, (World.cell?_alloc_lt _ _ _ (World.block_lt_of_cell? _ _ (hHeld.2.2))).trans (hHeld.2.2)⟩ (fun hHeld => ?_)
                      clear hK K
                      refine norm_ (a' := ?_) ?_ ?_
                      rotate_left
                      ·show Act.put _ (some 77) _ = _
                       simp only [Act.put, List.setIfInBounds_toArray, List.set_cons_zero, List.set_cons_succ, i64_w, i32_w]
                       rfl
                      refine last_ (i := 14) (N := some 78) #[true, true, true, true, true, true, true, true, true, true, true, true, true, true, true, false, false] rfl rfl (qPA HT_.out (by kernel_rfl)) (by decide) (fun K hK => ?_)
                      refine Kd.qXB Kd.string (w0 := w) w.heap.size (by rfl) (.tmp 65) (.tmp 77) 60 9 (.string ⟨#[]⟩) 16 rfl Tryd.underlying60 info9 rfl (by decide) (by omega) (.slice (some ad429) x418001_2.length co91) x418001_2 ((rdOf ByteArray.empty x418001_2 x7_1) ++ (t430.extract (x8_2 : Int).toNat ((wrap64 (x8_2 + 1)) : Int).toNat)) [.string ((rdOf ByteArray.empty x418001_2 x7_1) ++ (t430.extract (x8_2 : Int).toNat ((wrap64 (x8_2 + 1)) : Int).toNat))] (fun _ => True) (fun _ => False) rfl rfl ?aP (fun _ hk => hk.elim) ?aF ?aO ?aB ?aS ?aL ?_
                      (case aP => exact rfl)
                      (case aB => exact bl)
                      (case aF => exact (fun _ _ => trivial))
                      (case aO => exact (by (with_reducible repeat (first | apply Kd.qF | apply Kd.qE | apply Kd.qI)); exact HO_418001.out))
                      (case aS => exact (qg bl))
                      (case aL => have := LMc76.out; omega)
                      intro v432 w92 ho hb hg hat
                      rw [← Ny431.out] at ho
                      have n0_ := Aside0.mk (qCA (g := gb408) (o := .cells #[.int .i64 a0_0, .int .i64 a0_1, .slice A0_2 l0_2.length c0_2] 57 (0, 0)) (by (with_reducible repeat (first | refine qB ?_ _ | refine qC ?_ | refine qA ?_ _)); exact BK408.out) hg (Kd.R_ne HO_418001.out BK408.out (by decide)))
                      have n1_ := Aside0.mk (qCA (g := gb409) (o := .cells #[.int .i64 a1_0, .int .i64 a1_1, .int .i64 a1_2] 27 (0, 0)) (by (with_reducible repeat (first | refine qB ?_ _ | refine qC ?_ | refine qA ?_ _)); exact BK409.out) hg (Kd.R_ne HO_418001.out BK409.out (by decide)))
                      have n2_ := Aside0.mk (qCA (g := gb410) (o := .cells #[.slice none 0 0, .slice none 0 0] 75 (0, 0)) (by (with_reducible repeat (first | refine qB ?_ _ | refine qC ?_ | refine qA ?_ _)); exact BK410.out) hg (Kd.R_ne HO_418001.out BK410.out (by decide)))
                      have n3_ := Aside0.mk (qCA (g := gb417) (o := .cells #[.slice Ao87 y426.length co87, .slice (some ad429) x418001_2.length co91] 75 (0, 0)) (by (with_reducible repeat (first | refine qB ?_ _ | refine qC ?_ | refine qA ?_ _)); exact BK417.out) hg (Kd.R_ne HO_418001.out BK417.out (by decide)))
                      have n4_ := Aside0.mk (qCA (g := gb423) (o := .cells #[.int .i64 t419, .int .i64 t420, .int .i64 t421] 27 (0, 0)) (by (with_reducible repeat (first | refine qB ?_ _ | refine qC ?_ | refine qA ?_ _)); exact BK423.out) hg (Kd.R_ne HO_418001.out BK423.out (by decide)))
                      have n5_ := Aside0.mk (Kd.qHB (by (with_reducible repeat (first | apply Kd.qF | apply Kd.qE | apply Kd.qI)); exact HO428.out) (Kd.qGB (by (with_reducible repeat (first | apply Kd.qF | apply Kd.qE | apply Kd.qI)); exact HO_418001.out)) (by decide) hg)
                      have n6_ := Aside0.mk (hb)
                      have n7_ := Aside0.mk (ho)
                      clear BK408
                      clear BK409
                      clear BK410
                      clear BK417
                      clear BK423
                      clear HO428
                      clear HB
                      clear HO_418001
                      have BK408 := n0_
                      have BK409 := n1_
                      have BK410 := n2_
                      have BK417 := n3_
                      have BK423 := n4_
                      have HO428 := n5_
                      have HB := n6_
                      have HO433 := n7_
                      clear n0_ n1_ n2_ n3_ n4_ n5_ n6_ n7_
                      clear ho hb hg hat
                      obtain ⟨Ao93, co93, eo93⟩ := Kd.qt HO433.out
                      (first | subst eo93 | (injection eo93 with f1_ f2_ f3_; have f4_ := f1_.symm; have f5_ := f3_.symm; clear f1_ f2_ f3_; subst f4_; subst f5_))
                      refine hK.out _ _ ?_
                      clear hK K
                      refine norm_ (a' := ?_) ?_ ?_
                      rotate_left
                      ·show Act.put _ (some 78) _ = _
                       simp only [Act.put, List.setIfInBounds_toArray, List.set_cons_zero, List.set_cons_succ, i64_w, i32_w]
                       rfl
                      refine pS (i := 15) (N := some 79) #[true, true, true, true, true, true, true, true, true, true, true, true, true, true, true, true, false] HT_ ?_
                      refine last_ (i := 16) (N := none) #[true, true, true, true, true, true, true, true, true, true, true, true, true, true, true, true, true] rfl rfl (qPA HT_.out (by kernel_rfl)) (by decide) (fun K hK => ?_)
                      have hs94 : w92.cell? ⟨gb417, 1, none⟩ = some (.slice (some ad429) x418001_2.length co91) := (qK BK417.out 1).trans rfl
                      have hfs94 := qD BK417.out 1
                      have hns94_0 := NB408_417.out
                      have hns94_1 := NB409_417.out
                      have hns94_2 := NB410_417.out
                      have hns94_4 := NB423_417.out
                      have hms94_0 := NB417_408.out
                      have hms94_1 := NB417_409.out
                      have hms94_2 := NB417_410.out
                      have hms94_4 := NB417_423.out
                      refine skip_ (w1 := ?_) (by rfl) rfl ?_ ?_
                      rotate_left
                      ·go_simp
                       rfl
                      refine hK.out _ _ ?_
                      clear hK K
                      refine done_ (qpA HT_.out (by kernel_rfl)) ?_
                      try go_wp2
                      go_roundg k3
                      case measure => have := HK1.out; have := HK2.out; have := HK3.out; omega
                      case rel => exact ⟨(wrap64 (x8_2 + 1)), (y426), (y431), (.slice Ao87 y426.length co87), (.slice Ao93 y431.length co93), (by first | rfl | (simp; done) | (simp [*]; done)), H', ⟨by have := HK1.out; have := HK2.out; have := HK3.out; omega⟩, ⟨by (with_reducible repeat (first | apply Kd.qF | apply Kd.qE | apply Kd.qI)); exact Kd.qh (Kd.R_far (p := ⟨gb417, 1, none⟩) (Kd.qr HO428.out BK417.out (by decide)) (fun _ hk => hk.2) (.slice Ao93 y431.length co93)) (fun _ hk => hk.1.1)⟩, ⟨by (with_reducible repeat (first | apply Kd.qF | apply Kd.qE | apply Kd.qI)); exact Kd.qh (Kd.R_far (p := ⟨gb417, 1, none⟩) (Kd.qr HO433.out BK417.out (by decide)) (fun _ hk => hk.2) (.slice Ao93 y431.length co93)) (fun _ hk => trivial)⟩, ⟨by (with_reducible repeat (first | refine qB ?_ _ | refine qC ?_ | refine qA ?_ _)); refine qH ?_ NB408_417.out _; (with_reducible repeat (first | refine qB ?_ _ | refine qC ?_ | refine qA ?_ _)); exact BK408.out⟩, ⟨by (with_reducible repeat (first | refine qB ?_ _ | refine qC ?_ | refine qA ?_ _)); refine qH ?_ NB409_417.out _; (with_reducible repeat (first | refine qB ?_ _ | refine qC ?_ | refine qA ?_ _)); exact BK409.out⟩, ⟨by (with_reducible repeat (first | refine qB ?_ _ | refine qC ?_ | refine qA ?_ _)); refine qH ?_ NB410_417.out _; (with_reducible repeat (first | refine qB ?_ _ | refine qC ?_ | refine qA ?_ _)); exact BK410.out⟩, ⟨by (with_reducible repeat (first | refine qB ?_ _ | refine qC ?_ | refine qA ?_ _)); refine qO (cs := #[.slice Ao87 y426.length co87, .slice (some ad429) x418001_2.length co91]) ?_ 1 _ rfl; (with_reducible repeat (first | refine qB ?_ _ | refine qC ?_ | refine qA ?_ _)); exact BK417.out⟩, ⟨bl⟩⟩
                     ·rw [if_neg c76] at H
                      exact absurd H (by simp)
                    ·rw [if_neg c75] at H
                     exact absurd H (by simp)
                   ·rw [if_neg c74] at H
                    exact absurd H (by simp)
                  ·rw [if_neg c73] at H
                   exact absurd H (by simp)
                 ·rw [if_neg c72] at H
                  exact absurd H (by simp)
                ·rw [if_neg c70] at H
                 exact absurd H (by simp)
               ·rw [if_neg c69] at H
                exact absurd H (by simp)
              ·rw [if_neg c68] at H
               exact absurd H (by simp)
         ·replace c30 := Bool.eq_false_iff.mpr c30
          subst c30
          have H1 : (qZ.l1 k2 x7_1 (wrap64 (x8_2 + 1)) a0_0 a0_1 l0_2 x418000_2 x418001_2) = some (r1, r2, r3) := by rw [if_neg (show ¬ (false = true) by decide)] at H; exact H
          clear H
          have H := H1
          clear H1
          have H' := Aside0.mk H
          clear H
          try go_wp2
          have n0_ := Aside0.mk (Kd.qI HO_418000.out)
          have n1_ := Aside0.mk (Kd.qI HO_418001.out)
          have n2_ := Aside0.mk (qC BK408.out)
          have n3_ := Aside0.mk (qC BK409.out)
          have n4_ := Aside0.mk (qC BK410.out)
          have n5_ := Aside0.mk (qC BK417.out)
          have n6_ := Aside0.mk (qn HB.out)
          clear HO_418000
          clear HO_418001
          clear BK408
          clear BK409
          clear BK410
          clear BK417
          clear HB
          have HO_418000 := n0_
          have HO_418001 := n1_
          have BK408 := n2_
          have BK409 := n3_
          have BK410 := n4_
          have BK417 := n5_
          have HB := n6_
          clear n0_ n1_ n2_ n3_ n4_ n5_ n6_
          obtain ⟨Ao96, co96, eo96⟩ := Kd.qt HO_418000.out
          (first | subst eo96 | (injection eo96 with f1_ f2_ f3_; have f4_ := f1_.symm; have f5_ := f3_.symm; clear f1_ f2_ f3_; subst f4_; subst f5_))
          have p418 : 0 ≤ (x7_1 : Int) := of_decide_eq_true (by first | (with_reducible assumption) | assumption)
          have q418 : x7_1 < (x418000_2.length : Int) := of_decide_eq_true (by first | (with_reducible assumption) | assumption)
          obtain ⟨ad418, e418, hx418_0, hx418_1, hx418_2⟩ := qFB (Kd.qf HO_418000.out).2.2 x7_1 p418 q418
          cases e418
          replace p418 := eq_true p418
          replace q418 := eq_true q418
          refine qxA (n := 14) (S := fun w' => w'.cell? ⟨gb408, 0, none⟩ = some (.int .i64 a0_0) ∧ w'.cell? ⟨gb408, 1, none⟩ = some (.int .i64 a0_1) ∧ w'.cell? ⟨gb408, 2, none⟩ = some (.slice A0_2 l0_2.length c0_2) ∧ w'.cell? ⟨gb417, 0, none⟩ = some (.slice (some ad418) x418000_2.length co96) ∧ w'.cell? ⟨gb417, 1, none⟩ = some (u418001) ∧ w'.cell? (ad418.add ((x7_1).toNat * 3)) = some (.int .i64 ((qJ x418000_2 x7_1).f0)) ∧ w'.cell? ⟨(ad418.add ((x7_1).toNat * 3)).block, (ad418.add ((x7_1).toNat * 3)).off + 1, none⟩ = some (.int .i64 ((qJ x418000_2 x7_1).f1)) ∧ w'.cell? ⟨(ad418.add ((x7_1).toNat * 3)).block, (ad418.add ((x7_1).toNat * 3)).off + 2, none⟩ = some (.int .i64 ((qJ x418000_2 x7_1).f2))) (ds := []) #[false, false, false, false, false, false, false, false, false, false, false, false, false, false] (by kernel_rfl) rfl rfl ⟨(qK BK408.out 0).trans rfl, (qK BK408.out 1).trans rfl, (qK BK408.out 2).trans rfl, (qK BK417.out 0).trans rfl, (qK BK417.out 1).trans rfl, hx418_0, hx418_1, hx418_2⟩ (fun hHeld => ?_); refine qTA qZ.tab8 qZ.bits8 (fun HT_ HW_ => ?_)
          generalize wr.drew = w95 at HO_418000 HO_418001 BK408 BK409 BK410 BK417 HB hx418_0 hx418_1 hx418_2 hHeld ⊢
          refine pS (i := 1) (N := some 31) #[false, true, false, false, false, false, false, false, false, false, false, false, false, false] HT_ ?_
          refine pS (i := 3) (N := some 33) #[false, true, false, true, false, false, false, false, false, false, false, false, false, false] HT_ ?_
          refine pS (i := 6) (N := some 36) #[false, true, false, true, false, false, true, false, false, false, false, false, false, false] HT_ ?_
          refine tS (i := 0) (N := some 30) #[true, true, false, true, false, false, true, false, false, false, false, false, false, false] HT_ HW_ hHeld ?_
          refine tS (i := 2) (N := some 32) #[true, true, true, true, false, false, true, false, false, false, false, false, false, false] HT_ HW_ hHeld ?_
          refine pS (i := 4) (N := some 34) #[true, true, true, true, true, false, true, false, false, false, false, false, false, false] HT_ ?_
          refine tS (i := 5) (N := some 35) #[true, true, true, true, true, true, true, false, false, false, false, false, false, false] HT_ HW_ hHeld ?_
          refine join_ (σ := Nat) 2 #[true, true, true, true, true, true, true, true, true, true, true, true, false, false] (fun s_ => [(37, .tuple #[.agg #[.int .i64 t419, .int .i64 t420, .int .i64 t421], .bool false]), (9, .pointer (some ⟨s_, 0, none⟩)), (29, .tuple #[.agg #[.int .i64 t419, .int .i64 t420, .int .i64 t421], .bool false]), (38, .agg #[.int .i64 t419, .int .i64 t420, .int .i64 t421]), (39, .bool false)]) (fun s_ w' => (w'.cell? ⟨gb408, 0, none⟩ = some (.int .i64 a0_0) ∧ w'.cell? ⟨gb408, 1, none⟩ = some (.int .i64 a0_1) ∧ w'.cell? ⟨gb408, 2, none⟩ = some (.slice A0_2 l0_2.length c0_2) ∧ w'.cell? ⟨gb417, 0, none⟩ = some (.slice (some ad418) x418000_2.length co96) ∧ w'.cell? ⟨gb417, 1, none⟩ = some (u418001) ∧ w'.cell? (ad418.add ((x7_1).toNat * 3)) = some (.int .i64 ((qJ x418000_2 x7_1).f0)) ∧ w'.cell? ⟨(ad418.add ((x7_1).toNat * 3)).block, (ad418.add ((x7_1).toNat * 3)).off + 1, none⟩ = some (.int .i64 ((qJ x418000_2 x7_1).f1)) ∧ w'.cell? ⟨(ad418.add ((x7_1).toNat * 3)).block, (ad418.add ((x7_1).toNat * 3)).off + 2, none⟩ = some (.int .i64 ((qJ x418000_2 x7_1).f2))) ∧ (Kd.R k27 27 w' w.heap.size (fun k_ => k_ ≠ gb409 ∧ k_ ≠ s_) (.slice (some ad418) x418000_2.length co96) x418000_2) ∧ (Kd.R Kd.string 9 w' w.heap.size (fun _ => True) u418001 x418001_2) ∧ (w'.heap[gb408]? = some (.cells #[.int .i64 a0_0, .int .i64 a0_1, .slice A0_2 l0_2.length c0_2] 57 (0, 0))) ∧ (w'.heap[gb409]? = some (.cells #[.int .i64 a1_0, .int .i64 a1_1, .int .i64 a1_2] 27 (0, 0))) ∧ (w'.heap[gb410]? = some (.cells #[.slice none 0 0, .slice none 0 0] 75 (0, 0))) ∧ (w'.heap[gb417]? = some (.cells #[.slice (some ad418) x418000_2.length co96, u418001] 75 (0, 0))) ∧ (w'.heap[s_]? = some (.cells #[.int .i64 0, .int .i64 0, .int .i64 0] 27 (0, 0))) ∧ (w.heap.size ≤ s_) ∧ (w.heap.size ≤ s_) ∧ (gb408 ≠ s_) ∧ (s_ ≠ gb408) ∧ (gb409 ≠ s_) ∧ (s_ ≠ gb409) ∧ (gb410 ≠ s_) ∧ (s_ ≠ gb410) ∧ (gb417 ≠ s_) ∧ (s_ ≠ gb417) ∧ (Below w.heap.size w w')) ?_ ?_
          rotate_left
          ·intro hCont
           refine two_ (i := 7) (j := 11) (Ni := some 37) (Nj := some 9) #[true, true, true, true, true, true, true, true, false, false, false, false, false, false] #[true, true, true, true, true, true, true, false, false, false, false, true, false, false] rfl rfl rfl rfl (qwB HT_.out (by kernel_rfl)) (by decide) (by decide) (fun K hK => ?_) (fun K hK => ?_)
           ·skip
            refine goes_ Tryd.func60 (by kernel_rfl) rfl #[.agg #[.int .i64 a0_0, .int .i64 a0_1, .slice A0_2 l0_2.length c0_2], .agg #[.int .i64 ((qJ x418000_2 x7_1).f0), .int .i64 ((qJ x418000_2 x7_1).f1), .int .i64 ((qJ x418000_2 x7_1).f2)], .int .i64 x8_2] (by rfl) rfl rfl (by (try simp only [List.map_toArray, List.map_cons, List.map_nil]); first | done | rfl | (simp only [List.length_drop, List.length_take]; rfl)) ?_
            with_reducible refine (qlA.calls k2 a0_0 a0_1 _ _ l0_2 ((qJ x418000_2 x7_1).f0) ((qJ x418000_2 x7_1).f1) ((qJ x418000_2 x7_1).f2) x8_2 t419 t420 t421 false _ ?side1 ?side2 A29.out).mono ?_
            (case side1 => repeat (first | exact (Kd.qUA HR0_2.out HB.out) | (with_reducible refine Kd.qHA ?_ _) | (with_reducible refine Kd.qGA ?_ _) | (with_reducible refine Kd.qNA ?_)))
            (case side2 => exact HC0_2.out)
            rintro e w97 ⟨rfl, hb⟩
            have HS5_ := (hb.cell (World.block_lt_of_cell? _ _ (hHeld.2.2.2.2.2.1))).trans (hHeld.2.2.2.2.2.1)
            have HS6_ := (hb.cell (World.block_lt_of_cell? _ _ (hHeld.2.2.2.2.2.2.1))).trans (hHeld.2.2.2.2.2.2.1)
            have HS7_ := (hb.cell (World.block_lt_of_cell? _ _ (hHeld.2.2.2.2.2.2.2))).trans (hHeld.2.2.2.2.2.2.2)
            refine ⟨_, rfl, ?_⟩
            have n0_ := Aside0.mk (Kd.qY (by (with_reducible repeat (first | apply Kd.qF | apply Kd.qE | apply Kd.qI)); exact HO_418000.out) hb)
            have n1_ := Aside0.mk (Kd.qY (by (with_reducible repeat (first | apply Kd.qF | apply Kd.qE | apply Kd.qI)); exact HO_418001.out) hb)
            have n2_ := Aside0.mk (bb BK408 hb)
            have n3_ := Aside0.mk (bb BK409 hb)
            have n4_ := Aside0.mk (bb BK410 hb)
            have n5_ := Aside0.mk (bb BK417 hb)
            have n6_ := Aside0.mk (qG bl hb)
            clear HO_418000
            clear HO_418001
            clear BK408
            clear BK409
            clear BK410
            clear BK417
            clear HB
            have HO_418000 := n0_
            have HO_418001 := n1_
            have BK408 := n2_
            have BK409 := n3_
            have BK410 := n4_
            have BK417 := n5_
            have HB := n6_
            clear n0_ n1_ n2_ n3_ n4_ n5_ n6_
            (try clear hb)
            (try clear hb2)
            (try clear hk)
            (try clear hi)
            refine hK.out _ _ ⟨(qK BK408.out 0).trans rfl, (qK BK408.out 1).trans rfl, (qK BK408.out 2).trans rfl, (qK BK417.out 0).trans rfl, (qK BK417.out 1).trans rfl, HS5_, HS6_, HS7_⟩ (fun hHeld => ?_)
            clear hK K
            refine norm_ (a' := ?_) ?_ ?_
            rotate_left
            ·show Act.put _ (some 37) _ = _
             simp only [Act.put, List.setIfInBounds_toArray, List.set_cons_zero, List.set_cons_succ, i64_w, i32_w]
             rfl
            refine pS (i := 8) (N := some 29) #[true, true, true, true, true, true, true, true, true, false, false, false, false, false] HT_ ?_
            refine pS (i := 9) (N := some 38) #[true, true, true, true, true, true, true, true, true, true, false, false, false, false] HT_ ?_
            refine pS (i := 10) (N := some 39) #[true, true, true, true, true, true, true, true, true, true, true, false, false, false] HT_ ?_
            refine one_ (i := 11) (N := some 9) #[true, true, true, true, true, true, true, true, true, true, true, true, false, false] rfl rfl (qPA HT_.out (by kernel_rfl)) (by decide) (fun K hK => ?_)
            refine qAB ?hg (N := 9) ?hd (cs := #[.int .i64 0, .int .i64 0, .int .i64 0]) (t := 27) ?hr ?_; (case hd => rfl); (case hg => rfl); (case hr => first | (go_simp; done) | (go_simp; rfl))
            intro gb423 hg w98 hbox hb
            have HS5_ := (hb.cell (World.block_lt_of_cell? _ _ (hHeld.2.2.2.2.2.1))).trans (hHeld.2.2.2.2.2.1)
            have HS6_ := (hb.cell (World.block_lt_of_cell? _ _ (hHeld.2.2.2.2.2.2.1))).trans (hHeld.2.2.2.2.2.2.1)
            have HS7_ := (hb.cell (World.block_lt_of_cell? _ _ (hHeld.2.2.2.2.2.2.2))).trans (hHeld.2.2.2.2.2.2.2)
            have n0_ := Aside0.mk (Kd.qY (Kd.qYA (by (with_reducible repeat (first | apply Kd.qF | apply Kd.qE | apply Kd.qI)); exact HO_418000.out) gb423 (Nat.le_of_eq hg.symm)) hb)
            have n1_ := Aside0.mk (Kd.qY (by (with_reducible repeat (first | apply Kd.qF | apply Kd.qE | apply Kd.qI)); exact HO_418001.out) hb)
            have n2_ := Aside0.mk (bb BK408 hb)
            have n3_ := Aside0.mk (bb BK409 hb)
            have n4_ := Aside0.mk (bb BK410 hb)
            have n5_ := Aside0.mk (bb BK417 hb)
            have n6_ := Aside0.mk (qG bl hb)
            have n7_ := Aside0.mk (hbox)
            have n8_ := Aside0.mk ((gg hg))
            have n9_ := Aside0.mk ((gg hg))
            have n10_ := Aside0.mk ((nl BK408 hg))
            have n11_ := Aside0.mk ((nr BK408 hg))
            have n12_ := Aside0.mk ((nl BK409 hg))
            have n13_ := Aside0.mk ((nr BK409 hg))
            have n14_ := Aside0.mk ((nl BK410 hg))
            have n15_ := Aside0.mk ((nr BK410 hg))
            have n16_ := Aside0.mk ((nl BK417 hg))
            have n17_ := Aside0.mk ((nr BK417 hg))
            clear HO_418000
            clear HO_418001
            clear BK408
            clear BK409
            clear BK410
            clear BK417
            clear HB
            have HO_418000 := n0_
            have HO_418001 := n1_
            have BK408 := n2_
            have BK409 := n3_
            have BK410 := n4_
            have BK417 := n5_
            have HB := n6_
            have BK423 := n7_
            have GW423 := n8_
            have GE423 := n9_
            have NB408_423 := n10_
            have NB423_408 := n11_
            have NB409_423 := n12_
            have NB423_409 := n13_
            have NB410_423 := n14_
            have NB423_410 := n15_
            have NB417_423 := n16_
            have NB423_417 := n17_
            clear n0_ n1_ n2_ n3_ n4_ n5_ n6_ n7_ n8_ n9_ n10_ n11_ n12_ n13_ n14_ n15_ n16_ n17_
            clear hb hbox hg
            refine hK.out _ _ ⟨(qK BK408.out 0).trans rfl, (qK BK408.out 1).trans rfl, (qK BK408.out 2).trans rfl, (qK BK417.out 0).trans rfl, (qK BK417.out 1).trans rfl, HS5_, HS6_, HS7_⟩ (fun hHeld => ?_)
            clear hK K
            refine norm_ (a' := ?_) ?_ ?_
            rotate_left
            ·show Act.put _ (some 9) _ = _
             simp only [Act.put, List.setIfInBounds_toArray, List.set_cons_zero, List.set_cons_succ, i64_w, i32_w]
             rfl
            exact norm_ (by simp only [putAll, Act.put, List.setIfInBounds_toArray, List.set_cons_zero, List.set_cons_succ]) (hCont (gb423) _ ⟨hHeld, (by (with_reducible repeat (first | apply Kd.qF | apply Kd.qE | apply Kd.qI)); exact HO_418000.out), (by (with_reducible repeat (first | apply Kd.qF | apply Kd.qE | apply Kd.qI)); exact HO_418001.out), (by (with_reducible repeat (first | refine qB ?_ _ | refine qC ?_ | refine qA ?_ _)); exact BK408.out), (by (with_reducible repeat (first | refine qB ?_ _ | refine qC ?_ | refine qA ?_ _)); exact BK409.out), (by (with_reducible repeat (first | refine qB ?_ _ | refine qC ?_ | refine qA ?_ _)); exact BK410.out), (by (with_reducible repeat (first | refine qB ?_ _ | refine qC ?_ | refine qA ?_ _)); exact BK417.out), (by (with_reducible repeat (first | refine qB ?_ _ | refine qC ?_ | refine qA ?_ _)); exact BK423.out), GW423.out, GE423.out, NB408_423.out, NB423_408.out, NB409_423.out, NB423_409.out, NB410_423.out, NB423_410.out, NB417_423.out, NB423_417.out, bl⟩)
           ·skip
            refine qAB ?hg (N := 9) ?hd (cs := #[.int .i64 0, .int .i64 0, .int .i64 0]) (t := 27) ?hr ?_; (case hd => rfl); (case hg => rfl); (case hr => first | (go_simp; done) | (go_simp; rfl))
            intro gb423 hg w97 hbox hb
            have HS5_ := (hb.cell (World.block_lt_of_cell? _ _ (hHeld.2.2.2.2.2.1))).trans (hHeld.2.2.2.2.2.1)
            have HS6_ := (hb.cell (World.block_lt_of_cell? _ _ (hHeld.2.2.2.2.2.2.1))).trans (hHeld.2.2.2.2.2.2.1)
            have HS7_ := (hb.cell (World.block_lt_of_cell? _ _ (hHeld.2.2.2.2.2.2.2))).trans (hHeld.2.2.2.2.2.2.2)
            have n0_ := Aside0.mk (Kd.qY (Kd.qYA (by (with_reducible repeat (first | apply Kd.qF | apply Kd.qE | apply Kd.qI)); exact HO_418000.out) gb423 (Nat.le_of_eq hg.symm)) hb)
            have n1_ := Aside0.mk (Kd.qY (by (with_reducible repeat (first | apply Kd.qF | apply Kd.qE | apply Kd.qI)); exact HO_418001.out) hb)
            have n2_ := Aside0.mk (bb BK408 hb)
            have n3_ := Aside0.mk (bb BK409 hb)
            have n4_ := Aside0.mk (bb BK410 hb)
            have n5_ := Aside0.mk (bb BK417 hb)
            have n6_ := Aside0.mk (qG bl hb)
            have n7_ := Aside0.mk (hbox)
            have n8_ := Aside0.mk ((gg hg))
            have n9_ := Aside0.mk ((gg hg))
            have n10_ := Aside0.mk ((nl BK408 hg))
            have n11_ := Aside0.mk ((nr BK408 hg))
            have n12_ := Aside0.mk ((nl BK409 hg))
            have n13_ := Aside0.mk ((nr BK409 hg))
            have n14_ := Aside0.mk ((nl BK410 hg))
            have n15_ := Aside0.mk ((nr BK410 hg))
            have n16_ := Aside0.mk ((nl BK417 hg))
            have n17_ := Aside0.mk ((nr BK417 hg))
            clear HO_418000
            clear HO_418001
            clear BK408
            clear BK409
            clear BK410
            clear BK417
            clear HB
            have HO_418000 := n0_
            have HO_418001 := n1_
            have BK408 := n2_
            have BK409 := n3_
            have BK410 := n4_
            have BK417 := n5_
            have HB := n6_
            have BK423 := n7_
            have GW423 := n8_
            have GE423 := n9_
            have NB408_423 := n10_
            have NB423_408 := n11_
            have NB409_423 := n12_
            have NB423_409 := n13_
            have NB410_423 := n14_
            have NB423_410 := n15_
            have NB417_423 := n16_
            have NB423_417 := n17_
            clear n0_ n1_ n2_ n3_ n4_ n5_ n6_ n7_ n8_ n9_ n10_ n11_ n12_ n13_ n14_ n15_ n16_ n17_
            clear hb hbox hg
            refine hK.out _ _ ⟨(qK BK408.out 0).trans rfl, (qK BK408.out 1).trans rfl, (qK BK408.out 2).trans rfl, (qK BK417.out 0).trans rfl, (qK BK417.out 1).trans rfl, HS5_, HS6_, HS7_⟩ (fun hHeld => ?_)
            clear hK K
            refine norm_ (a' := ?_) ?_ ?_
            rotate_left
            ·show Act.put _ (some 9) _ = _
             simp only [Act.put, List.setIfInBounds_toArray, List.set_cons_zero, List.set_cons_succ, i64_w, i32_w]
             rfl
            refine one_ (i := 7) (N := some 37) #[true, true, true, true, true, true, true, true, false, false, false, true, false, false] rfl rfl (qPA HT_.out (by kernel_rfl)) (by decide) (fun K hK => ?_)
            refine goes_ Tryd.func60 (by kernel_rfl) rfl #[.agg #[.int .i64 a0_0, .int .i64 a0_1, .slice A0_2 l0_2.length c0_2], .agg #[.int .i64 ((qJ x418000_2 x7_1).f0), .int .i64 ((qJ x418000_2 x7_1).f1), .int .i64 ((qJ x418000_2 x7_1).f2)], .int .i64 x8_2] (by rfl) rfl rfl (by (try simp only [List.map_toArray, List.map_cons, List.map_nil]); first | done | rfl | (simp only [List.length_drop, List.length_take]; rfl)) ?_
            with_reducible refine (qlA.calls k2 a0_0 a0_1 _ _ l0_2 ((qJ x418000_2 x7_1).f0) ((qJ x418000_2 x7_1).f1) ((qJ x418000_2 x7_1).f2) x8_2 t419 t420 t421 false _ ?side1 ?side2 A29.out).mono ?_
            (case side1 => repeat (first | exact (Kd.qUA HR0_2.out HB.out) | (with_reducible refine Kd.qHA ?_ _) | (with_reducible refine Kd.qGA ?_ _) | (with_reducible refine Kd.qNA ?_)))
            (case side2 => exact HC0_2.out)
            rintro e w98 ⟨rfl, hb⟩
            have HS5_ := (hb.cell (World.block_lt_of_cell? _ _ (hHeld.2.2.2.2.2.1))).trans (hHeld.2.2.2.2.2.1)
            have HS6_ := (hb.cell (World.block_lt_of_cell? _ _ (hHeld.2.2.2.2.2.2.1))).trans (hHeld.2.2.2.2.2.2.1)
            have HS7_ := (hb.cell (World.block_lt_of_cell? _ _ (hHeld.2.2.2.2.2.2.2))).trans (hHeld.2.2.2.2.2.2.2)
            refine ⟨_, rfl, ?_⟩
            have n0_ := Aside0.mk (Kd.qY (by (with_reducible repeat (first | apply Kd.qF | apply Kd.qE | apply Kd.qI)); exact HO_418000.out) hb)
            have n1_ := Aside0.mk (Kd.qY (by (with_reducible repeat (first | apply Kd.qF | apply Kd.qE | apply Kd.qI)); exact HO_418001.out) hb)
            have n2_ := Aside0.mk (bb BK408 hb)
            have n3_ := Aside0.mk (bb BK409 hb)
            have n4_ := Aside0.mk (bb BK410 hb)
            have n5_ := Aside0.mk (bb BK417 hb)
            have n6_ := Aside0.mk (bb BK423 hb)
            have n7_ := Aside0.mk (qG bl hb)
            clear HO_418000
            clear HO_418001
            clear BK408
            clear BK409
            clear BK410
            clear BK417
            clear BK423
            clear HB
            have HO_418000 := n0_
            have HO_418001 := n1_
            have BK408 := n2_
            have BK409 := n3_
            have BK410 := n4_
            have BK417 := n5_
            have BK423 := n6_
            have HB := n7_
            clear n0_ n1_ n2_ n3_ n4_ n5_ n6_ n7_
            (try clear hb)
            (try clear hb2)
            (try clear hk)
            (try clear hi)
            refine hK.out _ _ ⟨(qK BK408.out 0).trans rfl, (qK BK408.out 1).trans rfl, (qK BK408.out 2).trans rfl, (qK BK417.out 0).trans rfl, (qK BK417.out 1).trans rfl, HS5_, HS6_, HS7_⟩ (fun hHeld => ?_)
            clear hK K
            refine norm_ (a' := ?_) ?_ ?_
            rotate_left
            ·show Act.put _ (some 37) _ = _
             simp only [Act.put, List.setIfInBounds_toArray, List.set_cons_zero, List.set_cons_succ, i64_w, i32_w]
             rfl
            refine pS (i := 8) (N := some 29) #[true, true, true, true, true, true, true, true, true, false, false, true, false, false] HT_ ?_
            refine pS (i := 9) (N := some 38) #[true, true, true, true, true, true, true, true, true, true, false, true, false, false] HT_ ?_
            refine pS (i := 10) (N := some 39) #[true, true, true, true, true, true, true, true, true, true, true, true, false, false] HT_ ?_
            exact norm_ (by simp only [putAll, Act.put, List.setIfInBounds_toArray, List.set_cons_zero, List.set_cons_succ]) (hCont (gb423) _ ⟨hHeld, (by (with_reducible repeat (first | apply Kd.qF | apply Kd.qE | apply Kd.qI)); exact HO_418000.out), (by (with_reducible repeat (first | apply Kd.qF | apply Kd.qE | apply Kd.qI)); exact HO_418001.out), (by (with_reducible repeat (first | refine qB ?_ _ | refine qC ?_ | refine qA ?_ _)); exact BK408.out), (by (with_reducible repeat (first | refine qB ?_ _ | refine qC ?_ | refine qA ?_ _)); exact BK409.out), (by (with_reducible repeat (first | refine qB ?_ _ | refine qC ?_ | refine qA ?_ _)); exact BK410.out), (by (with_reducible repeat (first | refine qB ?_ _ | refine qC ?_ | refine qA ?_ _)); exact BK417.out), (by (with_reducible repeat (first | refine qB ?_ _ | refine qC ?_ | refine qA ?_ _)); exact BK423.out), GW423.out, GE423.out, NB408_423.out, NB423_408.out, NB409_423.out, NB423_409.out, NB410_423.out, NB423_410.out, NB417_423.out, NB423_417.out, bl⟩)
          rintro gb423 w99 ⟨hS_, h0_, h1_, h2_, h3_, h4_, h5_, h6_, h7_, h8_, h9_, h10_, h11_, h12_, h13_, h14_, h15_, h16_, h17_⟩
          have n0_ : Aside0 (Kd.R k27 27 w99 w.heap.size (fun k_ => k_ ≠ gb409 ∧ k_ ≠ gb423) (.slice (some ad418) x418000_2.length co96) x418000_2) := ⟨h0_⟩
          have n1_ : Aside0 (Kd.R Kd.string 9 w99 w.heap.size (fun _ => True) u418001 x418001_2) := ⟨h1_⟩
          have n2_ : Aside0 (w99.heap[gb408]? = some (.cells #[.int .i64 a0_0, .int .i64 a0_1, .slice A0_2 l0_2.length c0_2] 57 (0, 0))) := ⟨h2_⟩
          have n3_ : Aside0 (w99.heap[gb409]? = some (.cells #[.int .i64 a1_0, .int .i64 a1_1, .int .i64 a1_2] 27 (0, 0))) := ⟨h3_⟩
          have n4_ : Aside0 (w99.heap[gb410]? = some (.cells #[.slice none 0 0, .slice none 0 0] 75 (0, 0))) := ⟨h4_⟩
          have n5_ : Aside0 (w99.heap[gb417]? = some (.cells #[.slice (some ad418) x418000_2.length co96, u418001] 75 (0, 0))) := ⟨h5_⟩
          have n6_ : Aside0 (w99.heap[gb423]? = some (.cells #[.int .i64 0, .int .i64 0, .int .i64 0] 27 (0, 0))) := ⟨h6_⟩
          have n7_ : Aside0 (w.heap.size ≤ gb423) := ⟨h7_⟩
          have n8_ : Aside0 (w.heap.size ≤ gb423) := ⟨h8_⟩
          have n9_ : Aside0 (gb408 ≠ gb423) := ⟨h9_⟩
          have n10_ : Aside0 (gb423 ≠ gb408) := ⟨h10_⟩
          have n11_ : Aside0 (gb409 ≠ gb423) := ⟨h11_⟩
          have n12_ : Aside0 (gb423 ≠ gb409) := ⟨h12_⟩
          have n13_ : Aside0 (gb410 ≠ gb423) := ⟨h13_⟩
          have n14_ : Aside0 (gb423 ≠ gb410) := ⟨h14_⟩
          have n15_ : Aside0 (gb417 ≠ gb423) := ⟨h15_⟩
          have n16_ : Aside0 (gb423 ≠ gb417) := ⟨h16_⟩
          have n17_ : Aside0 (Below w.heap.size w w99) := ⟨h17_⟩
          clear HO_418000
          clear HO_418001
          clear BK408
          clear BK409
          clear BK410
          clear BK417
          clear HB
          clear h0_ h1_ h2_ h3_ h4_ h5_ h6_ h7_ h8_ h9_ h10_ h11_ h12_ h13_ h14_ h15_ h16_ h17_
          have HO_418000 := n0_
          have HO_418001 := n1_
          have BK408 := n2_
          have BK409 := n3_
          have BK410 := n4_
          have BK417 := n5_
          have BK423 := n6_
          have GW423 := n7_
          have GE423 := n8_
          have NB408_423 := n9_
          have NB423_408 := n10_
          have NB409_423 := n11_
          have NB423_409 := n12_
          have NB410_423 := n13_
          have NB423_410 := n14_
          have NB417_423 := n15_
          have NB423_417 := n16_
          have HB := n17_
          clear n0_ n1_ n2_ n3_ n4_ n5_ n6_ n7_ n8_ n9_ n10_ n11_ n12_ n13_ n14_ n15_ n16_ n17_
          have hHeld : w99.cell? ⟨gb408, 0, none⟩ = some (.int .i64 a0_0) ∧ w99.cell? ⟨gb408, 1, none⟩ = some (.int .i64 a0_1) ∧ w99.cell? ⟨gb408, 2, none⟩ = some (.slice A0_2 l0_2.length c0_2) ∧ w99.cell? ⟨gb417, 0, none⟩ = some (.slice (some ad418) x418000_2.length co96) ∧ w99.cell? ⟨gb417, 1, none⟩ = some (u418001) ∧ w99.cell? (ad418.add ((x7_1).toNat * 3)) = some (.int .i64 ((qJ x418000_2 x7_1).f0)) ∧ w99.cell? ⟨(ad418.add ((x7_1).toNat * 3)).block, (ad418.add ((x7_1).toNat * 3)).off + 1, none⟩ = some (.int .i64 ((qJ x418000_2 x7_1).f1)) ∧ w99.cell? ⟨(ad418.add ((x7_1).toNat * 3)).block, (ad418.add ((x7_1).toNat * 3)).off + 2, none⟩ = some (.int .i64 ((qJ x418000_2 x7_1).f2)) := hS_
          refine norm_ (a' := ?_) ?_ ?_
          rotate_left
          ·simp only [putAll, Act.put, List.setIfInBounds_toArray, List.set_cons_zero, List.set_cons_succ]
           rfl
          refine one_ (i := 12) (N := none) #[true, true, true, true, true, true, true, true, true, true, true, true, true, false] rfl rfl (qPA HT_.out (by kernel_rfl)) (by decide) (fun K hK => ?_)
          have hs100 : w99.cell? ⟨gb423, 0, none⟩ = some (.int .i64 0) := (qK BK423.out 0).trans rfl
          have hfs100 := qD BK423.out 0
          have hns100_0 := NB408_423.out
          have hns100_1 := NB409_423.out
          have hns100_2 := NB410_423.out
          have hns100_3 := NB417_423.out
          have hms100_0 := NB423_408.out
          have hms100_1 := NB423_409.out
          have hms100_2 := NB423_410.out
          have hms100_3 := NB423_417.out
          have hs101 : w99.cell? ⟨gb423, 1, none⟩ = some (.int .i64 0) := (qK BK423.out 1).trans rfl
          have hfs101 := qD BK423.out 1
          have hns101_0 := NB408_423.out
          have hns101_1 := NB409_423.out
          have hns101_2 := NB410_423.out
          have hns101_3 := NB417_423.out
          have hms101_0 := NB423_408.out
          have hms101_1 := NB423_409.out
          have hms101_2 := NB423_410.out
          have hms101_3 := NB423_417.out
          have hs102 : w99.cell? ⟨gb423, 2, none⟩ = some (.int .i64 0) := (qK BK423.out 2).trans rfl
          have hfs102 := qD BK423.out 2
          have hns102_0 := NB408_423.out
          have hns102_1 := NB409_423.out
          have hns102_2 := NB410_423.out
          have hns102_3 := NB417_423.out
          have hms102_0 := NB423_408.out
          have hms102_1 := NB423_409.out
          have hms102_2 := NB423_410.out
          have hms102_3 := NB423_417.out
          refine skip_ (w1 := ?_) (by rfl) rfl ?_ ?_
          rotate_left
          ·go_simp
           rfl
          refine hK.out _ _ ⟨((qQ (p := ⟨gb423, _, none⟩) NB408_423.out _).trans (((qQ (p := ⟨gb423, _, none⟩) NB408_423.out _).trans (((qQ (p := ⟨gb423, _, none⟩) NB408_423.out _).trans (hHeld.1)))))), ((qQ (p := ⟨gb423, _, none⟩) NB408_423.out _).trans (((qQ (p := ⟨gb423, _, none⟩) NB408_423.out _).trans (((qQ (p := ⟨gb423, _, none⟩) NB408_423.out _).trans (hHeld.2.1)))))), ((qQ (p := ⟨gb423, _, none⟩) NB408_423.out _).trans (((qQ (p := ⟨gb423, _, none⟩) NB408_423.out _).trans (((qQ (p := ⟨gb423, _, none⟩) NB408_423.out _).trans (hHeld.2.2.1)))))), ((qQ (p := ⟨gb423, _, none⟩) NB417_423.out _).trans (((qQ (p := ⟨gb423, _, none⟩) NB417_423.out _).trans (((qQ (p := ⟨gb423, _, none⟩) NB417_423.out _).trans (hHeld.2.2.2.1)))))), ((qQ (p := ⟨gb423, _, none⟩) NB417_423.out _).trans (((qQ (p := ⟨gb423, _, none⟩) NB417_423.out _).trans (((qQ (p := ⟨gb423, _, none⟩) NB417_423.out _).trans (hHeld.2.2.2.2.1)))))), ((qQ (p := ⟨gb423, _, none⟩) (by first | exact Kd.qN (Kd.qT HO_418000.out (fun _ hk => hk.2)) | (rw [qP]; exact Kd.qN (Kd.qT HO_418000.out (fun _ hk => hk.2))) | (show (Addr.add _ _).block ≠ _; rw [qP]; exact Kd.qN (Kd.qT HO_418000.out (fun _ hk => hk.2))) | (dsimp only; exact Kd.qN (Kd.qT HO_418000.out (fun _ hk => hk.2)))) _).trans (((qQ (p := ⟨gb423, _, none⟩) (by first | exact Kd.qN (Kd.qT HO_418000.out (fun _ hk => hk.2)) | (rw [qP]; exact Kd.qN (Kd.qT HO_418000.out (fun _ hk => hk.2))) | (show (Addr.add _ _).block ≠ _; rw [qP]; exact Kd.qN (Kd.qT HO_418000.out (fun _ hk => hk.2))) | (dsimp only; exact Kd.qN (Kd.qT HO_418000.out (fun _ hk => hk.2)))) _).trans (((qQ (p := ⟨gb423, _, none⟩) (by first | exact Kd.qN (Kd.qT HO_418000.out (fun _ hk => hk.2)) | (rw [qP]; exact Kd.qN (Kd.qT HO_418000.out (fun _ hk => hk.2))) | (show (Addr.add _ _).block ≠ _; rw [qP]; exact Kd.qN (Kd.qT HO_418000.out (fun _ hk => hk.2))) | (dsimp only; exact Kd.qN (Kd.qT HO_418000.out (fun _ hk => hk.2)))) _).trans (hHeld.2.2.2.2.2.1)))))), ((qQ (p := ⟨gb423, _, none⟩) (by first | exact Kd.qN (Kd.qT HO_418000.out (fun _ hk => hk.2)) | (rw [qP]; exact Kd.qN (Kd.qT HO_418000.out (fun _ hk => hk.2))) | (show (Addr.add _ _).block ≠ _; rw [qP]; exact Kd.qN (Kd.qT HO_418000.out (fun _ hk => hk.2))) | (dsimp only; exact Kd.qN (Kd.qT HO_418000.out (fun _ hk => hk.2)))) _).trans (((qQ (p := ⟨gb423, _, none⟩) (by first | exact Kd.qN (Kd.qT HO_418000.out (fun _ hk => hk.2)) | (rw [qP]; exact Kd.qN (Kd.qT HO_418000.out (fun _ hk => hk.2))) | (show (Addr.add _ _).block ≠ _; rw [qP]; exact Kd.qN (Kd.qT HO_418000.out (fun _ hk => hk.2))) | (dsimp only; exact Kd.qN (Kd.qT HO_418000.out (fun _ hk => hk.2)))) _).trans (((qQ (p := ⟨gb423, _, none⟩) (by first | exact Kd.qN (Kd.qT HO_418000.out (fun _ hk => hk.2)) | (rw [qP]; exact Kd.qN (Kd.qT HO_418000.out (fun _ hk => hk.2))) | (show (Addr.add _ _).block ≠ _; rw [qP]; exact Kd.qN (Kd.qT HO_418000.out (fun _ hk => hk.2))) | (dsimp only; exact Kd.qN (Kd.qT HO_418000.out (fun _ hk => hk.2)))) _).trans (hHeld.2.2.2.2.2.2.1)))))), ((qQ (p := ⟨gb423, _, none⟩) (by first | exact Kd.qN (Kd.qT HO_418000.out (fun _ hk => hk.2)) | (rw [qP]; exact Kd.qN (Kd.qT HO_418000.out (fun _ hk => hk.2))) | (show (Addr.add _ _).block ≠ _; rw [qP]; exact Kd.qN (Kd.qT HO_418000.out (fun _ hk => hk.2))) | (dsimp only; exact Kd.qN (Kd.qT HO_418000.out (fun _ hk => hk.2)))) _).trans (((qQ (p := ⟨gb423, _, none⟩) (by first | exact Kd.qN (Kd.qT HO_418000.out (fun _ hk => hk.2)) | (rw [qP]; exact Kd.qN (Kd.qT HO_418000.out (fun _ hk => hk.2))) | (show (Addr.add _ _).block ≠ _; rw [qP]; exact Kd.qN (Kd.qT HO_418000.out (fun _ hk => hk.2))) | (dsimp only; exact Kd.qN (Kd.qT HO_418000.out (fun _ hk => hk.2)))) _).trans (((qQ (p := ⟨gb423, _, none⟩) (by first | exact Kd.qN (Kd.qT HO_418000.out (fun _ hk => hk.2)) | (rw [qP]; exact Kd.qN (Kd.qT HO_418000.out (fun _ hk => hk.2))) | (show (Addr.add _ _).block ≠ _; rw [qP]; exact Kd.qN (Kd.qT HO_418000.out (fun _ hk => hk.2))) | (dsimp only; exact Kd.qN (Kd.qT HO_418000.out (fun _ hk => hk.2)))) _).trans (hHeld.2.2.2.2.2.2.2))))))⟩ (fun hHeld => ?_)
          clear hK K
          refine pS (i := 13) (N := some 10) #[true, true, true, true, true, true, true, true, true, true, true, true, true, true] HT_ ?_
          refine done_ (qpA HT_.out (by kernel_rfl)) ?_
          try go_wp2
          go_roundg k2
          case measure => have := HK1.out; have := HK2.out; omega
          case rel => exact ⟨(wrap64 (x8_2 + 1)), (x418000_2), (x418001_2), (.slice (some ad418) x418000_2.length co96), (u418001), (by first | rfl | (simp; done) | (simp [*]; done)), H', ⟨by have := HK1.out; have := HK2.out; omega⟩, ⟨by (with_reducible repeat (first | apply Kd.qF | apply Kd.qE | apply Kd.qI)); exact Kd.qh (Kd.R_far (p := ⟨gb423, 2, none⟩) (Kd.R_far (p := ⟨gb423, 1, none⟩) (Kd.R_far (p := ⟨gb423, 0, none⟩) (Kd.qh HO_418000.out (fun k_ hk => (⟨hk, hk.2⟩ : _ ∧ k_ ≠ gb423))) (fun _ hk => hk.2) (.int .i64 t419)) (fun _ hk => hk.2) (.int .i64 t420)) (fun _ hk => hk.2) (.int .i64 t421)) (fun _ hk => hk.1.1)⟩, ⟨by (with_reducible repeat (first | apply Kd.qF | apply Kd.qE | apply Kd.qI)); exact Kd.qh (Kd.R_far (p := ⟨gb423, 2, none⟩) (Kd.R_far (p := ⟨gb423, 1, none⟩) (Kd.R_far (p := ⟨gb423, 0, none⟩) (Kd.qr HO_418001.out BK423.out (by decide)) (fun _ hk => hk.2) (.int .i64 t419)) (fun _ hk => hk.2) (.int .i64 t420)) (fun _ hk => hk.2) (.int .i64 t421)) (fun _ hk => trivial)⟩, ⟨by (with_reducible repeat (first | refine qB ?_ _ | refine qC ?_ | refine qA ?_ _)); refine qH ?_ NB408_423.out _; (with_reducible repeat (first | refine qB ?_ _ | refine qC ?_ | refine qA ?_ _)); refine qH ?_ NB408_423.out _; (with_reducible repeat (first | refine qB ?_ _ | refine qC ?_ | refine qA ?_ _)); refine qH ?_ NB408_423.out _; (with_reducible repeat (first | refine qB ?_ _ | refine qC ?_ | refine qA ?_ _)); exact BK408.out⟩, ⟨by (with_reducible repeat (first | refine qB ?_ _ | refine qC ?_ | refine qA ?_ _)); refine qH ?_ NB409_423.out _; (with_reducible repeat (first | refine qB ?_ _ | refine qC ?_ | refine qA ?_ _)); refine qH ?_ NB409_423.out _; (with_reducible repeat (first | refine qB ?_ _ | refine qC ?_ | refine qA ?_ _)); refine qH ?_ NB409_423.out _; (with_reducible repeat (first | refine qB ?_ _ | refine qC ?_ | refine qA ?_ _)); exact BK409.out⟩, ⟨by (with_reducible repeat (first | refine qB ?_ _ | refine qC ?_ | refine qA ?_ _)); refine qH ?_ NB410_423.out _; (with_reducible repeat (first | refine qB ?_ _ | refine qC ?_ | refine qA ?_ _)); refine qH ?_ NB410_423.out _; (with_reducible repeat (first | refine qB ?_ _ | refine qC ?_ | refine qA ?_ _)); refine qH ?_ NB410_423.out _; (with_reducible repeat (first | refine qB ?_ _ | refine qC ?_ | refine qA ?_ _)); exact BK410.out⟩, ⟨by (with_reducible repeat (first | refine qB ?_ _ | refine qC ?_ | refine qA ?_ _)); refine qH ?_ NB417_423.out _; (with_reducible repeat (first | refine qB ?_ _ | refine qC ?_ | refine qA ?_ _)); refine qH ?_ NB417_423.out _; (with_reducible repeat (first | refine qB ?_ _ | refine qC ?_ | refine qA ?_ _)); refine qH ?_ NB417_423.out _; (with_reducible repeat (first | refine qB ?_ _ | refine qC ?_ | refine qA ?_ _)); exact BK417.out⟩, ⟨bl⟩⟩
        ·rw [if_neg c28] at H
         exact absurd H (by simp)
       ·rw [if_neg c27] at H
        exact absurd H (by simp)
      ·rw [if_neg c26] at H
       have c26b0 : decide (x8_2 < 4) = false := decide_eq_false c26
       clear c26
       by_cases c103 : (x418000_2.length : Int) > 400
       ·rw [if_pos c103] at H
        have c103b0 : decide (400 < (x418000_2.length : Int)) = true := decide_eq_true c103
        have c103b1 : decide (400 < x418000_2.length) = true := decide_eq_true (by omega)
        clear c103
        simp only [Option.some.injEq, Prod.mk.injEq] at H
        obtain ⟨rfl, rfl, rfl⟩ := H
        have hnb104 := NB417_408.out
        have hnc104 := NB408_417.out
        have hnb105 := NB417_409.out
        have hnc105 := NB409_417.out
        have hnb106 := NB417_410.out
        have hnc106 := NB410_417.out
        have hcz107_0 := bc BK417 0
        have hcz107_1 := bc BK417 1
        have hfz107_0 := qD BK417.out 0
        have hfz107_1 := qD BK417.out 1
        obtain ⟨Ao108, co108, eo108⟩ := Kd.qt HO_418000.out
        subst eo108
        have hnb109 := NB410_408.out
        have hnc109 := NB408_410.out
        have hnb110 := NB410_409.out
        have hnc110 := NB409_410.out
        have hcz111_0 := bc BK410 0
        have hcz111_1 := bc BK410 1
        have hfz111_0 := qD BK410.out 0
        have hfz111_1 := qD BK410.out 1
        obtain ⟨Ao112, co112, eo112⟩ := Kd.qt HO_418001.out
        subst eo112
        go_wp2
        refine bodyPost_ret (qQA rfl _ _ gb410 75 #[.slice Ao108 x418000_2.length co108, .slice Ao112 x418001_2.length co112] (0, 0) _ rfl (by (with_reducible repeat (first | refine qB ?_ _ | refine qC ?_ | refine qA ?_ _)); refine qO (cs := #[.slice Ao108 x418000_2.length co108, .slice none 0 0]) ?_ 1 _ rfl; (with_reducible repeat (first | refine qB ?_ _ | refine qC ?_ | refine qA ?_ _)); refine qO (cs := #[.slice none 0 0, .slice none 0 0]) ?_ 0 _ rfl; (with_reducible repeat (first | refine qB ?_ _ | refine qC ?_ | refine qA ?_ _)); exact BK410.out) Tryd.underlying75 rfl (by kernel_rfl)) rfl ?_
        exact ⟨_, _, by first | rfl | (simp [qM, qL] <;> rfl) | (simp [*, qM, qL] <;> rfl), by (with_reducible repeat (first | apply Kd.qF | apply Kd.qE | apply Kd.qI)); exact Kd.qh (Kd.R_far (p := ⟨gb410, 1, none⟩) (Kd.R_far (p := ⟨gb410, 0, none⟩) (Kd.qr HO_418000.out BK410.out (by decide)) (fun _ hk => hk.2) (.slice Ao108 x418000_2.length co108)) (fun _ hk => hk.2) (.slice Ao112 x418001_2.length co112)) (fun _ hk => trivial), by (with_reducible repeat (first | apply Kd.qF | apply Kd.qE | apply Kd.qI)); exact Kd.qh (Kd.R_far (p := ⟨gb410, 1, none⟩) (Kd.R_far (p := ⟨gb410, 0, none⟩) (Kd.qr HO_418001.out BK410.out (by decide)) (fun _ hk => hk.2) (.slice Ao108 x418000_2.length co108)) (fun _ hk => hk.2) (.slice Ao112 x418001_2.length co112)) (fun _ hk => trivial), bl⟩
       ·rw [if_neg c103] at H
        have c103b0 : decide (400 < (x418000_2.length : Int)) = false := decide_eq_false c103
        have c103b1 : decide (400 < x418000_2.length) = false := decide_eq_false (by omega)
        clear c103
        have H' := Aside0.mk H
        clear H
        have hnb113 := NB417_408.out
        have hnc113 := NB408_417.out
        have hnb114 := NB417_409.out
        have hnc114 := NB409_417.out
        have hnb115 := NB417_410.out
        have hnc115 := NB410_417.out
        have hcz116_0 := bc BK417 0
        have hcz116_1 := bc BK417 1
        have hfz116_0 := qD BK417.out 0
        have hfz116_1 := qD BK417.out 1
        obtain ⟨Ao117, co117, eo117⟩ := Kd.qt HO_418000.out
        subst eo117
        go_wp2
        go_roundg k2
        case measure => have := HK1.out; have := HK2.out; omega
        case rel => exact ⟨(wrap64 (x7_1 + 1)), (x418000_2), (x418001_2), (.slice Ao117 x418000_2.length co117), (u418001), (by first | rfl | (simp; done) | (simp [*]; done)), H', ⟨by have := HK1.out; have := HK2.out; omega⟩, ⟨by (with_reducible repeat (first | apply Kd.qF | apply Kd.qE | apply Kd.qI)); exact HO_418000.out⟩, ⟨by (with_reducible repeat (first | apply Kd.qF | apply Kd.qE | apply Kd.qI)); exact HO_418001.out⟩, ⟨by (with_reducible repeat (first | refine qB ?_ _ | refine qC ?_ | refine qA ?_ _)); exact BK408.out⟩, ⟨by (with_reducible repeat (first | refine qB ?_ _ | refine qC ?_ | refine qA ?_ _)); exact BK409.out⟩, ⟨by (with_reducible repeat (first | refine qB ?_ _ | refine qC ?_ | refine qA ?_ _)); exact BK410.out⟩, ⟨by (with_reducible repeat (first | refine qB ?_ _ | refine qC ?_ | refine qA ?_ _)); exact BK417.out⟩, ⟨bl⟩⟩
   ·rw [if_neg c20] at H
    have c20b0 : decide (x7_1 < (x418000_1.length : Int)) = false := decide_eq_false c20
    clear c20
    simp only [Option.some.injEq, Prod.mk.injEq] at H
    obtain ⟨rfl, rfl, rfl⟩ := H
    have hnb118 := NB417_408.out
    have hnc118 := NB408_417.out
    have hnb119 := NB417_409.out
    have hnc119 := NB409_417.out
    have hnb120 := NB417_410.out
    have hnc120 := NB410_417.out
    have hcz121_0 := bc BK417 0
    have hcz121_1 := bc BK417 1
    have hfz121_0 := qD BK417.out 0
    have hfz121_1 := qD BK417.out 1
    obtain ⟨Ao122, co122, eo122⟩ := Kd.qt HO_418000.out
    subst eo122
    have hnb123 := NB410_408.out
    have hnc123 := NB408_410.out
    have hnb124 := NB410_409.out
    have hnc124 := NB409_410.out
    have hcz125_0 := bc BK410 0
    have hcz125_1 := bc BK410 1
    have hfz125_0 := qD BK410.out 0
    have hfz125_1 := qD BK410.out 1
    obtain ⟨Ao126, co126, eo126⟩ := Kd.qt HO_418001.out
    subst eo126
    go_wp2
    refine bodyPost_ret (qQA rfl _ _ gb410 75 #[.slice Ao122 x418000_1.length co122, .slice Ao126 x418001_1.length co126] (0, 0) _ rfl (by (with_reducible repeat (first | refine qB ?_ _ | refine qC ?_ | refine qA ?_ _)); refine qO (cs := #[.slice Ao122 x418000_1.length co122, .slice none 0 0]) ?_ 1 _ rfl; (with_reducible repeat (first | refine qB ?_ _ | refine qC ?_ | refine qA ?_ _)); refine qO (cs := #[.slice none 0 0, .slice none 0 0]) ?_ 0 _ rfl; (with_reducible repeat (first | refine qB ?_ _ | refine qC ?_ | refine qA ?_ _)); exact BK410.out) Tryd.underlying75 rfl (by kernel_rfl)) rfl ?_
    exact ⟨_, _, by first | rfl | (simp [qM, qL] <;> rfl) | (simp [*, qM, qL] <;> rfl), by (with_reducible repeat (first | apply Kd.qF | apply Kd.qE | apply Kd.qI)); exact Kd.qh (Kd.R_far (p := ⟨gb410, 1, none⟩) (Kd.R_far (p := ⟨gb410, 0, none⟩) (Kd.qr HO_418000.out BK410.out (by decide)) (fun _ hk => hk.2) (.slice Ao122 x418000_1.length co122)) (fun _ hk => hk.2) (.slice Ao126 x418001_1.length co126)) (fun _ hk => trivial), by (with_reducible repeat (first | apply Kd.qF | apply Kd.qE | apply Kd.qI)); exact Kd.qh (Kd.R_far (p := ⟨gb410, 1, none⟩) (Kd.R_far (p := ⟨gb410, 0, none⟩) (Kd.qr HO_418001.out BK410.out (by decide)) (fun _ hk => hk.2) (.slice Ao122 x418000_1.length co122)) (fun _ hk => hk.2) (.slice Ao126 x418001_1.length co126)) (fun _ hk => trivial), bl⟩
end Go.Proofs.YtbpfhpjbeomfcaaDoor.P
namespace Go.Proofs.YtbpfhpjbeomfcaaDoor.P
open Go.RowKit Go.Proofs.YtbpfhpjbeomfcaaDoorW.PrintWords Go.Proofs.YtbpfhpjbeomfcaaDoorW.PrintLast Go.Proofs.YtbpfhpjbeomfcaaDoorW.PrintMore
attribute [local go_sem] qz qx qJA qIA qp qo qy qw
set_option linter.unusedVariables false
set_option linter.unusedSimpArgs false
def qZA.f (k : Nat) (a0 : ByteArray) (a1_0 : Int) (a1_1 : Int) (a1_2 : Int) : Option (Int × Int × List Int × (List (S27)) × List ByteArray × Bool) := (qEA.f k a0 a1_0 a1_1 a1_2).bind fun bt437 => (if bt437.2.2.2 = true then ((qZ.f k bt437.1 bt437.2.1 bt437.2.2.1 a1_0 a1_1 a1_2).bind fun bt444 => (some (bt437.1, bt437.2.1, bt437.2.2.1, bt444.1, bt444.2.1, bt444.2.2))) else (some (bt437.1, bt437.2.1, bt437.2.2.1, ([] : List (S27)), ([] : List ByteArray), false)))
set_option maxHeartbeats 8000000 in
set_option maxRecDepth 100000 in
theorem qZA.calls (k : Nat) (a0 : ByteArray) (a1_0 : Int) (a1_1 : Int) (a1_2 : Int) (r1 : Int) (r2 : Int) (r3 : List Int) (r4 : List (S27)) (r5 : List ByteArray) (r6 : Bool) (w : World) (h : qZA.f k a0 a1_0 a1_1 a1_2 = some (r1, r2, r3, r4, r5, r6)) :
  Calls Tryd.prog 65 #[.string a0, .agg #[.int .i64 a1_0, .int .i64 a1_1, .int .i64 a1_2]] w fun e w' => ∃ v2_ v3_ v4_ : Value, e = .returned (.tuple #[.agg #[.int .i64 r1, .int .i64 r2, v2_], .agg #[v3_, v4_], .bool r6]) ∧ Kd.R (Kd.int .u8) 5 w' w.heap.size (fun _ => True) v2_ r3 ∧ Kd.R k27 27 w' w.heap.size (fun _ => True) v3_ r4 ∧ Kd.R Kd.string 9 w' w.heap.size (fun _ => True) v4_ r5 ∧ Below w.heap.size w w' := by
 have hu27 := Tryd.underlying27
 have hu57 := Tryd.underlying57
 have hu75 := Tryd.underlying75
 have HB := Aside0.mk (Below.refl w.heap.size w)
 have H : ((qEA.f k a0 a1_0 a1_1 a1_2).bind fun bt437 => (if bt437.2.2.2 = true then ((qZ.f k bt437.1 bt437.2.1 bt437.2.2.1 a1_0 a1_1 a1_2).bind fun bt444 => (some (bt437.1, bt437.2.1, bt437.2.2.1, bt444.1, bt444.2.1, bt444.2.2))) else (some (bt437.1, bt437.2.1, bt437.2.2.1, ([] : List (S27)), ([] : List ByteArray), false)))) = some (r1, r2, r3, r4, r5, r6) := h
 clear h
 replace H := Option.bind_eq_some_iff.mp H
 obtain ⟨⟨t437, t438, t439, t442⟩, A30, H⟩ := H
 replace H : (if t442 = true then ((qZ.f k t437 t438 t439 a1_0 a1_1 a1_2).bind fun bt444 => (some (t437, t438, t439, bt444.1, bt444.2.1, bt444.2.2))) else (some (t437, t438, t439, ([] : List (S27)), ([] : List ByteArray), false))) = some (r1, r2, r3, r4, r5, r6) := H
 have A3 := Aside0.mk A30
 clear A30
 by_cases c4 : t442 = true
 ·subst c4
  have H1 : ((qZ.f k t437 t438 t439 a1_0 a1_1 a1_2).bind fun bt444 => (some (t437, t438, t439, bt444.1, bt444.2.1, bt444.2.2))) = some (r1, r2, r3, r4, r5, r6) := by rw [if_pos rfl] at H; exact H
  clear H
  have H := H1
  clear H1
  replace H := Option.bind_eq_some_iff.mp H
  obtain ⟨⟨t444, t447, t450⟩, A50, H⟩ := H
  replace H : (some (t437, t438, t439, t444, t447, t450)) = some (r1, r2, r3, r4, r5, r6) := H
  have A5 := Aside0.mk A50
  clear A50
  simp only [Option.some.injEq, Prod.mk.injEq] at H
  obtain ⟨rfl, rfl, rfl, rfl, rfl, rfl⟩ := H
  go_enter Tryd.func65, Tryd.ntmps65
  try go_wp2_with (first | ((with_reducible refine qV (N := 3) rfl ?_); refine qU ?hg (N := 3) ?hd (cs := #[.int .i64 a1_0, .int .i64 a1_1, .int .i64 a1_2]) (t := 27) ?hr ?_; (case hd => rfl); (case hg => rfl); (case hr => first | (go_simp; done) | (go_simp; rfl)); intro gb434 hg w6 hbox hb; have n0_ := Aside0.mk (qG bl hb); have n1_ := Aside0.mk (hbox); have n2_ := Aside0.mk ((gg hg)); have n3_ := Aside0.mk ((gg hg)); clear HB; have HB := n0_; have BK434 := n1_; have GW434 := n2_; have GE434 := n3_; clear n0_ n1_ n2_ n3_; clear hb hbox hg) | ((with_reducible refine qV (N := 4) rfl ?_); refine qU ?hg (N := 4) ?hd (cs := #[.int .i64 0, .int .i64 0, .slice none 0 0]) (t := 57) ?hr ?_; (case hd => rfl); (case hg => rfl); (case hr => first | (go_simp; done) | (go_simp; rfl)); intro gb435 hg w7 hbox hb; have n0_ := Aside0.mk (bb BK434 hb); have n1_ := Aside0.mk (qG bl hb); have n2_ := Aside0.mk (hbox); have n3_ := Aside0.mk ((gg hg)); have n4_ := Aside0.mk ((gg hg)); have n5_ := Aside0.mk ((nl BK434 hg)); have n6_ := Aside0.mk ((nr BK434 hg)); clear BK434; clear HB; have BK434 := n0_; have HB := n1_; have BK435 := n2_; have GW435 := n3_; have GE435 := n4_; have NB434_435 := n5_; have NB435_434 := n6_; clear n0_ n1_ n2_ n3_ n4_ n5_ n6_; clear hb hbox hg) | ((with_reducible refine qV (N := 5) rfl ?_); refine qU ?hg (N := 5) ?hd (cs := #[.slice none 0 0, .slice none 0 0]) (t := 75) ?hr ?_; (case hd => rfl); (case hg => rfl); (case hr => first | (go_simp; done) | (go_simp; rfl)); intro gb436 hg w8 hbox hb; have n0_ := Aside0.mk (bb BK434 hb); have n1_ := Aside0.mk (bb BK435 hb); have n2_ := Aside0.mk (qG bl hb); have n3_ := Aside0.mk (hbox); have n4_ := Aside0.mk ((gg hg)); have n5_ := Aside0.mk ((gg hg)); have n6_ := Aside0.mk ((nl BK434 hg)); have n7_ := Aside0.mk ((nr BK434 hg)); have n8_ := Aside0.mk ((nl BK435 hg)); have n9_ := Aside0.mk ((nr BK435 hg)); clear BK434; clear BK435; clear HB; have BK434 := n0_; have BK435 := n1_; have HB := n2_; have BK436 := n3_; have GW436 := n4_; have GE436 := n5_; have NB434_436 := n6_; have NB436_434 := n7_; have NB435_436 := n8_; have NB436_435 := n9_; clear n0_ n1_ n2_ n3_ n4_ n5_ n6_ n7_ n8_ n9_; clear hb hbox hg; have hnb9 := NB434_435.out; have hnc9 := NB435_434.out; have hnb10 := NB434_436.out; have hnc10 := NB436_434.out; have hcz11_0 := bc BK434 0; have hcz11_1 := bc BK434 1; have hcz11_2 := bc BK434 2; have hfz11_0 := qD BK434.out 0; have hfz11_1 := qD BK434.out 1; have hfz11_2 := qD BK434.out 2) | ((with_reducible refine qS (f := 57) rfl ?_); refine qq (some 14) rfl rfl Tryd.func57 (by kernel_rfl) rfl #[.string a0, .agg #[.int .i64 a1_0, .int .i64 a1_1, .int .i64 a1_2]] rfl (by (try simp only [List.map_toArray, List.map_cons, List.map_nil]); first | done | rfl | (simp only [List.length_drop, List.length_take]; rfl)) ?_; (with_reducible refine (qEA.calls k a0 a1_0 a1_1 a1_2 t437 t438 t439 true _ A3.out).mono ?_); rintro e w12 ⟨v440, rfl, ho0, hb⟩; refine ⟨_, rfl, ?_⟩; have n0_ := Aside0.mk (Kd.qBA ho0 (qg bl)); have n1_ := Aside0.mk (bb BK434 hb); have n2_ := Aside0.mk (bb BK435 hb); have n3_ := Aside0.mk (bb BK436 hb); have n4_ := Aside0.mk (qG bl hb); clear BK434; clear BK435; clear BK436; clear HB; have HO441 := n0_; have BK434 := n1_; have BK435 := n2_; have BK436 := n3_; have HB := n4_; clear n0_ n1_ n2_ n3_ n4_; (try clear hb); (try clear hb2); (try clear hk); (try clear hi); (try clear ho0)) | ((with_reducible refine qV (N := 7) rfl ?_); refine qU ?hg (N := 7) ?hd (cs := #[.int .i64 0, .int .i64 0, .slice none 0 0]) (t := 57) ?hr ?_; (case hd => rfl); (case hg => rfl); (case hr => first | (go_simp; done) | (go_simp; rfl)); intro gb443 hg w13 hbox hb; have n0_ := Aside0.mk (Kd.qY (by (with_reducible repeat (first | apply Kd.qF | apply Kd.qE | apply Kd.qI)); exact HO441.out) hb); have n1_ := Aside0.mk (bb BK434 hb); have n2_ := Aside0.mk (bb BK435 hb); have n3_ := Aside0.mk (bb BK436 hb); have n4_ := Aside0.mk (qG bl hb); have n5_ := Aside0.mk (hbox); have n6_ := Aside0.mk ((gg hg)); have n7_ := Aside0.mk ((gg hg)); have n8_ := Aside0.mk ((nl BK434 hg)); have n9_ := Aside0.mk ((nr BK434 hg)); have n10_ := Aside0.mk ((nl BK435 hg)); have n11_ := Aside0.mk ((nr BK435 hg)); have n12_ := Aside0.mk ((nl BK436 hg)); have n13_ := Aside0.mk ((nr BK436 hg)); clear HO441; clear BK434; clear BK435; clear BK436; clear HB; have HO441 := n0_; have BK434 := n1_; have BK435 := n2_; have BK436 := n3_; have HB := n4_; have BK443 := n5_; have GW443 := n6_; have GE443 := n7_; have NB434_443 := n8_; have NB443_434 := n9_; have NB435_443 := n10_; have NB443_435 := n11_; have NB436_443 := n12_; have NB443_436 := n13_; clear n0_ n1_ n2_ n3_ n4_ n5_ n6_ n7_ n8_ n9_ n10_ n11_ n12_ n13_; clear hb hbox hg; have hnb14 := NB443_434.out; have hnc14 := NB434_443.out; have hnb15 := NB443_435.out; have hnc15 := NB435_443.out; have hnb16 := NB443_436.out; have hnc16 := NB436_443.out; have hcz17_0 := bc BK443 0; have hcz17_1 := bc BK443 1; have hcz17_2 := bc BK443 2; have hfz17_0 := qD BK443.out 0; have hfz17_1 := qD BK443.out 1; have hfz17_2 := qD BK443.out 2; obtain ⟨Ao18, co18, eo18⟩ := Kd.qt HO441.out; subst eo18; have hcz19_0 := bc BK434 0; have hcz19_1 := bc BK434 1; have hcz19_2 := bc BK434 2; have hfz19_0 := qD BK434.out 0; have hfz19_1 := qD BK434.out 1; have hfz19_2 := qD BK434.out 2) | ((with_reducible refine qS (f := 90) rfl ?_); refine qq (some 24) rfl rfl Tryd.func90 (by kernel_rfl) rfl #[.agg #[.int .i64 t437, .int .i64 t438, .slice Ao18 t439.length co18], .agg #[.int .i64 a1_0, .int .i64 a1_1, .int .i64 a1_2]] rfl (by (try simp only [List.map_toArray, List.map_cons, List.map_nil]); first | done | rfl | (simp only [List.length_drop, List.length_take]; rfl)) ?_; (with_reducible refine (qZ.calls k t437 t438 _ _ t439 a1_0 a1_1 a1_2 t444 t447 t450 _ ?side1 ?side2 A5.out).mono ?_); (case side1 => refine (Kd.qf (e := 5) (base := w.heap.size) (ok := fun k_ => True) (n := t439.length) (c := co18) ?_).2.2; exact (by (with_reducible repeat (first | apply Kd.qF | apply Kd.qE | apply Kd.qI)); exact (Kd.qh (Kd.R_far (p := ⟨gb443, 2, none⟩) (Kd.R_far (p := ⟨gb443, 1, none⟩) (Kd.R_far (p := ⟨gb443, 0, none⟩) (Kd.qr HO441.out BK443.out (by decide)) (fun _ hk => hk.2) (.int .i64 t437)) (fun _ hk => hk.2) (.int .i64 t438)) (fun _ hk => hk.2) (.slice Ao18 t439.length co18)) (fun _ h_ => h_.1)))); (case side2 => exact (Kd.qf HO441.out).2.1); rintro e w20 ⟨v445, v448, rfl, ho0, ho1, hb⟩; refine ⟨_, rfl, ?_⟩; have n0_ := Aside0.mk (Kd.qY (by (with_reducible repeat (first | apply Kd.qF | apply Kd.qE | apply Kd.qI)); exact (Kd.qh (Kd.R_far (p := ⟨gb443, 2, none⟩) (Kd.R_far (p := ⟨gb443, 1, none⟩) (Kd.R_far (p := ⟨gb443, 0, none⟩) (Kd.qr HO441.out BK443.out (by decide)) (fun _ hk => hk.2) (.int .i64 t437)) (fun _ hk => hk.2) (.int .i64 t438)) (fun _ hk => hk.2) (.slice Ao18 t439.length co18)) (fun _ h_ => h_.1))) hb); have n1_ := Aside0.mk (Kd.qBA (Kd.qMB ho0 (g := gb434) (o := .cells #[.int .i64 a1_0, .int .i64 a1_1, .int .i64 a1_2] 27 (0, 0)) (by (with_reducible repeat (first | refine qB ?_ _ | refine qC ?_ | refine qA ?_ _)); refine qH ?_ NB434_443.out _; (with_reducible repeat (first | refine qB ?_ _ | refine qC ?_ | refine qA ?_ _)); refine qH ?_ NB434_443.out _; (with_reducible repeat (first | refine qB ?_ _ | refine qC ?_ | refine qA ?_ _)); refine qH ?_ NB434_443.out _; (with_reducible repeat (first | refine qB ?_ _ | refine qC ?_ | refine qA ?_ _)); exact BK434.out)) (qg bl)); have n2_ := Aside0.mk (Kd.qBA ho1 (qg bl)); have n3_ := Aside0.mk (ql (g := gb434) (o := .cells #[.int .i64 a1_0, .int .i64 a1_1, .int .i64 a1_2] 27 (0, 0)) (by (with_reducible repeat (first | refine qB ?_ _ | refine qC ?_ | refine qA ?_ _)); refine qH ?_ NB434_443.out _; (with_reducible repeat (first | refine qB ?_ _ | refine qC ?_ | refine qA ?_ _)); refine qH ?_ NB434_443.out _; (with_reducible repeat (first | refine qB ?_ _ | refine qC ?_ | refine qA ?_ _)); refine qH ?_ NB434_443.out _; (with_reducible repeat (first | refine qB ?_ _ | refine qC ?_ | refine qA ?_ _)); exact BK434.out) hb); have n4_ := Aside0.mk (ql (g := gb435) (o := .cells #[.int .i64 0, .int .i64 0, .slice none 0 0] 57 (0, 0)) (by (with_reducible repeat (first | refine qB ?_ _ | refine qC ?_ | refine qA ?_ _)); refine qH ?_ NB435_443.out _; (with_reducible repeat (first | refine qB ?_ _ | refine qC ?_ | refine qA ?_ _)); refine qH ?_ NB435_443.out _; (with_reducible repeat (first | refine qB ?_ _ | refine qC ?_ | refine qA ?_ _)); refine qH ?_ NB435_443.out _; (with_reducible repeat (first | refine qB ?_ _ | refine qC ?_ | refine qA ?_ _)); exact BK435.out) hb); have n5_ := Aside0.mk (ql (g := gb436) (o := .cells #[.slice none 0 0, .slice none 0 0] 75 (0, 0)) (by (with_reducible repeat (first | refine qB ?_ _ | refine qC ?_ | refine qA ?_ _)); refine qH ?_ NB436_443.out _; (with_reducible repeat (first | refine qB ?_ _ | refine qC ?_ | refine qA ?_ _)); refine qH ?_ NB436_443.out _; (with_reducible repeat (first | refine qB ?_ _ | refine qC ?_ | refine qA ?_ _)); refine qH ?_ NB436_443.out _; (with_reducible repeat (first | refine qB ?_ _ | refine qC ?_ | refine qA ?_ _)); exact BK436.out) hb); have n6_ := Aside0.mk (ql (g := gb443) (o := .cells #[.int .i64 t437, .int .i64 t438, .slice Ao18 t439.length co18] 57 (0, 0)) (by (with_reducible repeat (first | refine qB ?_ _ | refine qC ?_ | refine qA ?_ _)); refine qO (cs := #[.int .i64 t437, .int .i64 t438, .slice none 0 0]) ?_ 2 _ rfl; (with_reducible repeat (first | refine qB ?_ _ | refine qC ?_ | refine qA ?_ _)); refine qO (cs := #[.int .i64 t437, .int .i64 0, .slice none 0 0]) ?_ 1 _ rfl; (with_reducible repeat (first | refine qB ?_ _ | refine qC ?_ | refine qA ?_ _)); refine qO (cs := #[.int .i64 0, .int .i64 0, .slice none 0 0]) ?_ 0 _ rfl; (with_reducible repeat (first | refine qB ?_ _ | refine qC ?_ | refine qA ?_ _)); exact BK443.out) hb); have n7_ := Aside0.mk (qG bl hb); clear HO441; clear BK434; clear BK435; clear BK436; clear BK443; clear HB; have HO441 := n0_; have HO446 := n1_; have HO449 := n2_; have BK434 := n3_; have BK435 := n4_; have BK436 := n5_; have BK443 := n6_; have HB := n7_; clear n0_ n1_ n2_ n3_ n4_ n5_ n6_ n7_; (try clear hb); (try clear hb2); (try clear hk); (try clear hi); (try clear ho0); (try clear ho1)) | ((with_reducible refine qV (N := 9) rfl ?_); refine qU ?hg (N := 9) ?hd (cs := #[.slice none 0 0, .slice none 0 0]) (t := 75) ?hr ?_; (case hd => rfl); (case hg => rfl); (case hr => first | (go_simp; done) | (go_simp; rfl)); intro gb451 hg w21 hbox hb; have n0_ := Aside0.mk (Kd.qY (by (with_reducible repeat (first | apply Kd.qF | apply Kd.qE | apply Kd.qI)); exact HO441.out) hb); have n1_ := Aside0.mk (Kd.qY (by (with_reducible repeat (first | apply Kd.qF | apply Kd.qE | apply Kd.qI)); exact HO446.out) hb); have n2_ := Aside0.mk (Kd.qY (by (with_reducible repeat (first | apply Kd.qF | apply Kd.qE | apply Kd.qI)); exact HO449.out) hb); have n3_ := Aside0.mk (bb BK434 hb); have n4_ := Aside0.mk (bb BK435 hb); have n5_ := Aside0.mk (bb BK436 hb); have n6_ := Aside0.mk (bb BK443 hb); have n7_ := Aside0.mk (qG bl hb); have n8_ := Aside0.mk (hbox); have n9_ := Aside0.mk ((gg hg)); have n10_ := Aside0.mk ((gg hg)); have n11_ := Aside0.mk ((nl BK434 hg)); have n12_ := Aside0.mk ((nr BK434 hg)); have n13_ := Aside0.mk ((nl BK435 hg)); have n14_ := Aside0.mk ((nr BK435 hg)); have n15_ := Aside0.mk ((nl BK436 hg)); have n16_ := Aside0.mk ((nr BK436 hg)); have n17_ := Aside0.mk ((nl BK443 hg)); have n18_ := Aside0.mk ((nr BK443 hg)); clear HO441; clear HO446; clear HO449; clear BK434; clear BK435; clear BK436; clear BK443; clear HB; have HO441 := n0_; have HO446 := n1_; have HO449 := n2_; have BK434 := n3_; have BK435 := n4_; have BK436 := n5_; have BK443 := n6_; have HB := n7_; have BK451 := n8_; have GW451 := n9_; have GE451 := n10_; have NB434_451 := n11_; have NB451_434 := n12_; have NB435_451 := n13_; have NB451_435 := n14_; have NB436_451 := n15_; have NB451_436 := n16_; have NB443_451 := n17_; have NB451_443 := n18_; clear n0_ n1_ n2_ n3_ n4_ n5_ n6_ n7_ n8_ n9_ n10_ n11_ n12_ n13_ n14_ n15_ n16_ n17_ n18_; clear hb hbox hg; obtain ⟨Ao22, co22, eo22⟩ := Kd.qt HO446.out; subst eo22; have hnb23 := NB451_434.out; have hnc23 := NB434_451.out; have hnb24 := NB451_435.out; have hnc24 := NB435_451.out; have hnb25 := NB451_436.out; have hnc25 := NB436_451.out; have hnb26 := NB451_443.out; have hnc26 := NB443_451.out; have hcz27_0 := bc BK451 0; have hcz27_1 := bc BK451 1; have hfz27_0 := qD BK451.out 0; have hfz27_1 := qD BK451.out 1; obtain ⟨Ao28, co28, eo28⟩ := Kd.qt HO449.out; subst eo28))
  have n0_ : Aside0 (Kd.R (Kd.int .u8) 5 ((w21.setCell ⟨gb451, 0, none⟩ (.slice Ao22 t444.length co22)).setCell ⟨gb451, 1, none⟩ (.slice Ao28 t447.length co28)) w.heap.size (fun _ => True) (.slice Ao18 t439.length co18) t439) := ⟨by (with_reducible repeat (first | apply Kd.qF | apply Kd.qE | apply Kd.qI)); exact Kd.qh (Kd.R_far (p := ⟨gb451, 1, none⟩) (Kd.R_far (p := ⟨gb451, 0, none⟩) (Kd.qr HO441.out BK451.out (by decide)) (fun _ hk => hk.2) (.slice Ao22 t444.length co22)) (fun _ hk => hk.2) (.slice Ao28 t447.length co28)) (fun _ hk => trivial)⟩
  have n1_ : Aside0 (Kd.R k27 27 ((w21.setCell ⟨gb451, 0, none⟩ (.slice Ao22 t444.length co22)).setCell ⟨gb451, 1, none⟩ (.slice Ao28 t447.length co28)) w.heap.size (fun k_ => k_ ≠ gb434) (.slice Ao22 t444.length co22) t444) := ⟨by (with_reducible repeat (first | apply Kd.qF | apply Kd.qE | apply Kd.qI)); exact Kd.qh (Kd.R_far (p := ⟨gb451, 1, none⟩) (Kd.R_far (p := ⟨gb451, 0, none⟩) (Kd.qr HO446.out BK451.out (by decide)) (fun _ hk => hk.2) (.slice Ao22 t444.length co22)) (fun _ hk => hk.2) (.slice Ao28 t447.length co28)) (fun _ hk => hk.1.2)⟩
  have n2_ : Aside0 (Kd.R Kd.string 9 ((w21.setCell ⟨gb451, 0, none⟩ (.slice Ao22 t444.length co22)).setCell ⟨gb451, 1, none⟩ (.slice Ao28 t447.length co28)) w.heap.size (fun _ => True) (.slice Ao28 t447.length co28) t447) := ⟨by (with_reducible repeat (first | apply Kd.qF | apply Kd.qE | apply Kd.qI)); exact Kd.qh (Kd.R_far (p := ⟨gb451, 1, none⟩) (Kd.R_far (p := ⟨gb451, 0, none⟩) (Kd.qr HO449.out BK451.out (by decide)) (fun _ hk => hk.2) (.slice Ao22 t444.length co22)) (fun _ hk => hk.2) (.slice Ao28 t447.length co28)) (fun _ hk => trivial)⟩
  have n3_ : Aside0 (((w21.setCell ⟨gb451, 0, none⟩ (.slice Ao22 t444.length co22)).setCell ⟨gb451, 1, none⟩ (.slice Ao28 t447.length co28)).heap[gb434]? = some (.cells #[.int .i64 a1_0, .int .i64 a1_1, .int .i64 a1_2] 27 (0, 0))) := ⟨by (with_reducible repeat (first | refine qB ?_ _ | refine qC ?_ | refine qA ?_ _)); refine qH ?_ NB434_451.out _; (with_reducible repeat (first | refine qB ?_ _ | refine qC ?_ | refine qA ?_ _)); refine qH ?_ NB434_451.out _; (with_reducible repeat (first | refine qB ?_ _ | refine qC ?_ | refine qA ?_ _)); exact BK434.out⟩
  have n4_ : Aside0 (((w21.setCell ⟨gb451, 0, none⟩ (.slice Ao22 t444.length co22)).setCell ⟨gb451, 1, none⟩ (.slice Ao28 t447.length co28)).heap[gb435]? = some (.cells #[.int .i64 0, .int .i64 0, .slice none 0 0] 57 (0, 0))) := ⟨by (with_reducible repeat (first | refine qB ?_ _ | refine qC ?_ | refine qA ?_ _)); refine qH ?_ NB435_451.out _; (with_reducible repeat (first | refine qB ?_ _ | refine qC ?_ | refine qA ?_ _)); refine qH ?_ NB435_451.out _; (with_reducible repeat (first | refine qB ?_ _ | refine qC ?_ | refine qA ?_ _)); exact BK435.out⟩
  have n5_ : Aside0 (((w21.setCell ⟨gb451, 0, none⟩ (.slice Ao22 t444.length co22)).setCell ⟨gb451, 1, none⟩ (.slice Ao28 t447.length co28)).heap[gb436]? = some (.cells #[.slice none 0 0, .slice none 0 0] 75 (0, 0))) := ⟨by (with_reducible repeat (first | refine qB ?_ _ | refine qC ?_ | refine qA ?_ _)); refine qH ?_ NB436_451.out _; (with_reducible repeat (first | refine qB ?_ _ | refine qC ?_ | refine qA ?_ _)); refine qH ?_ NB436_451.out _; (with_reducible repeat (first | refine qB ?_ _ | refine qC ?_ | refine qA ?_ _)); exact BK436.out⟩
  have n6_ : Aside0 (((w21.setCell ⟨gb451, 0, none⟩ (.slice Ao22 t444.length co22)).setCell ⟨gb451, 1, none⟩ (.slice Ao28 t447.length co28)).heap[gb443]? = some (.cells #[.int .i64 t437, .int .i64 t438, .slice Ao18 t439.length co18] 57 (0, 0))) := ⟨by (with_reducible repeat (first | refine qB ?_ _ | refine qC ?_ | refine qA ?_ _)); refine qH ?_ NB443_451.out _; (with_reducible repeat (first | refine qB ?_ _ | refine qC ?_ | refine qA ?_ _)); refine qH ?_ NB443_451.out _; (with_reducible repeat (first | refine qB ?_ _ | refine qC ?_ | refine qA ?_ _)); exact BK443.out⟩
  have n7_ : Aside0 (((w21.setCell ⟨gb451, 0, none⟩ (.slice Ao22 t444.length co22)).setCell ⟨gb451, 1, none⟩ (.slice Ao28 t447.length co28)).heap[gb451]? = some (.cells #[.slice Ao22 t444.length co22, .slice Ao28 t447.length co28] 75 (0, 0))) := ⟨by (with_reducible repeat (first | refine qB ?_ _ | refine qC ?_ | refine qA ?_ _)); refine qO (cs := #[.slice Ao22 t444.length co22, .slice none 0 0]) ?_ 1 _ rfl; (with_reducible repeat (first | refine qB ?_ _ | refine qC ?_ | refine qA ?_ _)); refine qO (cs := #[.slice none 0 0, .slice none 0 0]) ?_ 0 _ rfl; (with_reducible repeat (first | refine qB ?_ _ | refine qC ?_ | refine qA ?_ _)); exact BK451.out⟩
  have n8_ : Aside0 (Below w.heap.size w ((w21.setCell ⟨gb451, 0, none⟩ (.slice Ao22 t444.length co22)).setCell ⟨gb451, 1, none⟩ (.slice Ao28 t447.length co28))) := ⟨bl⟩
  (try clear HO441)
  (try clear HO446)
  (try clear HO449)
  (try clear BK434)
  (try clear BK435)
  (try clear BK436)
  (try clear BK443)
  (try clear BK451)
  (try clear HB)
  generalize ((w21.setCell ⟨gb451, 0, none⟩ (.slice Ao22 t444.length co22)).setCell ⟨gb451, 1, none⟩ (.slice Ao28 t447.length co28)) = w29 at n0_ n1_ n2_ n3_ n4_ n5_ n6_ n7_ n8_ ⊢
  have HO441 := n0_
  have HO446 := n1_
  have HO449 := n2_
  have BK434 := n3_
  have BK435 := n4_
  have BK436 := n5_
  have BK443 := n6_
  have BK451 := n7_
  have HB := n8_
  clear n0_ n1_ n2_ n3_ n4_ n5_ n6_ n7_ n8_
  have n0_ := Aside0.mk (Kd.qI HO441.out)
  have n1_ := Aside0.mk (Kd.qI HO446.out)
  have n2_ := Aside0.mk (Kd.qI HO449.out)
  have n3_ := Aside0.mk (qC BK434.out)
  have n4_ := Aside0.mk (qC BK435.out)
  have n5_ := Aside0.mk (qC BK436.out)
  have n6_ := Aside0.mk (qC BK443.out)
  have n7_ := Aside0.mk (qC BK451.out)
  have n8_ := Aside0.mk (qn HB.out)
  clear HO441
  clear HO446
  clear HO449
  clear BK434
  clear BK435
  clear BK436
  clear BK443
  clear BK451
  clear HB
  have HO441 := n0_
  have HO446 := n1_
  have HO449 := n2_
  have BK434 := n3_
  have BK435 := n4_
  have BK436 := n5_
  have BK443 := n6_
  have BK451 := n7_
  have HB := n8_
  clear n0_ n1_ n2_ n3_ n4_ n5_ n6_ n7_ n8_
  refine qxA (n := 6) (S := fun w' => w'.cell? ⟨gb443, 0, none⟩ = some (.int .i64 t437) ∧ w'.cell? ⟨gb443, 1, none⟩ = some (.int .i64 t438) ∧ w'.cell? ⟨gb443, 2, none⟩ = some (.slice Ao18 t439.length co18) ∧ w'.cell? ⟨gb451, 0, none⟩ = some (.slice Ao22 t444.length co22) ∧ w'.cell? ⟨gb451, 1, none⟩ = some (.slice Ao28 t447.length co28)) (ds := []) #[false, false, false, false, false, false] (by kernel_rfl) rfl rfl ⟨(qK BK443.out 0).trans rfl, (qK BK443.out 1).trans rfl, (qK BK443.out 2).trans rfl, (qK BK451.out 0).trans rfl, (qK BK451.out 1).trans rfl⟩ (fun hHeld => ?_)
  generalize w29.drew = w30 at HO441 HO446 HO449 BK434 BK435 BK436 BK443 BK451 HB hHeld ⊢
  refine pure_ (i := 2) (N := some 29) (v := ?_) (a' := ?_) #[false, false, true, false, false, false] rfl rfl (by kernel_rfl) (fun _ _ _ h => h) (Or.inl ⟨by rfl, ?_⟩) ?_ ?_
  rotate_left
  ·intro w'
   go_simp
   first | (with_reducible rfl) | (rw [if_neg (by simp only [ByteArray.size_extract, ByteArray.size_append] at * <;> omega)]; try with_reducible rfl)
  rotate_left
  ·simp only [Act.put, List.setIfInBounds_toArray, List.set_cons_zero, List.set_cons_succ, i64_w, i32_w]
   rfl
  refine take_ (i := 0) (N := some 27) (v := ?_) (a' := ?_) #[true, false, true, false, false, false] rfl rfl (by kernel_rfl) (fun _ _ _ h => h) (Or.inl ⟨by rfl, ?_⟩) hHeld ?_ ?_
  rotate_left
  ·rintro w' ⟨s0, s1, s2, s3, s4⟩
   go_simp
   first | (with_reducible rfl) | (rw [if_neg (by simp only [ByteArray.size_extract, ByteArray.size_append] at * <;> omega)]; try with_reducible rfl)
  rotate_left
  ·simp only [Act.put, List.setIfInBounds_toArray, List.set_cons_zero, List.set_cons_succ, i64_w, i32_w]
   rfl
  refine take_ (i := 1) (N := some 28) (v := ?_) (a' := ?_) #[true, true, true, false, false, false] rfl rfl (by kernel_rfl) (fun _ _ _ h => h) (Or.inl ⟨by rfl, ?_⟩) hHeld ?_ ?_
  rotate_left
  ·rintro w' ⟨s0, s1, s2, s3, s4⟩
   go_simp
   first | (with_reducible rfl) | (rw [if_neg (by simp only [ByteArray.size_extract, ByteArray.size_append] at * <;> omega)]; try with_reducible rfl)
  rotate_left
  ·simp only [Act.put, List.setIfInBounds_toArray, List.set_cons_zero, List.set_cons_succ, i64_w, i32_w]
   rfl
  refine one_ (i := 3) (N := none) #[true, true, true, true, false, false] rfl rfl (by kernel_rfl) (by decide) (fun K hK => ?_)
  have hs31 : w30.cell? ⟨gb435, 0, none⟩ = some (.int .i64 0) := (qK BK435.out 0).trans rfl
  have hfs31 := qD BK435.out 0
  have hns31_0 := NB434_435.out
  have hns31_2 := NB436_435.out
  have hns31_3 := NB443_435.out
  have hns31_4 := NB451_435.out
  have hms31_0 := NB435_434.out
  have hms31_2 := NB435_436.out
  have hms31_3 := NB435_443.out
  have hms31_4 := NB435_451.out
  have hs32 : w30.cell? ⟨gb435, 1, none⟩ = some (.int .i64 0) := (qK BK435.out 1).trans rfl
  have hfs32 := qD BK435.out 1
  have hns32_0 := NB434_435.out
  have hns32_2 := NB436_435.out
  have hns32_3 := NB443_435.out
  have hns32_4 := NB451_435.out
  have hms32_0 := NB435_434.out
  have hms32_2 := NB435_436.out
  have hms32_3 := NB435_443.out
  have hms32_4 := NB435_451.out
  have hs33 : w30.cell? ⟨gb435, 2, none⟩ = some (.slice none 0 0) := (qK BK435.out 2).trans rfl
  have hfs33 := qD BK435.out 2
  have hns33_0 := NB434_435.out
  have hns33_2 := NB436_435.out
  have hns33_3 := NB443_435.out
  have hns33_4 := NB451_435.out
  have hms33_0 := NB435_434.out
  have hms33_2 := NB435_436.out
  have hms33_3 := NB435_443.out
  have hms33_4 := NB435_451.out
  refine skip_ (w1 := ?_) (by rfl) rfl ?_ ?_
  rotate_left
  ·go_simp
   rfl
  refine hK.out _ _ ⟨((qQ (p := ⟨gb435, _, none⟩) NB443_435.out _).trans (((qQ (p := ⟨gb435, _, none⟩) NB443_435.out _).trans (((qQ (p := ⟨gb435, _, none⟩) NB443_435.out _).trans (hHeld.1)))))), ((qQ (p := ⟨gb435, _, none⟩) NB443_435.out _).trans (((qQ (p := ⟨gb435, _, none⟩) NB443_435.out _).trans (((qQ (p := ⟨gb435, _, none⟩) NB443_435.out _).trans (hHeld.2.1)))))), ((qQ (p := ⟨gb435, _, none⟩) NB443_435.out _).trans (((qQ (p := ⟨gb435, _, none⟩) NB443_435.out _).trans (((qQ (p := ⟨gb435, _, none⟩) NB443_435.out _).trans (hHeld.2.2.1)))))), ((qQ (p := ⟨gb435, _, none⟩) NB451_435.out _).trans (((qQ (p := ⟨gb435, _, none⟩) NB451_435.out _).trans (((qQ (p := ⟨gb435, _, none⟩) NB451_435.out _).trans (hHeld.2.2.2.1)))))), ((qQ (p := ⟨gb435, _, none⟩) NB451_435.out _).trans (((qQ (p := ⟨gb435, _, none⟩) NB451_435.out _).trans (((qQ (p := ⟨gb435, _, none⟩) NB451_435.out _).trans (hHeld.2.2.2.2))))))⟩ (fun hHeld => ?_)
  clear hK K
  refine one_ (i := 4) (N := none) #[true, true, true, true, true, false] rfl rfl (by kernel_rfl) (by decide) (fun K hK => ?_)
  have hs34 : w30.cell? ⟨gb436, 0, none⟩ = some (.slice none 0 0) := (qK BK436.out 0).trans rfl
  have hfs34 := qD BK436.out 0
  have hns34_0 := NB434_436.out
  have hns34_1 := NB435_436.out
  have hns34_3 := NB443_436.out
  have hns34_4 := NB451_436.out
  have hms34_0 := NB436_434.out
  have hms34_1 := NB436_435.out
  have hms34_3 := NB436_443.out
  have hms34_4 := NB436_451.out
  have hs35 : w30.cell? ⟨gb436, 1, none⟩ = some (.slice none 0 0) := (qK BK436.out 1).trans rfl
  have hfs35 := qD BK436.out 1
  have hns35_0 := NB434_436.out
  have hns35_1 := NB435_436.out
  have hns35_3 := NB443_436.out
  have hns35_4 := NB451_436.out
  have hms35_0 := NB436_434.out
  have hms35_1 := NB436_435.out
  have hms35_3 := NB436_443.out
  have hms35_4 := NB436_451.out
  refine skip_ (w1 := ?_) (by rfl) rfl ?_ ?_
  rotate_left
  ·go_simp
   rfl
  refine hK.out _ _ ⟨((qQ (p := ⟨gb436, _, none⟩) NB443_436.out _).trans (((qQ (p := ⟨gb436, _, none⟩) NB443_436.out _).trans (hHeld.1)))), ((qQ (p := ⟨gb436, _, none⟩) NB443_436.out _).trans (((qQ (p := ⟨gb436, _, none⟩) NB443_436.out _).trans (hHeld.2.1)))), ((qQ (p := ⟨gb436, _, none⟩) NB443_436.out _).trans (((qQ (p := ⟨gb436, _, none⟩) NB443_436.out _).trans (hHeld.2.2.1)))), ((qQ (p := ⟨gb436, _, none⟩) NB451_436.out _).trans (((qQ (p := ⟨gb436, _, none⟩) NB451_436.out _).trans (hHeld.2.2.2.1)))), ((qQ (p := ⟨gb436, _, none⟩) NB451_436.out _).trans (((qQ (p := ⟨gb436, _, none⟩) NB451_436.out _).trans (hHeld.2.2.2.2))))⟩ (fun hHeld => ?_)
  clear hK K
  refine pure_ (i := 5) (N := some 6) (v := ?_) (a' := ?_) #[true, true, true, true, true, true] rfl rfl (by kernel_rfl) (fun _ _ _ h => h) (Or.inl ⟨by rfl, ?_⟩) ?_ ?_
  rotate_left
  ·intro w'
   go_simp
   first | (with_reducible rfl) | (rw [if_neg (by simp only [ByteArray.size_extract, ByteArray.size_append] at * <;> omega)]; try with_reducible rfl)
  rotate_left
  ·simp only [Act.put, List.setIfInBounds_toArray, List.set_cons_zero, List.set_cons_succ, i64_w, i32_w]
   rfl
  refine done_ (by kernel_rfl) ?_
  try go_wp2
  refine bodyPost_ret (results_list (rs := [.cell 4 57, .cell 5 75, .tmp 6]) rfl (by simp) (.cell gb435 57 #[.int .i64 t437, .int .i64 t438, .slice Ao18 t439.length co18] (0, 0) _ rfl (by (with_reducible repeat (first | refine qB ?_ _ | refine qC ?_ | refine qA ?_ _)); refine qH ?_ NB435_436.out _; (with_reducible repeat (first | refine qB ?_ _ | refine qC ?_ | refine qA ?_ _)); refine qH ?_ NB435_436.out _; (with_reducible repeat (first | refine qB ?_ _ | refine qC ?_ | refine qA ?_ _)); refine qO (cs := #[.int .i64 t437, .int .i64 t438, .slice none 0 0]) ?_ 2 _ rfl; (with_reducible repeat (first | refine qB ?_ _ | refine qC ?_ | refine qA ?_ _)); refine qO (cs := #[.int .i64 t437, .int .i64 0, .slice none 0 0]) ?_ 1 _ rfl; (with_reducible repeat (first | refine qB ?_ _ | refine qC ?_ | refine qA ?_ _)); refine qO (cs := #[.int .i64 0, .int .i64 0, .slice none 0 0]) ?_ 0 _ rfl; (with_reducible repeat (first | refine qB ?_ _ | refine qC ?_ | refine qA ?_ _)); exact BK435.out) Tryd.underlying57 rfl (by kernel_rfl) (.cell gb436 75 #[.slice Ao22 t444.length co22, .slice Ao28 t447.length co28] (0, 0) _ rfl (by (with_reducible repeat (first | refine qB ?_ _ | refine qC ?_ | refine qA ?_ _)); refine qO (cs := #[.slice Ao22 t444.length co22, .slice none 0 0]) ?_ 1 _ rfl; (with_reducible repeat (first | refine qB ?_ _ | refine qC ?_ | refine qA ?_ _)); refine qO (cs := #[.slice none 0 0, .slice none 0 0]) ?_ 0 _ rfl; (with_reducible repeat (first | refine qB ?_ _ | refine qC ?_ | refine qA ?_ _)); refine qH ?_ NB436_435.out _; (with_reducible repeat (first | refine qB ?_ _ | refine qC ?_ | refine qA ?_ _)); refine qH ?_ NB436_435.out _; (with_reducible repeat (first | refine qB ?_ _ | refine qC ?_ | refine qA ?_ _)); refine qH ?_ NB436_435.out _; (with_reducible repeat (first | refine qB ?_ _ | refine qC ?_ | refine qA ?_ _)); exact BK436.out) Tryd.underlying75 rfl (by kernel_rfl) (.tmp .nil)))) rfl ?_
  exact ⟨_, _, _, by first | rfl | (simp [qM, qL] <;> rfl) | (simp [*, qM, qL] <;> rfl), by (with_reducible repeat (first | apply Kd.qF | apply Kd.qE | apply Kd.qI)); exact Kd.qh (Kd.R_far (p := ⟨gb436, 1, none⟩) (Kd.R_far (p := ⟨gb436, 0, none⟩) (Kd.R_far (p := ⟨gb435, 2, none⟩) (Kd.R_far (p := ⟨gb435, 1, none⟩) (Kd.R_far (p := ⟨gb435, 0, none⟩) (Kd.qr (Kd.qr HO441.out BK435.out (by decide)) BK436.out (by decide)) (fun _ hk => hk.1.2) (.int .i64 t437)) (fun _ hk => hk.1.2) (.int .i64 t438)) (fun _ hk => hk.1.2) (.slice Ao18 t439.length co18)) (fun _ hk => hk.2) (.slice Ao22 t444.length co22)) (fun _ hk => hk.2) (.slice Ao28 t447.length co28)) (fun _ hk => trivial), by (with_reducible repeat (first | apply Kd.qF | apply Kd.qE | apply Kd.qI)); exact Kd.qh (Kd.R_far (p := ⟨gb436, 1, none⟩) (Kd.R_far (p := ⟨gb436, 0, none⟩) (Kd.R_far (p := ⟨gb435, 2, none⟩) (Kd.R_far (p := ⟨gb435, 1, none⟩) (Kd.R_far (p := ⟨gb435, 0, none⟩) (Kd.qr (Kd.qr HO446.out BK435.out (by decide)) BK436.out (by decide)) (fun _ hk => hk.1.2) (.int .i64 t437)) (fun _ hk => hk.1.2) (.int .i64 t438)) (fun _ hk => hk.1.2) (.slice Ao18 t439.length co18)) (fun _ hk => hk.2) (.slice Ao22 t444.length co22)) (fun _ hk => hk.2) (.slice Ao28 t447.length co28)) (fun _ hk => trivial), by (with_reducible repeat (first | apply Kd.qF | apply Kd.qE | apply Kd.qI)); exact Kd.qh (Kd.R_far (p := ⟨gb436, 1, none⟩) (Kd.R_far (p := ⟨gb436, 0, none⟩) (Kd.R_far (p := ⟨gb435, 2, none⟩) (Kd.R_far (p := ⟨gb435, 1, none⟩) (Kd.R_far (p := ⟨gb435, 0, none⟩) (Kd.qr (Kd.qr HO449.out BK435.out (by decide)) BK436.out (by decide)) (fun _ hk => hk.1.2) (.int .i64 t437)) (fun _ hk => hk.1.2) (.int .i64 t438)) (fun _ hk => hk.1.2) (.slice Ao18 t439.length co18)) (fun _ hk => hk.2) (.slice Ao22 t444.length co22)) (fun _ hk => hk.2) (.slice Ao28 t447.length co28)) (fun _ hk => trivial), bl⟩
 ·replace c4 := Bool.eq_false_iff.mpr c4
  subst c4
  have H1 : (some (t437, t438, t439, ([] : List (S27)), ([] : List ByteArray), false)) = some (r1, r2, r3, r4, r5, r6) := by rw [if_neg (show ¬ (false = true) by decide)] at H; exact H
  clear H
  have H := H1
  clear H1
  simp only [Option.some.injEq, Prod.mk.injEq] at H
  obtain ⟨rfl, rfl, rfl, rfl, rfl, rfl⟩ := H
  go_enter Tryd.func65, Tryd.ntmps65
  go_wp2_with (first | ((with_reducible refine qV (N := 3) rfl ?_); refine qU ?hg (N := 3) ?hd (cs := #[.int .i64 a1_0, .int .i64 a1_1, .int .i64 a1_2]) (t := 27) ?hr ?_; (case hd => rfl); (case hg => rfl); (case hr => first | (go_simp; done) | (go_simp; rfl)); intro gb434 hg w36 hbox hb; have n0_ := Aside0.mk (qG bl hb); have n1_ := Aside0.mk (hbox); have n2_ := Aside0.mk ((gg hg)); have n3_ := Aside0.mk ((gg hg)); clear HB; have HB := n0_; have BK434 := n1_; have GW434 := n2_; have GE434 := n3_; clear n0_ n1_ n2_ n3_; clear hb hbox hg) | ((with_reducible refine qV (N := 4) rfl ?_); refine qU ?hg (N := 4) ?hd (cs := #[.int .i64 0, .int .i64 0, .slice none 0 0]) (t := 57) ?hr ?_; (case hd => rfl); (case hg => rfl); (case hr => first | (go_simp; done) | (go_simp; rfl)); intro gb435 hg w37 hbox hb; have n0_ := Aside0.mk (bb BK434 hb); have n1_ := Aside0.mk (qG bl hb); have n2_ := Aside0.mk (hbox); have n3_ := Aside0.mk ((gg hg)); have n4_ := Aside0.mk ((gg hg)); have n5_ := Aside0.mk ((nl BK434 hg)); have n6_ := Aside0.mk ((nr BK434 hg)); clear BK434; clear HB; have BK434 := n0_; have HB := n1_; have BK435 := n2_; have GW435 := n3_; have GE435 := n4_; have NB434_435 := n5_; have NB435_434 := n6_; clear n0_ n1_ n2_ n3_ n4_ n5_ n6_; clear hb hbox hg) | ((with_reducible refine qV (N := 5) rfl ?_); refine qU ?hg (N := 5) ?hd (cs := #[.slice none 0 0, .slice none 0 0]) (t := 75) ?hr ?_; (case hd => rfl); (case hg => rfl); (case hr => first | (go_simp; done) | (go_simp; rfl)); intro gb436 hg w38 hbox hb; have n0_ := Aside0.mk (bb BK434 hb); have n1_ := Aside0.mk (bb BK435 hb); have n2_ := Aside0.mk (qG bl hb); have n3_ := Aside0.mk (hbox); have n4_ := Aside0.mk ((gg hg)); have n5_ := Aside0.mk ((gg hg)); have n6_ := Aside0.mk ((nl BK434 hg)); have n7_ := Aside0.mk ((nr BK434 hg)); have n8_ := Aside0.mk ((nl BK435 hg)); have n9_ := Aside0.mk ((nr BK435 hg)); clear BK434; clear BK435; clear HB; have BK434 := n0_; have BK435 := n1_; have HB := n2_; have BK436 := n3_; have GW436 := n4_; have GE436 := n5_; have NB434_436 := n6_; have NB436_434 := n7_; have NB435_436 := n8_; have NB436_435 := n9_; clear n0_ n1_ n2_ n3_ n4_ n5_ n6_ n7_ n8_ n9_; clear hb hbox hg; have hnb39 := NB434_435.out; have hnc39 := NB435_434.out; have hnb40 := NB434_436.out; have hnc40 := NB436_434.out; have hcz41_0 := bc BK434 0; have hcz41_1 := bc BK434 1; have hcz41_2 := bc BK434 2; have hfz41_0 := qD BK434.out 0; have hfz41_1 := qD BK434.out 1; have hfz41_2 := qD BK434.out 2) | ((with_reducible refine qS (f := 57) rfl ?_); refine qq (some 14) rfl rfl Tryd.func57 (by kernel_rfl) rfl #[.string a0, .agg #[.int .i64 a1_0, .int .i64 a1_1, .int .i64 a1_2]] rfl (by (try simp only [List.map_toArray, List.map_cons, List.map_nil]); first | done | rfl | (simp only [List.length_drop, List.length_take]; rfl)) ?_; (with_reducible refine (qEA.calls k a0 a1_0 a1_1 a1_2 t437 t438 t439 false _ A3.out).mono ?_); rintro e w42 ⟨v440, rfl, ho0, hb⟩; refine ⟨_, rfl, ?_⟩; have n0_ := Aside0.mk (Kd.qBA ho0 (qg bl)); have n1_ := Aside0.mk (bb BK434 hb); have n2_ := Aside0.mk (bb BK435 hb); have n3_ := Aside0.mk (bb BK436 hb); have n4_ := Aside0.mk (qG bl hb); clear BK434; clear BK435; clear BK436; clear HB; have HO441 := n0_; have BK434 := n1_; have BK435 := n2_; have BK436 := n3_; have HB := n4_; clear n0_ n1_ n2_ n3_ n4_; (try clear hb); (try clear hb2); (try clear hk); (try clear hi); (try clear ho0)) | ((with_reducible refine qV (N := 7) rfl ?_); refine qU ?hg (N := 7) ?hd (cs := #[.int .i64 0, .int .i64 0, .slice none 0 0]) (t := 57) ?hr ?_; (case hd => rfl); (case hg => rfl); (case hr => first | (go_simp; done) | (go_simp; rfl)); intro gb443 hg w43 hbox hb; have n0_ := Aside0.mk (Kd.qY (by (with_reducible repeat (first | apply Kd.qF | apply Kd.qE | apply Kd.qI)); exact HO441.out) hb); have n1_ := Aside0.mk (bb BK434 hb); have n2_ := Aside0.mk (bb BK435 hb); have n3_ := Aside0.mk (bb BK436 hb); have n4_ := Aside0.mk (qG bl hb); have n5_ := Aside0.mk (hbox); have n6_ := Aside0.mk ((gg hg)); have n7_ := Aside0.mk ((gg hg)); have n8_ := Aside0.mk ((nl BK434 hg)); have n9_ := Aside0.mk ((nr BK434 hg)); have n10_ := Aside0.mk ((nl BK435 hg)); have n11_ := Aside0.mk ((nr BK435 hg)); have n12_ := Aside0.mk ((nl BK436 hg)); have n13_ := Aside0.mk ((nr BK436 hg)); clear HO441; clear BK434; clear BK435; clear BK436; clear HB; have HO441 := n0_; have BK434 := n1_; have BK435 := n2_; have BK436 := n3_; have HB := n4_; have BK443 := n5_; have GW443 := n6_; have GE443 := n7_; have NB434_443 := n8_; have NB443_434 := n9_; have NB435_443 := n10_; have NB443_435 := n11_; have NB436_443 := n12_; have NB443_436 := n13_; clear n0_ n1_ n2_ n3_ n4_ n5_ n6_ n7_ n8_ n9_ n10_ n11_ n12_ n13_; clear hb hbox hg; have hnb44 := NB443_434.out; have hnc44 := NB434_443.out; have hnb45 := NB443_435.out; have hnc45 := NB435_443.out; have hnb46 := NB443_436.out; have hnc46 := NB436_443.out; have hcz47_0 := bc BK443 0; have hcz47_1 := bc BK443 1; have hcz47_2 := bc BK443 2; have hfz47_0 := qD BK443.out 0; have hfz47_1 := qD BK443.out 1; have hfz47_2 := qD BK443.out 2; obtain ⟨Ao48, co48, eo48⟩ := Kd.qt HO441.out; subst eo48; have hnb49 := NB435_436.out; have hnc49 := NB436_435.out; have hcz50_0 := bc BK435 0; have hcz50_1 := bc BK435 1; have hcz50_2 := bc BK435 2; have hfz50_0 := qD BK435.out 0; have hfz50_1 := qD BK435.out 1; have hfz50_2 := qD BK435.out 2; have hcz51_0 := bc BK436 0; have hcz51_1 := bc BK436 1; have hfz51_0 := qD BK436.out 0; have hfz51_1 := qD BK436.out 1))
  refine bodyPost_ret (results_list (rs := [.cell 4 57, .cell 5 75, .tmp 6]) rfl (by simp) (.cell gb435 57 #[.int .i64 t437, .int .i64 t438, .slice Ao48 t439.length co48] (0, 0) _ rfl (by (with_reducible repeat (first | refine qB ?_ _ | refine qC ?_ | refine qA ?_ _)); refine qH ?_ NB435_436.out _; (with_reducible repeat (first | refine qB ?_ _ | refine qC ?_ | refine qA ?_ _)); refine qH ?_ NB435_436.out _; (with_reducible repeat (first | refine qB ?_ _ | refine qC ?_ | refine qA ?_ _)); refine qO (cs := #[.int .i64 t437, .int .i64 t438, .slice none 0 0]) ?_ 2 _ rfl; (with_reducible repeat (first | refine qB ?_ _ | refine qC ?_ | refine qA ?_ _)); refine qO (cs := #[.int .i64 t437, .int .i64 0, .slice none 0 0]) ?_ 1 _ rfl; (with_reducible repeat (first | refine qB ?_ _ | refine qC ?_ | refine qA ?_ _)); refine qO (cs := #[.int .i64 0, .int .i64 0, .slice none 0 0]) ?_ 0 _ rfl; (with_reducible repeat (first | refine qB ?_ _ | refine qC ?_ | refine qA ?_ _)); refine qH ?_ NB435_443.out _; (with_reducible repeat (first | refine qB ?_ _ | refine qC ?_ | refine qA ?_ _)); refine qH ?_ NB435_443.out _; (with_reducible repeat (first | refine qB ?_ _ | refine qC ?_ | refine qA ?_ _)); refine qH ?_ NB435_443.out _; (with_reducible repeat (first | refine qB ?_ _ | refine qC ?_ | refine qA ?_ _)); exact BK435.out) Tryd.underlying57 rfl (by kernel_rfl) (.cell gb436 75 #[.slice none 0 0, .slice none 0 0] (0, 0) _ rfl (by (with_reducible repeat (first | refine qB ?_ _ | refine qC ?_ | refine qA ?_ _)); refine qO (cs := #[.slice none 0 0, .slice none 0 0]) ?_ 1 _ rfl; (with_reducible repeat (first | refine qB ?_ _ | refine qC ?_ | refine qA ?_ _)); refine qO (cs := #[.slice none 0 0, .slice none 0 0]) ?_ 0 _ rfl; (with_reducible repeat (first | refine qB ?_ _ | refine qC ?_ | refine qA ?_ _)); refine qH ?_ NB436_435.out _; (with_reducible repeat (first | refine qB ?_ _ | refine qC ?_ | refine qA ?_ _)); refine qH ?_ NB436_435.out _; (with_reducible repeat (first | refine qB ?_ _ | refine qC ?_ | refine qA ?_ _)); refine qH ?_ NB436_435.out _; (with_reducible repeat (first | refine qB ?_ _ | refine qC ?_ | refine qA ?_ _)); refine qH ?_ NB436_443.out _; (with_reducible repeat (first | refine qB ?_ _ | refine qC ?_ | refine qA ?_ _)); refine qH ?_ NB436_443.out _; (with_reducible repeat (first | refine qB ?_ _ | refine qC ?_ | refine qA ?_ _)); refine qH ?_ NB436_443.out _; (with_reducible repeat (first | refine qB ?_ _ | refine qC ?_ | refine qA ?_ _)); exact BK436.out) Tryd.underlying75 rfl (by kernel_rfl) (.tmp .nil)))) rfl ?_
  exact ⟨_, _, _, by first | rfl | (simp [qM, qL] <;> rfl) | (simp [*, qM, qL] <;> rfl), by (with_reducible repeat (first | apply Kd.qF | apply Kd.qE | apply Kd.qI)); exact Kd.qh (Kd.R_far (p := ⟨gb436, 1, none⟩) (Kd.R_far (p := ⟨gb436, 0, none⟩) (Kd.R_far (p := ⟨gb435, 2, none⟩) (Kd.R_far (p := ⟨gb435, 1, none⟩) (Kd.R_far (p := ⟨gb435, 0, none⟩) (Kd.R_far (p := ⟨gb443, 2, none⟩) (Kd.R_far (p := ⟨gb443, 1, none⟩) (Kd.R_far (p := ⟨gb443, 0, none⟩) (Kd.qr (Kd.qr (Kd.qr HO441.out BK443.out (by decide)) BK435.out (by decide)) BK436.out (by decide)) (fun _ hk => hk.1.1.2) (.int .i64 t437)) (fun _ hk => hk.1.1.2) (.int .i64 t438)) (fun _ hk => hk.1.1.2) (.slice Ao48 t439.length co48)) (fun _ hk => hk.1.2) (.int .i64 t437)) (fun _ hk => hk.1.2) (.int .i64 t438)) (fun _ hk => hk.1.2) (.slice Ao48 t439.length co48)) (fun _ hk => hk.2) (.slice none 0 0)) (fun _ hk => hk.2) (.slice none 0 0)) (fun _ hk => trivial), by first | exact Kd.R_nil _ _ _ _ _ | exact Kd.N_nil _ _ _ _ _ | exact Kd.V_nil _ _ _ _ _ | exact Kd.Q_nil _ _ _ _ _ | exact Kd.S_nil _ _ _ _ _, by first | exact Kd.R_nil _ _ _ _ _ | exact Kd.N_nil _ _ _ _ _ | exact Kd.V_nil _ _ _ _ _ | exact Kd.Q_nil _ _ _ _ _ | exact Kd.S_nil _ _ _ _ _, bl⟩
def qaA.f (a0_0 : Int) (a0_1 : Int) (a0_2 : Int) : Option (Int) := some (wrap64 ((wrap64 ((wrap64 ((wrap64 (a0_1 * 7)) + a0_0)) * 3)) + a0_2))
set_option maxHeartbeats 8000000 in
set_option maxRecDepth 100000 in
theorem qaA.calls (a0_0 : Int) (a0_1 : Int) (a0_2 : Int) (r : Int) (w : World) (h : qaA.f a0_0 a0_1 a0_2 = some r) :
  Calls Tryd.prog 95 #[.agg #[.int .i64 a0_0, .int .i64 a0_1, .int .i64 a0_2]] w fun e w' => e = .returned (.int .i64 r) ∧ Below w.heap.size w w' := by
 have hu27 := Tryd.underlying27
 have HB := Aside0.mk (Below.refl w.heap.size w)
 have H : (some (wrap64 ((wrap64 ((wrap64 ((wrap64 (a0_1 * 7)) + a0_0)) * 3)) + a0_2))) = some r := h
 clear h
 obtain rfl := Option.some.inj H
 go_enter Tryd.func95, Tryd.ntmps95
 go_wp2_with (first | ((with_reducible refine qV (N := 1) rfl ?_); refine qU ?hg (N := 1) ?hd (cs := #[.int .i64 a0_0, .int .i64 a0_1, .int .i64 a0_2]) (t := 27) ?hr ?_; (case hd => rfl); (case hg => rfl); (case hr => first | (go_simp; done) | (go_simp; rfl)); intro gb711 hg w2 hbox hb; have n0_ := Aside0.mk (qG bl hb); have n1_ := Aside0.mk (hbox); have n2_ := Aside0.mk ((gg hg)); have n3_ := Aside0.mk ((gg hg)); clear HB; have HB := n0_; have BK711 := n1_; have GW711 := n2_; have GE711 := n3_; clear n0_ n1_ n2_ n3_; clear hb hbox hg; have hcz3_0 := bc BK711 0; have hcz3_1 := bc BK711 1; have hcz3_2 := bc BK711 2; have hfz3_0 := qD BK711.out 0; have hfz3_1 := qD BK711.out 1; have hfz3_2 := qD BK711.out 2))
 go_ret
 exact ⟨by first | rfl | (simp [qM, qL] <;> rfl) | (simp [*, qM, qL] <;> rfl), bl⟩
def qeA.f (l0 : List Int) : Option (List Int) := (some (([] : List Int) : List Int)).bind fun y712 => (if y712.length + l0.length < 17592186044416 then (some (y712 ++ l0)) else (none))
set_option maxHeartbeats 8000000 in
set_option maxRecDepth 100000 in
theorem qeA.calls (A0 : Option Addr) (c0 : Nat) (l0 : List Int) (r : List Int) (w : World) (hr0 : Kd.C (Kd.int .i64) w A0 l0.length l0) (hc0 : l0.length ≤ c0) (h : qeA.f l0 = some r) :
  Calls Tryd.prog 96 #[.slice A0 l0.length c0] w fun e w' => ∃ v0_ : Value, e = .returned (v0_) ∧ Kd.R (Kd.int .i64) 3 w' w.heap.size (fun _ => True) v0_ r ∧ Below w.heap.size w w' := by
 have HR0 := Aside0.mk hr0
 have HC0 := Aside0.mk hc0
 clear hr0 hc0
 have HB := Aside0.mk (Below.refl w.heap.size w)
 have H : ((some (([] : List Int) : List Int)).bind fun y712 => (if y712.length + l0.length < 17592186044416 then (some (y712 ++ l0)) else (none))) = some r := h
 clear h
 obtain ⟨y712, hy712⟩ : ∃ y_ : List Int, y_ = (([] : List Int)) := ⟨_, rfl⟩
 replace H : (if y712.length + l0.length < 17592186044416 then (some (y712 ++ l0)) else (none)) = some r := by first | (rw [hy712]; with_reducible exact H) | (have H2_ := (Option.bind_some _ _).symm.trans H; rw [hy712]; with_reducible exact H2_) | (have H2_ := (Option.bind_some _ _).symm.trans H; with_reducible exact H2_) | with_reducible exact H | (rw [hy712]; exact H) | exact H
 have Ny712 := Aside0.mk hy712
 clear hy712
 by_cases c2 : y712.length + l0.length < 17592186044416
 ·rw [if_pos c2] at H
  have LMc2 := Aside0.mk c2
  clear c2
  obtain ⟨y715, hy715⟩ : ∃ y_ : List Int, y_ = (y712 ++ l0) := ⟨_, rfl⟩
  replace H : (some y715) = some r := by first | (rw [hy715]; with_reducible exact H) | (have H2_ := (Option.bind_some _ _).symm.trans H; rw [hy715]; with_reducible exact H2_) | (have H2_ := (Option.bind_some _ _).symm.trans H; with_reducible exact H2_) | with_reducible exact H | (rw [hy715]; exact H) | exact H
  have Ny715 := Aside0.mk hy715
  clear hy715
  obtain rfl := Option.some.inj H
  go_enter Tryd.func96, Tryd.ntmps96
  go_wp2_with (first | ((with_reducible refine qV (N := 3) rfl ?_); refine Kd.R_lit (Kd.int .i64) _ 3 ?hg (N := 3) ?hd (xs := ([] : List Int)) (inner := []) (ok := fun _ => True) (okp := fun _ => True) ?hr ?hp (fun _ hk => hk) trivial (Below.refl _ _) (Nat.le_refl _) (by simp) ?_; (case hd => rfl); (case hg => rfl); (case hr => first | (go_simp; done) | (go_simp; rfl)); (case hp => exact (Reps.none _ _)); intro v713 w3 ho4 hb hg_ hnew_; clear hg_ hnew_; (first | rw [← Ny712.out] at ho4 | (simp only [Int.reduceToNat] at ho4; rw [← Ny712.out] at ho4)); have n0_ := Aside0.mk (Kd.qBA ho4 (qg bl)); have n1_ := Aside0.mk (qG bl hb); clear HB; have HO714 := n0_; have HB := n1_; clear n0_ n1_; clear hb ho4) | ((with_reducible refine qkA (b := .append) (xs := #[.tmp 3, .tmp 4]) rfl ?_); at_builtin; refine Kd.qBB (Kd.int .i64) (w0 := w) w.heap.size rfl (.tmp 3) (.tmp 4) 45 3 (.int .i64 0) 8 rfl Tryd.underlying45 info3 rfl (by decide) (by omega) v713 y712 l0 _ _ _ (fun _ => True) (fun _ => False) rfl rfl ?aO ?aR (fun _ _ h => h) (fun _ h => h.elim) ?aF ?aB ?aS ?aL ?_; (case aR => repeat (first | exact (Kd.qUA HR0.out HB.out) | (with_reducible refine Kd.qHA ?_ _) | (with_reducible refine Kd.qGA ?_ _) | (with_reducible refine Kd.qNA ?_))); (case aB => exact bl); (case aF => exact (fun _ _ => trivial)); (case aO => exact (by (with_reducible repeat (first | apply Kd.qF | apply Kd.qE | apply Kd.qI)); exact HO714.out)); (case aS => exact (qg bl)); (case aL => have := LMc2.out; omega); intro v716 w5 ho hb hg hat; rw [← Ny715.out] at ho; have n0_ := Aside0.mk (hb); have n1_ := Aside0.mk (ho); clear HB; clear HO714; have HB := n0_; have HO717 := n1_; clear n0_ n1_; clear ho hb hg hat))
  go_ret
  exact ⟨_, by first | rfl | (simp [qM, qL] <;> rfl) | (simp [*, qM, qL] <;> rfl), by (with_reducible repeat (first | apply Kd.qF | apply Kd.qE | apply Kd.qI)); exact HO717.out, bl⟩
 ·rw [if_neg c2] at H
  exact absurd H (by simp)
mutual
def qa.l0 : Nat → List Int → List (S27) → Int → Int → List (S27) → List ByteArray → Option (List Int)
 | 0, _, _, _, _, _, _ => none
 | k + 1, x3, x9, x10, x11, x719000, x719001 => if x11 < x10 then (if 0 ≤ x11 then (if x11 < (x9.length : Int) then (qa.l1 k x3 x11 0 x9 x10 x11 x719000 x719001 ((qJ x9 x11).f0) ((qJ x9 x11).f1) ((qJ x9 x11).f2)) else (none)) else (none)) else (some x3)
def qa.l1 : Nat → List Int → Int → Int → List (S27) → Int → Int → List (S27) → List ByteArray → Int → Int → Int → Option (List Int)
 | 0, _, _, _, _, _, _, _, _, _, _, _ => none
 | k + 1, x3, x4, x6, x9, x10, x11, x719000, x719001, x721000, x721001, x721002 => if x6 < (x3.length : Int) then (if 0 ≤ x6 then (if 0 ≤ (rd x3 x6) then (if (rd x3 x6) < (x719000.length : Int) then ((qaA.f ((qJ x719000 (rd x3 x6)).f0) ((qJ x719000 (rd x3 x6)).f1) ((qJ x719000 (rd x3 x6)).f2)).bind fun t723 => ((qaA.f x721000 x721001 x721002).bind fun t724 => (if t723 < t724 then (qa.l1 k x3 x4 (wrap64 (x6 + 1)) x9 x10 x11 x719000 x719001 x721000 x721001 x721002) else (if x6 ≤ (x3.length : Int) then ((qeA.f (x3.take (x6 : Int).toNat)).bind fun t729 => (if t729.length < 17592186044416 then ((some (t729 ++ [x4] : List Int)).bind fun y732 => ((some (x3.drop (x6 : Int).toNat : List Int)).bind fun y735 => (if y732.length + y735.length < 17592186044416 then (qa.l0 k (y732 ++ y735) x9 x10 (wrap64 (x11 + 1)) x719000 x719001) else (none)))) else (none))) else (none))))) else (none)) else (none)) else (none)) else (if 0 ≤ x6 then (if x6 ≤ (x3.length : Int) then ((qeA.f (x3.take (x6 : Int).toNat)).bind fun t746 => (if t746.length < 17592186044416 then ((some (t746 ++ [x4] : List Int)).bind fun y749 => ((some (x3.drop (x6 : Int).toNat : List Int)).bind fun y752 => (if y749.length + y752.length < 17592186044416 then (qa.l0 k (y749 ++ y752) x9 x10 (wrap64 (x11 + 1)) x719000 x719001) else (none)))) else (none))) else (none)) else (none))
end
def qa.f (k : Nat) (l0_0 : List (S27)) (l0_1 : List ByteArray) : Option (List Int) := qa.l0 k ([] : List Int) l0_0 (l0_0.length : Int) 0 l0_0 l0_1
def qa.T6 : Bool × List (List Nat × List Nat) := (true, [([], []), ([], []), ([1], [1]), ([0, 2], [0, 2]), ([3], [3]), ([4], [4]), ([5, 4], [4, 5]), ([4], [4]), ([4], [4]), ([7, 8, 4], [4, 7, 8]), ([9, 4], [4, 9]), ([6, 10, 4], [4, 6, 10]), ([11, 4], [4, 11]), ([12, 4, 4], [4, 12]), ([4], [4]), ([14, 13, 4], [4, 14]), ([13, 15, 4], [4, 13, 15]), ([4, 16], [4, 16])])
def qa.B6 : List Nat := [0, 0, 2, 7, 15, 31, 63, 31, 31, 415, 927, 2047, 4095, 8191, 31, 32767, 65535, 131071]
theorem qa.tab6 : rtab .any (opsOf Tryd.f73 6) = qa.T6 := by kernel_rfl
theorem qa.bits6 : waitsOk qa.T6.2 qa.B6 = true := by kernel_rfl
set_option maxHeartbeats 8000000 in
set_option maxRecDepth 100000 in
theorem qa.calls (k : Nat) (A0_0 : Option Addr) (c0_0 : Nat) (l0_0 : List (S27)) (A0_1 : Option Addr) (c0_1 : Nat) (l0_1 : List ByteArray) (r : List Int) (w : World) (hr0_0 : Kd.C k27 w A0_0 l0_0.length l0_0) (hc0_0 : l0_0.length ≤ c0_0) (hr0_1 : Kd.C Kd.string w A0_1 l0_1.length l0_1) (hc0_1 : l0_1.length ≤ c0_1) (h : qa.f k l0_0 l0_1 = some r) :
  Calls Tryd.prog 73 #[.agg #[.slice A0_0 l0_0.length c0_0, .slice A0_1 l0_1.length c0_1]] w fun e w' => ∃ v0_ : Value, e = .returned (v0_) ∧ Kd.R (Kd.int .i64) 3 w' w.heap.size (fun _ => True) v0_ r ∧ Below w.heap.size w w' := by
 have hu75 := Tryd.underlying75
 have hu27 := Tryd.underlying27
 have HR0_0 := Aside0.mk hr0_0
 have HC0_0 := Aside0.mk hc0_0
 clear hr0_0 hc0_0
 have HR0_1 := Aside0.mk hr0_1
 have HC0_1 := Aside0.mk hc0_1
 clear hr0_1 hc0_1
 have HB := Aside0.mk (Below.refl w.heap.size w)
 have H : (qa.l0 k ([] : List Int) l0_0 (l0_0.length : Int) 0 l0_0 l0_1) = some r := h
 clear h
 have H' := Aside0.mk H
 clear H
 go_enter Tryd.func73, Tryd.ntmps73
 go_wp2_with (first | ((with_reducible refine qV (N := 1) rfl ?_); refine qU ?hg (N := 1) ?hd (cs := #[.slice A0_0 l0_0.length c0_0, .slice A0_1 l0_1.length c0_1]) (t := 75) ?hr ?_; (case hd => rfl); (case hg => rfl); (case hr => first | (go_simp; done) | (go_simp; rfl)); intro gb718 hg w2 hbox hb; have n0_ := Aside0.mk (qG bl hb); have n1_ := Aside0.mk (hbox); have n2_ := Aside0.mk ((gg hg)); have n3_ := Aside0.mk ((gg hg)); clear HB; have HB := n0_; have BK718 := n1_; have GW718 := n2_; have GE718 := n3_; clear n0_ n1_ n2_ n3_; clear hb hbox hg; have hcz3_0 := bc BK718 0; have hcz3_1 := bc BK718 1; have hfz3_0 := qD BK718.out 0; have hfz3_1 := qD BK718.out 1))
 go_loopg [3, 11] k (fun kq v3 v11 w' => ∃ (x3_1 : List Int) (x11_1 : Int), v11 = .int .i64 x11_1 ∧ Aside0 (qa.l0 kq x3_1 l0_0 (l0_0.length : Int) x11_1 l0_0 l0_1 = some r) ∧ Aside0 (kq ≤ k) ∧ Aside0 (Kd.R (Kd.int .i64) 3 w' w.heap.size (fun _ => True) v3 x3_1) ∧ Aside0 (w'.heap[gb718]? = some (.cells #[(.slice A0_0 l0_0.length c0_0), (.slice A0_1 l0_1.length c0_1)] 75 (0, 0))) ∧ Aside0 (Below w.heap.size w w'))
 case atStart => exact ⟨(([] : List Int)), (0), (by first | rfl | (simp; done) | (simp [*]; done)), H', ⟨Nat.le_refl _⟩, ⟨by first | exact Kd.R_nil _ _ _ _ _ | exact Kd.N_nil _ _ _ _ _ | exact Kd.V_nil _ _ _ _ _ | exact Kd.Q_nil _ _ _ _ _ | exact Kd.S_nil _ _ _ _ _⟩, ⟨by (with_reducible repeat (first | refine qB ?_ _ | refine qC ?_ | refine qA ?_ _)); exact BK718.out⟩, ⟨bl⟩⟩
 case round =>
  clear H'
  try clear p2
  try clear hcz3_0
  try clear hcz3_1
  try clear hfz3_0
  try clear hfz3_1
  obtain ⟨x3_1, x11_1, rfl, HA, HK1, HO_3, BK718, HB⟩ := hrel
  cases gk with
  | zero => exact absurd HA.out (by simp [qa.l0])
  | succ k1 =>
   have H := HA.out
   clear HA
   simp only [qa.l0] at H
   by_cases c4 : x11_1 < (l0_0.length : Int)
   ·rw [if_pos c4] at H
    have c4b0 : decide (x11_1 < (l0_0.length : Int)) = true := decide_eq_true c4
    clear c4
    by_cases c5 : 0 ≤ x11_1
    ·rw [if_pos c5] at H
     have c5b0 : decide (0 ≤ x11_1) = true := decide_eq_true c5
     clear c5
     by_cases c6 : x11_1 < (l0_0.length : Int)
     ·rw [if_pos c6] at H
      have c6b0 : decide (x11_1 < (l0_0.length : Int)) = true := decide_eq_true c6
      clear c6
      have H' := Aside0.mk H
      clear H
      have p719 : 0 ≤ (x11_1 : Int) := of_decide_eq_true (by first | (with_reducible assumption) | assumption)
      have q719 : x11_1 < (l0_0.length : Int) := of_decide_eq_true (by first | (with_reducible assumption) | assumption)
      obtain ⟨ad719, e719, hx719_0, hx719_1, hx719_2⟩ := qFB HR0_0.out x11_1 p719 q719
      cases e719
      replace hx719_0 := (HB.out.cell (World.block_lt_of_cell? w _ hx719_0)).trans hx719_0
      replace hx719_1 := (HB.out.cell (World.block_lt_of_cell? w _ hx719_1)).trans hx719_1
      replace hx719_2 := (HB.out.cell (World.block_lt_of_cell? w _ hx719_2)).trans hx719_2
      replace p719 := eq_true p719
      replace q719 := eq_true q719
      go_wp2_with (first | ((with_reducible refine qV (N := 5) rfl ?_); refine qU ?hg (N := 5) ?hd (cs := #[.int .i64 0, .int .i64 0, .int .i64 0]) (t := 27) ?hr ?_; (case hd => rfl); (case hg => rfl); (case hr => first | (go_simp; done) | (go_simp; rfl)); intro gb720 hg w7 hbox hb; have n0_ := Aside0.mk (Kd.qY (by (with_reducible repeat (first | apply Kd.qF | apply Kd.qE | apply Kd.qI)); exact HO_3.out) hb); have n1_ := Aside0.mk (bb BK718 hb); have n2_ := Aside0.mk (qG bl hb); have n3_ := Aside0.mk (hbox); have n4_ := Aside0.mk ((gg hg)); have n5_ := Aside0.mk ((gg hg)); have n6_ := Aside0.mk ((nl BK718 hg)); have n7_ := Aside0.mk ((nr BK718 hg)); clear HO_3; clear BK718; clear HB; have HO_3 := n0_; have BK718 := n1_; have HB := n2_; have BK720 := n3_; have GW720 := n4_; have GE720 := n5_; have NB718_720 := n6_; have NB720_718 := n7_; clear n0_ n1_ n2_ n3_ n4_ n5_ n6_ n7_; clear hb hbox hg; have hnb8 := NB720_718.out; have hnc8 := NB718_720.out; have hcz9_0 := bc BK720 0; have hcz9_1 := bc BK720 1; have hcz9_2 := bc BK720 2; have hfz9_0 := qD BK720.out 0; have hfz9_1 := qD BK720.out 1; have hfz9_2 := qD BK720.out 2))
      go_loopg [6] k1 (fun kq v6 w' => ∃ (x6_2 : Int), v6 = .int .i64 x6_2 ∧ Aside0 (qa.l1 kq x3_1 x11_1 x6_2 l0_0 (l0_0.length : Int) x11_1 l0_0 l0_1 ((qJ l0_0 x11_1).f0) ((qJ l0_0 x11_1).f1) ((qJ l0_0 x11_1).f2) = some r) ∧ Aside0 (kq ≤ k1) ∧ Aside0 (Kd.R (Kd.int .i64) 3 w' w.heap.size (fun _ => True) u3 x3_1) ∧ Aside0 (w'.heap[gb718]? = some (.cells #[(.slice (some ad719) l0_0.length c0_0), (.slice A0_1 l0_1.length c0_1)] 75 (0, 0))) ∧ Aside0 (w'.heap[gb720]? = some (.cells #[.int .i64 ((qJ l0_0 x11_1).f0), .int .i64 ((qJ l0_0 x11_1).f1), .int .i64 ((qJ l0_0 x11_1).f2)] 27 (0, 0))) ∧ Aside0 (Below w.heap.size w w'))
      case atStart => exact ⟨(0), (by first | rfl | (simp; done) | (simp [*]; done)), H', ⟨Nat.le_refl _⟩, ⟨by (with_reducible repeat (first | apply Kd.qF | apply Kd.qE | apply Kd.qI)); exact Kd.qh (Kd.R_far (p := ⟨gb720, 2, none⟩) (Kd.R_far (p := ⟨gb720, 1, none⟩) (Kd.R_far (p := ⟨gb720, 0, none⟩) (Kd.qr HO_3.out BK720.out (by decide)) (fun _ hk => hk.2) (.int .i64 ((qJ l0_0 x11_1).f0))) (fun _ hk => hk.2) (.int .i64 ((qJ l0_0 x11_1).f1))) (fun _ hk => hk.2) (.int .i64 ((qJ l0_0 x11_1).f2))) (fun _ hk => trivial)⟩, ⟨by (with_reducible repeat (first | refine qB ?_ _ | refine qC ?_ | refine qA ?_ _)); refine qH ?_ NB718_720.out _; (with_reducible repeat (first | refine qB ?_ _ | refine qC ?_ | refine qA ?_ _)); refine qH ?_ NB718_720.out _; (with_reducible repeat (first | refine qB ?_ _ | refine qC ?_ | refine qA ?_ _)); refine qH ?_ NB718_720.out _; (with_reducible repeat (first | refine qB ?_ _ | refine qC ?_ | refine qA ?_ _)); exact BK718.out⟩, ⟨by (with_reducible repeat (first | refine qB ?_ _ | refine qC ?_ | refine qA ?_ _)); refine qO (cs := #[.int .i64 ((qJ l0_0 x11_1).f0), .int .i64 ((qJ l0_0 x11_1).f1), .int .i64 0]) ?_ 2 _ rfl; (with_reducible repeat (first | refine qB ?_ _ | refine qC ?_ | refine qA ?_ _)); refine qO (cs := #[.int .i64 ((qJ l0_0 x11_1).f0), .int .i64 0, .int .i64 0]) ?_ 1 _ rfl; (with_reducible repeat (first | refine qB ?_ _ | refine qC ?_ | refine qA ?_ _)); refine qO (cs := #[.int .i64 0, .int .i64 0, .int .i64 0]) ?_ 0 _ rfl; (with_reducible repeat (first | refine qB ?_ _ | refine qC ?_ | refine qA ?_ _)); exact BK720.out⟩, ⟨bl⟩⟩
      case round =>
       clear H'
       try clear p2
       try clear c4
       try clear c4b0
       try clear c5
       try clear c5b0
       try clear c6
       try clear c6b0
       try clear c7
       try clear p7
       try clear q7
       try clear hx7
       try clear c8
       try clear hcz3_0
       try clear hcz3_1
       try clear hcz9_0
       try clear hcz9_1
       try clear hcz9_2
       try clear hfz3_0
       try clear hfz3_1
       try clear hfz9_0
       try clear hfz9_1
       try clear hfz9_2
       try clear hx719_0
       try clear hx719_1
       try clear hx719_2
       try clear p2
       try clear p719
       try clear q719
       obtain ⟨x6_2, rfl, HA, HK2, HO_3, BK718, BK720, HB⟩ := hrel
       cases gk with
       | zero => exact absurd HA.out (by simp [qa.l1])
       | succ k2 =>
        have H := HA.out
        clear HA
        simp only [qa.l1] at H
        by_cases c10 : x6_2 < (x3_1.length : Int)
        ·rw [if_pos c10] at H
         have c10b0 : decide (x6_2 < (x3_1.length : Int)) = true := decide_eq_true c10
         clear c10
         by_cases c11 : 0 ≤ x6_2
         ·rw [if_pos c11] at H
          have c11b0 : decide (0 ≤ x6_2) = true := decide_eq_true c11
          clear c11
          by_cases c12 : 0 ≤ (rd x3_1 x6_2)
          ·rw [if_pos c12] at H
           have c12b0 : decide (0 ≤ (rd x3_1 x6_2)) = true := decide_eq_true c12
           clear c12
           by_cases c13 : (rd x3_1 x6_2) < (l0_0.length : Int)
           ·rw [if_pos c13] at H
            have c13b0 : decide ((rd x3_1 x6_2) < (l0_0.length : Int)) = true := decide_eq_true c13
            clear c13
            replace H := Option.bind_eq_some_iff.mp H
            obtain ⟨t723, A140, H⟩ := H
            replace H : ((qaA.f ((qJ l0_0 x11_1).f0) ((qJ l0_0 x11_1).f1) ((qJ l0_0 x11_1).f2)).bind fun t724 => (if t723 < t724 then (qa.l1 k2 x3_1 x11_1 (wrap64 (x6_2 + 1)) l0_0 (l0_0.length : Int) x11_1 l0_0 l0_1 ((qJ l0_0 x11_1).f0) ((qJ l0_0 x11_1).f1) ((qJ l0_0 x11_1).f2)) else (if x6_2 ≤ (x3_1.length : Int) then ((qeA.f (x3_1.take (x6_2 : Int).toNat)).bind fun t729 => (if t729.length < 17592186044416 then ((some (t729 ++ [x11_1] : List Int)).bind fun y732 => ((some (x3_1.drop (x6_2 : Int).toNat : List Int)).bind fun y735 => (if y732.length + y735.length < 17592186044416 then (qa.l0 k2 (y732 ++ y735) l0_0 (l0_0.length : Int) (wrap64 (x11_1 + 1)) l0_0 l0_1) else (none)))) else (none))) else (none)))) = some r := H
            have A14 := Aside0.mk A140
            clear A140
            replace H := Option.bind_eq_some_iff.mp H
            obtain ⟨t724, A150, H⟩ := H
            replace H : (if t723 < t724 then (qa.l1 k2 x3_1 x11_1 (wrap64 (x6_2 + 1)) l0_0 (l0_0.length : Int) x11_1 l0_0 l0_1 ((qJ l0_0 x11_1).f0) ((qJ l0_0 x11_1).f1) ((qJ l0_0 x11_1).f2)) else (if x6_2 ≤ (x3_1.length : Int) then ((qeA.f (x3_1.take (x6_2 : Int).toNat)).bind fun t729 => (if t729.length < 17592186044416 then ((some (t729 ++ [x11_1] : List Int)).bind fun y732 => ((some (x3_1.drop (x6_2 : Int).toNat : List Int)).bind fun y735 => (if y732.length + y735.length < 17592186044416 then (qa.l0 k2 (y732 ++ y735) l0_0 (l0_0.length : Int) (wrap64 (x11_1 + 1)) l0_0 l0_1) else (none)))) else (none))) else (none))) = some r := H
            have A15 := Aside0.mk A150
            clear A150
            by_cases c16 : t723 < t724
            ·rw [if_pos c16] at H
             have c16b0 : decide (t723 < t724) = true := decide_eq_true c16
             clear c16
             have H' := Aside0.mk H
             clear H
             try go_wp2
             have n0_ := Aside0.mk (Kd.qI HO_3.out)
             have n1_ := Aside0.mk (qC BK718.out)
             have n2_ := Aside0.mk (qC BK720.out)
             have n3_ := Aside0.mk (qn HB.out)
             clear HO_3
             clear BK718
             clear BK720
             clear HB
             have HO_3 := n0_
             have BK718 := n1_
             have BK720 := n2_
             have HB := n3_
             clear n0_ n1_ n2_ n3_
             obtain ⟨Ao18, co18, eo18⟩ := Kd.qt HO_3.out
             (first | subst eo18 | (injection eo18 with f1_ f2_ f3_; have f4_ := f1_.symm; have f5_ := f3_.symm; clear f1_ f2_ f3_; subst f4_; subst f5_))
             have p721 : 0 ≤ (x6_2 : Int) := of_decide_eq_true (by first | (with_reducible assumption) | assumption)
             have q721 : x6_2 < (x3_1.length : Int) := of_decide_eq_true (by first | (with_reducible assumption) | assumption)
             obtain ⟨ad721, e721, hx721_0⟩ := Kd.qvA (Kd.qf HO_3.out).2.2 x6_2 p721 q721
             cases e721
             replace p721 := eq_true p721
             replace q721 := eq_true q721
             have p722 : 0 ≤ ((rd x3_1 x6_2) : Int) := of_decide_eq_true (by first | (with_reducible assumption) | assumption)
             have q722 : (rd x3_1 x6_2) < (l0_0.length : Int) := of_decide_eq_true (by first | (with_reducible assumption) | assumption)
             obtain ⟨ad722, e722, hx722_0, hx722_1, hx722_2⟩ := qFB HR0_0.out (rd x3_1 x6_2) p722 q722
             have hw722_2 := hx722_2
             have hw722_1 := hx722_1
             have hw722_0 := hx722_0
             obtain rfl : ad719 = ad722 := (by injection e722)
             replace hx722_0 := (HB.out.cell (World.block_lt_of_cell? w _ hx722_0)).trans hx722_0
             replace hx722_1 := (HB.out.cell (World.block_lt_of_cell? w _ hx722_1)).trans hx722_1
             replace hx722_2 := (HB.out.cell (World.block_lt_of_cell? w _ hx722_2)).trans hx722_2
             replace p722 := eq_true p722
             replace q722 := eq_true q722
             refine qxA (n := 18) (S := fun w' => w'.cell? ⟨gb718, 0, none⟩ = some (.slice (some ad719) l0_0.length c0_0) ∧ w'.cell? ⟨gb718, 1, none⟩ = some (.slice A0_1 l0_1.length c0_1) ∧ w'.cell? ⟨gb720, 0, none⟩ = some (.int .i64 ((qJ l0_0 x11_1).f0)) ∧ w'.cell? ⟨gb720, 1, none⟩ = some (.int .i64 ((qJ l0_0 x11_1).f1)) ∧ w'.cell? ⟨gb720, 2, none⟩ = some (.int .i64 ((qJ l0_0 x11_1).f2)) ∧ w'.cell? (ad721.add (x6_2).toNat) = some (.int .i64 (rd x3_1 x6_2)) ∧ w'.cell? (ad719.add (((rd x3_1 x6_2)).toNat * 3)) = some (.int .i64 ((qJ l0_0 (rd x3_1 x6_2)).f0)) ∧ w'.cell? ⟨(ad719.add (((rd x3_1 x6_2)).toNat * 3)).block, (ad719.add (((rd x3_1 x6_2)).toNat * 3)).off + 1, none⟩ = some (.int .i64 ((qJ l0_0 (rd x3_1 x6_2)).f1)) ∧ w'.cell? ⟨(ad719.add (((rd x3_1 x6_2)).toNat * 3)).block, (ad719.add (((rd x3_1 x6_2)).toNat * 3)).off + 2, none⟩ = some (.int .i64 ((qJ l0_0 (rd x3_1 x6_2)).f2))) (ds := []) #[false, false, false, false, false, false, false, false, false, false, false, false, false, false, false, false, false, false] (by kernel_rfl) rfl rfl ⟨(qK BK718.out 0).trans rfl, (qK BK718.out 1).trans rfl, (qK BK720.out 0).trans rfl, (qK BK720.out 1).trans rfl, (qK BK720.out 2).trans rfl, hx721_0, ((HB.out.cell (World.block_lt_of_cell? w _ hw722_0)).trans hw722_0), ((HB.out.cell (World.block_lt_of_cell? w _ hw722_1)).trans hw722_1), ((HB.out.cell (World.block_lt_of_cell? w _ hw722_2)).trans hw722_2)⟩ (fun hHeld => ?_); refine qTA qa.tab6 qa.bits6 (fun HT_ HW_ => ?_)
             generalize wr.drew = w17 at HO_3 BK718 BK720 HB hx721_0 hx722_0 hx722_1 hx722_2 hHeld ⊢
             refine pS (i := 0) (N := some 16) #[true, false, false, false, false, false, false, false, false, false, false, false, false, false, false, false, false, false] HT_ ?_
             refine pS (i := 1) (N := some 17) #[true, true, false, false, false, false, false, false, false, false, false, false, false, false, false, false, false, false] HT_ ?_
             refine pS (i := 2) (N := some 18) #[true, true, true, false, false, false, false, false, false, false, false, false, false, false, false, false, false, false] HT_ ?_
             refine pS (i := 3) (N := some 19) #[true, true, true, true, false, false, false, false, false, false, false, false, false, false, false, false, false, false] HT_ ?_
             refine pS (i := 4) (N := some 20) #[true, true, true, true, true, false, false, false, false, false, false, false, false, false, false, false, false, false] HT_ ?_
             refine pS (i := 5) (N := some 21) #[true, true, true, true, true, true, false, false, false, false, false, false, false, false, false, false, false, false] HT_ ?_
             refine pS (i := 7) (N := some 23) #[true, true, true, true, true, true, false, true, false, false, false, false, false, false, false, false, false, false] HT_ ?_
             refine pS (i := 8) (N := some 24) #[true, true, true, true, true, true, false, true, true, false, false, false, false, false, false, false, false, false] HT_ ?_
             refine pS (i := 9) (N := some 25) #[true, true, true, true, true, true, false, true, true, true, false, false, false, false, false, false, false, false] HT_ ?_
             refine tS (i := 6) (N := some 22) #[true, true, true, true, true, true, true, true, true, true, false, false, false, false, false, false, false, false] HT_ HW_ hHeld ?_
             refine tS (i := 10) (N := some 26) #[true, true, true, true, true, true, true, true, true, true, true, false, false, false, false, false, false, false] HT_ HW_ hHeld ?_
             refine pS (i := 11) (N := some 27) #[true, true, true, true, true, true, true, true, true, true, true, true, false, false, false, false, false, false] HT_ ?_
             refine tS (i := 12) (N := some 28) #[true, true, true, true, true, true, true, true, true, true, true, true, true, false, false, false, false, false] HT_ HW_ hHeld ?_
             refine tS (i := 14) (N := some 30) #[true, true, true, true, true, true, true, true, true, true, true, true, true, false, true, false, false, false] HT_ HW_ hHeld ?_
             refine one_ (i := 13) (N := some 29) #[true, true, true, true, true, true, true, true, true, true, true, true, true, true, true, false, false, false] rfl rfl (qPA HT_.out (by kernel_rfl)) (by decide) (fun K hK => ?_)
             refine goes_ Tryd.func95 (by kernel_rfl) rfl #[.agg #[.int .i64 ((qJ l0_0 (rd x3_1 x6_2)).f0), .int .i64 ((qJ l0_0 (rd x3_1 x6_2)).f1), .int .i64 ((qJ l0_0 (rd x3_1 x6_2)).f2)]] (by rfl) rfl rfl (by (try simp only [List.map_toArray, List.map_cons, List.map_nil]); first | done | rfl | (simp only [List.length_drop, List.length_take]; rfl)) ?_
             with_reducible refine (qaA.calls ((qJ l0_0 (rd x3_1 x6_2)).f0) ((qJ l0_0 (rd x3_1 x6_2)).f1) ((qJ l0_0 (rd x3_1 x6_2)).f2) t723 _ A14.out).mono ?_
             rintro e w19 ⟨rfl, hb⟩
             have HS5_ := (hb.cell (World.block_lt_of_cell? _ _ (hHeld.2.2.2.2.2.1))).trans (hHeld.2.2.2.2.2.1)
             refine ⟨_, rfl, ?_⟩
             have n0_ := Aside0.mk (Kd.qY (by (with_reducible repeat (first | apply Kd.qF | apply Kd.qE | apply Kd.qI)); exact HO_3.out) hb)
             have n1_ := Aside0.mk (bb BK718 hb)
             have n2_ := Aside0.mk (bb BK720 hb)
             have n3_ := Aside0.mk (qG bl hb)
             clear HO_3
             clear BK718
             clear BK720
             clear HB
             have HO_3 := n0_
             have BK718 := n1_
             have BK720 := n2_
             have HB := n3_
             clear n0_ n1_ n2_ n3_
             (try clear hb)
             (try clear hb2)
             (try clear hk)
             (try clear hi)
             refine hK.out _ _ ⟨(qK BK718.out 0).trans rfl, (qK BK718.out 1).trans rfl, (qK BK720.out 0).trans rfl, (qK BK720.out 1).trans rfl, (qK BK720.out 2).trans rfl, HS5_, ((HB.out.cell (World.block_lt_of_cell? w _ hw722_0)).trans hw722_0), ((HB.out.cell (World.block_lt_of_cell? w _ hw722_1)).trans hw722_1), ((HB.out.cell (World.block_lt_of_cell? w _ hw722_2)).trans hw722_2)⟩ (fun hHeld => ?_)
             clear hK K
             refine norm_ (a' := ?_) ?_ ?_
             rotate_left
             ·show Act.put _ (some 29) _ = _
              simp only [Act.put, List.setIfInBounds_toArray, List.set_cons_zero, List.set_cons_succ, i64_w, i32_w]
              rfl
             refine one_ (i := 15) (N := some 31) #[true, true, true, true, true, true, true, true, true, true, true, true, true, true, true, true, false, false] rfl rfl (qPA HT_.out (by kernel_rfl)) (by decide) (fun K hK => ?_)
             refine goes_ Tryd.func95 (by kernel_rfl) rfl #[.agg #[.int .i64 ((qJ l0_0 x11_1).f0), .int .i64 ((qJ l0_0 x11_1).f1), .int .i64 ((qJ l0_0 x11_1).f2)]] (by rfl) rfl rfl (by (try simp only [List.map_toArray, List.map_cons, List.map_nil]); first | done | rfl | (simp only [List.length_drop, List.length_take]; rfl)) ?_
             with_reducible refine (qaA.calls ((qJ l0_0 x11_1).f0) ((qJ l0_0 x11_1).f1) ((qJ l0_0 x11_1).f2) t724 _ A15.out).mono ?_
             rintro e w20 ⟨rfl, hb⟩
             have HS5_ := (hb.cell (World.block_lt_of_cell? _ _ (hHeld.2.2.2.2.2.1))).trans (hHeld.2.2.2.2.2.1)
             refine ⟨_, rfl, ?_⟩
             have n0_ := Aside0.mk (Kd.qY (by (with_reducible repeat (first | apply Kd.qF | apply Kd.qE | apply Kd.qI)); exact HO_3.out) hb)
             have n1_ := Aside0.mk (bb BK718 hb)
             have n2_ := Aside0.mk (bb BK720 hb)
             have n3_ := Aside0.mk (qG bl hb)
             clear HO_3
             clear BK718
             clear BK720
             clear HB
             have HO_3 := n0_
             have BK718 := n1_
             have BK720 := n2_
             have HB := n3_
             clear n0_ n1_ n2_ n3_
             (try clear hb)
             (try clear hb2)
             (try clear hk)
             (try clear hi)
             refine hK.out _ _ ⟨(qK BK718.out 0).trans rfl, (qK BK718.out 1).trans rfl, (qK BK720.out 0).trans rfl, (qK BK720.out 1).trans rfl, (qK BK720.out 2).trans rfl, HS5_, ((HB.out.cell (World.block_lt_of_cell? w _ hw722_0)).trans hw722_0), ((HB.out.cell (World.block_lt_of_cell? w _ hw722_1)).trans hw722_1), ((HB.out.cell (World.block_lt_of_cell? w _ hw722_2)).trans hw722_2)⟩ (fun hHeld => ?_)
             clear hK K
             refine norm_ (a' := ?_) ?_ ?_
             rotate_left
             ·show Act.put _ (some 31) _ = _
              simp only [Act.put, List.setIfInBounds_toArray, List.set_cons_zero, List.set_cons_succ, i64_w, i32_w]
              rfl
             refine pS (i := 16) (N := some 32) #[true, true, true, true, true, true, true, true, true, true, true, true, true, true, true, true, true, false] HT_ ?_
             refine pS (i := 17) (N := some 33) #[true, true, true, true, true, true, true, true, true, true, true, true, true, true, true, true, true, true] HT_ ?_
             refine done_ (qpA HT_.out (by kernel_rfl)) ?_
             try go_wp2
             go_roundg k2
             case measure => have := HK1.out; have := HK2.out; omega
             case rel => exact ⟨(wrap64 (x6_2 + 1)), (by first | rfl | (simp; done) | (simp [*]; done)), H', ⟨by have := HK1.out; have := HK2.out; omega⟩, ⟨by (with_reducible repeat (first | apply Kd.qF | apply Kd.qE | apply Kd.qI)); exact HO_3.out⟩, ⟨by (with_reducible repeat (first | refine qB ?_ _ | refine qC ?_ | refine qA ?_ _)); exact BK718.out⟩, ⟨by (with_reducible repeat (first | refine qB ?_ _ | refine qC ?_ | refine qA ?_ _)); exact BK720.out⟩, ⟨bl⟩⟩
            ·rw [if_neg c16] at H
             have c16b0 : decide (t723 < t724) = false := decide_eq_false c16
             clear c16
             have c21b0 := eq_true (of_decide_eq_true (by first | (with_reducible assumption) | assumption) : 0 ≤ x6_2)
             by_cases c22 : x6_2 ≤ (x3_1.length : Int)
             ·rw [if_pos c22] at H
              have c22b0 := eq_true c22
              have c22b1 : decide (x6_2 ≤ (x3_1.length : Int)) = true := decide_eq_true c22
              clear c22
              obtain ⟨y725, hy725⟩ : ∃ y_ : List Int, y_ = (x3_1.take (x6_2 : Int).toNat) := ⟨_, rfl⟩
              replace H : ((qeA.f y725).bind fun t729 => (if t729.length < 17592186044416 then ((some (t729 ++ [x11_1] : List Int)).bind fun y732 => ((some (x3_1.drop (x6_2 : Int).toNat : List Int)).bind fun y735 => (if y732.length + y735.length < 17592186044416 then (qa.l0 k2 (y732 ++ y735) l0_0 (l0_0.length : Int) (wrap64 (x11_1 + 1)) l0_0 l0_1) else (none)))) else (none))) = some r := by first | (rw [hy725]; with_reducible exact H) | (have H2_ := (Option.bind_some _ _).symm.trans H; rw [hy725]; with_reducible exact H2_) | (have H2_ := (Option.bind_some _ _).symm.trans H; with_reducible exact H2_) | with_reducible exact H | (rw [hy725]; exact H) | exact H
              have Ny725 := Aside0.mk hy725
              clear hy725
              replace H := Option.bind_eq_some_iff.mp H
              obtain ⟨t729, A230, H⟩ := H
              replace H : (if t729.length < 17592186044416 then ((some (t729 ++ [x11_1] : List Int)).bind fun y732 => ((some (x3_1.drop (x6_2 : Int).toNat : List Int)).bind fun y735 => (if y732.length + y735.length < 17592186044416 then (qa.l0 k2 (y732 ++ y735) l0_0 (l0_0.length : Int) (wrap64 (x11_1 + 1)) l0_0 l0_1) else (none)))) else (none)) = some r := H
              have A23 := Aside0.mk A230
              clear A230
              by_cases c24 : t729.length < 17592186044416
              ·rw [if_pos c24] at H
               have LMc24 := Aside0.mk c24
               clear c24
               obtain ⟨y732, hy732⟩ : ∃ y_ : List Int, y_ = (t729 ++ [x11_1]) := ⟨_, rfl⟩
               replace H : ((some (x3_1.drop (x6_2 : Int).toNat : List Int)).bind fun y735 => (if y732.length + y735.length < 17592186044416 then (qa.l0 k2 (y732 ++ y735) l0_0 (l0_0.length : Int) (wrap64 (x11_1 + 1)) l0_0 l0_1) else (none))) = some r := by first | (rw [hy732]; with_reducible exact H) | (have H2_ := (Option.bind_some _ _).symm.trans H; rw [hy732]; with_reducible exact H2_) | (have H2_ := (Option.bind_some _ _).symm.trans H; with_reducible exact H2_) | with_reducible exact H | (rw [hy732]; exact H) | exact H
               have Ny732 := Aside0.mk hy732
               clear hy732
               have c25b0 := eq_true (of_decide_eq_true (by first | (with_reducible assumption) | assumption) : 0 ≤ x6_2)
               have c26b0 := eq_true (of_decide_eq_true (by first | (with_reducible assumption) | assumption) : x6_2 ≤ (x3_1.length : Int))
               obtain ⟨y735, hy735⟩ : ∃ y_ : List Int, y_ = (x3_1.drop (x6_2 : Int).toNat) := ⟨_, rfl⟩
               replace H : (if y732.length + y735.length < 17592186044416 then (qa.l0 k2 (y732 ++ y735) l0_0 (l0_0.length : Int) (wrap64 (x11_1 + 1)) l0_0 l0_1) else (none)) = some r := by first | (rw [hy735]; with_reducible exact H) | (have H2_ := (Option.bind_some _ _).symm.trans H; rw [hy735]; with_reducible exact H2_) | (have H2_ := (Option.bind_some _ _).symm.trans H; with_reducible exact H2_) | with_reducible exact H | (rw [hy735]; exact H) | exact H
               have Ny735 := Aside0.mk hy735
               clear hy735
               by_cases c27 : y732.length + y735.length < 17592186044416
               ·rw [if_pos c27] at H
                have LMc27 := Aside0.mk c27
                clear c27
                obtain ⟨y739, hy739⟩ : ∃ y_ : List Int, y_ = (y732 ++ y735) := ⟨_, rfl⟩
                replace H : (qa.l0 k2 y739 l0_0 (l0_0.length : Int) (wrap64 (x11_1 + 1)) l0_0 l0_1) = some r := by first | (rw [hy739]; with_reducible exact H) | (have H2_ := (Option.bind_some _ _).symm.trans H; rw [hy739]; with_reducible exact H2_) | (have H2_ := (Option.bind_some _ _).symm.trans H; with_reducible exact H2_) | with_reducible exact H | (rw [hy739]; exact H) | exact H
                have Ny739 := Aside0.mk hy739
                clear hy739
                have H' := Aside0.mk H
                clear H
                try go_wp2
                have n0_ := Aside0.mk (Kd.qI HO_3.out)
                have n1_ := Aside0.mk (qC BK718.out)
                have n2_ := Aside0.mk (qC BK720.out)
                have n3_ := Aside0.mk (qn HB.out)
                clear HO_3
                clear BK718
                clear BK720
                clear HB
                have HO_3 := n0_
                have BK718 := n1_
                have BK720 := n2_
                have HB := n3_
                clear n0_ n1_ n2_ n3_
                obtain ⟨Ao29, co29, eo29⟩ := Kd.qt HO_3.out
                (first | subst eo29 | (injection eo29 with f1_ f2_ f3_; have f4_ := f1_.symm; have f5_ := f3_.symm; clear f1_ f2_ f3_; subst f4_; subst f5_))
                have p721 : 0 ≤ (x6_2 : Int) := of_decide_eq_true (by first | (with_reducible assumption) | assumption)
                have q721 : x6_2 < (x3_1.length : Int) := of_decide_eq_true (by first | (with_reducible assumption) | assumption)
                obtain ⟨ad721, e721, hx721_0⟩ := Kd.qvA (Kd.qf HO_3.out).2.2 x6_2 p721 q721
                cases e721
                replace p721 := eq_true p721
                replace q721 := eq_true q721
                have p722 : 0 ≤ ((rd x3_1 x6_2) : Int) := of_decide_eq_true (by first | (with_reducible assumption) | assumption)
                have q722 : (rd x3_1 x6_2) < (l0_0.length : Int) := of_decide_eq_true (by first | (with_reducible assumption) | assumption)
                obtain ⟨ad722, e722, hx722_0, hx722_1, hx722_2⟩ := qFB HR0_0.out (rd x3_1 x6_2) p722 q722
                have hw722_2 := hx722_2
                have hw722_1 := hx722_1
                have hw722_0 := hx722_0
                obtain rfl : ad719 = ad722 := (by injection e722)
                replace hx722_0 := (HB.out.cell (World.block_lt_of_cell? w _ hx722_0)).trans hx722_0
                replace hx722_1 := (HB.out.cell (World.block_lt_of_cell? w _ hx722_1)).trans hx722_1
                replace hx722_2 := (HB.out.cell (World.block_lt_of_cell? w _ hx722_2)).trans hx722_2
                replace p722 := eq_true p722
                replace q722 := eq_true q722
                refine qxA (n := 18) (S := fun w' => w'.cell? ⟨gb718, 0, none⟩ = some (.slice (some ad719) l0_0.length c0_0) ∧ w'.cell? ⟨gb718, 1, none⟩ = some (.slice A0_1 l0_1.length c0_1) ∧ w'.cell? ⟨gb720, 0, none⟩ = some (.int .i64 ((qJ l0_0 x11_1).f0)) ∧ w'.cell? ⟨gb720, 1, none⟩ = some (.int .i64 ((qJ l0_0 x11_1).f1)) ∧ w'.cell? ⟨gb720, 2, none⟩ = some (.int .i64 ((qJ l0_0 x11_1).f2)) ∧ w'.cell? (ad721.add (x6_2).toNat) = some (.int .i64 (rd x3_1 x6_2)) ∧ w'.cell? (ad719.add (((rd x3_1 x6_2)).toNat * 3)) = some (.int .i64 ((qJ l0_0 (rd x3_1 x6_2)).f0)) ∧ w'.cell? ⟨(ad719.add (((rd x3_1 x6_2)).toNat * 3)).block, (ad719.add (((rd x3_1 x6_2)).toNat * 3)).off + 1, none⟩ = some (.int .i64 ((qJ l0_0 (rd x3_1 x6_2)).f1)) ∧ w'.cell? ⟨(ad719.add (((rd x3_1 x6_2)).toNat * 3)).block, (ad719.add (((rd x3_1 x6_2)).toNat * 3)).off + 2, none⟩ = some (.int .i64 ((qJ l0_0 (rd x3_1 x6_2)).f2))) (ds := []) #[false, false, false, false, false, false, false, false, false, false, false, false, false, false, false, false, false, false] (by kernel_rfl) rfl rfl ⟨(qK BK718.out 0).trans rfl, (qK BK718.out 1).trans rfl, (qK BK720.out 0).trans rfl, (qK BK720.out 1).trans rfl, (qK BK720.out 2).trans rfl, hx721_0, ((HB.out.cell (World.block_lt_of_cell? w _ hw722_0)).trans hw722_0), ((HB.out.cell (World.block_lt_of_cell? w _ hw722_1)).trans hw722_1), ((HB.out.cell (World.block_lt_of_cell? w _ hw722_2)).trans hw722_2)⟩ (fun hHeld => ?_); refine qTA qa.tab6 qa.bits6 (fun HT_ HW_ => ?_)
                generalize wr.drew = w28 at HO_3 BK718 BK720 HB hx721_0 hx722_0 hx722_1 hx722_2 hHeld ⊢
                refine pS (i := 0) (N := some 16) #[true, false, false, false, false, false, false, false, false, false, false, false, false, false, false, false, false, false] HT_ ?_
                refine pS (i := 1) (N := some 17) #[true, true, false, false, false, false, false, false, false, false, false, false, false, false, false, false, false, false] HT_ ?_
                refine pS (i := 2) (N := some 18) #[true, true, true, false, false, false, false, false, false, false, false, false, false, false, false, false, false, false] HT_ ?_
                refine pS (i := 3) (N := some 19) #[true, true, true, true, false, false, false, false, false, false, false, false, false, false, false, false, false, false] HT_ ?_
                refine pS (i := 4) (N := some 20) #[true, true, true, true, true, false, false, false, false, false, false, false, false, false, false, false, false, false] HT_ ?_
                refine pS (i := 5) (N := some 21) #[true, true, true, true, true, true, false, false, false, false, false, false, false, false, false, false, false, false] HT_ ?_
                refine pS (i := 7) (N := some 23) #[true, true, true, true, true, true, false, true, false, false, false, false, false, false, false, false, false, false] HT_ ?_
                refine pS (i := 8) (N := some 24) #[true, true, true, true, true, true, false, true, true, false, false, false, false, false, false, false, false, false] HT_ ?_
                refine pS (i := 9) (N := some 25) #[true, true, true, true, true, true, false, true, true, true, false, false, false, false, false, false, false, false] HT_ ?_
                refine tS (i := 6) (N := some 22) #[true, true, true, true, true, true, true, true, true, true, false, false, false, false, false, false, false, false] HT_ HW_ hHeld ?_
                refine tS (i := 10) (N := some 26) #[true, true, true, true, true, true, true, true, true, true, true, false, false, false, false, false, false, false] HT_ HW_ hHeld ?_
                refine pS (i := 11) (N := some 27) #[true, true, true, true, true, true, true, true, true, true, true, true, false, false, false, false, false, false] HT_ ?_
                refine tS (i := 12) (N := some 28) #[true, true, true, true, true, true, true, true, true, true, true, true, true, false, false, false, false, false] HT_ HW_ hHeld ?_
                refine tS (i := 14) (N := some 30) #[true, true, true, true, true, true, true, true, true, true, true, true, true, false, true, false, false, false] HT_ HW_ hHeld ?_
                refine one_ (i := 13) (N := some 29) #[true, true, true, true, true, true, true, true, true, true, true, true, true, true, true, false, false, false] rfl rfl (qPA HT_.out (by kernel_rfl)) (by decide) (fun K hK => ?_)
                refine goes_ Tryd.func95 (by kernel_rfl) rfl #[.agg #[.int .i64 ((qJ l0_0 (rd x3_1 x6_2)).f0), .int .i64 ((qJ l0_0 (rd x3_1 x6_2)).f1), .int .i64 ((qJ l0_0 (rd x3_1 x6_2)).f2)]] (by rfl) rfl rfl (by (try simp only [List.map_toArray, List.map_cons, List.map_nil]); first | done | rfl | (simp only [List.length_drop, List.length_take]; rfl)) ?_
                with_reducible refine (qaA.calls ((qJ l0_0 (rd x3_1 x6_2)).f0) ((qJ l0_0 (rd x3_1 x6_2)).f1) ((qJ l0_0 (rd x3_1 x6_2)).f2) t723 _ A14.out).mono ?_
                rintro e w30 ⟨rfl, hb⟩
                have HS5_ := (hb.cell (World.block_lt_of_cell? _ _ (hHeld.2.2.2.2.2.1))).trans (hHeld.2.2.2.2.2.1)
                refine ⟨_, rfl, ?_⟩
                have n0_ := Aside0.mk (Kd.qY (by (with_reducible repeat (first | apply Kd.qF | apply Kd.qE | apply Kd.qI)); exact HO_3.out) hb)
                have n1_ := Aside0.mk (bb BK718 hb)
                have n2_ := Aside0.mk (bb BK720 hb)
                have n3_ := Aside0.mk (qG bl hb)
                clear HO_3
                clear BK718
                clear BK720
                clear HB
                have HO_3 := n0_
                have BK718 := n1_
                have BK720 := n2_
                have HB := n3_
                clear n0_ n1_ n2_ n3_
                (try clear hb)
                (try clear hb2)
                (try clear hk)
                (try clear hi)
                refine hK.out _ _ ⟨(qK BK718.out 0).trans rfl, (qK BK718.out 1).trans rfl, (qK BK720.out 0).trans rfl, (qK BK720.out 1).trans rfl, (qK BK720.out 2).trans rfl, HS5_, ((HB.out.cell (World.block_lt_of_cell? w _ hw722_0)).trans hw722_0), ((HB.out.cell (World.block_lt_of_cell? w _ hw722_1)).trans hw722_1), ((HB.out.cell (World.block_lt_of_cell? w _ hw722_2)).trans hw722_2)⟩ (fun hHeld => ?_)
                clear hK K
                refine norm_ (a' := ?_) ?_ ?_
                rotate_left
                ·show Act.put _ (some 29) _ = _
                 simp only [Act.put, List.setIfInBounds_toArray, List.set_cons_zero, List.set_cons_succ, i64_w, i32_w]
                 rfl
                refine one_ (i := 15) (N := some 31) #[true, true, true, true, true, true, true, true, true, true, true, true, true, true, true, true, false, false] rfl rfl (qPA HT_.out (by kernel_rfl)) (by decide) (fun K hK => ?_)
                refine goes_ Tryd.func95 (by kernel_rfl) rfl #[.agg #[.int .i64 ((qJ l0_0 x11_1).f0), .int .i64 ((qJ l0_0 x11_1).f1), .int .i64 ((qJ l0_0 x11_1).f2)]] (by rfl) rfl rfl (by (try simp only [List.map_toArray, List.map_cons, List.map_nil]); first | done | rfl | (simp only [List.length_drop, List.length_take]; rfl)) ?_
                with_reducible refine (qaA.calls ((qJ l0_0 x11_1).f0) ((qJ l0_0 x11_1).f1) ((qJ l0_0 x11_1).f2) t724 _ A15.out).mono ?_
                rintro e w31 ⟨rfl, hb⟩
                have HS5_ := (hb.cell (World.block_lt_of_cell? _ _ (hHeld.2.2.2.2.2.1))).trans (hHeld.2.2.2.2.2.1)
                refine ⟨_, rfl, ?_⟩
                have n0_ := Aside0.mk (Kd.qY (by (with_reducible repeat (first | apply Kd.qF | apply Kd.qE | apply Kd.qI)); exact HO_3.out) hb)
                have n1_ := Aside0.mk (bb BK718 hb)
                have n2_ := Aside0.mk (bb BK720 hb)
                have n3_ := Aside0.mk (qG bl hb)
                clear HO_3
                clear BK718
                clear BK720
                clear HB
                have HO_3 := n0_
                have BK718 := n1_
                have BK720 := n2_
                have HB := n3_
                clear n0_ n1_ n2_ n3_
                (try clear hb)
                (try clear hb2)
                (try clear hk)
                (try clear hi)
                refine hK.out _ _ ⟨(qK BK718.out 0).trans rfl, (qK BK718.out 1).trans rfl, (qK BK720.out 0).trans rfl, (qK BK720.out 1).trans rfl, (qK BK720.out 2).trans rfl, HS5_, ((HB.out.cell (World.block_lt_of_cell? w _ hw722_0)).trans hw722_0), ((HB.out.cell (World.block_lt_of_cell? w _ hw722_1)).trans hw722_1), ((HB.out.cell (World.block_lt_of_cell? w _ hw722_2)).trans hw722_2)⟩ (fun hHeld => ?_)
                clear hK K
                refine norm_ (a' := ?_) ?_ ?_
                rotate_left
                ·show Act.put _ (some 31) _ = _
                 simp only [Act.put, List.setIfInBounds_toArray, List.set_cons_zero, List.set_cons_succ, i64_w, i32_w]
                 rfl
                refine pS (i := 16) (N := some 32) #[true, true, true, true, true, true, true, true, true, true, true, true, true, true, true, true, true, false] HT_ ?_
                refine pS (i := 17) (N := some 33) #[true, true, true, true, true, true, true, true, true, true, true, true, true, true, true, true, true, true] HT_ ?_
                refine done_ (qpA HT_.out (by kernel_rfl)) ?_
                have q32 : (x6_2 : Int) ≤ ((x3_1.length : Int) : Int) := of_decide_eq_true (by first | (with_reducible assumption) | assumption)
                obtain ⟨i032, hi032, _, hsz32, _⟩ := info_parts info3
                have hroom32 : x3_1.length ≤ co29 := (Kd.qf HO_3.out).2.1
                have hC32 : Kd.C (Kd.int .i64) _ (some ad721) x3_1.length x3_1 := (Kd.qf HO_3.out).2.2
                have hcut32 := cut_to (P := Tryd.prog) 45 3 .i64 Tryd.underlying45 hi032 (some ad721) x3_1.length co29 x6_2 (of_decide_eq_true (by first | (with_reducible assumption) | assumption)) q32 hroom32
                have hr32 := Kd.qHC (m := (x6_2 : Int).toNat) hC32 (by omega)
                have hy32 : y725.length = (x6_2 : Int).toNat := (by rw [Ny725.out, List.length_take]; omega)
                rw [← Ny725.out] at hr32
                rw [← hy32] at hcut32
                have HR728 := Aside0.mk hr32
                have HC728 := Aside0.mk (show y725.length ≤ co29 from by omega)
                clear hr32 hC32 hroom32 hi032 hsz32
                have KY32 := Aside0.mk hy32
                clear hy32
                have KL32 := Aside0.mk (show (x6_2 : Int).toNat ≤ x3_1.length from by omega)
                replace q32 := eq_true q32
                try go_wp2_with (first | ((with_reducible refine qS (f := 96) rfl ?_); refine qq (some 39) rfl rfl Tryd.func96 (by kernel_rfl) rfl #[.slice (some ad721) y725.length co29] rfl (by (try simp only [List.map_toArray, List.map_cons, List.map_nil]); first | done | rfl | (simp only [List.length_drop, List.length_take]; rfl)) ?_; (with_reducible refine (qeA.calls _ _ y725 t729 _ ?side1 ?side2 A23.out).mono ?_); (case side1 => repeat (first | exact (by repeat (first | (with_reducible exact HR728.out) | (with_reducible refine Kd.qHA ?_ _) | (with_reducible refine Kd.qGA ?_ _) | (with_reducible refine Kd.qNA ?_) | exact HR728.out)) | (with_reducible refine Kd.qHA ?_ _) | (with_reducible refine Kd.qGA ?_ _) | (with_reducible refine Kd.qNA ?_))); (case side2 => exact HC728.out); rintro e w33 ⟨v730, rfl, ho0, hb⟩; refine ⟨_, rfl, ?_⟩; have n0_ := Aside0.mk (Kd.qqA (by (with_reducible repeat (first | apply Kd.qF | apply Kd.qE | apply Kd.qI)); exact HO_3.out) (Kd.qPB ho0) hb); have n1_ := Aside0.mk (Kd.qBA (Kd.qOB ho0 (Kd.R_lt (by (with_reducible repeat (first | apply Kd.qF | apply Kd.qE | apply Kd.qI)); exact HO_3.out))) (qg bl)); have n2_ := Aside0.mk (bb BK718 hb); have n3_ := Aside0.mk (bb BK720 hb); have n4_ := Aside0.mk (Kd.qUA (by repeat (first | (with_reducible exact HR728.out) | (with_reducible refine Kd.qHA ?_ _) | (with_reducible refine Kd.qGA ?_ _) | (with_reducible refine Kd.qNA ?_) | exact HR728.out)) hb); have n5_ := Aside0.mk (qG bl hb); clear HO_3; clear BK718; clear BK720; clear HR728; clear HB; have HO_3 := n0_; have HO731 := n1_; have BK718 := n2_; have BK720 := n3_; have HR728 := n4_; have HB := n5_; clear n0_ n1_ n2_ n3_ n4_ n5_; (try clear hb); (try clear hb2); (try clear hk); (try clear hi); (try clear ho0)) | ((with_reducible refine qkA (b := .append) (xs := #[.tmp 39, .tmp 41]) rfl ?_); at_builtin; refine Kd.qLC (Kd.int .i64) (w0 := w) w.heap.size rfl (.tmp 39) (.tmp 41) 45 3 (.int .i64 0) 8 rfl Tryd.underlying45 info3 rfl (by decide) (by omega) v730 t729 x11_1 [.int .i64 x11_1] (fun k_ => some k_ ≠ (.slice (some ad721) x3_1.length co29 : Value).ownBlock) (fun _ => False) rfl rfl ?aP (fun _ hk => hk.elim) ?aF ?aO ?aB ?aS ?aL ?_; (case aP => exact rfl); (case aB => exact bl); (case aF => exact (fun k_ hk => Kd.fresh' (Kd.R_lt (by (with_reducible repeat (first | apply Kd.qF | apply Kd.qE | apply Kd.qI)); exact HO_3.out)) k_ hk)); (case aO => exact (by (with_reducible repeat (first | apply Kd.qF | apply Kd.qE | apply Kd.qI)); exact Kd.qh HO731.out (fun _ hk => hk.2))); (case aS => exact (qg bl)); (case aL => have := LMc24.out; omega); intro v733 w34 ho hb hg hat; rw [← Ny732.out] at ho; have n0_ := Aside0.mk (Kd.qnA (ok := (fun _ => True)) (by (with_reducible repeat (first | apply Kd.qF | apply Kd.qE | apply Kd.qI)); exact HO_3.out) hg hat); have n1_ := Aside0.mk (qCA (g := gb718) (o := .cells #[.slice (some ad719) l0_0.length c0_0, .slice A0_1 l0_1.length c0_1] 75 (0, 0)) (by (with_reducible repeat (first | refine qB ?_ _ | refine qC ?_ | refine qA ?_ _)); exact BK718.out) hg (Kd.R_ne HO731.out BK718.out (by decide))); have n2_ := Aside0.mk (qCA (g := gb720) (o := .cells #[.int .i64 ((qJ l0_0 x11_1).f0), .int .i64 ((qJ l0_0 x11_1).f1), .int .i64 ((qJ l0_0 x11_1).f2)] 27 (0, 0)) (by (with_reducible repeat (first | refine qB ?_ _ | refine qC ?_ | refine qA ?_ _)); exact BK720.out) hg (Kd.R_ne HO731.out BK720.out (by decide))); have n3_ := Aside0.mk (hb); have n4_ := Aside0.mk ((show Kd.C (Kd.int .i64) w34 (some ad721) y725.length y725 from by rw [Ny725.out]; exact Kd.qHC (m := (x6_2 : Int).toNat) ((Kd.qf (Kd.qnA (ok := (fun _ => True)) (by (with_reducible repeat (first | apply Kd.qF | apply Kd.qE | apply Kd.qI)); exact HO_3.out) hg hat)).2.2) KL32.out)); have n5_ := Aside0.mk (ho); clear HO_3; clear BK718; clear BK720; clear HB; clear HR728; clear HO731; have HO_3 := n0_; have BK718 := n1_; have BK720 := n2_; have HB := n3_; have HR728 := n4_; have HO734 := n5_; clear n0_ n1_ n2_ n3_ n4_ n5_; clear ho hb hg hat; have q35 : (x6_2 : Int) ≤ ((x3_1.length : Int) : Int) := of_decide_eq_true (by first | (with_reducible assumption) | assumption); obtain ⟨i035, hi035, _, hsz35, _⟩ := info_parts info3; have hroom35 : x3_1.length ≤ co29 := (Kd.qf HO_3.out).2.1; have hC35 : Kd.C (Kd.int .i64) _ (some ad721) x3_1.length x3_1 := (Kd.qf HO_3.out).2.2; have q035 : (0 : Int) ≤ (x6_2 : Int) := of_decide_eq_true (by first | (with_reducible assumption) | assumption); have hcut35 := cut_from (P := Tryd.prog) 45 3 .i64 Tryd.underlying45 hi035 1 hsz35 (some ad721) x3_1.length co29 x6_2 q035 q35; have hr35 := Kd.qWC (m := (x6_2 : Int).toNat) (c := co29) hC35 (by omega) hroom35; obtain ⟨A35, hA35⟩ : ∃ A1, A1 = (if co29 = (x6_2 : Int).toNat then (some ad721) else ((some ad721) : Option Addr).map (·.add ((x6_2 : Int).toNat * 1))) := ⟨_, rfl⟩; obtain ⟨c35, hc35⟩ : ∃ c1, c1 = co29 - (x6_2 : Int).toNat := ⟨_, rfl⟩; have hy35 : y735.length = x3_1.length - (x6_2 : Int).toNat := (by rw [Ny735.out, List.length_drop] <;> omega); rw [show (x3_1).drop (x6_2 : Int).toNat = y735 from Ny735.out.symm] at hr35; replace hr35 : Kd.C (Kd.int .i64) _ A35 y735.length y735 := (by rw [hA35]; exact hr35); rw [← hy35, ← hA35, ← hc35] at hcut35; have HR738 := Aside0.mk hr35; have HC738 := Aside0.mk (show y735.length ≤ c35 from by rw [hy35, hc35]; exact Nat.sub_le_sub_right hroom35 _); clear hr35 hC35 hroom35 hi035 hsz35 hc35; have KY35 := Aside0.mk hy35; have KA35 := Aside0.mk hA35; clear hy35 hA35; have KL35 := Aside0.mk (show (x6_2 : Int).toNat ≤ x3_1.length from by omega); replace q35 := eq_true q35) | ((with_reducible refine qkA (b := .append) (xs := #[.tmp 43, .tmp 46]) rfl ?_); at_builtin; refine Kd.qBB (Kd.int .i64) (w0 := w) w.heap.size rfl (.tmp 43) (.tmp 46) 45 3 (.int .i64 0) 8 rfl Tryd.underlying45 info3 rfl (by decide) (by omega) v733 y732 y735 _ _ _ (fun k_ => some k_ ≠ (.slice (some ad721) x3_1.length co29 : Value).ownBlock) (fun _ => False) rfl rfl ?aO ?aR (fun _ _ h => h) (fun _ h => h.elim) ?aF ?aB ?aS ?aL ?_; (case aR => repeat (first | exact (by repeat (first | (with_reducible exact HR738.out) | (with_reducible refine Kd.qHA ?_ _) | (with_reducible refine Kd.qGA ?_ _) | (with_reducible refine Kd.qNA ?_) | exact HR738.out)) | (with_reducible refine Kd.qHA ?_ _) | (with_reducible refine Kd.qGA ?_ _) | (with_reducible refine Kd.qNA ?_))); (case aB => exact bl); (case aF => exact (fun k_ hk => Kd.fresh' (Kd.R_lt (by (with_reducible repeat (first | apply Kd.qF | apply Kd.qE | apply Kd.qI)); exact HO_3.out)) k_ hk)); (case aO => exact (by (with_reducible repeat (first | apply Kd.qF | apply Kd.qE | apply Kd.qI)); exact HO734.out)); (case aS => exact (qg bl)); (case aL => have := LMc27.out; omega); intro v740 w36 ho hb hg hat; rw [← Ny739.out] at ho; have n0_ := Aside0.mk (Kd.qnA (ok := (fun _ => True)) (by (with_reducible repeat (first | apply Kd.qF | apply Kd.qE | apply Kd.qI)); exact HO_3.out) hg hat); have n1_ := Aside0.mk (qCA (g := gb718) (o := .cells #[.slice (some ad719) l0_0.length c0_0, .slice A0_1 l0_1.length c0_1] 75 (0, 0)) (by (with_reducible repeat (first | refine qB ?_ _ | refine qC ?_ | refine qA ?_ _)); exact BK718.out) hg (Kd.R_ne HO734.out BK718.out (by decide))); have n2_ := Aside0.mk (qCA (g := gb720) (o := .cells #[.int .i64 ((qJ l0_0 x11_1).f0), .int .i64 ((qJ l0_0 x11_1).f1), .int .i64 ((qJ l0_0 x11_1).f2)] 27 (0, 0)) (by (with_reducible repeat (first | refine qB ?_ _ | refine qC ?_ | refine qA ?_ _)); exact BK720.out) hg (Kd.R_ne HO734.out BK720.out (by decide))); have n3_ := Aside0.mk (hb); have n4_ := Aside0.mk ((show Kd.C (Kd.int .i64) w36 (some ad721) y725.length y725 from by rw [Ny725.out]; exact Kd.qHC (m := (x6_2 : Int).toNat) ((Kd.qf (Kd.qnA (ok := (fun _ => True)) (by (with_reducible repeat (first | apply Kd.qF | apply Kd.qE | apply Kd.qI)); exact HO_3.out) hg hat)).2.2) KL32.out)); have n5_ := Aside0.mk ((show Kd.C (Kd.int .i64) w36 A35 y735.length y735 from by rw [Ny735.out, KA35.out]; exact Kd.qWC (m := (x6_2 : Int).toNat) (c := co29) ((Kd.qf (Kd.qnA (ok := (fun _ => True)) (by (with_reducible repeat (first | apply Kd.qF | apply Kd.qE | apply Kd.qI)); exact HO_3.out) hg hat)).2.2) KL35.out ((Kd.qf (Kd.qnA (ok := (fun _ => True)) (by (with_reducible repeat (first | apply Kd.qF | apply Kd.qE | apply Kd.qI)); exact HO_3.out) hg hat)).2.1))); have n6_ := Aside0.mk (ho); clear HO_3; clear BK718; clear BK720; clear HB; clear HR728; clear HR738; clear HO734; have HO_3 := n0_; have BK718 := n1_; have BK720 := n2_; have HB := n3_; have HR728 := n4_; have HR738 := n5_; have HO741 := n6_; clear n0_ n1_ n2_ n3_ n4_ n5_ n6_; clear ho hb hg hat))
                go_roundg k2
                case measure => have := HK1.out; have := HK2.out; omega
                case rel => exact ⟨(y739), (wrap64 (x11_1 + 1)), (by first | rfl | (simp; done) | (simp [*]; done)), H', ⟨by have := HK1.out; have := HK2.out; omega⟩, ⟨by (with_reducible repeat (first | apply Kd.qF | apply Kd.qE | apply Kd.qI)); exact Kd.qh HO741.out (fun _ hk => trivial)⟩, ⟨by (with_reducible repeat (first | refine qB ?_ _ | refine qC ?_ | refine qA ?_ _)); exact BK718.out⟩, ⟨bl⟩⟩
               ·rw [if_neg c27] at H
                exact absurd H (by simp)
              ·rw [if_neg c24] at H
               exact absurd H (by simp)
             ·rw [if_neg c22] at H
              exact absurd H (by simp)
           ·rw [if_neg c13] at H
            exact absurd H (by simp)
          ·rw [if_neg c12] at H
           exact absurd H (by simp)
         ·rw [if_neg c11] at H
          exact absurd H (by simp)
        ·rw [if_neg c10] at H
         have c10b0 : decide (x6_2 < (x3_1.length : Int)) = false := decide_eq_false c10
         clear c10
         by_cases c37 : 0 ≤ x6_2
         ·rw [if_pos c37] at H
          have c37b0 := eq_true c37
          have c37b1 : decide (0 ≤ x6_2) = true := decide_eq_true c37
          clear c37
          by_cases c38 : x6_2 ≤ (x3_1.length : Int)
          ·rw [if_pos c38] at H
           have c38b0 := eq_true c38
           have c38b1 : decide (x6_2 ≤ (x3_1.length : Int)) = true := decide_eq_true c38
           clear c38
           obtain ⟨y742, hy742⟩ : ∃ y_ : List Int, y_ = (x3_1.take (x6_2 : Int).toNat) := ⟨_, rfl⟩
           replace H : ((qeA.f y742).bind fun t746 => (if t746.length < 17592186044416 then ((some (t746 ++ [x11_1] : List Int)).bind fun y749 => ((some (x3_1.drop (x6_2 : Int).toNat : List Int)).bind fun y752 => (if y749.length + y752.length < 17592186044416 then (qa.l0 k2 (y749 ++ y752) l0_0 (l0_0.length : Int) (wrap64 (x11_1 + 1)) l0_0 l0_1) else (none)))) else (none))) = some r := by first | (rw [hy742]; with_reducible exact H) | (have H2_ := (Option.bind_some _ _).symm.trans H; rw [hy742]; with_reducible exact H2_) | (have H2_ := (Option.bind_some _ _).symm.trans H; with_reducible exact H2_) | with_reducible exact H | (rw [hy742]; exact H) | exact H
           have Ny742 := Aside0.mk hy742
           clear hy742
           replace H := Option.bind_eq_some_iff.mp H
           obtain ⟨t746, A390, H⟩ := H
           replace H : (if t746.length < 17592186044416 then ((some (t746 ++ [x11_1] : List Int)).bind fun y749 => ((some (x3_1.drop (x6_2 : Int).toNat : List Int)).bind fun y752 => (if y749.length + y752.length < 17592186044416 then (qa.l0 k2 (y749 ++ y752) l0_0 (l0_0.length : Int) (wrap64 (x11_1 + 1)) l0_0 l0_1) else (none)))) else (none)) = some r := H
           have A39 := Aside0.mk A390
           clear A390
           by_cases c40 : t746.length < 17592186044416
           ·rw [if_pos c40] at H
            have LMc40 := Aside0.mk c40
            clear c40
            obtain ⟨y749, hy749⟩ : ∃ y_ : List Int, y_ = (t746 ++ [x11_1]) := ⟨_, rfl⟩
            replace H : ((some (x3_1.drop (x6_2 : Int).toNat : List Int)).bind fun y752 => (if y749.length + y752.length < 17592186044416 then (qa.l0 k2 (y749 ++ y752) l0_0 (l0_0.length : Int) (wrap64 (x11_1 + 1)) l0_0 l0_1) else (none))) = some r := by first | (rw [hy749]; with_reducible exact H) | (have H2_ := (Option.bind_some _ _).symm.trans H; rw [hy749]; with_reducible exact H2_) | (have H2_ := (Option.bind_some _ _).symm.trans H; with_reducible exact H2_) | with_reducible exact H | (rw [hy749]; exact H) | exact H
            have Ny749 := Aside0.mk hy749
            clear hy749
            have c41b0 := eq_true (of_decide_eq_true (by first | (with_reducible assumption) | assumption) : 0 ≤ x6_2)
            have c42b0 := eq_true (of_decide_eq_true (by first | (with_reducible assumption) | assumption) : x6_2 ≤ (x3_1.length : Int))
            obtain ⟨y752, hy752⟩ : ∃ y_ : List Int, y_ = (x3_1.drop (x6_2 : Int).toNat) := ⟨_, rfl⟩
            replace H : (if y749.length + y752.length < 17592186044416 then (qa.l0 k2 (y749 ++ y752) l0_0 (l0_0.length : Int) (wrap64 (x11_1 + 1)) l0_0 l0_1) else (none)) = some r := by first | (rw [hy752]; with_reducible exact H) | (have H2_ := (Option.bind_some _ _).symm.trans H; rw [hy752]; with_reducible exact H2_) | (have H2_ := (Option.bind_some _ _).symm.trans H; with_reducible exact H2_) | with_reducible exact H | (rw [hy752]; exact H) | exact H
            have Ny752 := Aside0.mk hy752
            clear hy752
            by_cases c43 : y749.length + y752.length < 17592186044416
            ·rw [if_pos c43] at H
             have LMc43 := Aside0.mk c43
             clear c43
             obtain ⟨y756, hy756⟩ : ∃ y_ : List Int, y_ = (y749 ++ y752) := ⟨_, rfl⟩
             replace H : (qa.l0 k2 y756 l0_0 (l0_0.length : Int) (wrap64 (x11_1 + 1)) l0_0 l0_1) = some r := by first | (rw [hy756]; with_reducible exact H) | (have H2_ := (Option.bind_some _ _).symm.trans H; rw [hy756]; with_reducible exact H2_) | (have H2_ := (Option.bind_some _ _).symm.trans H; with_reducible exact H2_) | with_reducible exact H | (rw [hy756]; exact H) | exact H
             have Ny756 := Aside0.mk hy756
             clear hy756
             have H' := Aside0.mk H
             clear H
             try go_wp2
             have n0_ := Aside0.mk (Kd.qI HO_3.out)
             have n1_ := Aside0.mk (qC BK718.out)
             have n2_ := Aside0.mk (qC BK720.out)
             have n3_ := Aside0.mk (qn HB.out)
             clear HO_3
             clear BK718
             clear BK720
             clear HB
             have HO_3 := n0_
             have BK718 := n1_
             have BK720 := n2_
             have HB := n3_
             clear n0_ n1_ n2_ n3_
             obtain ⟨Ao45, co45, eo45⟩ := Kd.qt HO_3.out
             (first | subst eo45 | (injection eo45 with f1_ f2_ f3_; have f4_ := f1_.symm; have f5_ := f3_.symm; clear f1_ f2_ f3_; subst f4_; subst f5_))
             refine qxA (n := 18) (S := fun w' => True) (ds := []) #[false, false, false, false, false, false, false, false, false, false, false, false, false, false, false, false, false, false] (by kernel_rfl) rfl rfl trivial (fun hHeld => ?_); refine qTA qa.tab6 qa.bits6 (fun HT_ HW_ => ?_)
             generalize wr.drew = w44 at HO_3 BK718 BK720 HB hHeld ⊢
             refine pS (i := 0) (N := some 16) #[true, false, false, false, false, false, false, false, false, false, false, false, false, false, false, false, false, false] HT_ ?_
             refine pS (i := 1) (N := some 17) #[true, true, false, false, false, false, false, false, false, false, false, false, false, false, false, false, false, false] HT_ ?_
             refine pS (i := 2) (N := some 18) #[true, true, true, false, false, false, false, false, false, false, false, false, false, false, false, false, false, false] HT_ ?_
             refine pS (i := 3) (N := some 19) #[true, true, true, true, false, false, false, false, false, false, false, false, false, false, false, false, false, false] HT_ ?_
             refine pS (i := 4) (N := some 20) #[true, true, true, true, true, false, false, false, false, false, false, false, false, false, false, false, false, false] HT_ ?_
             refine pure_ (i := 5) (N := some 21) (v := undef) (a' := ?_) #[true, true, true, true, true, true, false, false, false, false, false, false, false, false, false, false, false, false] rfl rfl (qWA HT_.out (by kernel_rfl)) (fun _ _ _ h => h) (Or.inr ⟨by rfl, rfl⟩) ?_ ?_
             rotate_left
             ·simp only [Act.put, List.setIfInBounds_toArray, List.set_cons_zero, List.set_cons_succ, i64_w, i32_w]
              rfl
             refine pure_ (i := 6) (N := some 22) (v := undef) (a' := ?_) #[true, true, true, true, true, true, true, false, false, false, false, false, false, false, false, false, false, false] rfl rfl (qWA HT_.out (by kernel_rfl)) (fun _ _ _ h => h) (Or.inr ⟨by rfl, rfl⟩) ?_ ?_
             rotate_left
             ·simp only [Act.put, List.setIfInBounds_toArray, List.set_cons_zero, List.set_cons_succ, i64_w, i32_w]
              rfl
             refine pure_ (i := 7) (N := some 23) (v := undef) (a' := ?_) #[true, true, true, true, true, true, true, true, false, false, false, false, false, false, false, false, false, false] rfl rfl (qWA HT_.out (by kernel_rfl)) (fun _ _ _ h => h) (Or.inr ⟨by rfl, rfl⟩) ?_ ?_
             rotate_left
             ·simp only [Act.put, List.setIfInBounds_toArray, List.set_cons_zero, List.set_cons_succ, i64_w, i32_w]
              rfl
             refine pure_ (i := 8) (N := some 24) (v := undef) (a' := ?_) #[true, true, true, true, true, true, true, true, true, false, false, false, false, false, false, false, false, false] rfl rfl (qWA HT_.out (by kernel_rfl)) (fun _ _ _ h => h) (Or.inr ⟨by rfl, rfl⟩) ?_ ?_
             rotate_left
             ·simp only [Act.put, List.setIfInBounds_toArray, List.set_cons_zero, List.set_cons_succ, i64_w, i32_w]
              rfl
             refine pure_ (i := 9) (N := some 25) (v := undef) (a' := ?_) #[true, true, true, true, true, true, true, true, true, true, false, false, false, false, false, false, false, false] rfl rfl (qWA HT_.out (by kernel_rfl)) (fun _ _ _ h => h) (Or.inr ⟨by rfl, rfl⟩) ?_ ?_
             rotate_left
             ·simp only [Act.put, List.setIfInBounds_toArray, List.set_cons_zero, List.set_cons_succ, i64_w, i32_w]
              rfl
             refine pure_ (i := 10) (N := some 26) (v := undef) (a' := ?_) #[true, true, true, true, true, true, true, true, true, true, true, false, false, false, false, false, false, false] rfl rfl (qWA HT_.out (by kernel_rfl)) (fun _ _ _ h => h) (Or.inr ⟨by rfl, rfl⟩) ?_ ?_
             rotate_left
             ·simp only [Act.put, List.setIfInBounds_toArray, List.set_cons_zero, List.set_cons_succ, i64_w, i32_w]
              rfl
             refine pure_ (i := 11) (N := some 27) (v := undef) (a' := ?_) #[true, true, true, true, true, true, true, true, true, true, true, true, false, false, false, false, false, false] rfl rfl (qWA HT_.out (by kernel_rfl)) (fun _ _ _ h => h) (Or.inr ⟨by rfl, rfl⟩) ?_ ?_
             rotate_left
             ·simp only [Act.put, List.setIfInBounds_toArray, List.set_cons_zero, List.set_cons_succ, i64_w, i32_w]
              rfl
             refine pure_ (i := 12) (N := some 28) (v := undef) (a' := ?_) #[true, true, true, true, true, true, true, true, true, true, true, true, true, false, false, false, false, false] rfl rfl (qWA HT_.out (by kernel_rfl)) (fun _ _ _ h => h) (Or.inr ⟨by rfl, rfl⟩) ?_ ?_
             rotate_left
             ·simp only [Act.put, List.setIfInBounds_toArray, List.set_cons_zero, List.set_cons_succ, i64_w, i32_w]
              rfl
             refine pure_ (i := 13) (N := some 29) (v := undef) (a' := ?_) #[true, true, true, true, true, true, true, true, true, true, true, true, true, true, false, false, false, false] rfl rfl (qWA HT_.out (by kernel_rfl)) (fun _ _ _ h => h) (Or.inr ⟨by rfl, rfl⟩) ?_ ?_
             rotate_left
             ·simp only [Act.put, List.setIfInBounds_toArray, List.set_cons_zero, List.set_cons_succ, i64_w, i32_w]
              rfl
             refine pure_ (i := 14) (N := some 30) (v := undef) (a' := ?_) #[true, true, true, true, true, true, true, true, true, true, true, true, true, true, true, false, false, false] rfl rfl (qWA HT_.out (by kernel_rfl)) (fun _ _ _ h => h) (Or.inr ⟨by rfl, rfl⟩) ?_ ?_
             rotate_left
             ·simp only [Act.put, List.setIfInBounds_toArray, List.set_cons_zero, List.set_cons_succ, i64_w, i32_w]
              rfl
             refine pure_ (i := 15) (N := some 31) (v := undef) (a' := ?_) #[true, true, true, true, true, true, true, true, true, true, true, true, true, true, true, true, false, false] rfl rfl (qWA HT_.out (by kernel_rfl)) (fun _ _ _ h => h) (Or.inr ⟨by rfl, rfl⟩) ?_ ?_
             rotate_left
             ·simp only [Act.put, List.setIfInBounds_toArray, List.set_cons_zero, List.set_cons_succ, i64_w, i32_w]
              rfl
             refine pure_ (i := 16) (N := some 32) (v := undef) (a' := ?_) #[true, true, true, true, true, true, true, true, true, true, true, true, true, true, true, true, true, false] rfl rfl (qWA HT_.out (by kernel_rfl)) (fun _ _ _ h => h) (Or.inr ⟨by rfl, rfl⟩) ?_ ?_
             rotate_left
             ·simp only [Act.put, List.setIfInBounds_toArray, List.set_cons_zero, List.set_cons_succ, i64_w, i32_w]
              rfl
             refine pS (i := 17) (N := some 33) #[true, true, true, true, true, true, true, true, true, true, true, true, true, true, true, true, true, true] HT_ ?_
             refine done_ (qpA HT_.out (by kernel_rfl)) ?_
             have q46 : (x6_2 : Int) ≤ ((x3_1.length : Int) : Int) := of_decide_eq_true (by first | (with_reducible assumption) | assumption)
             obtain ⟨i046, hi046, _, hsz46, _⟩ := info_parts info3
             have hroom46 : x3_1.length ≤ co45 := (Kd.qf HO_3.out).2.1
             have hC46 : Kd.C (Kd.int .i64) _ Ao45 x3_1.length x3_1 := (Kd.qf HO_3.out).2.2
             have hcut46 := cut_to (P := Tryd.prog) 45 3 .i64 Tryd.underlying45 hi046 Ao45 x3_1.length co45 x6_2 (of_decide_eq_true (by first | (with_reducible assumption) | assumption)) q46 hroom46
             have hr46 := Kd.qHC (m := (x6_2 : Int).toNat) hC46 (by omega)
             have hy46 : y742.length = (x6_2 : Int).toNat := (by rw [Ny742.out, List.length_take]; omega)
             rw [← Ny742.out] at hr46
             rw [← hy46] at hcut46
             have HR745 := Aside0.mk hr46
             have HC745 := Aside0.mk (show y742.length ≤ co45 from by omega)
             clear hr46 hC46 hroom46 hi046 hsz46
             have KY46 := Aside0.mk hy46
             clear hy46
             have KL46 := Aside0.mk (show (x6_2 : Int).toNat ≤ x3_1.length from by omega)
             replace q46 := eq_true q46
             try go_wp2_with (first | ((with_reducible refine qS (f := 96) rfl ?_); refine qq (some 39) rfl rfl Tryd.func96 (by kernel_rfl) rfl #[.slice Ao45 y742.length co45] rfl (by (try simp only [List.map_toArray, List.map_cons, List.map_nil]); first | done | rfl | (simp only [List.length_drop, List.length_take]; rfl)) ?_; (with_reducible refine (qeA.calls _ _ y742 t746 _ ?side1 ?side2 A39.out).mono ?_); (case side1 => repeat (first | exact (by repeat (first | (with_reducible exact HR745.out) | (with_reducible refine Kd.qHA ?_ _) | (with_reducible refine Kd.qGA ?_ _) | (with_reducible refine Kd.qNA ?_) | exact HR745.out)) | (with_reducible refine Kd.qHA ?_ _) | (with_reducible refine Kd.qGA ?_ _) | (with_reducible refine Kd.qNA ?_))); (case side2 => exact HC745.out); rintro e w47 ⟨v747, rfl, ho0, hb⟩; refine ⟨_, rfl, ?_⟩; have n0_ := Aside0.mk (Kd.qqA (by (with_reducible repeat (first | apply Kd.qF | apply Kd.qE | apply Kd.qI)); exact HO_3.out) (Kd.qPB ho0) hb); have n1_ := Aside0.mk (Kd.qBA (Kd.qOB ho0 (Kd.R_lt (by (with_reducible repeat (first | apply Kd.qF | apply Kd.qE | apply Kd.qI)); exact HO_3.out))) (qg bl)); have n2_ := Aside0.mk (bb BK718 hb); have n3_ := Aside0.mk (bb BK720 hb); have n4_ := Aside0.mk (Kd.qUA (by repeat (first | (with_reducible exact HR745.out) | (with_reducible refine Kd.qHA ?_ _) | (with_reducible refine Kd.qGA ?_ _) | (with_reducible refine Kd.qNA ?_) | exact HR745.out)) hb); have n5_ := Aside0.mk (qG bl hb); clear HO_3; clear BK718; clear BK720; clear HR745; clear HB; have HO_3 := n0_; have HO748 := n1_; have BK718 := n2_; have BK720 := n3_; have HR745 := n4_; have HB := n5_; clear n0_ n1_ n2_ n3_ n4_ n5_; (try clear hb); (try clear hb2); (try clear hk); (try clear hi); (try clear ho0)) | ((with_reducible refine qkA (b := .append) (xs := #[.tmp 39, .tmp 41]) rfl ?_); at_builtin; refine Kd.qLC (Kd.int .i64) (w0 := w) w.heap.size rfl (.tmp 39) (.tmp 41) 45 3 (.int .i64 0) 8 rfl Tryd.underlying45 info3 rfl (by decide) (by omega) v747 t746 x11_1 [.int .i64 x11_1] (fun k_ => some k_ ≠ (.slice Ao45 x3_1.length co45 : Value).ownBlock) (fun _ => False) rfl rfl ?aP (fun _ hk => hk.elim) ?aF ?aO ?aB ?aS ?aL ?_; (case aP => exact rfl); (case aB => exact bl); (case aF => exact (fun k_ hk => Kd.fresh' (Kd.R_lt (by (with_reducible repeat (first | apply Kd.qF | apply Kd.qE | apply Kd.qI)); exact HO_3.out)) k_ hk)); (case aO => exact (by (with_reducible repeat (first | apply Kd.qF | apply Kd.qE | apply Kd.qI)); exact Kd.qh HO748.out (fun _ hk => hk.2))); (case aS => exact (qg bl)); (case aL => have := LMc40.out; omega); intro v750 w48 ho hb hg hat; rw [← Ny749.out] at ho; have n0_ := Aside0.mk (Kd.qnA (ok := (fun _ => True)) (by (with_reducible repeat (first | apply Kd.qF | apply Kd.qE | apply Kd.qI)); exact HO_3.out) hg hat); have n1_ := Aside0.mk (qCA (g := gb718) (o := .cells #[.slice (some ad719) l0_0.length c0_0, .slice A0_1 l0_1.length c0_1] 75 (0, 0)) (by (with_reducible repeat (first | refine qB ?_ _ | refine qC ?_ | refine qA ?_ _)); exact BK718.out) hg (Kd.R_ne HO748.out BK718.out (by decide))); have n2_ := Aside0.mk (qCA (g := gb720) (o := .cells #[.int .i64 ((qJ l0_0 x11_1).f0), .int .i64 ((qJ l0_0 x11_1).f1), .int .i64 ((qJ l0_0 x11_1).f2)] 27 (0, 0)) (by (with_reducible repeat (first | refine qB ?_ _ | refine qC ?_ | refine qA ?_ _)); exact BK720.out) hg (Kd.R_ne HO748.out BK720.out (by decide))); have n3_ := Aside0.mk (hb); have n4_ := Aside0.mk ((show Kd.C (Kd.int .i64) w48 Ao45 y742.length y742 from by rw [Ny742.out]; exact Kd.qHC (m := (x6_2 : Int).toNat) ((Kd.qf (Kd.qnA (ok := (fun _ => True)) (by (with_reducible repeat (first | apply Kd.qF | apply Kd.qE | apply Kd.qI)); exact HO_3.out) hg hat)).2.2) KL46.out)); have n5_ := Aside0.mk (ho); clear HO_3; clear BK718; clear BK720; clear HB; clear HR745; clear HO748; have HO_3 := n0_; have BK718 := n1_; have BK720 := n2_; have HB := n3_; have HR745 := n4_; have HO751 := n5_; clear n0_ n1_ n2_ n3_ n4_ n5_; clear ho hb hg hat; have q49 : (x6_2 : Int) ≤ ((x3_1.length : Int) : Int) := of_decide_eq_true (by first | (with_reducible assumption) | assumption); obtain ⟨i049, hi049, _, hsz49, _⟩ := info_parts info3; have hroom49 : x3_1.length ≤ co45 := (Kd.qf HO_3.out).2.1; have hC49 : Kd.C (Kd.int .i64) _ Ao45 x3_1.length x3_1 := (Kd.qf HO_3.out).2.2; have q049 : (0 : Int) ≤ (x6_2 : Int) := of_decide_eq_true (by first | (with_reducible assumption) | assumption); have hcut49 := cut_from (P := Tryd.prog) 45 3 .i64 Tryd.underlying45 hi049 1 hsz49 Ao45 x3_1.length co45 x6_2 q049 q49; have hr49 := Kd.qWC (m := (x6_2 : Int).toNat) (c := co45) hC49 (by omega) hroom49; obtain ⟨A49, hA49⟩ : ∃ A1, A1 = (if co45 = (x6_2 : Int).toNat then Ao45 else (Ao45 : Option Addr).map (·.add ((x6_2 : Int).toNat * 1))) := ⟨_, rfl⟩; obtain ⟨c49, hc49⟩ : ∃ c1, c1 = co45 - (x6_2 : Int).toNat := ⟨_, rfl⟩; have hy49 : y752.length = x3_1.length - (x6_2 : Int).toNat := (by rw [Ny752.out, List.length_drop] <;> omega); rw [show (x3_1).drop (x6_2 : Int).toNat = y752 from Ny752.out.symm] at hr49; replace hr49 : Kd.C (Kd.int .i64) _ A49 y752.length y752 := (by rw [hA49]; exact hr49); rw [← hy49, ← hA49, ← hc49] at hcut49; have HR755 := Aside0.mk hr49; have HC755 := Aside0.mk (show y752.length ≤ c49 from by rw [hy49, hc49]; exact Nat.sub_le_sub_right hroom49 _); clear hr49 hC49 hroom49 hi049 hsz49 hc49; have KY49 := Aside0.mk hy49; have KA49 := Aside0.mk hA49; clear hy49 hA49; have KL49 := Aside0.mk (show (x6_2 : Int).toNat ≤ x3_1.length from by omega); replace q49 := eq_true q49) | ((with_reducible refine qkA (b := .append) (xs := #[.tmp 43, .tmp 46]) rfl ?_); at_builtin; refine Kd.qBB (Kd.int .i64) (w0 := w) w.heap.size rfl (.tmp 43) (.tmp 46) 45 3 (.int .i64 0) 8 rfl Tryd.underlying45 info3 rfl (by decide) (by omega) v750 y749 y752 _ _ _ (fun k_ => some k_ ≠ (.slice Ao45 x3_1.length co45 : Value).ownBlock) (fun _ => False) rfl rfl ?aO ?aR (fun _ _ h => h) (fun _ h => h.elim) ?aF ?aB ?aS ?aL ?_; (case aR => repeat (first | exact (by repeat (first | (with_reducible exact HR755.out) | (with_reducible refine Kd.qHA ?_ _) | (with_reducible refine Kd.qGA ?_ _) | (with_reducible refine Kd.qNA ?_) | exact HR755.out)) | (with_reducible refine Kd.qHA ?_ _) | (with_reducible refine Kd.qGA ?_ _) | (with_reducible refine Kd.qNA ?_))); (case aB => exact bl); (case aF => exact (fun k_ hk => Kd.fresh' (Kd.R_lt (by (with_reducible repeat (first | apply Kd.qF | apply Kd.qE | apply Kd.qI)); exact HO_3.out)) k_ hk)); (case aO => exact (by (with_reducible repeat (first | apply Kd.qF | apply Kd.qE | apply Kd.qI)); exact HO751.out)); (case aS => exact (qg bl)); (case aL => have := LMc43.out; omega); intro v757 w50 ho hb hg hat; rw [← Ny756.out] at ho; have n0_ := Aside0.mk (Kd.qnA (ok := (fun _ => True)) (by (with_reducible repeat (first | apply Kd.qF | apply Kd.qE | apply Kd.qI)); exact HO_3.out) hg hat); have n1_ := Aside0.mk (qCA (g := gb718) (o := .cells #[.slice (some ad719) l0_0.length c0_0, .slice A0_1 l0_1.length c0_1] 75 (0, 0)) (by (with_reducible repeat (first | refine qB ?_ _ | refine qC ?_ | refine qA ?_ _)); exact BK718.out) hg (Kd.R_ne HO751.out BK718.out (by decide))); have n2_ := Aside0.mk (qCA (g := gb720) (o := .cells #[.int .i64 ((qJ l0_0 x11_1).f0), .int .i64 ((qJ l0_0 x11_1).f1), .int .i64 ((qJ l0_0 x11_1).f2)] 27 (0, 0)) (by (with_reducible repeat (first | refine qB ?_ _ | refine qC ?_ | refine qA ?_ _)); exact BK720.out) hg (Kd.R_ne HO751.out BK720.out (by decide))); have n3_ := Aside0.mk (hb); have n4_ := Aside0.mk ((show Kd.C (Kd.int .i64) w50 Ao45 y742.length y742 from by rw [Ny742.out]; exact Kd.qHC (m := (x6_2 : Int).toNat) ((Kd.qf (Kd.qnA (ok := (fun _ => True)) (by (with_reducible repeat (first | apply Kd.qF | apply Kd.qE | apply Kd.qI)); exact HO_3.out) hg hat)).2.2) KL46.out)); have n5_ := Aside0.mk ((show Kd.C (Kd.int .i64) w50 A49 y752.length y752 from by rw [Ny752.out, KA49.out]; exact Kd.qWC (m := (x6_2 : Int).toNat) (c := co45) ((Kd.qf (Kd.qnA (ok := (fun _ => True)) (by (with_reducible repeat (first | apply Kd.qF | apply Kd.qE | apply Kd.qI)); exact HO_3.out) hg hat)).2.2) KL49.out ((Kd.qf (Kd.qnA (ok := (fun _ => True)) (by (with_reducible repeat (first | apply Kd.qF | apply Kd.qE | apply Kd.qI)); exact HO_3.out) hg hat)).2.1))); have n6_ := Aside0.mk (ho); clear HO_3; clear BK718; clear BK720; clear HB; clear HR745; clear HR755; clear HO751; have HO_3 := n0_; have BK718 := n1_; have BK720 := n2_; have HB := n3_; have HR745 := n4_; have HR755 := n5_; have HO758 := n6_; clear n0_ n1_ n2_ n3_ n4_ n5_ n6_; clear ho hb hg hat))
             go_roundg k2
             case measure => have := HK1.out; have := HK2.out; omega
             case rel => exact ⟨(y756), (wrap64 (x11_1 + 1)), (by first | rfl | (simp; done) | (simp [*]; done)), H', ⟨by have := HK1.out; have := HK2.out; omega⟩, ⟨by (with_reducible repeat (first | apply Kd.qF | apply Kd.qE | apply Kd.qI)); exact Kd.qh HO758.out (fun _ hk => trivial)⟩, ⟨by (with_reducible repeat (first | refine qB ?_ _ | refine qC ?_ | refine qA ?_ _)); exact BK718.out⟩, ⟨bl⟩⟩
            ·rw [if_neg c43] at H
             exact absurd H (by simp)
           ·rw [if_neg c40] at H
            exact absurd H (by simp)
          ·rw [if_neg c38] at H
           exact absurd H (by simp)
         ·rw [if_neg c37] at H
          exact absurd H (by simp)
     ·rw [if_neg c6] at H
      exact absurd H (by simp)
    ·rw [if_neg c5] at H
     exact absurd H (by simp)
   ·rw [if_neg c4] at H
    have c4b0 : decide (x11_1 < (l0_0.length : Int)) = false := decide_eq_false c4
    clear c4
    obtain rfl := Option.some.inj H
    go_wp2
    go_ret
    exact ⟨_, by first | rfl | (simp [qM, qL] <;> rfl) | (simp [*, qM, qL] <;> rfl), by (with_reducible repeat (first | apply Kd.qF | apply Kd.qE | apply Kd.qI)); exact HO_3.out, bl⟩
end Go.Proofs.YtbpfhpjbeomfcaaDoor.P
