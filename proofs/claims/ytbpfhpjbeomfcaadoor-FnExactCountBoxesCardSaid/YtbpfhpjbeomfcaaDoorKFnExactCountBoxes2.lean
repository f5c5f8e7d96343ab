/- The program's CountBoxes returns what the reference's returns, for all texts and boxes (the law lets longer texts by). No further condition. -/
import Derived.Test.YtbpfhpjbeomfcaaDoorKFnExactCountBoxes1
import Derived.Shelf.SlGeneric
import Derived.Shelf.Small.Strs
import Derived.Shelf.Strings.Search1
import Derived.Ground.NamesProg
import Derived.Shelf.Strings.Search2
import Derived.Shelf.Strings.Search3
import Derived.Shelf.Strings.Split
import Derived.Shelf.Strings.Count
import Derived.Shelf.Strings.SlTrimAscii
import Derived.Test.YtbpfhpjbeomfcaaDoorProg

namespace Go.Proofs.YtbpfhpjbeomfcaaDoor.P
open Go.RowKit Go.Proofs.YtbpfhpjbeomfcaaDoorW.PrintWords Go.Proofs.YtbpfhpjbeomfcaaDoorW.PrintLast Go.Proofs.YtbpfhpjbeomfcaaDoorW.PrintMore
attribute [local go_sem] qy qw qFA qEA qn qm qx qv
set_option linter.unusedVariables false
set_option linter.unusedSimpArgs false
attribute [local go_sem high] eqA27
mutual
def qU.l0 : Nat → Int → Int → Int → List Int → List (S27) → List ByteArray → Option ((List (S27)) × List ByteArray × Bool)
 | 0, _, _, _, _, _, _ => none
 | k + 1, x7, x409000, x409001, x409002, x418000, x418001 => if x7 < (x418000.length : Int) then (qU.l1 k x7 0 x409000 x409001 x409002 x418000 x418001) else (some (x418000, x418001, true))
def qU.l1 : Nat → Int → Int → Int → Int → List Int → List (S27) → List ByteArray → Option ((List (S27)) × List ByteArray × Bool)
 | 0, _, _, _, _, _, _, _ => none
 | k + 1, x7, x8, x409000, x409001, x409002, x418000, x418001 => if x8 < 4 then (if 0 ≤ x7 then (if x7 < (x418000.length : Int) then ((qZA.f k x409000 x409001 x409002 ((qX x418000 x7).f0) ((qX x418000 x7).f1) ((qX x418000 x7).f2) x8).bind fun bt419 => (if bt419.2.2.2 = true then (qU.l2 k x7 x8 false x418000 (x418000.length : Int) 0 x409000 x409001 x409002 x418000 x418001 bt419.1 bt419.2.1 bt419.2.2.1) else (qU.l1 k x7 (wrap64 (x8 + 1)) x409000 x409001 x409002 x418000 x418001))) else (none)) else (none)) else (if (x418000.length : Int) > 400 then (some (x418000, x418001, false)) else (qU.l0 k (wrap64 (x7 + 1)) x409000 x409001 x409002 x418000 x418001))
def qU.l2 : Nat → Int → Int → Bool → List (S27) → Int → Int → Int → Int → List Int → List (S27) → List ByteArray → Int → Int → Int → Option ((List (S27)) × List ByteArray × Bool)
 | 0, _, _, _, _, _, _, _, _, _, _, _, _, _, _ => none
 | k + 1, x7, x8, x11, x32, x44, x45, x409000, x409001, x409002, x418000, x418001, x424000, x424001, x424002 => if x45 < x44 then (if 0 ≤ x45 then (if x45 < (x32.length : Int) then (if x11 = true then (qU.l2 k x7 x8 true x32 x44 (wrap64 (x45 + 1)) x409000 x409001 x409002 x418000 x418001 x424000 x424001 x424002) else (qU.l2 k x7 x8 (((qX x32 x45).f0) == x424000 && (((qX x32 x45).f1) == x424001 && (((qX x32 x45).f2) == x424002))) x32 x44 (wrap64 (x45 + 1)) x409000 x409001 x409002 x418000 x418001 x424000 x424001 x424002)) else (none)) else (none)) else (if x11 = true then (qU.l1 k x7 (wrap64 (x8 + 1)) x409000 x409001 x409002 x418000 x418001) else (if x418000.length < 5864062014805 then (if 0 ≤ x7 then (if x7 < (x418001.length : Int) then ((qiA.f).bind fun t430 => (if 0 ≤ x8 then (if x8 ≤ (wrap64 (x8 + 1)) then (if (wrap64 (x8 + 1)) ≤ (t430.size : Int) then (if (rdOf ByteArray.empty x418001 x7).size + (t430.extract (x8 : Int).toNat ((wrap64 (x8 + 1)) : Int).toNat).size ≤ 9223372036854775807 then (if x418001.length < 8796093022208 then (qU.l1 k x7 (wrap64 (x8 + 1)) x409000 x409001 x409002 (x418000 ++ [(⟨x424000, x424001, x424002⟩ : S27)]) (x418001 ++ [(rdOf ByteArray.empty x418001 x7) ++ (t430.extract (x8 : Int).toNat ((wrap64 (x8 + 1)) : Int).toNat)])) else (none)) else (none)) else (none)) else (none)) else (none))) else (none)) else (none)) else (none)))
end
def qU.f (k : Nat) (a0_0 : Int) (a0_1 : Int) (l0_2 : List Int) (a1_0 : Int) (a1_1 : Int) (a1_2 : Int) : Option ((List (S27)) × List ByteArray × Bool) := qU.l0 k 0 a0_0 a0_1 l0_2 (([(⟨a1_0, a1_1, a1_2⟩ : S27)] : List (S27))) (([(⟨#[]⟩ : ByteArray)] : List ByteArray))
def qU.T8 : Bool × List (List Nat × List Nat) := (true, [([], []), ([], []), ([1], [1]), ([], []), ([2, 3], [2, 3]), ([4], [4]), ([], []), ([0, 5, 6], [0, 5, 6]), ([7], [7]), ([8], [8]), ([8], [8]), ([], []), ([11, 9, 7, 0, 1, 2, 3, 4, 5, 6, 7, 8, 9, 11], [9, 11]), ([10, 12, 0, 1, 2, 3, 4, 5, 6, 7, 8, 9, 10, 11, 12], [10])])
def qU.B8 : List Nat := [0, 0, 2, 0, 14, 30, 0, 127, 255, 511, 511, 0, 3071, 8191]
theorem qU.tab8 : rtab .any (opsOf Tryd.f90 8) = qU.T8 := by kernel_rfl
theorem qU.bits8 : waitsOk qU.T8.2 qU.B8 = true := by kernel_rfl
def qU.T18 : Bool × List (List Nat × List Nat) := (true, [([], []), ([0], [0]), ([], []), ([2], [2]), ([], []), ([3, 4], [3, 4]), ([5], [5]), ([], []), ([], []), ([], []), ([9], [9]), ([7, 8, 10], [7, 8, 10]), ([6, 11], [6, 11]), ([12], [12]), ([1, 13, 7], [1, 13]), ([0, 1, 2, 3, 4, 5, 6, 7, 8, 9, 10, 11, 12, 13, 14], []), ([15, 14, 14, 0, 1, 2, 3, 4, 5, 6, 7, 8, 9, 10, 11, 12, 13, 14], [14, 15])])
def qU.B18 : List Nat := [0, 1, 0, 4, 0, 28, 60, 0, 0, 0, 512, 1920, 4092, 8188, 16383, 32767, 65535]
theorem qU.tab18 : rtab .any (opsOf Tryd.f90 18) = qU.T18 := by kernel_rfl
theorem qU.bits18 : waitsOk qU.T18.2 qU.B18 = true := by kernel_rfl
set_option maxHeartbeats 8000000 in
set_option maxRecDepth 100000 in
theorem qU.calls (k : Nat) (a0_0 : Int) (a0_1 : Int) (A0_2 : Option Addr) (c0_2 : Nat) (l0_2 : List Int) (a1_0 : Int) (a1_1 : Int) (a1_2 : Int) (r1 : List (S27)) (r2 : List ByteArray) (r3 : Bool) (w : World) (hr0_2 : Kd.C (Kd.int .u8) w A0_2 l0_2.length l0_2) (hc0_2 : l0_2.length ≤ c0_2) (h : qU.f k a0_0 a0_1 l0_2 a1_0 a1_1 a1_2 = some (r1, r2, r3)) :
  Calls Tryd.prog 90 #[.agg #[.int .i64 a0_0, .int .i64 a0_1, .slice A0_2 l0_2.length c0_2], .agg #[.int .i64 a1_0, .int .i64 a1_1, .int .i64 a1_2]] w fun e w' => ∃ v0_ v1_ : Value, e = .returned (.tuple #[.agg #[v0_, v1_], .bool r3]) ∧ Kd.R k27 27 w' w.heap.size (fun _ => True) v0_ r1 ∧ Kd.R Kd.string 9 w' w.heap.size (fun _ => True) v1_ r2 ∧ Below w.heap.size w w' := by
 have hu57 := Tryd.underlying57
 have hu27 := Tryd.underlying27
 have hu75 := Tryd.underlying75
 have HR0_2 := Aside0.mk hr0_2
 have HC0_2 := Aside0.mk hc0_2
 clear hr0_2 hc0_2
 have HB := Aside0.mk (Below.refl w.heap.size w)
 have H : (qU.l0 k 0 a0_0 a0_1 l0_2 (([(⟨a1_0, a1_1, a1_2⟩ : S27)] : List (S27))) (([(⟨#[]⟩ : ByteArray)] : List ByteArray))) = some (r1, r2, r3) := h
 clear h
 obtain ⟨y411, hy411⟩ : ∃ y_ : List (S27), y_ = (([(⟨a1_0, a1_1, a1_2⟩ : S27)] : List (S27))) := ⟨_, rfl⟩
 replace H : (qU.l0 k 0 a0_0 a0_1 l0_2 y411 (([(⟨#[]⟩ : ByteArray)] : List ByteArray))) = some (r1, r2, r3) := by first | (rw [hy411]; with_reducible exact H) | (have H2_ := (Option.bind_some _ _).symm.trans H; rw [hy411]; with_reducible exact H2_) | (have H2_ := (Option.bind_some _ _).symm.trans H; with_reducible exact H2_) | with_reducible exact H | (rw [hy411]; exact H) | exact H
 have Ny411 := Aside0.mk hy411
 clear hy411
 obtain ⟨y414, hy414⟩ : ∃ y_ : List ByteArray, y_ = (([(⟨#[]⟩ : ByteArray)] : List ByteArray)) := ⟨_, rfl⟩
 replace H : (qU.l0 k 0 a0_0 a0_1 l0_2 y411 y414) = some (r1, r2, r3) := by first | (rw [hy414]; with_reducible exact H) | (have H2_ := (Option.bind_some _ _).symm.trans H; rw [hy414]; with_reducible exact H2_) | (have H2_ := (Option.bind_some _ _).symm.trans H; with_reducible exact H2_) | with_reducible exact H | (rw [hy414]; exact H) | exact H
 have Ny414 := Aside0.mk hy414
 clear hy414
 have H' := Aside0.mk H
 clear H
 go_enter Tryd.func90, Tryd.ntmps90
 go_wp2_with (first | ((with_reducible refine qb (N := 2) rfl ?_); refine qZ ?hg (N := 2) ?hd (cs := #[.int .i64 a0_0, .int .i64 a0_1, .slice A0_2 l0_2.length c0_2]) (t := 57) ?hr ?_; (case hd => rfl); (case hg => rfl); (case hr => first | (go_simp; done) | (go_simp; rfl)); intro gb408 hg w3 hbox hb; have n0_ := Aside0.mk (qG bl hb); have n1_ := Aside0.mk (hbox); have n2_ := Aside0.mk ((gg hg)); have n3_ := Aside0.mk ((gg hg)); clear HB; have HB := n0_; have BK408 := n1_; have GW408 := n2_; have GE408 := n3_; clear n0_ n1_ n2_ n3_; clear hb hbox hg) | ((with_reducible refine qb (N := 3) rfl ?_); refine qZ ?hg (N := 3) ?hd (cs := #[.int .i64 a1_0, .int .i64 a1_1, .int .i64 a1_2]) (t := 27) ?hr ?_; (case hd => rfl); (case hg => rfl); (case hr => first | (go_simp; done) | (go_simp; rfl)); intro gb409 hg w4 hbox hb; have n0_ := Aside0.mk (bb BK408 hb); have n1_ := Aside0.mk (qG bl hb); have n2_ := Aside0.mk (hbox); have n3_ := Aside0.mk ((gg hg)); have n4_ := Aside0.mk ((gg hg)); have n5_ := Aside0.mk ((nl BK408 hg)); have n6_ := Aside0.mk ((nr BK408 hg)); clear BK408; clear HB; have BK408 := n0_; have HB := n1_; have BK409 := n2_; have GW409 := n3_; have GE409 := n4_; have NB408_409 := n5_; have NB409_408 := n6_; clear n0_ n1_ n2_ n3_ n4_ n5_ n6_; clear hb hbox hg) | ((with_reducible refine qb (N := 4) rfl ?_); refine qZ ?hg (N := 4) ?hd (cs := #[.slice none 0 0, .slice none 0 0]) (t := 75) ?hr ?_; (case hd => rfl); (case hg => rfl); (case hr => first | (go_simp; done) | (go_simp; rfl)); intro gb410 hg w5 hbox hb; have n0_ := Aside0.mk (bb BK408 hb); have n1_ := Aside0.mk (bb BK409 hb); have n2_ := Aside0.mk (qG bl hb); have n3_ := Aside0.mk (hbox); have n4_ := Aside0.mk ((gg hg)); have n5_ := Aside0.mk ((gg hg)); have n6_ := Aside0.mk ((nl BK408 hg)); have n7_ := Aside0.mk ((nr BK408 hg)); have n8_ := Aside0.mk ((nl BK409 hg)); have n9_ := Aside0.mk ((nr BK409 hg)); clear BK408; clear BK409; clear HB; have BK408 := n0_; have BK409 := n1_; have HB := n2_; have BK410 := n3_; have GW410 := n4_; have GE410 := n5_; have NB408_410 := n6_; have NB410_408 := n7_; have NB409_410 := n8_; have NB410_409 := n9_; clear n0_ n1_ n2_ n3_ n4_ n5_ n6_ n7_ n8_ n9_; clear hb hbox hg; have hnb6 := NB409_408.out; have hnc6 := NB408_409.out; have hnb7 := NB409_410.out; have hnc7 := NB410_409.out; have hcz8_0 := bc BK409 0; have hcz8_1 := bc BK409 1; have hcz8_2 := bc BK409 2; have hfz8_0 := qC BK409.out 0; have hfz8_1 := qC BK409.out 1; have hfz8_2 := qC BK409.out 2) | ((with_reducible refine qb (N := 15) rfl ?_); refine Kd.R_lit k27 _ 27 ?hg (N := 15) ?hd (xs := ([(⟨a1_0, a1_1, a1_2⟩ : S27)] : List (S27))) (inner := [.int .i64 a1_0, .int .i64 a1_1, .int .i64 a1_2]) (ok := fun _ => True) (okp := fun _ => True) ?hr ?hp (fun _ hk => hk) trivial (Below.refl _ _) (Nat.le_refl _) (by simp) ?_; (case hd => rfl); (case hg => rfl); (case hr => first | (go_simp; done) | (go_simp; rfl)); (case hp => exact (Reps.c3 (show Kd.M k27 _ _ _ (⟨a1_0, a1_1, a1_2⟩ : S27) [.int .i64 a1_0, .int .i64 a1_1, .int .i64 a1_2] from (qhB _ _ _ (⟨a1_0, a1_1, a1_2⟩ : S27) )) (Reps.none _ _))); intro v412 w9 ho10 hb hg_ hnew_; clear hg_ hnew_; (first | rw [← Ny411.out] at ho10 | (simp only [Int.reduceToNat] at ho10; rw [← Ny411.out] at ho10)); have n0_ := Aside0.mk (Kd.qu (Kd.qHB ho10 (g := gb409) (o := .cells #[.int .i64 a1_0, .int .i64 a1_1, .int .i64 a1_2] 27 (0, 0)) (by (with_reducible repeat (first | refine qB ?_ _ | refine qD ?_ | refine qA ?_ _)); exact BK409.out)) (qe bl)); have n1_ := Aside0.mk (bb BK408 hb); have n2_ := Aside0.mk (bb BK409 hb); have n3_ := Aside0.mk (bb BK410 hb); have n4_ := Aside0.mk (qG bl hb); clear BK408; clear BK409; clear BK410; clear HB; have HO413 := n0_; have BK408 := n1_; have BK409 := n2_; have BK410 := n3_; have HB := n4_; clear n0_ n1_ n2_ n3_ n4_; clear hb ho10) | ((with_reducible refine qb (N := 16) rfl ?_); refine Kd.R_lit Kd.string _ 9 ?hg (N := 16) ?hd (xs := ([(⟨#[]⟩ : ByteArray)] : List ByteArray)) (inner := [.string (⟨#[]⟩ : ByteArray)]) (ok := fun _ => True) (okp := fun _ => True) ?hr ?hp (fun _ hk => hk) trivial (Below.refl _ _) (Nat.le_refl _) (by simp) ?_; (case hd => rfl); (case hg => rfl); (case hr => first | (go_simp; done) | (go_simp; rfl)); (case hp => exact (Reps.one (show Kd.M Kd.string _ _ _ (⟨#[]⟩ : ByteArray) [.string (⟨#[]⟩ : ByteArray)] from rfl) (Reps.none _ _))); intro v415 w11 ho12 hb hg_ hnew_; clear hg_ hnew_; (first | rw [← Ny414.out] at ho12 | (simp only [Int.reduceToNat] at ho12; rw [← Ny414.out] at ho12)); have n0_ := Aside0.mk (Kd.qc (by (with_reducible repeat (first | apply Kd.qF | apply Kd.qE | apply Kd.qH)); exact HO413.out) hb); have n1_ := Aside0.mk (Kd.qu ho12 (qe bl)); have n2_ := Aside0.mk (bb BK408 hb); have n3_ := Aside0.mk (bb BK409 hb); have n4_ := Aside0.mk (bb BK410 hb); have n5_ := Aside0.mk (qG bl hb); clear HO413; clear BK408; clear BK409; clear BK410; clear HB; have HO413 := n0_; have HO416 := n1_; have BK408 := n2_; have BK409 := n3_; have BK410 := n4_; have HB := n5_; clear n0_ n1_ n2_ n3_ n4_ n5_; clear hb ho12; obtain ⟨Ao13, co13, eo13⟩ := Kd.ql HO416.out; subst eo13; obtain ⟨Ao14, co14, eo14⟩ := Kd.ql HO413.out; subst eo14) | ((with_reducible refine qb (N := 6) rfl ?_); refine qZ ?hg (N := 6) ?hd (cs := #[.slice none 0 0, .slice none 0 0]) (t := 75) ?hr ?_; (case hd => rfl); (case hg => rfl); (case hr => first | (go_simp; done) | (go_simp; rfl)); intro gb417 hg w15 hbox hb; have n0_ := Aside0.mk (Kd.qc (by (with_reducible repeat (first | apply Kd.qF | apply Kd.qE | apply Kd.qH)); exact HO413.out) hb); have n1_ := Aside0.mk (Kd.qc (by (with_reducible repeat (first | apply Kd.qF | apply Kd.qE | apply Kd.qH)); exact HO416.out) hb); have n2_ := Aside0.mk (bb BK408 hb); have n3_ := Aside0.mk (bb BK409 hb); have n4_ := Aside0.mk (bb BK410 hb); have n5_ := Aside0.mk (qG bl hb); have n6_ := Aside0.mk (hbox); have n7_ := Aside0.mk ((gg hg)); have n8_ := Aside0.mk ((gg hg)); have n9_ := Aside0.mk ((nl BK408 hg)); have n10_ := Aside0.mk ((nr BK408 hg)); have n11_ := Aside0.mk ((nl BK409 hg)); have n12_ := Aside0.mk ((nr BK409 hg)); have n13_ := Aside0.mk ((nl BK410 hg)); have n14_ := Aside0.mk ((nr BK410 hg)); clear HO413; clear HO416; clear BK408; clear BK409; clear BK410; clear HB; have HO413 := n0_; have HO416 := n1_; have BK408 := n2_; have BK409 := n3_; have BK410 := n4_; have HB := n5_; have BK417 := n6_; have GW417 := n7_; have GE417 := n8_; have NB408_417 := n9_; have NB417_408 := n10_; have NB409_417 := n11_; have NB417_409 := n12_; have NB410_417 := n13_; have NB417_410 := n14_; clear n0_ n1_ n2_ n3_ n4_ n5_ n6_ n7_ n8_ n9_ n10_ n11_ n12_ n13_ n14_; clear hb hbox hg; have hnb16 := NB417_408.out; have hnc16 := NB408_417.out; have hnb17 := NB417_409.out; have hnc17 := NB409_417.out; have hnb18 := NB417_410.out; have hnc18 := NB410_417.out; have hcz19_0 := bc BK417 0; have hcz19_1 := bc BK417 1; have hfz19_0 := qC BK417.out 0; have hfz19_1 := qC BK417.out 1))
 go_loopg [7] k (fun kq v7 w' => ∃ (x7_1 : Int) (x418000_1 : List (S27)) (x418001_1 : List ByteArray) (u418000 : Value) (u418001 : Value), v7 = .int .i64 x7_1 ∧ Aside0 (qU.l0 kq x7_1 a0_0 a0_1 l0_2 x418000_1 x418001_1 = some (r1, r2, r3)) ∧ Aside0 (kq ≤ k) ∧ Aside0 (Kd.R k27 27 w' w.heap.size (fun k_ => k_ ≠ gb409) u418000 x418000_1) ∧ Aside0 (Kd.R Kd.string 9 w' w.heap.size (fun _ => True) u418001 x418001_1) ∧ Aside0 (w'.heap[gb408]? = some (.cells #[.int .i64 a0_0, .int .i64 a0_1, (.slice A0_2 l0_2.length c0_2)] 57 (0, 0))) ∧ Aside0 (w'.heap[gb409]? = some (.cells #[.int .i64 a1_0, .int .i64 a1_1, .int .i64 a1_2] 27 (0, 0))) ∧ Aside0 (w'.heap[gb410]? = some (.cells #[(.slice none 0 0), (.slice none 0 0)] 75 (0, 0))) ∧ Aside0 (w'.heap[gb417]? = some (.cells #[u418000, u418001] 75 (0, 0))) ∧ Aside0 (Below w.heap.size w w'))
 case atStart => exact ⟨(0), (y411), (y414), (.slice Ao14 y411.length co14), (.slice Ao13 y414.length co13), (by first | rfl | (simp; done) | (simp [*]; done)), H', ⟨Nat.le_refl _⟩, ⟨by (with_reducible repeat (first | apply Kd.qF | apply Kd.qE | apply Kd.qH)); exact Kd.qf (Kd.R_far (p := ⟨gb417, 1, none⟩) (Kd.R_far (p := ⟨gb417, 0, none⟩) (Kd.qt HO413.out BK417.out (by decide)) (fun _ hk => hk.2) (.slice Ao14 y411.length co14)) (fun _ hk => hk.2) (.slice Ao13 y414.length co13)) (fun _ hk => hk.1.2)⟩, ⟨by (with_reducible repeat (first | apply Kd.qF | apply Kd.qE | apply Kd.qH)); exact Kd.qf (Kd.R_far (p := ⟨gb417, 1, none⟩) (Kd.R_far (p := ⟨gb417, 0, none⟩) (Kd.qt HO416.out BK417.out (by decide)) (fun _ hk => hk.2) (.slice Ao14 y411.length co14)) (fun _ hk => hk.2) (.slice Ao13 y414.length co13)) (fun _ hk => trivial)⟩, ⟨by (with_reducible repeat (first | refine qB ?_ _ | refine qD ?_ | refine qA ?_ _)); refine qL ?_ NB408_417.out _; (with_reducible repeat (first | refine qB ?_ _ | refine qD ?_ | refine qA ?_ _)); refine qL ?_ NB408_417.out _; (with_reducible repeat (first | refine qB ?_ _ | refine qD ?_ | refine qA ?_ _)); exact BK408.out⟩, ⟨by (with_reducible repeat (first | refine qB ?_ _ | refine qD ?_ | refine qA ?_ _)); refine qL ?_ NB409_417.out _; (with_reducible repeat (first | refine qB ?_ _ | refine qD ?_ | refine qA ?_ _)); refine qL ?_ NB409_417.out _; (with_reducible repeat (first | refine qB ?_ _ | refine qD ?_ | refine qA ?_ _)); exact BK409.out⟩, ⟨by (with_reducible repeat (first | refine qB ?_ _ | refine qD ?_ | refine qA ?_ _)); refine qL ?_ NB410_417.out _; (with_reducible repeat (first | refine qB ?_ _ | refine qD ?_ | refine qA ?_ _)); refine qL ?_ NB410_417.out _; (with_reducible repeat (first | refine qB ?_ _ | refine qD ?_ | refine qA ?_ _)); exact BK410.out⟩, ⟨by (with_reducible repeat (first | refine qB ?_ _ | refine qD ?_ | refine qA ?_ _)); refine qP (cs := #[.slice Ao14 y411.length co14, .slice none 0 0]) ?_ 1 _ rfl; (with_reducible repeat (first | refine qB ?_ _ | refine qD ?_ | refine qA ?_ _)); refine qP (cs := #[.slice none 0 0, .slice none 0 0]) ?_ 0 _ rfl; (with_reducible repeat (first | refine qB ?_ _ | refine qD ?_ | refine qA ?_ _)); exact BK417.out⟩, ⟨bl⟩⟩
 case round =>
  clear H'
  try clear c1
  try clear p2
  try clear c3
  try clear c6
  try clear c7
  try clear c9
  try clear c16
  try clear c17
  try clear c18
  try clear hcz19_0
  try clear hcz19_1
  try clear hcz8_0
  try clear hcz8_1
  try clear hcz8_2
  try clear hfz19_0
  try clear hfz19_1
  try clear hfz8_0
  try clear hfz8_1
  try clear hfz8_2
  obtain ⟨x7_1, x418000_1, x418001_1, u418000, u418001, rfl, HA, HK1, HO_418000, HO_418001, BK408, BK409, BK410, BK417, HB⟩ := hrel
  cases gk with
  | zero => exact absurd HA.out (by simp [qU.l0])
  | succ k1 =>
   have H := HA.out
   clear HA
   simp only [qU.l0] at H
   by_cases c20 : x7_1 < (x418000_1.length : Int)
   ·rw [if_pos c20] at H
    have c20b0 : decide (x7_1 < (x418000_1.length : Int)) = true := decide_eq_true c20
    clear c20
    have H' := Aside0.mk H
    clear H
    have hnb21 := NB417_408.out
    have hnc21 := NB408_417.out
    have hnb22 := NB417_409.out
    have hnc22 := NB409_417.out
    have hnb23 := NB417_410.out
    have hnc23 := NB410_417.out
    have hcz24_0 := bc BK417 0
    have hcz24_1 := bc BK417 1
    have hfz24_0 := qC BK417.out 0
    have hfz24_1 := qC BK417.out 1
    obtain ⟨Ao25, co25, eo25⟩ := Kd.ql HO_418000.out
    subst eo25
    go_wp2
    go_loopg [8] k1 (fun kq v8 w' => ∃ (x8_2 : Int) (x418000_2 : List (S27)) (x418001_2 : List ByteArray) (u418000 : Value) (u418001 : Value), v8 = .int .i64 x8_2 ∧ Aside0 (qU.l1 kq x7_1 x8_2 a0_0 a0_1 l0_2 x418000_2 x418001_2 = some (r1, r2, r3)) ∧ Aside0 (kq ≤ k1) ∧ Aside0 (Kd.R k27 27 w' w.heap.size (fun k_ => k_ ≠ gb409) u418000 x418000_2) ∧ Aside0 (Kd.R Kd.string 9 w' w.heap.size (fun _ => True) u418001 x418001_2) ∧ Aside0 (w'.heap[gb408]? = some (.cells #[.int .i64 a0_0, .int .i64 a0_1, (.slice A0_2 l0_2.length c0_2)] 57 (0, 0))) ∧ Aside0 (w'.heap[gb409]? = some (.cells #[.int .i64 a1_0, .int .i64 a1_1, .int .i64 a1_2] 27 (0, 0))) ∧ Aside0 (w'.heap[gb410]? = some (.cells #[(.slice none 0 0), (.slice none 0 0)] 75 (0, 0))) ∧ Aside0 (w'.heap[gb417]? = some (.cells #[u418000, u418001] 75 (0, 0))) ∧ Aside0 (Below w.heap.size w w'))
    case atStart => exact ⟨(0), (x418000_1), (x418001_1), (.slice Ao25 x418000_1.length co25), (u418001), (by first | rfl | (simp; done) | (simp [*]; done)), H', ⟨Nat.le_refl _⟩, ⟨by (with_reducible repeat (first | apply Kd.qF | apply Kd.qE | apply Kd.qH)); exact HO_418000.out⟩, ⟨by (with_reducible repeat (first | apply Kd.qF | apply Kd.qE | apply Kd.qH)); exact HO_418001.out⟩, ⟨by (with_reducible repeat (first | refine qB ?_ _ | refine qD ?_ | refine qA ?_ _)); exact BK408.out⟩, ⟨by (with_reducible repeat (first | refine qB ?_ _ | refine qD ?_ | refine qA ?_ _)); exact BK409.out⟩, ⟨by (with_reducible repeat (first | refine qB ?_ _ | refine qD ?_ | refine qA ?_ _)); exact BK410.out⟩, ⟨by (with_reducible repeat (first | refine qB ?_ _ | refine qD ?_ | refine qA ?_ _)); exact BK417.out⟩, ⟨bl⟩⟩
    case round =>
     clear H'
     try clear c1
     try clear c2
     try clear p2
     try clear c3
     try clear c6
     try clear c7
     try clear c9
     try clear c16
     try clear c17
     try clear c18
     try clear c20
     try clear c20b0
     try clear c21
     try clear c22
     try clear c23
     try clear hcz19_0
     try clear hcz19_1
     try clear hcz24_0
     try clear hcz24_1
     try clear hcz8_0
     try clear hcz8_1
     try clear hcz8_2
     try clear hfz19_0
     try clear hfz19_1
     try clear hfz24_0
     try clear hfz24_1
     try clear hfz8_0
     try clear hfz8_1
     try clear hfz8_2
     try clear p2
     obtain ⟨x8_2, x418000_2, x418001_2, u418000, u418001, rfl, HA, HK2, HO_418000, HO_418001, BK408, BK409, BK410, BK417, HB⟩ := hrel
     cases gk with
     | zero => exact absurd HA.out (by simp [qU.l1])
     | succ k2 =>
      have H := HA.out
      clear HA
      simp only [qU.l1] at H
      by_cases c26 : x8_2 < 4
      ·rw [if_pos c26] at H
       have c26b0 : decide (x8_2 < 4) = true := decide_eq_true c26
       clear c26
       by_cases c27 : 0 ≤ x7_1
       ·rw [if_pos c27] at H
        have c27b0 : decide (0 ≤ x7_1) = true := decide_eq_true c27
        clear c27
        by_cases c28 : x7_1 < (x418000_2.length : Int)
        ·rw [if_pos c28] at H
         have c28b0 : decide (x7_1 < (x418000_2.length : Int)) = true := decide_eq_true c28
         clear c28
         replace H := Option.bind_eq_some_iff.mp H
         obtain ⟨⟨t419, t420, t421, t422⟩, A290, H⟩ := H
         replace H : (if t422 = true then (qU.l2 k2 x7_1 x8_2 false x418000_2 (x418000_2.length : Int) 0 a0_0 a0_1 l0_2 x418000_2 x418001_2 t419 t420 t421) else (qU.l1 k2 x7_1 (wrap64 (x8_2 + 1)) a0_0 a0_1 l0_2 x418000_2 x418001_2)) = some (r1, r2, r3) := H
         have A29 := Aside0.mk A290
         clear A290
         by_cases c30 : t422 = true
         ·subst c30
          have H1 : (qU.l2 k2 x7_1 x8_2 false x418000_2 (x418000_2.length : Int) 0 a0_0 a0_1 l0_2 x418000_2 x418001_2 t419 t420 t421) = some (r1, r2, r3) := by rw [if_pos rfl] at H; exact H
          clear H
          have H := H1
          clear H1
          have H' := Aside0.mk H
          clear H
          try go_wp2
          have n0_ := Aside0.mk (Kd.qH HO_418000.out)
          have n1_ := Aside0.mk (Kd.qH HO_418001.out)
          have n2_ := Aside0.mk (qD BK408.out)
          have n3_ := Aside0.mk (qD BK409.out)
          have n4_ := Aside0.mk (qD BK410.out)
          have n5_ := Aside0.mk (qD BK417.out)
          have n6_ := Aside0.mk (qi HB.out)
          clear HO_418000
          clear HO_418001
          clear BK408
          clear BK409
          clear BK410
          clear BK417
          clear HB
          have HO_418000 := n0_
          have HO_418001 := n1_
          have BK408 := n2_
          have BK409 := n3_
          have BK410 := n4_
          have BK417 := n5_
          have HB := n6_
          clear n0_ n1_ n2_ n3_ n4_ n5_ n6_
          obtain ⟨Ao32, co32, eo32⟩ := Kd.ql HO_418000.out
          (first | subst eo32 | (injection eo32 with f1_ f2_ f3_; have f4_ := f1_.symm; have f5_ := f3_.symm; clear f1_ f2_ f3_; subst f4_; subst f5_))
          have p418 : 0 ≤ (x7_1 : Int) := of_decide_eq_true (by first | (with_reducible assumption) | assumption)
          have q418 : x7_1 < (x418000_2.length : Int) := of_decide_eq_true (by first | (with_reducible assumption) | assumption)
          obtain ⟨ad418, e418, hx418_0, hx418_1, hx418_2⟩ := qWB (Kd.qh HO_418000.out).2.2 x7_1 p418 q418
          cases e418
          replace p418 := eq_true p418
          replace q418 := eq_true q418
          refine qsA (n := 14) (S := fun w' => w'.cell? ⟨gb408, 0, none⟩ = some (.int .i64 a0_0) ∧ w'.cell? ⟨gb408, 1, none⟩ = some (.int .i64 a0_1) ∧ w'.cell? ⟨gb408, 2, none⟩ = some (.slice A0_2 l0_2.length c0_2) ∧ w'.cell? ⟨gb417, 0, none⟩ = some (.slice (some ad418) x418000_2.length co32) ∧ w'.cell? ⟨gb417, 1, none⟩ = some (u418001) ∧ w'.cell? (ad418.add ((x7_1).toNat * 3)) = some (.int .i64 ((qX x418000_2 x7_1).f0)) ∧ w'.cell? ⟨(ad418.add ((x7_1).toNat * 3)).block, (ad418.add ((x7_1).toNat * 3)).off + 1, none⟩ = some (.int .i64 ((qX x418000_2 x7_1).f1)) ∧ w'.cell? ⟨(ad418.add ((x7_1).toNat * 3)).block, (ad418.add ((x7_1).toNat * 3)).off + 2, none⟩ = some (.int .i64 ((qX x418000_2 x7_1).f2))) (ds := []) #[false, false, false, false, false, false, false, false, false, false, false, false, false, false] (by kernel_rfl) rfl rfl ⟨(qK BK408.out 0).trans rfl, (qK BK408.out 1).trans rfl, (qK BK408.out 2).trans rfl, (qK BK417.out 0).trans rfl, (qK BK417.out 1).trans rfl, hx418_0, hx418_1, hx418_2⟩ (fun hHeld => ?_); refine qTA qU.tab8 qU.bits8 (fun HT_ HW_ => ?_)
          generalize wr.drew = w31 at HO_418000 HO_418001 BK408 BK409 BK410 BK417 HB hx418_0 hx418_1 hx418_2 hHeld ⊢
          refine pS (i := 1) (N := some 31) #[false, true, false, false, false, false, false, false, false, false, false, false, false, false] HT_ ?_
          refine pS (i := 3) (N := some 33) #[false, true, false, true, false, false, false, false, false, false, false, false, false, false] HT_ ?_
          refine pS (i := 6) (N := some 36) #[false, true, false, true, false, false, true, false, false, false, false, false, false, false] HT_ ?_
          refine tS (i := 0) (N := some 30) #[true, true, false, true, false, false, true, false, false, false, false, false, false, false] HT_ HW_ hHeld ?_
          refine tS (i := 2) (N := some 32) #[true, true, true, true, false, false, true, false, false, false, false, false, false, false] HT_ HW_ hHeld ?_
          refine pS (i := 4) (N := some 34) #[true, true, true, true, true, false, true, false, false, false, false, false, false, false] HT_ ?_
          refine tS (i := 5) (N := some 35) #[true, true, true, true, true, true, true, false, false, false, false, false, false, false] HT_ HW_ hHeld ?_
          refine join_ (σ := Nat) 2 #[true, true, true, true, true, true, true, true, true, true, true, true, false, false] (fun s_ => [(37, .tuple #[.agg #[.int .i64 t419, .int .i64 t420, .int .i64 t421], .bool true]), (9, .pointer (some ⟨s_, 0, none⟩)), (29, .tuple #[.agg #[.int .i64 t419, .int .i64 t420, .int .i64 t421], .bool true]), (38, .agg #[.int .i64 t419, .int .i64 t420, .int .i64 t421]), (39, .bool true)]) (fun s_ w' => (w'.cell? ⟨gb408, 0, none⟩ = some (.int .i64 a0_0) ∧ w'.cell? ⟨gb408, 1, none⟩ = some (.int .i64 a0_1) ∧ w'.cell? ⟨gb408, 2, none⟩ = some (.slice A0_2 l0_2.length c0_2) ∧ w'.cell? ⟨gb417, 0, none⟩ = some (.slice (some ad418) x418000_2.length co32) ∧ w'.cell? ⟨gb417, 1, none⟩ = some (u418001) ∧ w'.cell? (ad418.add ((x7_1).toNat * 3)) = some (.int .i64 ((qX x418000_2 x7_1).f0)) ∧ w'.cell? ⟨(ad418.add ((x7_1).toNat * 3)).block, (ad418.add ((x7_1).toNat * 3)).off + 1, none⟩ = some (.int .i64 ((qX x418000_2 x7_1).f1)) ∧ w'.cell? ⟨(ad418.add ((x7_1).toNat * 3)).block, (ad418.add ((x7_1).toNat * 3)).off + 2, none⟩ = some (.int .i64 ((qX x418000_2 x7_1).f2))) ∧ (Kd.R k27 27 w' w.heap.size (fun k_ => k_ ≠ gb409 ∧ k_ ≠ s_) (.slice (some ad418) x418000_2.length co32) x418000_2) ∧ (Kd.R Kd.string 9 w' w.heap.size (fun _ => True) u418001 x418001_2) ∧ (w'.heap[gb408]? = some (.cells #[.int .i64 a0_0, .int .i64 a0_1, .slice A0_2 l0_2.length c0_2] 57 (0, 0))) ∧ (w'.heap[gb409]? = some (.cells #[.int .i64 a1_0, .int .i64 a1_1, .int .i64 a1_2] 27 (0, 0))) ∧ (w'.heap[gb410]? = some (.cells #[.slice none 0 0, .slice none 0 0] 75 (0, 0))) ∧ (w'.heap[gb417]? = some (.cells #[.slice (some ad418) x418000_2.length co32, u418001] 75 (0, 0))) ∧ (w'.heap[s_]? = some (.cells #[.int .i64 0, .int .i64 0, .int .i64 0] 27 (0, 0))) ∧ (w.heap.size ≤ s_) ∧ (w.heap.size ≤ s_) ∧ (gb408 ≠ s_) ∧ (s_ ≠ gb408) ∧ (gb409 ≠ s_) ∧ (s_ ≠ gb409) ∧ (gb410 ≠ s_) ∧ (s_ ≠ gb410) ∧ (gb417 ≠ s_) ∧ (s_ ≠ gb417) ∧ (Below w.heap.size w w')) ?_ ?_
          rotate_left
          ·intro hCont
           refine two_ (i := 7) (j := 11) (Ni := some 37) (Nj := some 9) #[true, true, true, true, true, true, true, true, false, false, false, false, false, false] #[true, true, true, true, true, true, true, false, false, false, false, true, false, false] rfl rfl rfl rfl (qeB HT_.out (by kernel_rfl)) (by decide) (by decide) (fun K hK => ?_) (fun K hK => ?_)
           ·skip
            refine goes_ Tryd.func60 (by kernel_rfl) rfl #[.agg #[.int .i64 a0_0, .int .i64 a0_1, .slice A0_2 l0_2.length c0_2], .agg #[.int .i64 ((qX x418000_2 x7_1).f0), .int .i64 ((qX x418000_2 x7_1).f1), .int .i64 ((qX x418000_2 x7_1).f2)], .int .i64 x8_2] (by rfl) rfl rfl (by (try simp only [List.map_toArray, List.map_cons, List.map_nil]); first | done | rfl | (simp only [List.length_drop, List.length_take]; rfl)) ?_
            with_reducible refine (qZA.calls k2 a0_0 a0_1 _ _ l0_2 ((qX x418000_2 x7_1).f0) ((qX x418000_2 x7_1).f1) ((qX x418000_2 x7_1).f2) x8_2 t419 t420 t421 true _ ?side1 ?side2 A29.out).mono ?_
            (case side1 => repeat (first | exact (Kd.qQA HR0_2.out HB.out) | (with_reducible refine Kd.qIA ?_ _) | (with_reducible refine Kd.qHA ?_ _) | (with_reducible refine Kd.qSA ?_)))
            (case side2 => exact HC0_2.out)
            rintro e w33 ⟨rfl, hb⟩
            have HS5_ := (hb.cell (World.block_lt_of_cell? _ _ (hHeld.2.2.2.2.2.1))).trans (hHeld.2.2.2.2.2.1)
            have HS6_ := (hb.cell (World.block_lt_of_cell? _ _ (hHeld.2.2.2.2.2.2.1))).trans (hHeld.2.2.2.2.2.2.1)
            have HS7_ := (hb.cell (World.block_lt_of_cell? _ _ (hHeld.2.2.2.2.2.2.2))).trans (hHeld.2.2.2.2.2.2.2)
            refine ⟨_, rfl, ?_⟩
            have n0_ := Aside0.mk (Kd.qc (by (with_reducible repeat (first | apply Kd.qF | apply Kd.qE | apply Kd.qH)); exact HO_418000.out) hb)
            have n1_ := Aside0.mk (Kd.qc (by (with_reducible repeat (first | apply Kd.qF | apply Kd.qE | apply Kd.qH)); exact HO_418001.out) hb)
            have n2_ := Aside0.mk (bb BK408 hb)
            have n3_ := Aside0.mk (bb BK409 hb)
            have n4_ := Aside0.mk (bb BK410 hb)
            have n5_ := Aside0.mk (bb BK417 hb)
            have n6_ := Aside0.mk (qG bl hb)
            clear HO_418000
            clear HO_418001
            clear BK408
            clear BK409
            clear BK410
            clear BK417
            clear HB
            have HO_418000 := n0_
            have HO_418001 := n1_
            have BK408 := n2_
            have BK409 := n3_
            have BK410 := n4_
            have BK417 := n5_
            have HB := n6_
            clear n0_ n1_ n2_ n3_ n4_ n5_ n6_
            (try clear hb)
            (try clear hb2)
            (try clear hk)
            (try clear hi)
            refine hK.out _ _ ⟨(qK BK408.out 0).trans rfl, (qK BK408.out 1).trans rfl, (qK BK408.out 2).trans rfl, (qK BK417.out 0).trans rfl, (qK BK417.out 1).trans rfl, HS5_, HS6_, HS7_⟩ (fun hHeld => ?_)
            clear hK K
            refine norm_ (a' := ?_) ?_ ?_
            rotate_left
            ·show Act.put _ (some 37) _ = _
             simp only [Act.put, List.setIfInBounds_toArray, List.set_cons_zero, List.set_cons_succ, i64_w, i32_w]
             rfl
            refine pS (i := 8) (N := some 29) #[true, true, true, true, true, true, true, true, true, false, false, false, false, false] HT_ ?_
            refine pS (i := 9) (N := some 38) #[true, true, true, true, true, true, true, true, true, true, false, false, false, false] HT_ ?_
            refine pS (i := 10) (N := some 39) #[true, true, true, true, true, true, true, true, true, true, true, false, false, false] HT_ ?_
            refine one_ (i := 11) (N := some 9) #[true, true, true, true, true, true, true, true, true, true, true, true, false, false] rfl rfl (qNA HT_.out (by kernel_rfl)) (by decide) (fun K hK => ?_)
            refine qnA ?hg (N := 9) ?hd (cs := #[.int .i64 0, .int .i64 0, .int .i64 0]) (t := 27) ?hr ?_; (case hd => rfl); (case hg => rfl); (case hr => first | (go_simp; done) | (go_simp; rfl))
            intro gb423 hg w34 hbox hb
            have HS5_ := (hb.cell (World.block_lt_of_cell? _ _ (hHeld.2.2.2.2.2.1))).trans (hHeld.2.2.2.2.2.1)
            have HS6_ := (hb.cell (World.block_lt_of_cell? _ _ (hHeld.2.2.2.2.2.2.1))).trans (hHeld.2.2.2.2.2.2.1)
            have HS7_ := (hb.cell (World.block_lt_of_cell? _ _ (hHeld.2.2.2.2.2.2.2))).trans (hHeld.2.2.2.2.2.2.2)
            have n0_ := Aside0.mk (Kd.qc (Kd.qcA (by (with_reducible repeat (first | apply Kd.qF | apply Kd.qE | apply Kd.qH)); exact HO_418000.out) gb423 (Nat.le_of_eq hg.symm)) hb)
            have n1_ := Aside0.mk (Kd.qc (by (with_reducible repeat (first | apply Kd.qF | apply Kd.qE | apply Kd.qH)); exact HO_418001.out) hb)
            have n2_ := Aside0.mk (bb BK408 hb)
            have n3_ := Aside0.mk (bb BK409 hb)
            have n4_ := Aside0.mk (bb BK410 hb)
            have n5_ := Aside0.mk (bb BK417 hb)
            have n6_ := Aside0.mk (qG bl hb)
            have n7_ := Aside0.mk (hbox)
            have n8_ := Aside0.mk ((gg hg))
            have n9_ := Aside0.mk ((gg hg))
            have n10_ := Aside0.mk ((nl BK408 hg))
            have n11_ := Aside0.mk ((nr BK408 hg))
            have n12_ := Aside0.mk ((nl BK409 hg))
            have n13_ := Aside0.mk ((nr BK409 hg))
            have n14_ := Aside0.mk ((nl BK410 hg))
            have n15_ := Aside0.mk ((nr BK410 hg))
            have n16_ := Aside0.mk ((nl BK417 hg))
            have n17_ := Aside0.mk ((nr BK417 hg))
            clear HO_418000
            clear HO_418001
            clear BK408
            clear BK409
            clear BK410
            clear BK417
            clear HB
            have HO_418000 := n0_
            have HO_418001 := n1_
            have BK408 := n2_
            have BK409 := n3_
            have BK410 := n4_
            have BK417 := n5_
            have HB := n6_
            have BK423 := n7_
            have GW423 := n8_
            have GE423 := n9_
            have NB408_423 := n10_
            have NB423_408 := n11_
            have NB409_423 := n12_
            have NB423_409 := n13_
            have NB410_423 := n14_
            have NB423_410 := n15_
            have NB417_423 := n16_
            have NB423_417 := n17_
            clear n0_ n1_ n2_ n3_ n4_ n5_ n6_ n7_ n8_ n9_ n10_ n11_ n12_ n13_ n14_ n15_ n16_ n17_
            clear hb hbox hg
            refine hK.out _ _ ⟨(qK BK408.out 0).trans rfl, (qK BK408.out 1).trans rfl, (qK BK408.out 2).trans rfl, (qK BK417.out 0).trans rfl, (qK BK417.out 1).trans rfl, HS5_, HS6_, HS7_⟩ (fun hHeld => ?_)
            clear hK K
            refine norm_ (a' := ?_) ?_ ?_
            rotate_left
            ·show Act.put _ (some 9) _ = _
             simp only [Act.put, List.setIfInBounds_toArray, List.set_cons_zero, List.set_cons_succ, i64_w, i32_w]
             rfl
            exact norm_ (by simp only [putAll, Act.put, List.setIfInBounds_toArray, List.set_cons_zero, List.set_cons_succ]) (hCont (gb423) _ ⟨hHeld, (by (with_reducible repeat (first | apply Kd.qF | apply Kd.qE | apply Kd.qH)); exact HO_418000.out), (by (with_reducible repeat (first | apply Kd.qF | apply Kd.qE | apply Kd.qH)); exact HO_418001.out), (by (with_reducible repeat (first | refine qB ?_ _ | refine qD ?_ | refine qA ?_ _)); exact BK408.out), (by (with_reducible repeat (first | refine qB ?_ _ | refine qD ?_ | refine qA ?_ _)); exact BK409.out), (by (with_reducible repeat (first | refine qB ?_ _ | refine qD ?_ | refine qA ?_ _)); exact BK410.out), (by (with_reducible repeat (first | refine qB ?_ _ | refine qD ?_ | refine qA ?_ _)); exact BK417.out), (by (with_reducible repeat (first | refine qB ?_ _ | refine qD ?_ | refine qA ?_ _)); exact BK423.out), GW423.out, GE423.out, NB408_423.out, NB423_408.out, NB409_423.out, NB423_409.out, NB410_423.out, NB423_410.out, NB417_423.out, NB423_417.out, bl⟩)
           ·skip
            refine qnA ?hg (N := 9) ?hd (cs := #[.int .i64 0, .int .i64 0, .int .i64 0]) (t := 27) ?hr ?_; (case hd => rfl); (case hg => rfl); (case hr => first | (go_simp; done) | (go_simp; rfl))
            intro gb423 hg w33 hbox hb
            have HS5_ := (hb.cell (World.block_lt_of_cell? _ _ (hHeld.2.2.2.2.2.1))).trans (hHeld.2.2.2.2.2.1)
            have HS6_ := (hb.cell (World.block_lt_of_cell? _ _ (hHeld.2.2.2.2.2.2.1))).trans (hHeld.2.2.2.2.2.2.1)
            have HS7_ := (hb.cell (World.block_lt_of_cell? _ _ (hHeld.2.2.2.2.2.2.2))).trans (hHeld.2.2.2.2.2.2.2)
            have n0_ := Aside0.mk (Kd.qc (Kd.qcA (by (with_reducible repeat (first | apply Kd.qF | apply Kd.qE | apply Kd.qH)); exact HO_418000.out) gb423 (Nat.le_of_eq hg.symm)) hb)
            have n1_ := Aside0.mk (Kd.qc (by (with_reducible repeat (first | apply Kd.qF | apply Kd.qE | apply Kd.qH)); exact HO_418001.out) hb)
            have n2_ := Aside0.mk (bb BK408 hb)
            have n3_ := Aside0.mk (bb BK409 hb)
            have n4_ := Aside0.mk (bb BK410 hb)
            have n5_ := Aside0.mk (bb BK417 hb)
            have n6_ := Aside0.mk (qG bl hb)
            have n7_ := Aside0.mk (hbox)
            have n8_ := Aside0.mk ((gg hg))
            have n9_ := Aside0.mk ((gg hg))
            have n10_ := Aside0.mk ((nl BK408 hg))
            have n11_ := Aside0.mk ((nr BK408 hg))
            have n12_ := Aside0.mk ((nl BK409 hg))
            have n13_ := Aside0.mk ((nr BK409 hg))
            have n14_ := Aside0.mk ((nl BK410 hg))
            have n15_ := Aside0.mk ((nr BK410 hg))
            have n16_ := Aside0.mk ((nl BK417 hg))
            have n17_ := Aside0.mk ((nr BK417 hg))
            clear HO_418000
            clear HO_418001
            clear BK408
            clear BK409
            clear BK410
            clear BK417
            clear HB
            have HO_418000 := n0_
            have HO_418001 := n1_
            have BK408 := n2_
            have BK409 := n3_
            have BK410 := n4_
            have BK417 := n5_
            have HB := n6_
            have BK423 := n7_
            have GW423 := n8_
            have GE423 := n9_
            have NB408_423 := n10_
            have NB423_408 := n11_
            have NB409_423 := n12_
            have NB423_409 := n13_
            have NB410_423 := n14_
            have NB423_410 := n15_
            have NB417_423 := n16_
            have NB423_417 := n17_
            clear n0_ n1_ n2_ n3_ n4_ n5_ n6_ n7_ n8_ n9_ n10_ n11_ n12_ n13_ n14_ n15_ n16_ n17_
            clear hb hbox hg
            refine hK.out _ _ ⟨(qK BK408.out 0).trans rfl, (qK BK408.out 1).trans rfl, (qK BK408.out 2).trans rfl, (qK BK417.out 0).trans rfl, (qK BK417.out 1).trans rfl, HS5_, HS6_, HS7_⟩ (fun hHeld => ?_)
            clear hK K
            refine norm_ (a' := ?_) ?_ ?_
            rotate_left
            ·show Act.put _ (some 9) _ = _
             simp only [Act.put, List.setIfInBounds_toArray, List.set_cons_zero, List.set_cons_succ, i64_w, i32_w]
             rfl
            refine one_ (i := 7) (N := some 37) #[true, true, true, true, true, true, true, true, false, false, false, true, false, false] rfl rfl (qNA HT_.out (by kernel_rfl)) (by decide) (fun K hK => ?_)
            refine goes_ Tryd.func60 (by kernel_rfl) rfl #[.agg #[.int .i64 a0_0, .int .i64 a0_1, .slice A0_2 l0_2.length c0_2], .agg #[.int .i64 ((qX x418000_2 x7_1).f0), .int .i64 ((qX x418000_2 x7_1).f1), .int .i64 ((qX x418000_2 x7_1).f2)], .int .i64 x8_2] (by rfl) rfl rfl (by (try simp only [List.map_toArray, List.map_cons, List.map_nil]); first | done | rfl | (simp only [List.length_drop, List.length_take]; rfl)) ?_
            with_reducible refine (qZA.calls k2 a0_0 a0_1 _ _ l0_2 ((qX x418000_2 x7_1).f0) ((qX x418000_2 x7_1).f1) ((qX x418000_2 x7_1).f2) x8_2 t419 t420 t421 true _ ?side1 ?side2 A29.out).mono ?_
            (case side1 => repeat (first | exact (Kd.qQA HR0_2.out HB.out) | (with_reducible refine Kd.qIA ?_ _) | (with_reducible refine Kd.qHA ?_ _) | (with_reducible refine Kd.qSA ?_)))
            (case side2 => exact HC0_2.out)
            rintro e w34 ⟨rfl, hb⟩
            have HS5_ := (hb.cell (World.block_lt_of_cell? _ _ (hHeld.2.2.2.2.2.1))).trans (hHeld.2.2.2.2.2.1)
            have HS6_ := (hb.cell (World.block_lt_of_cell? _ _ (hHeld.2.2.2.2.2.2.1))).trans (hHeld.2.2.2.2.2.2.1)
            have HS7_ := (hb.cell (World.block_lt_of_cell? _ _ (hHeld.2.2.2.2.2.2.2))).trans (hHeld.2.2.2.2.2.2.2)
            refine ⟨_, rfl, ?_⟩
            have n0_ := Aside0.mk (Kd.qc (by (with_reducible repeat (first | apply Kd.qF | apply Kd.qE | apply Kd.qH)); exact HO_418000.out) hb)
            have n1_ := Aside0.mk (Kd.qc (by (with_reducible repeat (first | apply Kd.qF | apply Kd.qE | apply Kd.qH)); exact HO_418001.out) hb)
            have n2_ := Aside0.mk (bb BK408 hb)
            have n3_ := Aside0.mk (bb BK409 hb)
            have n4_ := Aside0.mk (bb BK410 hb)
            have n5_ := Aside0.mk (bb BK417 hb)
            have n6_ := Aside0.mk (bb BK423 hb)
            have n7_ := Aside0.mk (qG bl hb)
            clear HO_418000
            clear HO_418001
            clear BK408
            clear BK409
            clear BK410
            clear BK417
            clear BK423
            clear HB
            have HO_418000 := n0_
            have HO_418001 := n1_
            have BK408 := n2_
            have BK409 := n3_
            have BK410 := n4_
            have BK417 := n5_
            have BK423 := n6_
            have HB := n7_
            clear n0_ n1_ n2_ n3_ n4_ n5_ n6_ n7_
            (try clear hb)
            (try clear hb2)
            (try clear hk)
            (try clear hi)
            refine hK.out _ _ ⟨(qK BK408.out 0).trans rfl, (qK BK408.out 1).trans rfl, (qK BK408.out 2).trans rfl, (qK BK417.out 0).trans rfl, (qK BK417.out 1).trans rfl, HS5_, HS6_, HS7_⟩ (fun hHeld => ?_)
            clear hK K
            refine norm_ (a' := ?_) ?_ ?_
            rotate_left
            ·show Act.put _ (some 37) _ = _
             simp only [Act.put, List.setIfInBounds_toArray, List.set_cons_zero, List.set_cons_succ, i64_w, i32_w]
             rfl
            refine pS (i := 8) (N := some 29) #[true, true, true, true, true, true, true, true, true, false, false, true, false, false] HT_ ?_
            refine pS (i := 9) (N := some 38) #[true, true, true, true, true, true, true, true, true, true, false, true, false, false] HT_ ?_
            refine pS (i := 10) (N := some 39) #[true, true, true, true, true, true, true, true, true, true, true, true, false, false] HT_ ?_
            exact norm_ (by simp only [putAll, Act.put, List.setIfInBounds_toArray, List.set_cons_zero, List.set_cons_succ]) (hCont (gb423) _ ⟨hHeld, (by (with_reducible repeat (first | apply Kd.qF | apply Kd.qE | apply Kd.qH)); exact HO_418000.out), (by (with_reducible repeat (first | apply Kd.qF | apply Kd.qE | apply Kd.qH)); exact HO_418001.out), (by (with_reducible repeat (first | refine qB ?_ _ | refine qD ?_ | refine qA ?_ _)); exact BK408.out), (by (with_reducible repeat (first | refine qB ?_ _ | refine qD ?_ | refine qA ?_ _)); exact BK409.out), (by (with_reducible repeat (first | refine qB ?_ _ | refine qD ?_ | refine qA ?_ _)); exact BK410.out), (by (with_reducible repeat (first | refine qB ?_ _ | refine qD ?_ | refine qA ?_ _)); exact BK417.out), (by (with_reducible repeat (first | refine qB ?_ _ | refine qD ?_ | refine qA ?_ _)); exact BK423.out), GW423.out, GE423.out, NB408_423.out, NB423_408.out, NB409_423.out, NB423_409.out, NB410_423.out, NB423_410.out, NB417_423.out, NB423_417.out, bl⟩)
          rintro gb423 w35 ⟨hS_, h0_, h1_, h2_, h3_, h4_, h5_, h6_, h7_, h8_, h9_, h10_, h11_, h12_, h13_, h14_, h15_, h16_, h17_⟩
          have n0_ : Aside0 (Kd.R k27 27 w35 w.heap.size (fun k_ => k_ ≠ gb409 ∧ k_ ≠ gb423) (.slice (some ad418) x418000_2.length co32) x418000_2) := ⟨h0_⟩
          have n1_ : Aside0 (Kd.R Kd.string 9 w35 w.heap.size (fun _ => True) u418001 x418001_2) := ⟨h1_⟩
          have n2_ : Aside0 (w35.heap[gb408]? = some (.cells #[.int .i64 a0_0, .int .i64 a0_1, .slice A0_2 l0_2.length c0_2] 57 (0, 0))) := ⟨h2_⟩
          have n3_ : Aside0 (w35.heap[gb409]? = some (.cells #[.int .i64 a1_0, .int .i64 a1_1, .int .i64 a1_2] 27 (0, 0))) := ⟨h3_⟩
          have n4_ : Aside0 (w35.heap[gb410]? = some (.cells #[.slice none 0 0, .slice none 0 0] 75 (0, 0))) := ⟨h4_⟩
          have n5_ : Aside0 (w35.heap[gb417]? = some (.cells #[.slice (some ad418) x418000_2.length co32, u418001] 75 (0, 0))) := ⟨h5_⟩
          have n6_ : Aside0 (w35.heap[gb423]? = some (.cells #[.int .i64 0, .int .i64 0, .int .i64 0] 27 (0, 0))) := ⟨h6_⟩
          have n7_ : Aside0 (w.heap.size ≤ gb423) := ⟨h7_⟩
          have n8_ : Aside0 (w.heap.size ≤ gb423) := ⟨h8_⟩
          have n9_ : Aside0 (gb408 ≠ gb423) := ⟨h9_⟩
          have n10_ : Aside0 (gb423 ≠ gb408) := ⟨h10_⟩
          have n11_ : Aside0 (gb409 ≠ gb423) := ⟨h11_⟩
          have n12_ : Aside0 (gb423 ≠ gb409) := ⟨h12_⟩
          have n13_ : Aside0 (gb410 ≠ gb423) := ⟨h13_⟩
          have n14_ : Aside0 (gb423 ≠ gb410) := ⟨h14_⟩
          have n15_ : Aside0 (gb417 ≠ gb423) := ⟨h15_⟩
          have n16_ : Aside0 (gb423 ≠ gb417) := ⟨h16_⟩
          have n17_ : Aside0 (Below w.heap.size w w35) := ⟨h17_⟩
          clear HO_418000
          clear HO_418001
          clear BK408
          clear BK409
          clear BK410
          clear BK417
          clear HB
          clear h0_ h1_ h2_ h3_ h4_ h5_ h6_ h7_ h8_ h9_ h10_ h11_ h12_ h13_ h14_ h15_ h16_ h17_
          have HO_418000 := n0_
          have HO_418001 := n1_
          have BK408 := n2_
          have BK409 := n3_
          have BK410 := n4_
          have BK417 := n5_
          have BK423 := n6_
          have GW423 := n7_
          have GE423 := n8_
          have NB408_423 := n9_
          have NB423_408 := n10_
          have NB409_423 := n11_
          have NB423_409 := n12_
          have NB410_423 := n13_
          have NB423_410 := n14_
          have NB417_423 := n15_
          have NB423_417 := n16_
          have HB := n17_
          clear n0_ n1_ n2_ n3_ n4_ n5_ n6_ n7_ n8_ n9_ n10_ n11_ n12_ n13_ n14_ n15_ n16_ n17_
          have hHeld : w35.cell? ⟨gb408, 0, none⟩ = some (.int .i64 a0_0) ∧ w35.cell? ⟨gb408, 1, none⟩ = some (.int .i64 a0_1) ∧ w35.cell? ⟨gb408, 2, none⟩ = some (.slice A0_2 l0_2.length c0_2) ∧ w35.cell? ⟨gb417, 0, none⟩ = some (.slice (some ad418) x418000_2.length co32) ∧ w35.cell? ⟨gb417, 1, none⟩ = some (u418001) ∧ w35.cell? (ad418.add ((x7_1).toNat * 3)) = some (.int .i64 ((qX x418000_2 x7_1).f0)) ∧ w35.cell? ⟨(ad418.add ((x7_1).toNat * 3)).block, (ad418.add ((x7_1).toNat * 3)).off + 1, none⟩ = some (.int .i64 ((qX x418000_2 x7_1).f1)) ∧ w35.cell? ⟨(ad418.add ((x7_1).toNat * 3)).block, (ad418.add ((x7_1).toNat * 3)).off + 2, none⟩ = some (.int .i64 ((qX x418000_2 x7_1).f2)) := hS_
          refine norm_ (a' := ?_) ?_ ?_
          rotate_left
          ·simp only [putAll, Act.put, List.setIfInBounds_toArray, List.set_cons_zero, List.set_cons_succ]
           rfl
          refine one_ (i := 12) (N := none) #[true, true, true, true, true, true, true, true, true, true, true, true, true, false] rfl rfl (qNA HT_.out (by kernel_rfl)) (by decide) (fun K hK => ?_)
          have hs36 : w35.cell? ⟨gb423, 0, none⟩ = some (.int .i64 0) := (qK BK423.out 0).trans rfl
          have hfs36 := qC BK423.out 0
          have hns36_0 := NB408_423.out
          have hns36_1 := NB409_423.out
          have hns36_2 := NB410_423.out
          have hns36_3 := NB417_423.out
          have hms36_0 := NB423_408.out
          have hms36_1 := NB423_409.out
          have hms36_2 := NB423_410.out
          have hms36_3 := NB423_417.out
          have hs37 : w35.cell? ⟨gb423, 1, none⟩ = some (.int .i64 0) := (qK BK423.out 1).trans rfl
          have hfs37 := qC BK423.out 1
          have hns37_0 := NB408_423.out
          have hns37_1 := NB409_423.out
          have hns37_2 := NB410_423.out
          have hns37_3 := NB417_423.out
          have hms37_0 := NB423_408.out
          have hms37_1 := NB423_409.out
          have hms37_2 := NB423_410.out
          have hms37_3 := NB423_417.out
          have hs38 : w35.cell? ⟨gb423, 2, none⟩ = some (.int .i64 0) := (qK BK423.out 2).trans rfl
          have hfs38 := qC BK423.out 2
          have hns38_0 := NB408_423.out
          have hns38_1 := NB409_423.out
          have hns38_2 := NB410_423.out
          have hns38_3 := NB417_423.out
          have hms38_0 := NB423_408.out
          have hms38_1 := NB423_409.out
          have hms38_2 := NB423_410.out
          have hms38_3 := NB423_417.out
          refine skip_ (w1 := ?_) (by rfl) rfl ?_ ?_
          rotate_left
          ·go_simp
           rfl
          refine hK.out _ _ ⟨((qO (p := ⟨gb423, _, none⟩) NB408_423.out _).trans (((qO (p := ⟨gb423, _, none⟩) NB408_423.out _).trans (((qO (p := ⟨gb423, _, none⟩) NB408_423.out _).trans (hHeld.1)))))), ((qO (p := ⟨gb423, _, none⟩) NB408_423.out _).trans (((qO (p := ⟨gb423, _, none⟩) NB408_423.out _).trans (((qO (p := ⟨gb423, _, none⟩) NB408_423.out _).trans (hHeld.2.1)))))), ((qO (p := ⟨gb423, _, none⟩) NB408_423.out _).trans (((qO (p := ⟨gb423, _, none⟩) NB408_423.out _).trans (((qO (p := ⟨gb423, _, none⟩) NB408_423.out _).trans (hHeld.2.2.1)))))), ((qO (p := ⟨gb423, _, none⟩) NB417_423.out _).trans (((qO (p := ⟨gb423, _, none⟩) NB417_423.out _).trans (((qO (p := ⟨gb423, _, none⟩) NB417_423.out _).trans (hHeld.2.2.2.1)))))), ((qO (p := ⟨gb423, _, none⟩) NB417_423.out _).trans (((qO (p := ⟨gb423, _, none⟩) NB417_423.out _).trans (((qO (p := ⟨gb423, _, none⟩) NB417_423.out _).trans (hHeld.2.2.2.2.1)))))), ((qO (p := ⟨gb423, _, none⟩) (by first | exact Kd.qM (Kd.qR HO_418000.out (fun _ hk => hk.2)) | (rw [qS]; exact Kd.qM (Kd.qR HO_418000.out (fun _ hk => hk.2))) | (show (Addr.add _ _).block ≠ _; rw [qS]; exact Kd.qM (Kd.qR HO_418000.out (fun _ hk => hk.2))) | (dsimp only; exact Kd.qM (Kd.qR HO_418000.out (fun _ hk => hk.2)))) _).trans (((qO (p := ⟨gb423, _, none⟩) (by first | exact Kd.qM (Kd.qR HO_418000.out (fun _ hk => hk.2)) | (rw [qS]; exact Kd.qM (Kd.qR HO_418000.out (fun _ hk => hk.2))) | (show (Addr.add _ _).block ≠ _; rw [qS]; exact Kd.qM (Kd.qR HO_418000.out (fun _ hk => hk.2))) | (dsimp only; exact Kd.qM (Kd.qR HO_418000.out (fun _ hk => hk.2)))) _).trans (((qO (p := ⟨gb423, _, none⟩) (by first | exact Kd.qM (Kd.qR HO_418000.out (fun _ hk => hk.2)) | (rw [qS]; exact Kd.qM (Kd.qR HO_418000.out (fun _ hk => hk.2))) | (show (Addr.add _ _).block ≠ _; rw [qS]; exact Kd.qM (Kd.qR HO_418000.out (fun _ hk => hk.2))) | (dsimp only; exact Kd.qM (Kd.qR HO_418000.out (fun _ hk => hk.2)))) _).trans (hHeld.2.2.2.2.2.1)))))), ((qO (p := ⟨gb423, _, none⟩) (by first | exact Kd.qM (Kd.qR HO_418000.out (fun _ hk => hk.2)) | (rw [qS]; exact Kd.qM (Kd.qR HO_418000.out (fun _ hk => hk.2))) | (show (Addr.add _ _).block ≠ _; rw [qS]; exact Kd.qM (Kd.qR HO_418000.out (fun _ hk => hk.2))) | (dsimp only; exact Kd.qM (Kd.qR HO_418000.out (fun _ hk => hk.2)))) _).trans (((qO (p := ⟨gb423, _, none⟩) (by first | exact Kd.qM (Kd.qR HO_418000.out (fun _ hk => hk.2)) | (rw [qS]; exact Kd.qM (Kd.qR HO_418000.out (fun _ hk => hk.2))) | (show (Addr.add _ _).block ≠ _; rw [qS]; exact Kd.qM (Kd.qR HO_418000.out (fun _ hk => hk.2))) | (dsimp only; exact Kd.qM (Kd.qR HO_418000.out (fun _ hk => hk.2)))) _).trans (((qO (p := ⟨gb423, _, none⟩) (by first | exact Kd.qM (Kd.qR HO_418000.out (fun _ hk => hk.2)) | (rw [qS]; exact Kd.qM (Kd.qR HO_418000.out (fun _ hk => hk.2))) | (show (Addr.add _ _).block ≠ _; rw [qS]; exact Kd.qM (Kd.qR HO_418000.out (fun _ hk => hk.2))) | (dsimp only; exact Kd.qM (Kd.qR HO_418000.out (fun _ hk => hk.2)))) _).trans (hHeld.2.2.2.2.2.2.1)))))), ((qO (p := ⟨gb423, _, none⟩) (by first | exact Kd.qM (Kd.qR HO_418000.out (fun _ hk => hk.2)) | (rw [qS]; exact Kd.qM (Kd.qR HO_418000.out (fun _ hk => hk.2))) | (show (Addr.add _ _).block ≠ _; rw [qS]; exact Kd.qM (Kd.qR HO_418000.out (fun _ hk => hk.2))) | (dsimp only; exact Kd.qM (Kd.qR HO_418000.out (fun _ hk => hk.2)))) _).trans (((qO (p := ⟨gb423, _, none⟩) (by first | exact Kd.qM (Kd.qR HO_418000.out (fun _ hk => hk.2)) | (rw [qS]; exact Kd.qM (Kd.qR HO_418000.out (fun _ hk => hk.2))) | (show (Addr.add _ _).block ≠ _; rw [qS]; exact Kd.qM (Kd.qR HO_418000.out (fun _ hk => hk.2))) | (dsimp only; exact Kd.qM (Kd.qR HO_418000.out (fun _ hk => hk.2)))) _).trans (((qO (p := ⟨gb423, _, none⟩) (by first | exact Kd.qM (Kd.qR HO_418000.out (fun _ hk => hk.2)) | (rw [qS]; exact Kd.qM (Kd.qR HO_418000.out (fun _ hk => hk.2))) | (show (Addr.add _ _).block ≠ _; rw [qS]; exact Kd.qM (Kd.qR HO_418000.out (fun _ hk => hk.2))) | (dsimp only; exact Kd.qM (Kd.qR HO_418000.out (fun _ hk => hk.2)))) _).trans (hHeld.2.2.2.2.2.2.2))))))⟩ (fun hHeld => ?_)
          clear hK K
          refine pS (i := 13) (N := some 10) #[true, true, true, true, true, true, true, true, true, true, true, true, true, true] HT_ ?_
          refine done_ (qjA HT_.out (by kernel_rfl)) ?_
          have hnb39 := NB417_408.out
          have hnc39 := NB408_417.out
          have hnb40 := NB417_409.out
          have hnc40 := NB409_417.out
          have hnb41 := NB417_410.out
          have hnc41 := NB410_417.out
          have hnb42 := NB417_423.out
          have hnc42 := NB423_417.out
          have hcz43_0 := bc BK417 0
          have hcz43_1 := bc BK417 1
          have hfz43_0 := qC BK417.out 0
          have hfz43_1 := qC BK417.out 1
          try go_wp2
          go_loopg [11, 45] k2 (fun kq v11 v45 w' => ∃ (x11_3 : Bool) (x45_3 : Int), v11 = .bool x11_3 ∧ v45 = .int .i64 x45_3 ∧ Aside0 (qU.l2 kq x7_1 x8_2 x11_3 x418000_2 (x418000_2.length : Int) x45_3 a0_0 a0_1 l0_2 x418000_2 x418001_2 t419 t420 t421 = some (r1, r2, r3)) ∧ Aside0 (kq ≤ k2) ∧ Aside0 (Kd.R k27 27 w' w.heap.size (fun k_ => k_ ≠ gb409 ∧ k_ ≠ gb423) (.slice (some ad418) x418000_2.length co32) x418000_2) ∧ Aside0 (Kd.R k27 27 w' w.heap.size (fun k_ => k_ ≠ gb409 ∧ k_ ≠ gb423) (.slice (some ad418) x418000_2.length co32) x418000_2) ∧ Aside0 (Kd.R Kd.string 9 w' w.heap.size (fun _ => True) u418001 x418001_2) ∧ Aside0 (w'.heap[gb408]? = some (.cells #[.int .i64 a0_0, .int .i64 a0_1, (.slice A0_2 l0_2.length c0_2)] 57 (0, 0))) ∧ Aside0 (w'.heap[gb409]? = some (.cells #[.int .i64 a1_0, .int .i64 a1_1, .int .i64 a1_2] 27 (0, 0))) ∧ Aside0 (w'.heap[gb410]? = some (.cells #[(.slice none 0 0), (.slice none 0 0)] 75 (0, 0))) ∧ Aside0 (w'.heap[gb417]? = some (.cells #[(.slice (some ad418) x418000_2.length co32), u418001] 75 (0, 0))) ∧ Aside0 (w'.heap[gb423]? = some (.cells #[.int .i64 t419, .int .i64 t420, .int .i64 t421] 27 (0, 0))) ∧ Aside0 (Below w.heap.size w w'))
          case atStart => exact ⟨(false), (0), (by first | rfl | (simp; done) | (simp [*]; done)), (by first | rfl | (simp; done) | (simp [*]; done)), H', ⟨Nat.le_refl _⟩, ⟨by (with_reducible repeat (first | apply Kd.qF | apply Kd.qE | apply Kd.qH)); exact Kd.qf (Kd.R_far (p := ⟨gb423, 2, none⟩) (Kd.R_far (p := ⟨gb423, 1, none⟩) (Kd.R_far (p := ⟨gb423, 0, none⟩) (Kd.qf HO_418000.out (fun k_ hk => (⟨hk, hk.2⟩ : _ ∧ k_ ≠ gb423))) (fun _ hk => hk.2) (.int .i64 t419)) (fun _ hk => hk.2) (.int .i64 t420)) (fun _ hk => hk.2) (.int .i64 t421)) (fun _ hk => ⟨hk.1.1, hk.1.2⟩)⟩, ⟨by (with_reducible repeat (first | apply Kd.qF | apply Kd.qE | apply Kd.qH)); exact Kd.qf (Kd.R_far (p := ⟨gb423, 2, none⟩) (Kd.R_far (p := ⟨gb423, 1, none⟩) (Kd.R_far (p := ⟨gb423, 0, none⟩) (Kd.qf HO_418000.out (fun k_ hk => (⟨hk, hk.2⟩ : _ ∧ k_ ≠ gb423))) (fun _ hk => hk.2) (.int .i64 t419)) (fun _ hk => hk.2) (.int .i64 t420)) (fun _ hk => hk.2) (.int .i64 t421)) (fun _ hk => ⟨hk.1.1, hk.1.2⟩)⟩, ⟨by (with_reducible repeat (first | apply Kd.qF | apply Kd.qE | apply Kd.qH)); exact Kd.qf (Kd.R_far (p := ⟨gb423, 2, none⟩) (Kd.R_far (p := ⟨gb423, 1, none⟩) (Kd.R_far (p := ⟨gb423, 0, none⟩) (Kd.qt HO_418001.out BK423.out (by decide)) (fun _ hk => hk.2) (.int .i64 t419)) (fun _ hk => hk.2) (.int .i64 t420)) (fun _ hk => hk.2) (.int .i64 t421)) (fun _ hk => trivial)⟩, ⟨by (with_reducible repeat (first | refine qB ?_ _ | refine qD ?_ | refine qA ?_ _)); refine qL ?_ NB408_423.out _; (with_reducible repeat (first | refine qB ?_ _ | refine qD ?_ | refine qA ?_ _)); refine qL ?_ NB408_423.out _; (with_reducible repeat (first | refine qB ?_ _ | refine qD ?_ | refine qA ?_ _)); refine qL ?_ NB408_423.out _; (with_reducible repeat (first | refine qB ?_ _ | refine qD ?_ | refine qA ?_ _)); exact BK408.out⟩, ⟨by (with_reducible repeat (first | refine qB ?_ _ | refine qD ?_ | refine qA ?_ _)); refine qL ?_ NB409_423.out _; (with_reducible repeat (first | refine qB ?_ _ | refine qD ?_ | refine qA ?_ _)); refine qL ?_ NB409_423.out _; (with_reducible repeat (first | refine qB ?_ _ | refine qD ?_ | refine qA ?_ _)); refine qL ?_ NB409_423.out _; (with_reducible repeat (first | refine qB ?_ _ | refine qD ?_ | refine qA ?_ _)); exact BK409.out⟩, ⟨by (with_reducible repeat (first | refine qB ?_ _ | refine qD ?_ | refine qA ?_ _)); refine qL ?_ NB410_423.out _; (with_reducible repeat (first | refine qB ?_ _ | refine qD ?_ | refine qA ?_ _)); refine qL ?_ NB410_423.out _; (with_reducible repeat (first | refine qB ?_ _ | refine qD ?_ | refine qA ?_ _)); refine qL ?_ NB410_423.out _; (with_reducible repeat (first | refine qB ?_ _ | refine qD ?_ | refine qA ?_ _)); exact BK410.out⟩, ⟨by (with_reducible repeat (first | refine qB ?_ _ | refine qD ?_ | refine qA ?_ _)); refine qL ?_ NB417_423.out _; (with_reducible repeat (first | refine qB ?_ _ | refine qD ?_ | refine qA ?_ _)); refine qL ?_ NB417_423.out _; (with_reducible repeat (first | refine qB ?_ _ | refine qD ?_ | refine qA ?_ _)); refine qL ?_ NB417_423.out _; (with_reducible repeat (first | refine qB ?_ _ | refine qD ?_ | refine qA ?_ _)); exact BK417.out⟩, ⟨by (with_reducible repeat (first | refine qB ?_ _ | refine qD ?_ | refine qA ?_ _)); refine qP (cs := #[.int .i64 t419, .int .i64 t420, .int .i64 0]) ?_ 2 _ rfl; (with_reducible repeat (first | refine qB ?_ _ | refine qD ?_ | refine qA ?_ _)); refine qP (cs := #[.int .i64 t419, .int .i64 0, .int .i64 0]) ?_ 1 _ rfl; (with_reducible repeat (first | refine qB ?_ _ | refine qD ?_ | refine qA ?_ _)); refine qP (cs := #[.int .i64 0, .int .i64 0, .int .i64 0]) ?_ 0 _ rfl; (with_reducible repeat (first | refine qB ?_ _ | refine qD ?_ | refine qA ?_ _)); exact BK423.out⟩, ⟨bl⟩⟩
          case round =>
           clear H'
           try clear c1
           try clear c2
           try clear p2
           try clear c3
           try clear c4
           try clear p4
           try clear q4
           try clear hx4
           try clear c6
           try clear p6
           try clear c7
           try clear c9
           try clear c16
           try clear c17
           try clear c18
           try clear c20
           try clear c20b0
           try clear c21
           try clear c22
           try clear c23
           try clear c26
           try clear c26b0
           try clear c27
           try clear c27b0
           try clear c28
           try clear c28b0
           try clear c30
           try clear c39
           try clear c40
           try clear c41
           try clear p41
           try clear q41
           try clear hx41
           try clear c42
           try clear hcz19_0
           try clear hcz19_1
           try clear hcz24_0
           try clear hcz24_1
           try clear hcz43_0
           try clear hcz43_1
           try clear hcz8_0
           try clear hcz8_1
           try clear hcz8_2
           try clear hfz19_0
           try clear hfz19_1
           try clear hfz24_0
           try clear hfz24_1
           try clear hfz43_0
           try clear hfz43_1
           try clear hfz8_0
           try clear hfz8_1
           try clear hfz8_2
           try clear hx418_0
           try clear hx418_1
           try clear hx418_2
           try clear p2
           try clear p418
           try clear q418
           obtain ⟨x11_3, x45_3, rfl, rfl, HA, HK3, HO_32, HO_418000, HO_418001, BK408, BK409, BK410, BK417, BK423, HB⟩ := hrel
           cases gk with
           | zero => exact absurd HA.out (by simp [qU.l2])
           | succ k3 =>
            have H := HA.out
            clear HA
            simp only [qU.l2] at H
            by_cases c44 : x45_3 < (x418000_2.length : Int)
            ·rw [if_pos c44] at H
             have c44b0 : decide (x45_3 < (x418000_2.length : Int)) = true := decide_eq_true c44
             clear c44
             by_cases c45 : 0 ≤ x45_3
             ·rw [if_pos c45] at H
              have c45b0 : decide (0 ≤ x45_3) = true := decide_eq_true c45
              clear c45
              by_cases c46 : x45_3 < (x418000_2.length : Int)
              ·rw [if_pos c46] at H
               have c46b0 : decide (x45_3 < (x418000_2.length : Int)) = true := decide_eq_true c46
               clear c46
               by_cases c47 : x11_3 = true
               ·subst c47
                have H1 : (qU.l2 k3 x7_1 x8_2 true x418000_2 (x418000_2.length : Int) (wrap64 (x45_3 + 1)) a0_0 a0_1 l0_2 x418000_2 x418001_2 t419 t420 t421) = some (r1, r2, r3) := by rw [if_pos rfl] at H; exact H
                clear H
                have H := H1
                clear H1
                have H' := Aside0.mk H
                clear H
                have p424 : 0 ≤ (x45_3 : Int) := of_decide_eq_true (by first | (with_reducible assumption) | assumption)
                have q424 : x45_3 < (x418000_2.length : Int) := of_decide_eq_true (by first | (with_reducible assumption) | assumption)
                obtain ⟨ad424, e424, hx424_0, hx424_1, hx424_2⟩ := qWB (Kd.qh HO_32.out).2.2 x45_3 p424 q424
                obtain rfl : ad418 = ad424 := (by injection e424)
                replace p424 := eq_true p424
                replace q424 := eq_true q424
                go_wp2_with (first | ((with_reducible refine qb (N := 13) rfl ?_); refine qZ ?hg (N := 13) ?hd (cs := #[.int .i64 0, .int .i64 0, .int .i64 0]) (t := 27) ?hr ?_; (case hd => rfl); (case hg => rfl); (case hr => first | (go_simp; done) | (go_simp; rfl)); intro gb425 hg w48 hbox hb; have n0_ := Aside0.mk (Kd.qc (Kd.qcA (by (with_reducible repeat (first | apply Kd.qF | apply Kd.qE | apply Kd.qH)); exact HO_32.out) gb425 (Nat.le_of_eq hg.symm)) hb); have n1_ := Aside0.mk (Kd.qc (Kd.qcA (by (with_reducible repeat (first | apply Kd.qF | apply Kd.qE | apply Kd.qH)); exact HO_418000.out) gb425 (Nat.le_of_eq hg.symm)) hb); have n2_ := Aside0.mk (Kd.qc (by (with_reducible repeat (first | apply Kd.qF | apply Kd.qE | apply Kd.qH)); exact HO_418001.out) hb); have n3_ := Aside0.mk (bb BK408 hb); have n4_ := Aside0.mk (bb BK409 hb); have n5_ := Aside0.mk (bb BK410 hb); have n6_ := Aside0.mk (bb BK417 hb); have n7_ := Aside0.mk (bb BK423 hb); have n8_ := Aside0.mk (qG bl hb); have n9_ := Aside0.mk (hbox); have n10_ := Aside0.mk ((gg hg)); have n11_ := Aside0.mk ((gg hg)); have n12_ := Aside0.mk ((nl BK408 hg)); have n13_ := Aside0.mk ((nr BK408 hg)); have n14_ := Aside0.mk ((nl BK409 hg)); have n15_ := Aside0.mk ((nr BK409 hg)); have n16_ := Aside0.mk ((nl BK410 hg)); have n17_ := Aside0.mk ((nr BK410 hg)); have n18_ := Aside0.mk ((nl BK417 hg)); have n19_ := Aside0.mk ((nr BK417 hg)); have n20_ := Aside0.mk ((nl BK423 hg)); have n21_ := Aside0.mk ((nr BK423 hg)); clear HO_32; clear HO_418000; clear HO_418001; clear BK408; clear BK409; clear BK410; clear BK417; clear BK423; clear HB; have HO_32 := n0_; have HO_418000 := n1_; have HO_418001 := n2_; have BK408 := n3_; have BK409 := n4_; have BK410 := n5_; have BK417 := n6_; have BK423 := n7_; have HB := n8_; have BK425 := n9_; have GW425 := n10_; have GE425 := n11_; have NB408_425 := n12_; have NB425_408 := n13_; have NB409_425 := n14_; have NB425_409 := n15_; have NB410_425 := n16_; have NB425_410 := n17_; have NB417_425 := n18_; have NB425_417 := n19_; have NB423_425 := n20_; have NB425_423 := n21_; clear n0_ n1_ n2_ n3_ n4_ n5_ n6_ n7_ n8_ n9_ n10_ n11_ n12_ n13_ n14_ n15_ n16_ n17_ n18_ n19_ n20_ n21_; clear hb hbox hg; have hnb49 := NB425_408.out; have hnc49 := NB408_425.out; have hnb50 := NB425_409.out; have hnc50 := NB409_425.out; have hnb51 := NB425_410.out; have hnc51 := NB410_425.out; have hnb52 := NB425_417.out; have hnc52 := NB417_425.out; have hnb53 := NB425_423.out; have hnc53 := NB423_425.out; have hcz54_0 := bc BK425 0; have hcz54_1 := bc BK425 1; have hcz54_2 := bc BK425 2; have hfz54_0 := qC BK425.out 0; have hfz54_1 := qC BK425.out 1; have hfz54_2 := qC BK425.out 2))
                go_roundg k3
                case measure => have := HK1.out; have := HK2.out; have := HK3.out; omega
                case rel => exact ⟨(true), (wrap64 (x45_3 + 1)), (by first | rfl | (simp; done) | (simp [*]; done)), (by first | rfl | (simp; done) | (simp [*]; done)), H', ⟨by have := HK1.out; have := HK2.out; have := HK3.out; omega⟩, ⟨by (with_reducible repeat (first | apply Kd.qF | apply Kd.qE | apply Kd.qH)); exact Kd.qf (Kd.R_far (p := ⟨gb425, 2, none⟩) (Kd.R_far (p := ⟨gb425, 1, none⟩) (Kd.R_far (p := ⟨gb425, 0, none⟩) (Kd.qf HO_32.out (fun k_ hk => (⟨hk, hk.2⟩ : _ ∧ k_ ≠ gb425))) (fun _ hk => hk.2) (.int .i64 ((qX x418000_2 x45_3).f0))) (fun _ hk => hk.2) (.int .i64 ((qX x418000_2 x45_3).f1))) (fun _ hk => hk.2) (.int .i64 ((qX x418000_2 x45_3).f2))) (fun _ hk => ⟨hk.1.1.1, hk.1.1.2⟩)⟩, ⟨by (with_reducible repeat (first | apply Kd.qF | apply Kd.qE | apply Kd.qH)); exact Kd.qf (Kd.R_far (p := ⟨gb425, 2, none⟩) (Kd.R_far (p := ⟨gb425, 1, none⟩) (Kd.R_far (p := ⟨gb425, 0, none⟩) (Kd.qf HO_418000.out (fun k_ hk => (⟨hk, hk.2⟩ : _ ∧ k_ ≠ gb425))) (fun _ hk => hk.2) (.int .i64 ((qX x418000_2 x45_3).f0))) (fun _ hk => hk.2) (.int .i64 ((qX x418000_2 x45_3).f1))) (fun _ hk => hk.2) (.int .i64 ((qX x418000_2 x45_3).f2))) (fun _ hk => ⟨hk.1.1.1, hk.1.1.2⟩)⟩, ⟨by (with_reducible repeat (first | apply Kd.qF | apply Kd.qE | apply Kd.qH)); exact Kd.qf (Kd.R_far (p := ⟨gb425, 2, none⟩) (Kd.R_far (p := ⟨gb425, 1, none⟩) (Kd.R_far (p := ⟨gb425, 0, none⟩) (Kd.qt HO_418001.out BK425.out (by decide)) (fun _ hk => hk.2) (.int .i64 ((qX x418000_2 x45_3).f0))) (fun _ hk => hk.2) (.int .i64 ((qX x418000_2 x45_3).f1))) (fun _ hk => hk.2) (.int .i64 ((qX x418000_2 x45_3).f2))) (fun _ hk => trivial)⟩, ⟨by (with_reducible repeat (first | refine qB ?_ _ | refine qD ?_ | refine qA ?_ _)); refine qL ?_ NB408_425.out _; (with_reducible repeat (first | refine qB ?_ _ | refine qD ?_ | refine qA ?_ _)); refine qL ?_ NB408_425.out _; (with_reducible repeat (first | refine qB ?_ _ | refine qD ?_ | refine qA ?_ _)); refine qL ?_ NB408_425.out _; (with_reducible repeat (first | refine qB ?_ _ | refine qD ?_ | refine qA ?_ _)); exact BK408.out⟩, ⟨by (with_reducible repeat (first | refine qB ?_ _ | refine qD ?_ | refine qA ?_ _)); refine qL ?_ NB409_425.out _; (with_reducible repeat (first | refine qB ?_ _ | refine qD ?_ | refine qA ?_ _)); refine qL ?_ NB409_425.out _; (with_reducible repeat (first | refine qB ?_ _ | refine qD ?_ | refine qA ?_ _)); refine qL ?_ NB409_425.out _; (with_reducible repeat (first | refine qB ?_ _ | refine qD ?_ | refine qA ?_ _)); exact BK409.out⟩, ⟨by (with_reducible repeat (first | refine qB ?_ _ | refine qD ?_ | refine qA ?_ _)); refine qL ?_ NB410_425.out _; (with_reducible repeat (first | refine qB ?_ _ | refine qD ?_ | refine qA ?_ _)); refine qL ?_ NB410_425.out _; (with_reducible repeat (first | refine qB ?_ _ | refine qD ?_ | refine qA ?_ _)); refine qL ?_ NB410_425.out _; (with_reducible repeat (first | refine qB ?_ _ | refine qD ?_ | refine qA ?_ _)); exact BK410.out⟩, ⟨by (with_reducible repeat (first | refine qB ?_ _ | refine qD ?_ | refine qA ?_ _)); refine qL ?_ NB417_425.out _; (with_reducible repeat (first | refine qB ?_ _ | refine qD ?_ | refine qA ?_ _)); refine qL ?_ NB417_425.out _; (with_reducible repeat (first | refine qB ?_ _ | refine qD ?_ | refine qA ?_ _)); refine qL ?_ NB417_425.out _; (with_reducible repeat (first | refine qB ?_ _ | refine qD ?_ | refine qA ?_ _)); exact BK417.out⟩, ⟨by (with_reducible repeat (first | refine qB ?_ _ | refine qD ?_ | refine qA ?_ _)); refine qL ?_ NB423_425.out _; (with_reducible repeat (first | refine qB ?_ _ | refine qD ?_ | refine qA ?_ _)); refine qL ?_ NB423_425.out _; (with_reducible repeat (first | refine qB ?_ _ | refine qD ?_ | refine qA ?_ _)); refine qL ?_ NB423_425.out _; (with_reducible repeat (first | refine qB ?_ _ | refine qD ?_ | refine qA ?_ _)); exact BK423.out⟩, ⟨bl⟩⟩
               ·replace c47 := Bool.eq_false_iff.mpr c47
                subst c47
                have H1 : (qU.l2 k3 x7_1 x8_2 (((qX x418000_2 x45_3).f0) == t419 && (((qX x418000_2 x45_3).f1) == t420 && (((qX x418000_2 x45_3).f2) == t421))) x418000_2 (x418000_2.length : Int) (wrap64 (x45_3 + 1)) a0_0 a0_1 l0_2 x418000_2 x418001_2 t419 t420 t421) = some (r1, r2, r3) := by rw [if_neg (show ¬ (false = true) by decide)] at H; exact H
                clear H
                have H := H1
                clear H1
                have H' := Aside0.mk H
                clear H
                have p424 : 0 ≤ (x45_3 : Int) := of_decide_eq_true (by first | (with_reducible assumption) | assumption)
                have q424 : x45_3 < (x418000_2.length : Int) := of_decide_eq_true (by first | (with_reducible assumption) | assumption)
                obtain ⟨ad424, e424, hx424_0, hx424_1, hx424_2⟩ := qWB (Kd.qh HO_32.out).2.2 x45_3 p424 q424
                obtain rfl : ad418 = ad424 := (by injection e424)
                replace p424 := eq_true p424
                replace q424 := eq_true q424
                go_wp2_with (first | ((with_reducible refine qb (N := 13) rfl ?_); refine qZ ?hg (N := 13) ?hd (cs := #[.int .i64 0, .int .i64 0, .int .i64 0]) (t := 27) ?hr ?_; (case hd => rfl); (case hg => rfl); (case hr => first | (go_simp; done) | (go_simp; rfl)); intro gb425 hg w55 hbox hb; have n0_ := Aside0.mk (Kd.qc (Kd.qcA (by (with_reducible repeat (first | apply Kd.qF | apply Kd.qE | apply Kd.qH)); exact HO_32.out) gb425 (Nat.le_of_eq hg.symm)) hb); have n1_ := Aside0.mk (Kd.qc (Kd.qcA (by (with_reducible repeat (first | apply Kd.qF | apply Kd.qE | apply Kd.qH)); exact HO_418000.out) gb425 (Nat.le_of_eq hg.symm)) hb); have n2_ := Aside0.mk (Kd.qc (by (with_reducible repeat (first | apply Kd.qF | apply Kd.qE | apply Kd.qH)); exact HO_418001.out) hb); have n3_ := Aside0.mk (bb BK408 hb); have n4_ := Aside0.mk (bb BK409 hb); have n5_ := Aside0.mk (bb BK410 hb); have n6_ := Aside0.mk (bb BK417 hb); have n7_ := Aside0.mk (bb BK423 hb); have n8_ := Aside0.mk (qG bl hb); have n9_ := Aside0.mk (hbox); have n10_ := Aside0.mk ((gg hg)); have n11_ := Aside0.mk ((gg hg)); have n12_ := Aside0.mk ((nl BK408 hg)); have n13_ := Aside0.mk ((nr BK408 hg)); have n14_ := Aside0.mk ((nl BK409 hg)); have n15_ := Aside0.mk ((nr BK409 hg)); have n16_ := Aside0.mk ((nl BK410 hg)); have n17_ := Aside0.mk ((nr BK410 hg)); have n18_ := Aside0.mk ((nl BK417 hg)); have n19_ := Aside0.mk ((nr BK417 hg)); have n20_ := Aside0.mk ((nl BK423 hg)); have n21_ := Aside0.mk ((nr BK423 hg)); clear HO_32; clear HO_418000; clear HO_418001; clear BK408; clear BK409; clear BK410; clear BK417; clear BK423; clear HB; have HO_32 := n0_; have HO_418000 := n1_; have HO_418001 := n2_; have BK408 := n3_; have BK409 := n4_; have BK410 := n5_; have BK417 := n6_; have BK423 := n7_; have HB := n8_; have BK425 := n9_; have GW425 := n10_; have GE425 := n11_; have NB408_425 := n12_; have NB425_408 := n13_; have NB409_425 := n14_; have NB425_409 := n15_; have NB410_425 := n16_; have NB425_410 := n17_; have NB417_425 := n18_; have NB425_417 := n19_; have NB423_425 := n20_; have NB425_423 := n21_; clear n0_ n1_ n2_ n3_ n4_ n5_ n6_ n7_ n8_ n9_ n10_ n11_ n12_ n13_ n14_ n15_ n16_ n17_ n18_ n19_ n20_ n21_; clear hb hbox hg; have hnb56 := NB425_408.out; have hnc56 := NB408_425.out; have hnb57 := NB425_409.out; have hnc57 := NB409_425.out; have hnb58 := NB425_410.out; have hnc58 := NB410_425.out; have hnb59 := NB425_417.out; have hnc59 := NB417_425.out; have hnb60 := NB425_423.out; have hnc60 := NB423_425.out; have hcz61_0 := bc BK425 0; have hcz61_1 := bc BK425 1; have hcz61_2 := bc BK425 2; have hfz61_0 := qC BK425.out 0; have hfz61_1 := qC BK425.out 1; have hfz61_2 := qC BK425.out 2; have hnb62 := NB423_408.out; have hnc62 := NB408_423.out; have hnb63 := NB423_409.out; have hnc63 := NB409_423.out; have hnb64 := NB423_410.out; have hnc64 := NB410_423.out; have hnb65 := NB423_417.out; have hnc65 := NB417_423.out; have hcz66_0 := bc BK423 0; have hcz66_1 := bc BK423 1; have hcz66_2 := bc BK423 2; have hfz66_0 := qC BK423.out 0; have hfz66_1 := qC BK423.out 1; have hfz66_2 := qC BK423.out 2))
                go_roundg k3
                case measure => have := HK1.out; have := HK2.out; have := HK3.out; omega
                case rel => exact ⟨((((qX x418000_2 x45_3).f0) == t419 && (((qX x418000_2 x45_3).f1) == t420 && (((qX x418000_2 x45_3).f2) == t421)))), (wrap64 (x45_3 + 1)), (by first | rfl | (simp; done) | (simp [*]; done)), (by first | rfl | (simp; done) | (simp [*]; done)), H', ⟨by have := HK1.out; have := HK2.out; have := HK3.out; omega⟩, ⟨by (with_reducible repeat (first | apply Kd.qF | apply Kd.qE | apply Kd.qH)); exact Kd.qf (Kd.R_far (p := ⟨gb425, 2, none⟩) (Kd.R_far (p := ⟨gb425, 1, none⟩) (Kd.R_far (p := ⟨gb425, 0, none⟩) (Kd.qf HO_32.out (fun k_ hk => (⟨hk, hk.2⟩ : _ ∧ k_ ≠ gb425))) (fun _ hk => hk.2) (.int .i64 ((qX x418000_2 x45_3).f0))) (fun _ hk => hk.2) (.int .i64 ((qX x418000_2 x45_3).f1))) (fun _ hk => hk.2) (.int .i64 ((qX x418000_2 x45_3).f2))) (fun _ hk => ⟨hk.1.1.1, hk.1.1.2⟩)⟩, ⟨by (with_reducible repeat (first | apply Kd.qF | apply Kd.qE | apply Kd.qH)); exact Kd.qf (Kd.R_far (p := ⟨gb425, 2, none⟩) (Kd.R_far (p := ⟨gb425, 1, none⟩) (Kd.R_far (p := ⟨gb425, 0, none⟩) (Kd.qf HO_418000.out (fun k_ hk => (⟨hk, hk.2⟩ : _ ∧ k_ ≠ gb425))) (fun _ hk => hk.2) (.int .i64 ((qX x418000_2 x45_3).f0))) (fun _ hk => hk.2) (.int .i64 ((qX x418000_2 x45_3).f1))) (fun _ hk => hk.2) (.int .i64 ((qX x418000_2 x45_3).f2))) (fun _ hk => ⟨hk.1.1.1, hk.1.1.2⟩)⟩, ⟨by (with_reducible repeat (first | apply Kd.qF | apply Kd.qE | apply Kd.qH)); exact Kd.qf (Kd.R_far (p := ⟨gb425, 2, none⟩) (Kd.R_far (p := ⟨gb425, 1, none⟩) (Kd.R_far (p := ⟨gb425, 0, none⟩) (Kd.qt HO_418001.out BK425.out (by decide)) (fun _ hk => hk.2) (.int .i64 ((qX x418000_2 x45_3).f0))) (fun _ hk => hk.2) (.int .i64 ((qX x418000_2 x45_3).f1))) (fun _ hk => hk.2) (.int .i64 ((qX x418000_2 x45_3).f2))) (fun _ hk => trivial)⟩, ⟨by (with_reducible repeat (first | refine qB ?_ _ | refine qD ?_ | refine qA ?_ _)); refine qL ?_ NB408_425.out _; (with_reducible repeat (first | refine qB ?_ _ | refine qD ?_ | refine qA ?_ _)); refine qL ?_ NB408_425.out _; (with_reducible repeat (first | refine qB ?_ _ | refine qD ?_ | refine qA ?_ _)); refine qL ?_ NB408_425.out _; (with_reducible repeat (first | refine qB ?_ _ | refine qD ?_ | refine qA ?_ _)); exact BK408.out⟩, ⟨by (with_reducible repeat (first | refine qB ?_ _ | refine qD ?_ | refine qA ?_ _)); refine qL ?_ NB409_425.out _; (with_reducible repeat (first | refine qB ?_ _ | refine qD ?_ | refine qA ?_ _)); refine qL ?_ NB409_425.out _; (with_reducible repeat (first | refine qB ?_ _ | refine qD ?_ | refine qA ?_ _)); refine qL ?_ NB409_425.out _; (with_reducible repeat (first | refine qB ?_ _ | refine qD ?_ | refine qA ?_ _)); exact BK409.out⟩, ⟨by (with_reducible repeat (first | refine qB ?_ _ | refine qD ?_ | refine qA ?_ _)); refine qL ?_ NB410_425.out _; (with_reducible repeat (first | refine qB ?_ _ | refine qD ?_ | refine qA ?_ _)); refine qL ?_ NB410_425.out _; (with_reducible repeat (first | refine qB ?_ _ | refine qD ?_ | refine qA ?_ _)); refine qL ?_ NB410_425.out _; (with_reducible repeat (first | refine qB ?_ _ | refine qD ?_ | refine qA ?_ _)); exact BK410.out⟩, ⟨by (with_reducible repeat (first | refine qB ?_ _ | refine qD ?_ | refine qA ?_ _)); refine qL ?_ NB417_425.out _; (with_reducible repeat (first | refine qB ?_ _ | refine qD ?_ | refine qA ?_ _)); refine qL ?_ NB417_425.out _; (with_reducible repeat (first | refine qB ?_ _ | refine qD ?_ | refine qA ?_ _)); refine qL ?_ NB417_425.out _; (with_reducible repeat (first | refine qB ?_ _ | refine qD ?_ | refine qA ?_ _)); exact BK417.out⟩, ⟨by (with_reducible repeat (first | refine qB ?_ _ | refine qD ?_ | refine qA ?_ _)); refine qL ?_ NB423_425.out _; (with_reducible repeat (first | refine qB ?_ _ | refine qD ?_ | refine qA ?_ _)); refine qL ?_ NB423_425.out _; (with_reducible repeat (first | refine qB ?_ _ | refine qD ?_ | refine qA ?_ _)); refine qL ?_ NB423_425.out _; (with_reducible repeat (first | refine qB ?_ _ | refine qD ?_ | refine qA ?_ _)); exact BK423.out⟩, ⟨bl⟩⟩
              ·rw [if_neg c46] at H
               exact absurd H (by simp)
             ·rw [if_neg c45] at H
              exact absurd H (by simp)
            ·rw [if_neg c44] at H
             have c44b0 : decide (x45_3 < (x418000_2.length : Int)) = false := decide_eq_false c44
             clear c44
             by_cases c67 : x11_3 = true
             ·subst c67
              have H1 : (qU.l1 k3 x7_1 (wrap64 (x8_2 + 1)) a0_0 a0_1 l0_2 x418000_2 x418001_2) = some (r1, r2, r3) := by rw [if_pos rfl] at H; exact H
              clear H
              have H := H1
              clear H1
              have H' := Aside0.mk H
              clear H
              go_wp2
              go_roundg k3
              case measure => have := HK1.out; have := HK2.out; have := HK3.out; omega
              case rel => exact ⟨(wrap64 (x8_2 + 1)), (x418000_2), (x418001_2), (.slice (some ad418) x418000_2.length co32), (u418001), (by first | rfl | (simp; done) | (simp [*]; done)), H', ⟨by have := HK1.out; have := HK2.out; have := HK3.out; omega⟩, ⟨by (with_reducible repeat (first | apply Kd.qF | apply Kd.qE | apply Kd.qH)); exact Kd.qf HO_418000.out (fun _ hk => hk.1)⟩, ⟨by (with_reducible repeat (first | apply Kd.qF | apply Kd.qE | apply Kd.qH)); exact HO_418001.out⟩, ⟨by (with_reducible repeat (first | refine qB ?_ _ | refine qD ?_ | refine qA ?_ _)); exact BK408.out⟩, ⟨by (with_reducible repeat (first | refine qB ?_ _ | refine qD ?_ | refine qA ?_ _)); exact BK409.out⟩, ⟨by (with_reducible repeat (first | refine qB ?_ _ | refine qD ?_ | refine qA ?_ _)); exact BK410.out⟩, ⟨by (with_reducible repeat (first | refine qB ?_ _ | refine qD ?_ | refine qA ?_ _)); exact BK417.out⟩, ⟨bl⟩⟩
             ·replace c67 := Bool.eq_false_iff.mpr c67
              subst c67
              have H1 : (if x418000_2.length < 5864062014805 then (if 0 ≤ x7_1 then (if x7_1 < (x418001_2.length : Int) then ((qiA.f).bind fun t430 => (if 0 ≤ x8_2 then (if x8_2 ≤ (wrap64 (x8_2 + 1)) then (if (wrap64 (x8_2 + 1)) ≤ (t430.size : Int) then (if (rdOf ByteArray.empty x418001_2 x7_1).size + (t430.extract (x8_2 : Int).toNat ((wrap64 (x8_2 + 1)) : Int).toNat).size ≤ 9223372036854775807 then (if x418001_2.length < 8796093022208 then (qU.l1 k3 x7_1 (wrap64 (x8_2 + 1)) a0_0 a0_1 l0_2 (x418000_2 ++ [(⟨t419, t420, t421⟩ : S27)]) (x418001_2 ++ [(rdOf ByteArray.empty x418001_2 x7_1) ++ (t430.extract (x8_2 : Int).toNat ((wrap64 (x8_2 + 1)) : Int).toNat)])) else (none)) else (none)) else (none)) else (none)) else (none))) else (none)) else (none)) else (none)) = some (r1, r2, r3) := by rw [if_neg (show ¬ (false = true) by decide)] at H; exact H
              clear H
              have H := H1
              clear H1
              by_cases c68 : x418000_2.length < 5864062014805
              ·rw [if_pos c68] at H
               have LMc68 := Aside0.mk c68
               clear c68
               obtain ⟨y426, hy426⟩ : ∃ y_ : List (S27), y_ = (x418000_2 ++ [(⟨t419, t420, t421⟩ : S27)]) := ⟨_, rfl⟩
               replace H : (if 0 ≤ x7_1 then (if x7_1 < (x418001_2.length : Int) then ((qiA.f).bind fun t430 => (if 0 ≤ x8_2 then (if x8_2 ≤ (wrap64 (x8_2 + 1)) then (if (wrap64 (x8_2 + 1)) ≤ (t430.size : Int) then (if (rdOf ByteArray.empty x418001_2 x7_1).size + (t430.extract (x8_2 : Int).toNat ((wrap64 (x8_2 + 1)) : Int).toNat).size ≤ 9223372036854775807 then (if x418001_2.length < 8796093022208 then (qU.l1 k3 x7_1 (wrap64 (x8_2 + 1)) a0_0 a0_1 l0_2 y426 (x418001_2 ++ [(rdOf ByteArray.empty x418001_2 x7_1) ++ (t430.extract (x8_2 : Int).toNat ((wrap64 (x8_2 + 1)) : Int).toNat)])) else (none)) else (none)) else (none)) else (none)) else (none))) else (none)) else (none)) = some (r1, r2, r3) := by first | (rw [hy426]; with_reducible exact H) | (have H2_ := (Option.bind_some _ _).symm.trans H; rw [hy426]; with_reducible exact H2_) | (have H2_ := (Option.bind_some _ _).symm.trans H; with_reducible exact H2_) | with_reducible exact H | (rw [hy426]; exact H) | exact H
               have Ny426 := Aside0.mk hy426
               clear hy426
               by_cases c69 : 0 ≤ x7_1
               ·rw [if_pos c69] at H
                have c69b0 : decide (0 ≤ x7_1) = true := decide_eq_true c69
                clear c69
                by_cases c70 : x7_1 < (x418001_2.length : Int)
                ·rw [if_pos c70] at H
                 have c70b0 : decide (x7_1 < (x418001_2.length : Int)) = true := decide_eq_true c70
                 clear c70
                 replace H := Option.bind_eq_some_iff.mp H
                 obtain ⟨t430, A710, H⟩ := H
                 replace H : (if 0 ≤ x8_2 then (if x8_2 ≤ (wrap64 (x8_2 + 1)) then (if (wrap64 (x8_2 + 1)) ≤ (t430.size : Int) then (if (rdOf ByteArray.empty x418001_2 x7_1).size + (t430.extract (x8_2 : Int).toNat ((wrap64 (x8_2 + 1)) : Int).toNat).size ≤ 9223372036854775807 then (if x418001_2.length < 8796093022208 then (qU.l1 k3 x7_1 (wrap64 (x8_2 + 1)) a0_0 a0_1 l0_2 y426 (x418001_2 ++ [(rdOf ByteArray.empty x418001_2 x7_1) ++ (t430.extract (x8_2 : Int).toNat ((wrap64 (x8_2 + 1)) : Int).toNat)])) else (none)) else (none)) else (none)) else (none)) else (none)) = some (r1, r2, r3) := H
                 have A71 := Aside0.mk A710
                 clear A710
                 by_cases c72 : 0 ≤ x8_2
                 ·rw [if_pos c72] at H
                  have c72b0 := eq_true c72
                  have c72b1 : decide (0 ≤ x8_2) = true := decide_eq_true c72
                  clear c72
                  by_cases c73 : x8_2 ≤ (wrap64 (x8_2 + 1))
                  ·rw [if_pos c73] at H
                   have c73b0 := eq_true c73
                   have c73b1 : decide (x8_2 ≤ (wrap64 (x8_2 + 1))) = true := decide_eq_true c73
                   by_cases c74 : (wrap64 (x8_2 + 1)) ≤ (t430.size : Int)
                   ·rw [if_pos c74] at H
                    have c74b0 := eq_true c74
                    have c74b1 : decide ((wrap64 (x8_2 + 1)) ≤ (t430.size : Int)) = true := decide_eq_true c74
                    by_cases c75 : (rdOf ByteArray.empty x418001_2 x7_1).size + (t430.extract (x8_2 : Int).toNat ((wrap64 (x8_2 + 1)) : Int).toNat).size ≤ 9223372036854775807
                    ·rw [if_pos c75] at H
                     have c75b0 := eq_true c75
                     have c75b1 : decide ((rdOf ByteArray.empty x418001_2 x7_1).size + (t430.extract (x8_2 : Int).toNat ((wrap64 (x8_2 + 1)) : Int).toNat).size ≤ 9223372036854775807) = true := decide_eq_true c75
                     try have c75b2 : (9223372036854775807 < (rdOf ByteArray.empty x418001_2 x7_1).size + (t430.extract (x8_2 : Int).toNat ((wrap64 (x8_2 + 1)) : Int).toNat).size) = False := eq_false (Nat.not_lt.2 c75)
                     by_cases c76 : x418001_2.length < 8796093022208
                     ·rw [if_pos c76] at H
                      have LMc76 := Aside0.mk c76
                      clear c76
                      obtain ⟨y431, hy431⟩ : ∃ y_ : List ByteArray, y_ = (x418001_2 ++ [(rdOf ByteArray.empty x418001_2 x7_1) ++ (t430.extract (x8_2 : Int).toNat ((wrap64 (x8_2 + 1)) : Int).toNat)]) := ⟨_, rfl⟩
                      replace H : (qU.l1 k3 x7_1 (wrap64 (x8_2 + 1)) a0_0 a0_1 l0_2 y426 y431) = some (r1, r2, r3) := by first | (rw [hy431]; with_reducible exact H) | (have H2_ := (Option.bind_some _ _).symm.trans H; rw [hy431]; with_reducible exact H2_) | (have H2_ := (Option.bind_some _ _).symm.trans H; with_reducible exact H2_) | with_reducible exact H | (rw [hy431]; exact H) | exact H
                      have Ny431 := Aside0.mk hy431
                      clear hy431
                      have H' := Aside0.mk H
                      clear H
                      have hnb77 := NB417_408.out
                      have hnc77 := NB408_417.out
                      have hnb78 := NB417_409.out
                      have hnc78 := NB409_417.out
                      have hnb79 := NB417_410.out
                      have hnc79 := NB410_417.out
                      have hnb80 := NB417_423.out
                      have hnc80 := NB423_417.out
                      have hcz81_0 := bc BK417 0
                      have hcz81_1 := bc BK417 1
                      have hfz81_0 := qC BK417.out 0
                      have hfz81_1 := qC BK417.out 1
                      have hnb82 := NB423_408.out
                      have hnc82 := NB408_423.out
                      have hnb83 := NB423_409.out
                      have hnc83 := NB409_423.out
                      have hnb84 := NB423_410.out
                      have hnc84 := NB410_423.out
                      have hcz85_0 := bc BK423 0
                      have hcz85_1 := bc BK423 1
                      have hcz85_2 := bc BK423 2
                      have hfz85_0 := qC BK423.out 0
                      have hfz85_1 := qC BK423.out 1
                      have hfz85_2 := qC BK423.out 2
                      try go_wp2_with (first | ((with_reducible refine qFB (b := .append) (xs := #[.tmp 59, .tmp 61]) rfl ?_); at_builtin; refine Kd.R_append k27 (w0 := w) w.heap.size rfl (.tmp 59) (.tmp 61) 50 27 (.agg #[(.int .i64 0), (.int .i64 0), (.int .i64 0)]) 24 rfl Tryd.underlying50 info27 rfl (by decide) (by omega) (.slice (some ad418) x418000_2.length co32) x418000_2 (⟨t419, t420, t421⟩ : S27) [.int .i64 t419, .int .i64 t420, .int .i64 t421] (fun k_ => k_ ≠ gb409 ∧ k_ ≠ gb423) (fun _ => False) rfl rfl ?aP (fun _ hk => hk.elim) ?aF ?aO ?aB ?aS ?aL ?_; (case aP => exact qhB _ _ _ (⟨t419, t420, t421⟩ : S27)); (case aB => exact bl); (case aF => exact (fun k_ hk => ⟨Kd.freshB (g := gb409) (o := .cells #[.int .i64 a1_0, .int .i64 a1_1, .int .i64 a1_2] 27 (0, 0)) (by (with_reducible repeat (first | refine qB ?_ _ | refine qD ?_ | refine qA ?_ _)); exact BK409.out) k_ hk, Kd.freshB (g := gb423) (o := .cells #[.int .i64 t419, .int .i64 t420, .int .i64 t421] 27 (0, 0)) (by (with_reducible repeat (first | refine qB ?_ _ | refine qD ?_ | refine qA ?_ _)); exact BK423.out) k_ hk⟩)); (case aO => exact (by (with_reducible repeat (first | apply Kd.qF | apply Kd.qE | apply Kd.qH)); exact HO_418000.out)); (case aS => exact (qe bl)); (case aL => have := LMc68.out; omega); intro v427 w86 ho hb hg hat; rw [← Ny426.out] at ho; have n0_ := Aside0.mk (Kd.qrA (by (with_reducible repeat (first | apply Kd.qF | apply Kd.qE | apply Kd.qH)); exact HO_418001.out) (Kd.qqA (by (with_reducible repeat (first | apply Kd.qF | apply Kd.qE | apply Kd.qH)); exact HO_418000.out)) (by decide) hg); have n1_ := Aside0.mk (qDA (g := gb408) (o := .cells #[.int .i64 a0_0, .int .i64 a0_1, .slice A0_2 l0_2.length c0_2] 57 (0, 0)) (by (with_reducible repeat (first | refine qB ?_ _ | refine qD ?_ | refine qA ?_ _)); exact BK408.out) hg (Kd.R_ne HO_418000.out BK408.out (by decide))); have n2_ := Aside0.mk (qDA (g := gb409) (o := .cells #[.int .i64 a1_0, .int .i64 a1_1, .int .i64 a1_2] 27 (0, 0)) (by (with_reducible repeat (first | refine qB ?_ _ | refine qD ?_ | refine qA ?_ _)); exact BK409.out) hg (Kd.qR HO_418000.out (fun _ hk => hk.1))); have n3_ := Aside0.mk (qDA (g := gb410) (o := .cells #[.slice none 0 0, .slice none 0 0] 75 (0, 0)) (by (with_reducible repeat (first | refine qB ?_ _ | refine qD ?_ | refine qA ?_ _)); exact BK410.out) hg (Kd.R_ne HO_418000.out BK410.out (by decide))); have n4_ := Aside0.mk (qDA (g := gb417) (o := .cells #[.slice (some ad418) x418000_2.length co32, u418001] 75 (0, 0)) (by (with_reducible repeat (first | refine qB ?_ _ | refine qD ?_ | refine qA ?_ _)); exact BK417.out) hg (Kd.R_ne HO_418000.out BK417.out (by decide))); have n5_ := Aside0.mk (qDA (g := gb423) (o := .cells #[.int .i64 t419, .int .i64 t420, .int .i64 t421] 27 (0, 0)) (by (with_reducible repeat (first | refine qB ?_ _ | refine qD ?_ | refine qA ?_ _)); exact BK423.out) hg (Kd.qR HO_418000.out (fun _ hk => hk.2))); have n6_ := Aside0.mk (hb); have n7_ := Aside0.mk (ho); clear HO_418001; clear BK408; clear BK409; clear BK410; clear BK417; clear BK423; clear HB; clear HO_418000; have HO_418001 := n0_; have BK408 := n1_; have BK409 := n2_; have BK410 := n3_; have BK417 := n4_; have BK423 := n5_; have HB := n6_; have HO428 := n7_; clear n0_ n1_ n2_ n3_ n4_ n5_ n6_ n7_; clear ho hb hg hat; obtain ⟨Ao87, co87, eo87⟩ := Kd.ql HO428.out; subst eo87; have hcz88_0 := bc BK417 0; have hcz88_1 := bc BK417 1; have hfz88_0 := qC BK417.out 0; have hfz88_1 := qC BK417.out 1))
                      have n0_ : Aside0 (Kd.R Kd.string 9 (w86.setCell ⟨gb417, 0, none⟩ (.slice Ao87 y426.length co87)) w.heap.size (fun _ => True) u418001 x418001_2) := ⟨by (with_reducible repeat (first | apply Kd.qF | apply Kd.qE | apply Kd.qH)); exact Kd.qf (Kd.R_far (p := ⟨gb417, 0, none⟩) (Kd.qt HO_418001.out BK417.out (by decide)) (fun _ hk => hk.2) (.slice Ao87 y426.length co87)) (fun _ hk => trivial)⟩
                      have n1_ : Aside0 (Kd.R k27 27 (w86.setCell ⟨gb417, 0, none⟩ (.slice Ao87 y426.length co87)) w.heap.size (fun k_ => k_ ≠ gb409 ∧ k_ ≠ gb423) (.slice Ao87 y426.length co87) y426) := ⟨by (with_reducible repeat (first | apply Kd.qF | apply Kd.qE | apply Kd.qH)); exact Kd.qf (Kd.R_far (p := ⟨gb417, 0, none⟩) (Kd.qt HO428.out BK417.out (by decide)) (fun _ hk => hk.2) (.slice Ao87 y426.length co87)) (fun _ hk => ⟨hk.1.1, hk.1.2⟩)⟩
                      have n2_ : Aside0 ((w86.setCell ⟨gb417, 0, none⟩ (.slice Ao87 y426.length co87)).heap[gb408]? = some (.cells #[.int .i64 a0_0, .int .i64 a0_1, .slice A0_2 l0_2.length c0_2] 57 (0, 0))) := ⟨by (with_reducible repeat (first | refine qB ?_ _ | refine qD ?_ | refine qA ?_ _)); refine qL ?_ NB408_417.out _; (with_reducible repeat (first | refine qB ?_ _ | refine qD ?_ | refine qA ?_ _)); exact BK408.out⟩
                      have n3_ : Aside0 ((w86.setCell ⟨gb417, 0, none⟩ (.slice Ao87 y426.length co87)).heap[gb409]? = some (.cells #[.int .i64 a1_0, .int .i64 a1_1, .int .i64 a1_2] 27 (0, 0))) := ⟨by (with_reducible repeat (first | refine qB ?_ _ | refine qD ?_ | refine qA ?_ _)); refine qL ?_ NB409_417.out _; (with_reducible repeat (first | refine qB ?_ _ | refine qD ?_ | refine qA ?_ _)); exact BK409.out⟩
                      have n4_ : Aside0 ((w86.setCell ⟨gb417, 0, none⟩ (.slice Ao87 y426.length co87)).heap[gb410]? = some (.cells #[.slice none 0 0, .slice none 0 0] 75 (0, 0))) := ⟨by (with_reducible repeat (first | refine qB ?_ _ | refine qD ?_ | refine qA ?_ _)); refine qL ?_ NB410_417.out _; (with_reducible repeat (first | refine qB ?_ _ | refine qD ?_ | refine qA ?_ _)); exact BK410.out⟩
                      have n5_ : Aside0 ((w86.setCell ⟨gb417, 0, none⟩ (.slice Ao87 y426.length co87)).heap[gb417]? = some (.cells #[.slice Ao87 y426.length co87, u418001] 75 (0, 0))) := ⟨by (with_reducible repeat (first | refine qB ?_ _ | refine qD ?_ | refine qA ?_ _)); refine qP (cs := #[.slice (some ad418) x418000_2.length co32, u418001]) ?_ 0 _ rfl; (with_reducible repeat (first | refine qB ?_ _ | refine qD ?_ | refine qA ?_ _)); exact BK417.out⟩
                      have n6_ : Aside0 ((w86.setCell ⟨gb417, 0, none⟩ (.slice Ao87 y426.length co87)).heap[gb423]? = some (.cells #[.int .i64 t419, .int .i64 t420, .int .i64 t421] 27 (0, 0))) := ⟨by (with_reducible repeat (first | refine qB ?_ _ | refine qD ?_ | refine qA ?_ _)); refine qL ?_ NB423_417.out _; (with_reducible repeat (first | refine qB ?_ _ | refine qD ?_ | refine qA ?_ _)); exact BK423.out⟩
                      have n7_ : Aside0 (Below w.heap.size w (w86.setCell ⟨gb417, 0, none⟩ (.slice Ao87 y426.length co87))) := ⟨bl⟩
                      (try clear HO_418001)
                      (try clear HO428)
                      (try clear BK408)
                      (try clear BK409)
                      (try clear BK410)
                      (try clear BK417)
                      (try clear BK423)
                      (try clear HB)
                      generalize (w86.setCell ⟨gb417, 0, none⟩ (.slice Ao87 y426.length co87)) = w89 at n0_ n1_ n2_ n3_ n4_ n5_ n6_ n7_ ⊢
                      have HO_418001 := n0_
                      have HO428 := n1_
                      have BK408 := n2_
                      have BK409 := n3_
                      have BK410 := n4_
                      have BK417 := n5_
                      have BK423 := n6_
                      have HB := n7_
                      clear n0_ n1_ n2_ n3_ n4_ n5_ n6_ n7_
                      have n0_ := Aside0.mk (Kd.qH HO_418001.out)
                      have n1_ := Aside0.mk (Kd.qH HO428.out)
                      have n2_ := Aside0.mk (qD BK408.out)
                      have n3_ := Aside0.mk (qD BK409.out)
                      have n4_ := Aside0.mk (qD BK410.out)
                      have n5_ := Aside0.mk (qD BK417.out)
                      have n6_ := Aside0.mk (qD BK423.out)
                      have n7_ := Aside0.mk (qi HB.out)
                      clear HO_418001
                      clear HO428
                      clear BK408
                      clear BK409
                      clear BK410
                      clear BK417
                      clear BK423
                      clear HB
                      have HO_418001 := n0_
                      have HO428 := n1_
                      have BK408 := n2_
                      have BK409 := n3_
                      have BK410 := n4_
                      have BK417 := n5_
                      have BK423 := n6_
                      have HB := n7_
                      clear n0_ n1_ n2_ n3_ n4_ n5_ n6_ n7_
                      obtain ⟨Ao91, co91, eo91⟩ := Kd.ql HO_418001.out
                      (first | subst eo91 | (injection eo91 with f1_ f2_ f3_; have f4_ := f1_.symm; have f5_ := f3_.symm; clear f1_ f2_ f3_; subst f4_; subst f5_))
                      have p429 : 0 ≤ (x7_1 : Int) := of_decide_eq_true (by first | (with_reducible assumption) | assumption)
                      have q429 : x7_1 < (x418001_2.length : Int) := of_decide_eq_true (by first | (with_reducible assumption) | assumption)
                      obtain ⟨ad429, e429, hx429_0⟩ := Kd.qpA (Kd.qh HO_418001.out).2.2 x7_1 p429 q429
                      cases e429
                      replace p429 := eq_true p429
                      replace q429 := eq_true q429
                      refine qsA (n := 17) (S := fun w' => w'.cell? ⟨gb417, 0, none⟩ = some (.slice Ao87 y426.length co87) ∧ w'.cell? ⟨gb417, 1, none⟩ = some (.slice (some ad429) x418001_2.length co91) ∧ w'.cell? (ad429.add (x7_1).toNat) = some (.string (rdOf ByteArray.empty x418001_2 x7_1))) (ds := [14, 16]) #[false, false, false, false, false, false, false, false, false, false, false, false, false, false, false, false, false] (by kernel_rfl) rfl rfl ⟨(qK BK417.out 0).trans rfl, (qK BK417.out 1).trans rfl, hx429_0⟩ (fun hHeld => ?_); refine qTA qU.tab18 qU.bits18 (fun HT_ HW_ => ?_)
                      generalize w89.drew = w90 at HO_418001 HO428 BK408 BK409 BK410 BK417 BK423 HB hx429_0 hHeld ⊢
                      refine pS (i := 0) (N := some 64) #[true, false, false, false, false, false, false, false, false, false, false, false, false, false, false, false, false] HT_ ?_
                      refine pS (i := 2) (N := some 66) #[true, false, true, false, false, false, false, false, false, false, false, false, false, false, false, false, false] HT_ ?_
                      refine pS (i := 4) (N := some 68) #[true, false, true, false, true, false, false, false, false, false, false, false, false, false, false, false, false] HT_ ?_
                      refine pS (i := 8) (N := some 72) #[true, false, true, false, true, false, false, false, true, false, false, false, false, false, false, false, false] HT_ ?_
                      refine pS (i := 9) (N := some 73) #[true, false, true, false, true, false, false, false, true, true, false, false, false, false, false, false, false] HT_ ?_
                      refine pS (i := 10) (N := some 74) #[true, false, true, false, true, false, false, false, true, true, true, false, false, false, false, false, false] HT_ ?_
                      refine tS (i := 1) (N := some 65) #[true, true, true, false, true, false, false, false, true, true, true, false, false, false, false, false, false] HT_ HW_ hHeld ?_
                      refine tS (i := 3) (N := some 67) #[true, true, true, true, true, false, false, false, true, true, true, false, false, false, false, false, false] HT_ HW_ hHeld ?_
                      refine pS (i := 5) (N := some 69) #[true, true, true, true, true, true, false, false, true, true, true, false, false, false, false, false, false] HT_ ?_
                      refine tS (i := 6) (N := some 70) #[true, true, true, true, true, true, true, false, true, true, true, false, false, false, false, false, false] HT_ HW_ hHeld ?_
                      refine one_ (i := 7) (N := some 71) #[true, true, true, true, true, true, true, true, true, true, true, false, false, false, false, false, false] rfl rfl (qNA HT_.out (by kernel_rfl)) (by decide) (fun K hK => ?_)
                      refine goes_ Tryd.func61 (by kernel_rfl) rfl #[] (by rfl) rfl rfl (by (try simp only [List.map_toArray, List.map_cons, List.map_nil]); first | done | rfl | (simp only [List.length_drop, List.length_take]; rfl)) ?_
                      with_reducible refine (qiA.calls  t430 _ A71.out).mono ?_
                      rintro e w' ⟨rfl, ⟨nd, rfl⟩⟩
                      refine ⟨_, rfl, ?_⟩
                      refine hK.out _ _ ⟨(qK BK417.out 0).trans rfl, (qK BK417.out 1).trans rfl, hHeld.2.2⟩ (fun hHeld => ?_)
                      clear hK K
                      refine norm_ (a' := ?_) ?_ ?_
                      rotate_left
                      ·show Act.put _ (some 71) _ = _
                       simp only [Act.put, List.setIfInBounds_toArray, List.set_cons_zero, List.set_cons_succ, i64_w, i32_w]
                       rfl
                      refine pS (i := 11) (N := some 75) #[true, true, true, true, true, true, true, true, true, true, true, true, false, false, false, false, false] HT_ ?_
                      refine pS (i := 12) (N := some 76) #[true, true, true, true, true, true, true, true, true, true, true, true, true, false, false, false, false] HT_ ?_
                      refine one_ (i := 13) (N := some 77) #[true, true, true, true, true, true, true, true, true, true, true, true, true, true, false, false, false] rfl rfl (qNA HT_.out (by kernel_rfl)) (by decide) (fun K hK => ?_)
                      refine qvB (w1 := ?_) (v := ?_) (by rfl) rfl ?_ ?_
                      rotate_left 2
                      ·go_simp
                       constructor
                       ·rfl
                       ·rfl
                      refine hK.out _ _ ⟨(qK (qA BK417.out _) 0).trans rfl, (qK (qA BK417.out _) 1).trans rfl, (World.cell?_alloc_lt _ _ _ (World.block_lt_of_cell? _ _ (hHeld.2.2))).trans (hHeld.2.2)⟩ (fun hHeld => ?_)
                      clear hK K
                      refine norm_ (a' := ?_) ?_ ?_
                      rotate_left
                      ·show Act.put _ (some 77) _ = _
                       simp only [Act.put, List.setIfInBounds_toArray, List.set_cons_zero, List.set_cons_succ, i64_w, i32_w]
                       rfl
                      refine last_ (i := 14) (N := some 78) #[true, true, true, true, true, true, true, true, true, true, true, true, true, true, true, false, false] rfl rfl (qNA HT_.out (by kernel_rfl)) (by decide) (fun K hK => ?_)
                      refine Kd.qDB Kd.string (w0 := w) w.heap.size (by rfl) (.tmp 65) (.tmp 77) 60 9 (.string ⟨#[]⟩) 16 rfl Tryd.underlying60 info9 rfl (by decide) (by omega) (.slice (some ad429) x418001_2.length co91) x418001_2 ((rdOf ByteArray.empty x418001_2 x7_1) ++ (t430.extract (x8_2 : Int).toNat ((wrap64 (x8_2 + 1)) : Int).toNat)) [.string ((rdOf ByteArray.empty x418001_2 x7_1) ++ (t430.extract (x8_2 : Int).toNat ((wrap64 (x8_2 + 1)) : Int).toNat))] (fun _ => True) (fun _ => False) rfl rfl ?aP (fun _ hk => hk.elim) ?aF ?aO ?aB ?aS ?aL ?_
                      (case aP => exact rfl)
                      (case aB => exact bl)
                      (case aF => exact (fun _ _ => trivial))
                      (case aO => exact (by (with_reducible repeat (first | apply Kd.qF | apply Kd.qE | apply Kd.qH)); exact HO_418001.out))
                      (case aS => exact (qe bl))
                      (case aL => have := LMc76.out; omega)
                      intro v432 w92 ho hb hg hat
                      rw [← Ny431.out] at ho
                      have n0_ := Aside0.mk (qDA (g := gb408) (o := .cells #[.int .i64 a0_0, .int .i64 a0_1, .slice A0_2 l0_2.length c0_2] 57 (0, 0)) (by (with_reducible repeat (first | refine qB ?_ _ | refine qD ?_ | refine qA ?_ _)); exact BK408.out) hg (Kd.R_ne HO_418001.out BK408.out (by decide)))
                      have n1_ := Aside0.mk (qDA (g := gb409) (o := .cells #[.int .i64 a1_0, .int .i64 a1_1, .int .i64 a1_2] 27 (0, 0)) (by (with_reducible repeat (first | refine qB ?_ _ | refine qD ?_ | refine qA ?_ _)); exact BK409.out) hg (Kd.R_ne HO_418001.out BK409.out (by decide)))
                      have n2_ := Aside0.mk (qDA (g := gb410) (o := .cells #[.slice none 0 0, .slice none 0 0] 75 (0, 0)) (by (with_reducible repeat (first | refine qB ?_ _ | refine qD ?_ | refine qA ?_ _)); exact BK410.out) hg (Kd.R_ne HO_418001.out BK410.out (by decide)))
                      have n3_ := Aside0.mk (qDA (g := gb417) (o := .cells #[.slice Ao87 y426.length co87, .slice (some ad429) x418001_2.length co91] 75 (0, 0)) (by (with_reducible repeat (first | refine qB ?_ _ | refine qD ?_ | refine qA ?_ _)); exact BK417.out) hg (Kd.R_ne HO_418001.out BK417.out (by decide)))
                      have n4_ := Aside0.mk (qDA (g := gb423) (o := .cells #[.int .i64 t419, .int .i64 t420, .int .i64 t421] 27 (0, 0)) (by (with_reducible repeat (first | refine qB ?_ _ | refine qD ?_ | refine qA ?_ _)); exact BK423.out) hg (Kd.R_ne HO_418001.out BK423.out (by decide)))
                      have n5_ := Aside0.mk (Kd.qrA (by (with_reducible repeat (first | apply Kd.qF | apply Kd.qE | apply Kd.qH)); exact HO428.out) (Kd.qqA (by (with_reducible repeat (first | apply Kd.qF | apply Kd.qE | apply Kd.qH)); exact HO_418001.out)) (by decide) hg)
                      have n6_ := Aside0.mk (hb)
                      have n7_ := Aside0.mk (ho)
                      clear BK408
                      clear BK409
                      clear BK410
                      clear BK417
                      clear BK423
                      clear HO428
                      clear HB
                      clear HO_418001
                      have BK408 := n0_
                      have BK409 := n1_
                      have BK410 := n2_
                      have BK417 := n3_
                      have BK423 := n4_
                      have HO428 := n5_
                      have HB := n6_
                      have HO433 := n7_
                      clear n0_ n1_ n2_ n3_ n4_ n5_ n6_ n7_
                      clear ho hb hg hat
                      obtain ⟨Ao93, co93, eo93⟩ := Kd.ql HO433.out
                      (first | subst eo93 | (injection eo93 with f1_ f2_ f3_; have f4_ := f1_.symm; have f5_ := f3_.symm; clear f1_ f2_ f3_; subst f4_; subst f5_))
                      refine hK.out _ _ ?_
                      clear hK K
                      refine norm_ (a' := ?_) ?_ ?_
                      rotate_left
                      ·show Act.put _ (some 78) _ = _
                       simp only [Act.put, List.setIfInBounds_toArray, List.set_cons_zero, List.set_cons_succ, i64_w, i32_w]
                       rfl
                      refine pS (i := 15) (N := some 79) #[true, true, true, true, true, true, true, true, true, true, true, true, true, true, true, true, false] HT_ ?_
                      refine last_ (i := 16) (N := none) #[true, true, true, true, true, true, true, true, true, true, true, true, true, true, true, true, true] rfl rfl (qNA HT_.out (by kernel_rfl)) (by decide) (fun K hK => ?_)
                      have hs94 : w92.cell? ⟨gb417, 1, none⟩ = some (.slice (some ad429) x418001_2.length co91) := (qK BK417.out 1).trans rfl
                      have hfs94 := qC BK417.out 1
                      have hns94_0 := NB408_417.out
                      have hns94_1 := NB409_417.out
                      have hns94_2 := NB410_417.out
                      have hns94_4 := NB423_417.out
                      have hms94_0 := NB417_408.out
                      have hms94_1 := NB417_409.out
                      have hms94_2 := NB417_410.out
                      have hms94_4 := NB417_423.out
                      refine skip_ (w1 := ?_) (by rfl) rfl ?_ ?_
                      rotate_left
                      ·go_simp
                       rfl
                      refine hK.out _ _ ?_
                      clear hK K
                      refine done_ (qjA HT_.out (by kernel_rfl)) ?_
                      try go_wp2
                      go_roundg k3
                      case measure => have := HK1.out; have := HK2.out; have := HK3.out; omega
                      case rel => exact ⟨(wrap64 (x8_2 + 1)), (y426), (y431), (.slice Ao87 y426.length co87), (.slice Ao93 y431.length co93), (by first | rfl | (simp; done) | (simp [*]; done)), H', ⟨by have := HK1.out; have := HK2.out; have := HK3.out; omega⟩, ⟨by (with_reducible repeat (first | apply Kd.qF | apply Kd.qE | apply Kd.qH)); exact Kd.qf (Kd.R_far (p := ⟨gb417, 1, none⟩) (Kd.qt HO428.out BK417.out (by decide)) (fun _ hk => hk.2) (.slice Ao93 y431.length co93)) (fun _ hk => hk.1.1)⟩, ⟨by (with_reducible repeat (first | apply Kd.qF | apply Kd.qE | apply Kd.qH)); exact Kd.qf (Kd.R_far (p := ⟨gb417, 1, none⟩) (Kd.qt HO433.out BK417.out (by decide)) (fun _ hk => hk.2) (.slice Ao93 y431.length co93)) (fun _ hk => trivial)⟩, ⟨by (with_reducible repeat (first | refine qB ?_ _ | refine qD ?_ | refine qA ?_ _)); refine qL ?_ NB408_417.out _; (with_reducible repeat (first | refine qB ?_ _ | refine qD ?_ | refine qA ?_ _)); exact BK408.out⟩, ⟨by (with_reducible repeat (first | refine qB ?_ _ | refine qD ?_ | refine qA ?_ _)); refine qL ?_ NB409_417.out _; (with_reducible repeat (first | refine qB ?_ _ | refine qD ?_ | refine qA ?_ _)); exact BK409.out⟩, ⟨by (with_reducible repeat (first | refine qB ?_ _ | refine qD ?_ | refine qA ?_ _)); refine qL ?_ NB410_417.out _; (with_reducible repeat (first | refine qB ?_ _ | refine qD ?_ | refine qA ?_ _)); exact BK410.out⟩, ⟨by (with_reducible repeat (first | refine qB ?_ _ | refine qD ?_ | refine qA ?_ _)); refine qP (cs := #[.slice Ao87 y426.length co87, .slice (some ad429) x418001_2.length co91]) ?_ 1 _ rfl; (with_reducible repeat (first | refine qB ?_ _ | refine qD ?_ | refine qA ?_ _)); exact BK417.out⟩, ⟨bl⟩⟩
                     ·rw [if_neg c76] at H
                      exact absurd H (by simp)
                    ·rw [if_neg c75] at H
                     exact absurd H (by simp)
                   ·rw [if_neg c74] at H
                    exact absurd H (by simp)
                  ·rw [if_neg c73] at H
                   exact absurd H (by simp)
                 ·rw [if_neg c72] at H
                  exact absurd H (by simp)
                ·rw [if_neg c70] at H
                 exact absurd H (by simp)
               ·rw [if_neg c69] at H
                exact absurd H (by simp)
              ·rw [if_neg c68] at H
               exact absurd H (by simp)
         ·replace c30 := Bool.eq_false_iff.mpr c30
          subst c30
          have H1 : (qU.l1 k2 x7_1 (wrap64 (x8_2 + 1)) a0_0 a0_1 l0_2 x418000_2 x418001_2) = some (r1, r2, r3) := by rw [if_neg (show ¬ (false = true) by decide)] at H; exact H
          clear H
          have H := H1
          clear H1
          have H' := Aside0.mk H
          clear H
          try go_wp2
          have n0_ := Aside0.mk (Kd.qH HO_418000.out)
          have n1_ := Aside0.mk (Kd.qH HO_418001.out)
          have n2_ := Aside0.mk (qD BK408.out)
          have n3_ := Aside0.mk (qD BK409.out)
          have n4_ := Aside0.mk (qD BK410.out)
          have n5_ := Aside0.mk (qD BK417.out)
          have n6_ := Aside0.mk (qi HB.out)
          clear HO_418000
          clear HO_418001
          clear BK408
          clear BK409
          clear BK410
          clear BK417
          clear HB
          have HO_418000 := n0_
          have HO_418001 := n1_
          have BK408 := n2_
          have BK409 := n3_
          have BK410 := n4_
          have BK417 := n5_
          have HB := n6_
          clear n0_ n1_ n2_ n3_ n4_ n5_ n6_
          obtain ⟨Ao96, co96, eo96⟩ := Kd.ql HO_418000.out
          (first | subst eo96 | (injection eo96 with f1_ f2_ f3_; have f4_ := f1_.symm; have f5_ := f3_.symm; clear f1_ f2_ f3_; subst f4_; subst f5_))
          have p418 : 0 ≤ (x7_1 : Int) := of_decide_eq_true (by first | (with_reducible assumption) | assumption)
          have q418 : x7_1 < (x418000_2.length : Int) := of_decide_eq_true (by first | (with_reducible assumption) | assumption)
          obtain ⟨ad418, e418, hx418_0, hx418_1, hx418_2⟩ := qWB (Kd.qh HO_418000.out).2.2 x7_1 p418 q418
          cases e418
          replace p418 := eq_true p418
          replace q418 := eq_true q418
          refine qsA (n := 14) (S := fun w' => w'.cell? ⟨gb408, 0, none⟩ = some (.int .i64 a0_0) ∧ w'.cell? ⟨gb408, 1, none⟩ = some (.int .i64 a0_1) ∧ w'.cell? ⟨gb408, 2, none⟩ = some (.slice A0_2 l0_2.length c0_2) ∧ w'.cell? ⟨gb417, 0, none⟩ = some (.slice (some ad418) x418000_2.length co96) ∧ w'.cell? ⟨gb417, 1, none⟩ = some (u418001) ∧ w'.cell? (ad418.add ((x7_1).toNat * 3)) = some (.int .i64 ((qX x418000_2 x7_1).f0)) ∧ w'.cell? ⟨(ad418.add ((x7_1).toNat * 3)).block, (ad418.add ((x7_1).toNat * 3)).off + 1, none⟩ = some (.int .i64 ((qX x418000_2 x7_1).f1)) ∧ w'.cell? ⟨(ad418.add ((x7_1).toNat * 3)).block, (ad418.add ((x7_1).toNat * 3)).off + 2, none⟩ = some (.int .i64 ((qX x418000_2 x7_1).f2))) (ds := []) #[false, false, false, false, false, false, false, false, false, false, false, false, false, false] (by kernel_rfl) rfl rfl ⟨(qK BK408.out 0).trans rfl, (qK BK408.out 1).trans rfl, (qK BK408.out 2).trans rfl, (qK BK417.out 0).trans rfl, (qK BK417.out 1).trans rfl, hx418_0, hx418_1, hx418_2⟩ (fun hHeld => ?_); refine qTA qU.tab8 qU.bits8 (fun HT_ HW_ => ?_)
          generalize wr.drew = w95 at HO_418000 HO_418001 BK408 BK409 BK410 BK417 HB hx418_0 hx418_1 hx418_2 hHeld ⊢
          refine pS (i := 1) (N := some 31) #[false, true, false, false, false, false, false, false, false, false, false, false, false, false] HT_ ?_
          refine pS (i := 3) (N := some 33) #[false, true, false, true, false, false, false, false, false, false, false, false, false, false] HT_ ?_
          refine pS (i := 6) (N := some 36) #[false, true, false, true, false, false, true, false, false, false, false, false, false, false] HT_ ?_
          refine tS (i := 0) (N := some 30) #[true, true, false, true, false, false, true, false, false, false, false, false, false, false] HT_ HW_ hHeld ?_
          refine tS (i := 2) (N := some 32) #[true, true, true, true, false, false, true, false, false, false, false, false, false, false] HT_ HW_ hHeld ?_
          refine pS (i := 4) (N := some 34) #[true, true, true, true, true, false, true, false, false, false, false, false, false, false] HT_ ?_
          refine tS (i := 5) (N := some 35) #[true, true, true, true, true, true, true, false, false, false, false, false, false, false] HT_ HW_ hHeld ?_
          refine join_ (σ := Nat) 2 #[true, true, true, true, true, true, true, true, true, true, true, true, false, false] (fun s_ => [(37, .tuple #[.agg #[.int .i64 t419, .int .i64 t420, .int .i64 t421], .bool false]), (9, .pointer (some ⟨s_, 0, none⟩)), (29, .tuple #[.agg #[.int .i64 t419, .int .i64 t420, .int .i64 t421], .bool false]), (38, .agg #[.int .i64 t419, .int .i64 t420, .int .i64 t421]), (39, .bool false)]) (fun s_ w' => (w'.cell? ⟨gb408, 0, none⟩ = some (.int .i64 a0_0) ∧ w'.cell? ⟨gb408, 1, none⟩ = some (.int .i64 a0_1) ∧ w'.cell? ⟨gb408, 2, none⟩ = some (.slice A0_2 l0_2.length c0_2) ∧ w'.cell? ⟨gb417, 0, none⟩ = some (.slice (some ad418) x418000_2.length co96) ∧ w'.cell? ⟨gb417, 1, none⟩ = some (u418001) ∧ w'.cell? (ad418.add ((x7_1).toNat * 3)) = some (.int .i64 ((qX x418000_2 x7_1).f0)) ∧ w'.cell? ⟨(ad418.add ((x7_1).toNat * 3)).block, (ad418.add ((x7_1).toNat * 3)).off + 1, none⟩ = some (.int .i64 ((qX x418000_2 x7_1).f1)) ∧ w'.cell? ⟨(ad418.add ((x7_1).toNat * 3)).block, (ad418.add ((x7_1).toNat * 3)).off + 2, none⟩ = some (.int .i64 ((qX x418000_2 x7_1).f2))) ∧ (Kd.R k27 27 w' w.heap.size (fun k_ => k_ ≠ gb409 ∧ k_ ≠ s_) (.slice (some ad418) x418000_2.length co96) x418000_2) ∧ (Kd.R Kd.string 9 w' w.heap.size (fun _ => True) u418001 x418001_2) ∧ (w'.heap[gb408]? = some (.cells #[.int .i64 a0_0, .int .i64 a0_1, .slice A0_2 l0_2.length c0_2] 57 (0, 0))) ∧ (w'.heap[gb409]? = some (.cells #[.int .i64 a1_0, .int .i64 a1_1, .int .i64 a1_2] 27 (0, 0))) ∧ (w'.heap[gb410]? = some (.cells #[.slice none 0 0, .slice none 0 0] 75 (0, 0))) ∧ (w'.heap[gb417]? = some (.cells #[.slice (some ad418) x418000_2.length co96, u418001] 75 (0, 0))) ∧ (w'.heap[s_]? = some (.cells #[.int .i64 0, .int .i64 0, .int .i64 0] 27 (0, 0))) ∧ (w.heap.size ≤ s_) ∧ (w.heap.size ≤ s_) ∧ (gb408 ≠ s_) ∧ (s_ ≠ gb408) ∧ (gb409 ≠ s_) ∧ (s_ ≠ gb409) ∧ (gb410 ≠ s_) ∧ (s_ ≠ gb410) ∧ (gb417 ≠ s_) ∧ (s_ ≠ gb417) ∧ (Below w.heap.size w w')) ?_ ?_
          rotate_left
          ·intro hCont
           refine two_ (i := 7) (j := 11) (Ni := some 37) (Nj := some 9) #[true, true, true, true, true, true, true, true, false, false, false, false, false, false] #[true, true, true, true, true, true, true, false, false, false, false, true, false, false] rfl rfl rfl rfl (qeB HT_.out (by kernel_rfl)) (by decide) (by decide) (fun K hK => ?_) (fun K hK => ?_)
           ·skip
            refine goes_ Tryd.func60 (by kernel_rfl) rfl #[.agg #[.int .i64 a0_0, .int .i64 a0_1, .slice A0_2 l0_2.length c0_2], .agg #[.int .i64 ((qX x418000_2 x7_1).f0), .int .i64 ((qX x418000_2 x7_1).f1), .int .i64 ((qX x418000_2 x7_1).f2)], .int .i64 x8_2] (by rfl) rfl rfl (by (try simp only [List.map_toArray, List.map_cons, List.map_nil]); first | done | rfl | (simp only [List.length_drop, List.length_take]; rfl)) ?_
            with_reducible refine (qZA.calls k2 a0_0 a0_1 _ _ l0_2 ((qX x418000_2 x7_1).f0) ((qX x418000_2 x7_1).f1) ((qX x418000_2 x7_1).f2) x8_2 t419 t420 t421 false _ ?side1 ?side2 A29.out).mono ?_
            (case side1 => repeat (first | exact (Kd.qQA HR0_2.out HB.out) | (with_reducible refine Kd.qIA ?_ _) | (with_reducible refine Kd.qHA ?_ _) | (with_reducible refine Kd.qSA ?_)))
            (case side2 => exact HC0_2.out)
            rintro e w97 ⟨rfl, hb⟩
            have HS5_ := (hb.cell (World.block_lt_of_cell? _ _ (hHeld.2.2.2.2.2.1))).trans (hHeld.2.2.2.2.2.1)
            have HS6_ := (hb.cell (World.block_lt_of_cell? _ _ (hHeld.2.2.2.2.2.2.1))).trans (hHeld.2.2.2.2.2.2.1)
            have HS7_ := (hb.cell (World.block_lt_of_cell? _ _ (hHeld.2.2.2.2.2.2.2))).trans (hHeld.2.2.2.2.2.2.2)
            refine ⟨_, rfl, ?_⟩
            have n0_ := Aside0.mk (Kd.qc (by (with_reducible repeat (first | apply Kd.qF | apply Kd.qE | apply Kd.qH)); exact HO_418000.out) hb)
            have n1_ := Aside0.mk (Kd.qc (by (with_reducible repeat (first | apply Kd.qF | apply Kd.qE | apply Kd.qH)); exact HO_418001.out) hb)
            have n2_ := Aside0.mk (bb BK408 hb)
            have n3_ := Aside0.mk (bb BK409 hb)
            have n4_ := Aside0.mk (bb BK410 hb)
            have n5_ := Aside0.mk (bb BK417 hb)
            have n6_ := Aside0.mk (qG bl hb)
            clear HO_418000
            clear HO_418001
            clear BK408
            clear BK409
            clear BK410
            clear BK417
            clear HB
            have HO_418000 := n0_
            have HO_418001 := n1_
            have BK408 := n2_
            have BK409 := n3_
            have BK410 := n4_
            have BK417 := n5_
            have HB := n6_
            clear n0_ n1_ n2_ n3_ n4_ n5_ n6_
            (try clear hb)
            (try clear hb2)
            (try clear hk)
            (try clear hi)
            refine hK.out _ _ ⟨(qK BK408.out 0).trans rfl, (qK BK408.out 1).trans rfl, (qK BK408.out 2).trans rfl, (qK BK417.out 0).trans rfl, (qK BK417.out 1).trans rfl, HS5_, HS6_, HS7_⟩ (fun hHeld => ?_)
            clear hK K
            refine norm_ (a' := ?_) ?_ ?_
            rotate_left
            ·show Act.put _ (some 37) _ = _
             simp only [Act.put, List.setIfInBounds_toArray, List.set_cons_zero, List.set_cons_succ, i64_w, i32_w]
             rfl
            refine pS (i := 8) (N := some 29) #[true, true, true, true, true, true, true, true, true, false, false, false, false, false] HT_ ?_
            refine pS (i := 9) (N := some 38) #[true, true, true, true, true, true, true, true, true, true, false, false, false, false] HT_ ?_
            refine pS (i := 10) (N := some 39) #[true, true, true, true, true, true, true, true, true, true, true, false, false, false] HT_ ?_
            refine one_ (i := 11) (N := some 9) #[true, true, true, true, true, true, true, true, true, true, true, true, false, false] rfl rfl (qNA HT_.out (by kernel_rfl)) (by decide) (fun K hK => ?_)
            refine qnA ?hg (N := 9) ?hd (cs := #[.int .i64 0, .int .i64 0, .int .i64 0]) (t := 27) ?hr ?_; (case hd => rfl); (case hg => rfl); (case hr => first | (go_simp; done) | (go_simp; rfl))
            intro gb423 hg w98 hbox hb
            have HS5_ := (hb.cell (World.block_lt_of_cell? _ _ (hHeld.2.2.2.2.2.1))).trans (hHeld.2.2.2.2.2.1)
            have HS6_ := (hb.cell (World.block_lt_of_cell? _ _ (hHeld.2.2.2.2.2.2.1))).trans (hHeld.2.2.2.2.2.2.1)
            have HS7_ := (hb.cell (World.block_lt_of_cell? _ _ (hHeld.2.2.2.2.2.2.2))).trans (hHeld.2.2.2.2.2.2.2)
            have n0_ := Aside0.mk (Kd.qc (Kd.qcA (by (with_reducible repeat (first | apply Kd.qF | apply Kd.qE | apply Kd.qH)); exact HO_418000.out) gb423 (Nat.le_of_eq hg.symm)) hb)
            have n1_ := Aside0.mk (Kd.qc (by (with_reducible repeat (first | apply Kd.qF | apply Kd.qE | apply Kd.qH)); exact HO_418001.out) hb)
            have n2_ := Aside0.mk (bb BK408 hb)
            have n3_ := Aside0.mk (bb BK409 hb)
            have n4_ := Aside0.mk (bb BK410 hb)
            have n5_ := Aside0.mk (bb BK417 hb)
            have n6_ := Aside0.mk (qG bl hb)
            have n7_ := Aside0.mk (hbox)
            have n8_ := Aside0.mk ((gg hg))
            have n9_ := Aside0.mk ((gg hg))
            have n10_ := Aside0.mk ((nl BK408 hg))
            have n11_ := Aside0.mk ((nr BK408 hg))
            have n12_ := Aside0.mk ((nl BK409 hg))
            have n13_ := Aside0.mk ((nr BK409 hg))
            have n14_ := Aside0.mk ((nl BK410 hg))
            have n15_ := Aside0.mk ((nr BK410 hg))
            have n16_ := Aside0.mk ((nl BK417 hg))
            have n17_ := Aside0.mk ((nr BK417 hg))
            clear HO_418000
            clear HO_418001
            clear BK408
            clear BK409
            clear BK410
            clear BK417
            clear HB
            have HO_418000 := n0_
            have HO_418001 := n1_
            have BK408 := n2_
            have BK409 := n3_
            have BK410 := n4_
            have BK417 := n5_
            have HB := n6_
            have BK423 := n7_
            have GW423 := n8_
            have GE423 := n9_
            have NB408_423 := n10_
            have NB423_408 := n11_
            have NB409_423 := n12_
            have NB423_409 := n13_
            have NB410_423 := n14_
            have NB423_410 := n15_
            have NB417_423 := n16_
            have NB423_417 := n17_
            clear n0_ n1_ n2_ n3_ n4_ n5_ n6_ n7_ n8_ n9_ n10_ n11_ n12_ n13_ n14_ n15_ n16_ n17_
            clear hb hbox hg
            refine hK.out _ _ ⟨(qK BK408.out 0).trans rfl, (qK BK408.out 1).trans rfl, (qK BK408.out 2).trans rfl, (qK BK417.out 0).trans rfl, (qK BK417.out 1).trans rfl, HS5_, HS6_, HS7_⟩ (fun hHeld => ?_)
            clear hK K
            refine norm_ (a' := ?_) ?_ ?_
            rotate_left
            ·show Act.put _ (some 9) _ = _
             simp only [Act.put, List.setIfInBounds_toArray, List.set_cons_zero, List.set_cons_succ, i64_w, i32_w]
             rfl
            exact norm_ (by simp only [putAll, Act.put, List.setIfInBounds_toArray, List.set_cons_zero, List.set_cons_succ]) (hCont (gb423) _ ⟨hHeld, (by (with_reducible repeat (first | apply Kd.qF | apply Kd.qE | apply Kd.qH)); exact HO_418000.out), (by (with_reducible repeat (first | apply Kd.qF | apply Kd.qE | apply Kd.qH)); exact HO_418001.out), (by (with_reducible repeat (first | refine qB ?_ _ | refine qD ?_ | refine qA ?_ _)); exact BK408.out), (by (with_reducible repeat (first | refine qB ?_ _ | refine qD ?_ | refine qA ?_ _)); exact BK409.out), (by (with_reducible repeat (first | refine qB ?_ _ | refine qD ?_ | refine qA ?_ _)); exact BK410.out), (by (with_reducible repeat (first | refine qB ?_ _ | refine qD ?_ | refine qA ?_ _)); exact BK417.out), (by (with_reducible repeat (first | refine qB ?_ _ | refine qD ?_ | refine qA ?_ _)); exact BK423.out), GW423.out, GE423.out, NB408_423.out, NB423_408.out, NB409_423.out, NB423_409.out, NB410_423.out, NB423_410.out, NB417_423.out, NB423_417.out, bl⟩)
           ·skip
            refine qnA ?hg (N := 9) ?hd (cs := #[.int .i64 0, .int .i64 0, .int .i64 0]) (t := 27) ?hr ?_; (case hd => rfl); (case hg => rfl); (case hr => first | (go_simp; done) | (go_simp; rfl))
            intro gb423 hg w97 hbox hb
            have HS5_ := (hb.cell (World.block_lt_of_cell? _ _ (hHeld.2.2.2.2.2.1))).trans (hHeld.2.2.2.2.2.1)
            have HS6_ := (hb.cell (World.block_lt_of_cell? _ _ (hHeld.2.2.2.2.2.2.1))).trans (hHeld.2.2.2.2.2.2.1)
            have HS7_ := (hb.cell (World.block_lt_of_cell? _ _ (hHeld.2.2.2.2.2.2.2))).trans (hHeld.2.2.2.2.2.2.2)
            have n0_ := Aside0.mk (Kd.qc (Kd.qcA (by (with_reducible repeat (first | apply Kd.qF | apply Kd.qE | apply Kd.qH)); exact HO_418000.out) gb423 (Nat.le_of_eq hg.symm)) hb)
            have n1_ := Aside0.mk (Kd.qc (by (with_reducible repeat (first | apply Kd.qF | apply Kd.qE | apply Kd.qH)); exact HO_418001.out) hb)
            have n2_ := Aside0.mk (bb BK408 hb)
            have n3_ := Aside0.mk (bb BK409 hb)
            have n4_ := Aside0.mk (bb BK410 hb)
            have n5_ := Aside0.mk (bb BK417 hb)
            have n6_ := Aside0.mk (qG bl hb)
            have n7_ := Aside0.mk (hbox)
            have n8_ := Aside0.mk ((gg hg))
            have n9_ := Aside0.mk ((gg hg))
            have n10_ := Aside0.mk ((nl BK408 hg))
            have n11_ := Aside0.mk ((nr BK408 hg))
            have n12_ := Aside0.mk ((nl BK409 hg))
            have n13_ := Aside0.mk ((nr BK409 hg))
            have n14_ := Aside0.mk ((nl BK410 hg))
            have n15_ := Aside0.mk ((nr BK410 hg))
            have n16_ := Aside0.mk ((nl BK417 hg))
            have n17_ := Aside0.mk ((nr BK417 hg))
            clear HO_418000
            clear HO_418001
            clear BK408
            clear BK409
            clear BK410
            clear BK417
            clear HB
            have HO_418000 := n0_
            have HO_418001 := n1_
            have BK408 := n2_
            have BK409 := n3_
            have BK410 := n4_
            have BK417 := n5_
            have HB := n6_
            have BK423 := n7_
            have GW423 := n8_
            have GE423 := n9_
            have NB408_423 := n10_
            have NB423_408 := n11_
            have NB409_423 := n12_
            have NB423_409 := n13_
            have NB410_423 := n14_
            have NB423_410 := n15_
            have NB417_423 := n16_
            have NB423_417 := n17_
            clear n0_ n1_ n2_ n3_ n4_ n5_ n6_ n7_ n8_ n9_ n10_ n11_ n12_ n13_ n14_ n15_ n16_ n17_
            clear hb hbox hg
            refine hK.out _ _ ⟨(qK BK408.out 0).trans rfl, (qK BK408.out 1).trans rfl, (qK BK408.out 2).trans rfl, (qK BK417.out 0).trans rfl, (qK BK417.out 1).trans rfl, HS5_, HS6_, HS7_⟩ (fun hHeld => ?_)
            clear hK K
            refine norm_ (a' := ?_) ?_ ?_
            rotate_left
            ·show Act.put _ (some 9) _ = _
             simp only [Act.put, List.setIfInBounds_toArray, List.set_cons_zero, List.set_cons_succ, i64_w, i32_w]
             rfl
            refine one_ (i := 7) (N := some 37) #[true, true, true, true, true, true, true, true, false, false, false, true, false, false] rfl rfl (qNA HT_.out (by kernel_rfl)) (by decide) (fun K hK => ?_)
            refine goes_ Tryd.func60 (by kernel_rfl) rfl #[.agg #[.int .i64 a0_0, .int .i64 a0_1, .slice A0_2 l0_2.length c0_2], .agg #[.int .i64 ((qX x418000_2 x7_1).f0), .int .i64 ((qX x418000_2 x7_1).f1), .int .i64 ((qX x418000_2 x7_1).f2)], .int .i64 x8_2] (by rfl) rfl rfl (by (try simp only [List.map_toArray, List.map_cons, List.map_nil]); first | done | rfl | (simp only [List.length_drop, List.length_take]; rfl)) ?_
            with_reducible refine (qZA.calls k2 a0_0 a0_1 _ _ l0_2 ((qX x418000_2 x7_1).f0) ((qX x418000_2 x7_1).f1) ((qX x418000_2 x7_1).f2) x8_2 t419 t420 t421 false _ ?side1 ?side2 A29.out).mono ?_
            (case side1 => repeat (first | exact (Kd.qQA HR0_2.out HB.out) | (with_reducible refine Kd.qIA ?_ _) | (with_reducible refine Kd.qHA ?_ _) | (with_reducible refine Kd.qSA ?_)))
            (case side2 => exact HC0_2.out)
            rintro e w98 ⟨rfl, hb⟩
            have HS5_ := (hb.cell (World.block_lt_of_cell? _ _ (hHeld.2.2.2.2.2.1))).trans (hHeld.2.2.2.2.2.1)
            have HS6_ := (hb.cell (World.block_lt_of_cell? _ _ (hHeld.2.2.2.2.2.2.1))).trans (hHeld.2.2.2.2.2.2.1)
            have HS7_ := (hb.cell (World.block_lt_of_cell? _ _ (hHeld.2.2.2.2.2.2.2))).trans (hHeld.2.2.2.2.2.2.2)
            refine ⟨_, rfl, ?_⟩
            have n0_ := Aside0.mk (Kd.qc (by (with_reducible repeat (first | apply Kd.qF | apply Kd.qE | apply Kd.qH)); exact HO_418000.out) hb)
            have n1_ := Aside0.mk (Kd.qc (by (with_reducible repeat (first | apply Kd.qF | apply Kd.qE | apply Kd.qH)); exact HO_418001.out) hb)
            have n2_ := Aside0.mk (bb BK408 hb)
            have n3_ := Aside0.mk (bb BK409 hb)
            have n4_ := Aside0.mk (bb BK410 hb)
            have n5_ := Aside0.mk (bb BK417 hb)
            have n6_ := Aside0.mk (bb BK423 hb)
            have n7_ := Aside0.mk (qG bl hb)
            clear HO_418000
            clear HO_418001
            clear BK408
            clear BK409
            clear BK410
            clear BK417
            clear BK423
            clear HB
            have HO_418000 := n0_
            have HO_418001 := n1_
            have BK408 := n2_
            have BK409 := n3_
            have BK410 := n4_
            have BK417 := n5_
            have BK423 := n6_
            have HB := n7_
            clear n0_ n1_ n2_ n3_ n4_ n5_ n6_ n7_
            (try clear hb)
            (try clear hb2)
            (try clear hk)
            (try clear hi)
            refine hK.out _ _ ⟨(qK BK408.out 0).trans rfl, (qK BK408.out 1).trans rfl, (qK BK408.out 2).trans rfl, (qK BK417.out 0).trans rfl, (qK BK417.out 1).trans rfl, HS5_, HS6_, HS7_⟩ (fun hHeld => ?_)
            clear hK K
            refine norm_ (a' := ?_) ?_ ?_
            rotate_left
            ·show Act.put _ (some 37) _ = _
             simp only [Act.put, List.setIfInBounds_toArray, List.set_cons_zero, List.set_cons_succ, i64_w, i32_w]
             rfl
            refine pS (i := 8) (N := some 29) #[true, true, true, true, true, true, true, true, true, false, false, true, false, false] HT_ ?_
            refine pS (i := 9) (N := some 38) #[true, true, true, true, true, true, true, true, true, true, false, true, false, false] HT_ ?_
            refine pS (i := 10) (N := some 39) #[true, true, true, true, true, true, true, true, true, true, true, true, false, false] HT_ ?_
            exact norm_ (by simp only [putAll, Act.put, List.setIfInBounds_toArray, List.set_cons_zero, List.set_cons_succ]) (hCont (gb423) _ ⟨hHeld, (by (with_reducible repeat (first | apply Kd.qF | apply Kd.qE | apply Kd.qH)); exact HO_418000.out), (by (with_reducible repeat (first | apply Kd.qF | apply Kd.qE | apply Kd.qH)); exact HO_418001.out), (by (with_reducible repeat (first | refine qB ?_ _ | refine qD ?_ | refine qA ?_ _)); exact BK408.out), (by (with_reducible repeat (first | refine qB ?_ _ | refine qD ?_ | refine qA ?_ _)); exact BK409.out), (by (with_reducible repeat (first | refine qB ?_ _ | refine qD ?_ | refine qA ?_ _)); exact BK410.out), (by (with_reducible repeat (first | refine qB ?_ _ | refine qD ?_ | refine qA ?_ _)); exact BK417.out), (by (with_reducible repeat (first | refine qB ?_ _ | refine qD ?_ | refine qA ?_ _)); exact BK423.out), GW423.out, GE423.out, NB408_423.out, NB423_408.out, NB409_423.out, NB423_409.out, NB410_423.out, NB423_410.out, NB417_423.out, NB423_417.out, bl⟩)
          rintro gb423 w99 ⟨hS_, h0_, h1_, h2_, h3_, h4_, h5_, h6_, h7_, h8_, h9_, h10_, h11_, h12_, h13_, h14_, h15_, h16_, h17_⟩
          have n0_ : Aside0 (Kd.R k27 27 w99 w.heap.size (fun k_ => k_ ≠ gb409 ∧ k_ ≠ gb423) (.slice (some ad418) x418000_2.length co96) x418000_2) := ⟨h0_⟩
          have n1_ : Aside0 (Kd.R Kd.string 9 w99 w.heap.size (fun _ => True) u418001 x418001_2) := ⟨h1_⟩
          have n2_ : Aside0 (w99.heap[gb408]? = some (.cells #[.int .i64 a0_0, .int .i64 a0_1, .slice A0_2 l0_2.length c0_2] 57 (0, 0))) := ⟨h2_⟩
          have n3_ : Aside0 (w99.heap[gb409]? = some (.cells #[.int .i64 a1_0, .int .i64 a1_1, .int .i64 a1_2] 27 (0, 0))) := ⟨h3_⟩
          have n4_ : Aside0 (w99.heap[gb410]? = some (.cells #[.slice none 0 0, .slice none 0 0] 75 (0, 0))) := ⟨h4_⟩
          have n5_ : Aside0 (w99.heap[gb417]? = some (.cells #[.slice (some ad418) x418000_2.length co96, u418001] 75 (0, 0))) := ⟨h5_⟩
          have n6_ : Aside0 (w99.heap[gb423]? = some (.cells #[.int .i64 0, .int .i64 0, .int .i64 0] 27 (0, 0))) := ⟨h6_⟩
          have n7_ : Aside0 (w.heap.size ≤ gb423) := ⟨h7_⟩
          have n8_ : Aside0 (w.heap.size ≤ gb423) := ⟨h8_⟩
          have n9_ : Aside0 (gb408 ≠ gb423) := ⟨h9_⟩
          have n10_ : Aside0 (gb423 ≠ gb408) := ⟨h10_⟩
          have n11_ : Aside0 (gb409 ≠ gb423) := ⟨h11_⟩
          have n12_ : Aside0 (gb423 ≠ gb409) := ⟨h12_⟩
          have n13_ : Aside0 (gb410 ≠ gb423) := ⟨h13_⟩
          have n14_ : Aside0 (gb423 ≠ gb410) := ⟨h14_⟩
          have n15_ : Aside0 (gb417 ≠ gb423) := ⟨h15_⟩
          have n16_ : Aside0 (gb423 ≠ gb417) := ⟨h16_⟩
          have n17_ : Aside0 (Below w.heap.size w w99) := ⟨h17_⟩
          clear HO_418000
          clear HO_418001
          clear BK408
          clear BK409
          clear BK410
          clear BK417
          clear HB
          clear h0_ h1_ h2_ h3_ h4_ h5_ h6_ h7_ h8_ h9_ h10_ h11_ h12_ h13_ h14_ h15_ h16_ h17_
          have HO_418000 := n0_
          have HO_418001 := n1_
          have BK408 := n2_
          have BK409 := n3_
          have BK410 := n4_
          have BK417 := n5_
          have BK423 := n6_
          have GW423 := n7_
          have GE423 := n8_
          have NB408_423 := n9_
          have NB423_408 := n10_
          have NB409_423 := n11_
          have NB423_409 := n12_
          have NB410_423 := n13_
          have NB423_410 := n14_
          have NB417_423 := n15_
          have NB423_417 := n16_
          have HB := n17_
          clear n0_ n1_ n2_ n3_ n4_ n5_ n6_ n7_ n8_ n9_ n10_ n11_ n12_ n13_ n14_ n15_ n16_ n17_
          have hHeld : w99.cell? ⟨gb408, 0, none⟩ = some (.int .i64 a0_0) ∧ w99.cell? ⟨gb408, 1, none⟩ = some (.int .i64 a0_1) ∧ w99.cell? ⟨gb408, 2, none⟩ = some (.slice A0_2 l0_2.length c0_2) ∧ w99.cell? ⟨gb417, 0, none⟩ = some (.slice (some ad418) x418000_2.length co96) ∧ w99.cell? ⟨gb417, 1, none⟩ = some (u418001) ∧ w99.cell? (ad418.add ((x7_1).toNat * 3)) = some (.int .i64 ((qX x418000_2 x7_1).f0)) ∧ w99.cell? ⟨(ad418.add ((x7_1).toNat * 3)).block, (ad418.add ((x7_1).toNat * 3)).off + 1, none⟩ = some (.int .i64 ((qX x418000_2 x7_1).f1)) ∧ w99.cell? ⟨(ad418.add ((x7_1).toNat * 3)).block, (ad418.add ((x7_1).toNat * 3)).off + 2, none⟩ = some (.int .i64 ((qX x418000_2 x7_1).f2)) := hS_
          refine norm_ (a' := ?_) ?_ ?_
          rotate_left
          ·simp only [putAll, Act.put, List.setIfInBounds_toArray, List.set_cons_zero, List.set_cons_succ]
           rfl
          refine one_ (i := 12) (N := none) #[true, true, true, true, true, true, true, true, true, true, true, true, true, false] rfl rfl (qNA HT_.out (by kernel_rfl)) (by decide) (fun K hK => ?_)
          have hs100 : w99.cell? ⟨gb423, 0, none⟩ = some (.int .i64 0) := (qK BK423.out 0).trans rfl
          have hfs100 := qC BK423.out 0
          have hns100_0 := NB408_423.out
          have hns100_1 := NB409_423.out
          have hns100_2 := NB410_423.out
          have hns100_3 := NB417_423.out
          have hms100_0 := NB423_408.out
          have hms100_1 := NB423_409.out
          have hms100_2 := NB423_410.out
          have hms100_3 := NB423_417.out
          have hs101 : w99.cell? ⟨gb423, 1, none⟩ = some (.int .i64 0) := (qK BK423.out 1).trans rfl
          have hfs101 := qC BK423.out 1
          have hns101_0 := NB408_423.out
          have hns101_1 := NB409_423.out
          have hns101_2 := NB410_423.out
          have hns101_3 := NB417_423.out
          have hms101_0 := NB423_408.out
          have hms101_1 := NB423_409.out
          have hms101_2 := NB423_410.out
          have hms101_3 := NB423_417.out
          have hs102 : w99.cell? ⟨gb423, 2, none⟩ = some (.int .i64 0) := (qK BK423.out 2).trans rfl
          have hfs102 := qC BK423.out 2
          have hns102_0 := NB408_423.out
          have hns102_1 := NB409_423.out
          have hns102_2 := NB410_423.out
          have hns102_3 := NB417_423.out
          have hms102_0 := NB423_408.out
          have hms102_1 := NB423_409.out
          have hms102_2 := NB423_410.out
          have hms102_3 := NB423_417.out
          refine skip_ (w1 := ?_) (by rfl) rfl ?_ ?_
          rotate_left
          ·go_simp
           rfl
          refine hK.out _ _ ⟨((qO (p := ⟨gb423, _, none⟩) NB408_423.out _).trans (((qO (p := ⟨gb423, _, none⟩) NB408_423.out _).trans (((qO (p := ⟨gb423, _, none⟩) NB408_423.out _).trans (hHeld.1)))))), ((qO (p := ⟨gb423, _, none⟩) NB408_423.out _).trans (((qO (p := ⟨gb423, _, none⟩) NB408_423.out _).trans (((qO (p := ⟨gb423, _, none⟩) NB408_423.out _).trans (hHeld.2.1)))))), ((qO (p := ⟨gb423, _, none⟩) NB408_423.out _).trans (((qO (p := ⟨gb423, _, none⟩) NB408_423.out _).trans (((qO (p := ⟨gb423, _, none⟩) NB408_423.out _).trans (hHeld.2.2.1)))))), ((qO (p := ⟨gb423, _, none⟩) NB417_423.out _).trans (((qO (p := ⟨gb423, _, none⟩) NB417_423.out _).trans (((qO (p := ⟨gb423, _, none⟩) NB417_423.out _).trans (hHeld.2.2.2.1)))))), ((qO (p := ⟨gb423, _, none⟩) NB417_423.out _).trans (((qO (p := ⟨gb423, _, none⟩) NB417_423.out _).trans (((qO (p := ⟨gb423, _, none⟩) NB417_423.out _).trans (hHeld.2.2.2.2.1)))))), ((qO (p := ⟨gb423, _, none⟩) (by first | exact Kd.qM (Kd.qR HO_418000.out (fun _ hk => hk.2)) | (rw [qS]; exact Kd.qM (Kd.qR HO_418000.out (fun _ hk => hk.2))) | (show (Addr.add _ _).block ≠ _; rw [qS]; exact Kd.qM (Kd.qR HO_418000.out (fun _ hk => hk.2))) | (dsimp only; exact Kd.qM (Kd.qR HO_418000.out (fun _ hk => hk.2)))) _).trans (((qO (p := ⟨gb423, _, none⟩) (by first | exact Kd.qM (Kd.qR HO_418000.out (fun _ hk => hk.2)) | (rw [qS]; exact Kd.qM (Kd.qR HO_418000.out (fun _ hk => hk.2))) | (show (Addr.add _ _).block ≠ _; rw [qS]; exact Kd.qM (Kd.qR HO_418000.out (fun _ hk => hk.2))) | (dsimp only; exact Kd.qM (Kd.qR HO_418000.out (fun _ hk => hk.2)))) _).trans (((qO (p := ⟨gb423, _, none⟩) (by first | exact Kd.qM (Kd.qR HO_418000.out (fun _ hk => hk.2)) | (rw [qS]; exact Kd.qM (Kd.qR HO_418000.out (fun _ hk => hk.2))) | (show (Addr.add _ _).block ≠ _; rw [qS]; exact Kd.qM (Kd.qR HO_418000.out (fun _ hk => hk.2))) | (dsimp only; exact Kd.qM (Kd.qR HO_418000.out (fun _ hk => hk.2)))) _).trans (hHeld.2.2.2.2.2.1)))))), ((qO (p := ⟨gb423, _, none⟩) (by first | exact Kd.qM (Kd.qR HO_418000.out (fun _ hk => hk.2)) | (rw [qS]; exact Kd.qM (Kd.qR HO_418000.out (fun _ hk => hk.2))) | (show (Addr.add _ _).block ≠ _; rw [qS]; exact Kd.qM (Kd.qR HO_418000.out (fun _ hk => hk.2))) | (dsimp only; exact Kd.qM (Kd.qR HO_418000.out (fun _ hk => hk.2)))) _).trans (((qO (p := ⟨gb423, _, none⟩) (by first | exact Kd.qM (Kd.qR HO_418000.out (fun _ hk => hk.2)) | (rw [qS]; exact Kd.qM (Kd.qR HO_418000.out (fun _ hk => hk.2))) | (show (Addr.add _ _).block ≠ _; rw [qS]; exact Kd.qM (Kd.qR HO_418000.out (fun _ hk => hk.2))) | (dsimp only; exact Kd.qM (Kd.qR HO_418000.out (fun _ hk => hk.2)))) _).trans (((qO (p := ⟨gb423, _, none⟩) (by first | exact Kd.qM (Kd.qR HO_418000.out (fun _ hk => hk.2)) | (rw [qS]; exact Kd.qM (Kd.qR HO_418000.out (fun _ hk => hk.2))) | (show (Addr.add _ _).block ≠ _; rw [qS]; exact Kd.qM (Kd.qR HO_418000.out (fun _ hk => hk.2))) | (dsimp only; exact Kd.qM (Kd.qR HO_418000.out (fun _ hk => hk.2)))) _).trans (hHeld.2.2.2.2.2.2.1)))))), ((qO (p := ⟨gb423, _, none⟩) (by first | exact Kd.qM (Kd.qR HO_418000.out (fun _ hk => hk.2)) | (rw [qS]; exact Kd.qM (Kd.qR HO_418000.out (fun _ hk => hk.2))) | (show (Addr.add _ _).block ≠ _; rw [qS]; exact Kd.qM (Kd.qR HO_418000.out (fun _ hk => hk.2))) | (dsimp only; exact Kd.qM (Kd.qR HO_418000.out (fun _ hk => hk.2)))) _).trans (((qO (p := ⟨gb423, _, none⟩) (by first | exact Kd.qM (Kd.qR HO_418000.out (fun _ hk => hk.2)) | (rw [qS]; exact Kd.qM (Kd.qR HO_418000.out (fun _ hk => hk.2))) | (show (Addr.add _ _).block ≠ _; rw [qS]; exact Kd.qM (Kd.qR HO_418000.out (fun _ hk => hk.2))) | (dsimp only; exact Kd.qM (Kd.qR HO_418000.out (fun _ hk => hk.2)))) _).trans (((qO (p := ⟨gb423, _, none⟩) (by first | exact Kd.qM (Kd.qR HO_418000.out (fun _ hk => hk.2)) | (rw [qS]; exact Kd.qM (Kd.qR HO_418000.out (fun _ hk => hk.2))) | (show (Addr.add _ _).block ≠ _; rw [qS]; exact Kd.qM (Kd.qR HO_418000.out (fun _ hk => hk.2))) | (dsimp only; exact Kd.qM (Kd.qR HO_418000.out (fun _ hk => hk.2)))) _).trans (hHeld.2.2.2.2.2.2.2))))))⟩ (fun hHeld => ?_)
          clear hK K
          refine pS (i := 13) (N := some 10) #[true, true, true, true, true, true, true, true, true, true, true, true, true, true] HT_ ?_
          refine done_ (qjA HT_.out (by kernel_rfl)) ?_
          try go_wp2
          go_roundg k2
          case measure => have := HK1.out; have := HK2.out; omega
          case rel => exact ⟨(wrap64 (x8_2 + 1)), (x418000_2), (x418001_2), (.slice (some ad418) x418000_2.length co96), (u418001), (by first | rfl | (simp; done) | (simp [*]; done)), H', ⟨by have := HK1.out; have := HK2.out; omega⟩, ⟨by (with_reducible repeat (first | apply Kd.qF | apply Kd.qE | apply Kd.qH)); exact Kd.qf (Kd.R_far (p := ⟨gb423, 2, none⟩) (Kd.R_far (p := ⟨gb423, 1, none⟩) (Kd.R_far (p := ⟨gb423, 0, none⟩) (Kd.qf HO_418000.out (fun k_ hk => (⟨hk, hk.2⟩ : _ ∧ k_ ≠ gb423))) (fun _ hk => hk.2) (.int .i64 t419)) (fun _ hk => hk.2) (.int .i64 t420)) (fun _ hk => hk.2) (.int .i64 t421)) (fun _ hk => hk.1.1)⟩, ⟨by (with_reducible repeat (first | apply Kd.qF | apply Kd.qE | apply Kd.qH)); exact Kd.qf (Kd.R_far (p := ⟨gb423, 2, none⟩) (Kd.R_far (p := ⟨gb423, 1, none⟩) (Kd.R_far (p := ⟨gb423, 0, none⟩) (Kd.qt HO_418001.out BK423.out (by decide)) (fun _ hk => hk.2) (.int .i64 t419)) (fun _ hk => hk.2) (.int .i64 t420)) (fun _ hk => hk.2) (.int .i64 t421)) (fun _ hk => trivial)⟩, ⟨by (with_reducible repeat (first | refine qB ?_ _ | refine qD ?_ | refine qA ?_ _)); refine qL ?_ NB408_423.out _; (with_reducible repeat (first | refine qB ?_ _ | refine qD ?_ | refine qA ?_ _)); refine qL ?_ NB408_423.out _; (with_reducible repeat (first | refine qB ?_ _ | refine qD ?_ | refine qA ?_ _)); refine qL ?_ NB408_423.out _; (with_reducible repeat (first | refine qB ?_ _ | refine qD ?_ | refine qA ?_ _)); exact BK408.out⟩, ⟨by (with_reducible repeat (first | refine qB ?_ _ | refine qD ?_ | refine qA ?_ _)); refine qL ?_ NB409_423.out _; (with_reducible repeat (first | refine qB ?_ _ | refine qD ?_ | refine qA ?_ _)); refine qL ?_ NB409_423.out _; (with_reducible repeat (first | refine qB ?_ _ | refine qD ?_ | refine qA ?_ _)); refine qL ?_ NB409_423.out _; (with_reducible repeat (first | refine qB ?_ _ | refine qD ?_ | refine qA ?_ _)); exact BK409.out⟩, ⟨by (with_reducible repeat (first | refine qB ?_ _ | refine qD ?_ | refine qA ?_ _)); refine qL ?_ NB410_423.out _; (with_reducible repeat (first | refine qB ?_ _ | refine qD ?_ | refine qA ?_ _)); refine qL ?_ NB410_423.out _; (with_reducible repeat (first | refine qB ?_ _ | refine qD ?_ | refine qA ?_ _)); refine qL ?_ NB410_423.out _; (with_reducible repeat (first | refine qB ?_ _ | refine qD ?_ | refine qA ?_ _)); exact BK410.out⟩, ⟨by (with_reducible repeat (first | refine qB ?_ _ | refine qD ?_ | refine qA ?_ _)); refine qL ?_ NB417_423.out _; (with_reducible repeat (first | refine qB ?_ _ | refine qD ?_ | refine qA ?_ _)); refine qL ?_ NB417_423.out _; (with_reducible repeat (first | refine qB ?_ _ | refine qD ?_ | refine qA ?_ _)); refine qL ?_ NB417_423.out _; (with_reducible repeat (first | refine qB ?_ _ | refine qD ?_ | refine qA ?_ _)); exact BK417.out⟩, ⟨bl⟩⟩
        ·rw [if_neg c28] at H
         exact absurd H (by simp)
       ·rw [if_neg c27] at H
        exact absurd H (by simp)
      ·rw [if_neg c26] at H
       have c26b0 : decide (x8_2 < 4) = false := decide_eq_false c26
       clear c26
       by_cases c103 : (x418000_2.length : Int) > 400
       ·rw [if_pos c103] at H
        have c103b0 : decide (400 < (x418000_2.length : Int)) = true := decide_eq_true c103
        have c103b1 : decide (400 < x418000_2.length) = true := decide_eq_true (by omega)
        clear c103
        simp only [Option.some.injEq, Prod.mk.injEq] at H
        obtain ⟨rfl, rfl, rfl⟩ := H
        have hnb104 := NB417_408.out
        have hnc104 := NB408_417.out
        have hnb105 := NB417_409.out
        have hnc105 := NB409_417.out
        have hnb106 := NB417_410.out
        have hnc106 := NB410_417.out
        have hcz107_0 := bc BK417 0
        have hcz107_1 := bc BK417 1
        have hfz107_0 := qC BK417.out 0
        have hfz107_1 := qC BK417.out 1
        obtain ⟨Ao108, co108, eo108⟩ := Kd.ql HO_418000.out
        subst eo108
        have hnb109 := NB410_408.out
        have hnc109 := NB408_410.out
        have hnb110 := NB410_409.out
        have hnc110 := NB409_410.out
        have hcz111_0 := bc BK410 0
        have hcz111_1 := bc BK410 1
        have hfz111_0 := qC BK410.out 0
        have hfz111_1 := qC BK410.out 1
        obtain ⟨Ao112, co112, eo112⟩ := Kd.ql HO_418001.out
        subst eo112
        go_wp2
        refine bodyPost_ret (qJA rfl _ _ gb410 75 #[.slice Ao108 x418000_2.length co108, .slice Ao112 x418001_2.length co112] (0, 0) _ rfl (by (with_reducible repeat (first | refine qB ?_ _ | refine qD ?_ | refine qA ?_ _)); refine qP (cs := #[.slice Ao108 x418000_2.length co108, .slice none 0 0]) ?_ 1 _ rfl; (with_reducible repeat (first | refine qB ?_ _ | refine qD ?_ | refine qA ?_ _)); refine qP (cs := #[.slice none 0 0, .slice none 0 0]) ?_ 0 _ rfl; (with_reducible repeat (first | refine qB ?_ _ | refine qD ?_ | refine qA ?_ _)); exact BK410.out) Tryd.underlying75 rfl (by kernel_rfl)) rfl ?_
        exact ⟨_, _, by first | rfl | (simp [qJ, qI] <;> rfl) | (simp [*, qJ, qI] <;> rfl), by (with_reducible repeat (first | apply Kd.qF | apply Kd.qE | apply Kd.qH)); exact Kd.qf (Kd.R_far (p := ⟨gb410, 1, none⟩) (Kd.R_far (p := ⟨gb410, 0, none⟩) (Kd.qt HO_418000.out BK410.out (by decide)) (fun _ hk => hk.2) (.slice Ao108 x418000_2.length co108)) (fun _ hk => hk.2) (.slice Ao112 x418001_2.length co112)) (fun _ hk => trivial), by (with_reducible repeat (first | apply Kd.qF | apply Kd.qE | apply Kd.qH)); exact Kd.qf (Kd.R_far (p := ⟨gb410, 1, none⟩) (Kd.R_far (p := ⟨gb410, 0, none⟩) (Kd.qt HO_418001.out BK410.out (by decide)) (fun _ hk => hk.2) (.slice Ao108 x418000_2.length co108)) (fun _ hk => hk.2) (.slice Ao112 x418001_2.length co112)) (fun _ hk => trivial), bl⟩
       ·rw [if_neg c103] at H
        have c103b0 : decide (400 < (x418000_2.length : Int)) = false := decide_eq_false c103
        have c103b1 : decide (400 < x418000_2.length) = false := decide_eq_false (by omega)
        clear c103
        have H' := Aside0.mk H
        clear H
        have hnb113 := NB417_408.out
        have hnc113 := NB408_417.out
        have hnb114 := NB417_409.out
        have hnc114 := NB409_417.out
        have hnb115 := NB417_410.out
        have hnc115 := NB410_417.out
        have hcz116_0 := bc BK417 0
        have hcz116_1 := bc BK417 1
        have hfz116_0 := qC BK417.out 0
        have hfz116_1 := qC BK417.out 1
        obtain ⟨Ao117, co117, eo117⟩ := Kd.ql HO_418000.out
        subst eo117
        go_wp2
        go_roundg k2
        case measure => have := HK1.out; have := HK2.out; omega
        case rel => exact ⟨(wrap64 (x7_1 + 1)), (x418000_2), (x418001_2), (.slice Ao117 x418000_2.length co117), (u418001), (by first | rfl | (simp; done) | (simp [*]; done)), H', ⟨by have := HK1.out; have := HK2.out; omega⟩, ⟨by (with_reducible repeat (first | apply Kd.qF | apply Kd.qE | apply Kd.qH)); exact HO_418000.out⟩, ⟨by (with_reducible repeat (first | apply Kd.qF | apply Kd.qE | apply Kd.qH)); exact HO_418001.out⟩, ⟨by (with_reducible repeat (first | refine qB ?_ _ | refine qD ?_ | refine qA ?_ _)); exact BK408.out⟩, ⟨by (with_reducible repeat (first | refine qB ?_ _ | refine qD ?_ | refine qA ?_ _)); exact BK409.out⟩, ⟨by (with_reducible repeat (first | refine qB ?_ _ | refine qD ?_ | refine qA ?_ _)); exact BK410.out⟩, ⟨by (with_reducible repeat (first | refine qB ?_ _ | refine qD ?_ | refine qA ?_ _)); exact BK417.out⟩, ⟨bl⟩⟩
   ·rw [if_neg c20] at H
    have c20b0 : decide (x7_1 < (x418000_1.length : Int)) = false := decide_eq_false c20
    clear c20
    simp only [Option.some.injEq, Prod.mk.injEq] at H
    obtain ⟨rfl, rfl, rfl⟩ := H
    have hnb118 := NB417_408.out
    have hnc118 := NB408_417.out
    have hnb119 := NB417_409.out
    have hnc119 := NB409_417.out
    have hnb120 := NB417_410.out
    have hnc120 := NB410_417.out
    have hcz121_0 := bc BK417 0
    have hcz121_1 := bc BK417 1
    have hfz121_0 := qC BK417.out 0
    have hfz121_1 := qC BK417.out 1
    obtain ⟨Ao122, co122, eo122⟩ := Kd.ql HO_418000.out
    subst eo122
    have hnb123 := NB410_408.out
    have hnc123 := NB408_410.out
    have hnb124 := NB410_409.out
    have hnc124 := NB409_410.out
    have hcz125_0 := bc BK410 0
    have hcz125_1 := bc BK410 1
    have hfz125_0 := qC BK410.out 0
    have hfz125_1 := qC BK410.out 1
    obtain ⟨Ao126, co126, eo126⟩ := Kd.ql HO_418001.out
    subst eo126
    go_wp2
    refine bodyPost_ret (qJA rfl _ _ gb410 75 #[.slice Ao122 x418000_1.length co122, .slice Ao126 x418001_1.length co126] (0, 0) _ rfl (by (with_reducible repeat (first | refine qB ?_ _ | refine qD ?_ | refine qA ?_ _)); refine qP (cs := #[.slice Ao122 x418000_1.length co122, .slice none 0 0]) ?_ 1 _ rfl; (with_reducible repeat (first | refine qB ?_ _ | refine qD ?_ | refine qA ?_ _)); refine qP (cs := #[.slice none 0 0, .slice none 0 0]) ?_ 0 _ rfl; (with_reducible repeat (first | refine qB ?_ _ | refine qD ?_ | refine qA ?_ _)); exact BK410.out) Tryd.underlying75 rfl (by kernel_rfl)) rfl ?_
    exact ⟨_, _, by first | rfl | (simp [qJ, qI] <;> rfl) | (simp [*, qJ, qI] <;> rfl), by (with_reducible repeat (first | apply Kd.qF | apply Kd.qE | apply Kd.qH)); exact Kd.qf (Kd.R_far (p := ⟨gb410, 1, none⟩) (Kd.R_far (p := ⟨gb410, 0, none⟩) (Kd.qt HO_418000.out BK410.out (by decide)) (fun _ hk => hk.2) (.slice Ao122 x418000_1.length co122)) (fun _ hk => hk.2) (.slice Ao126 x418001_1.length co126)) (fun _ hk => trivial), by (with_reducible repeat (first | apply Kd.qF | apply Kd.qE | apply Kd.qH)); exact Kd.qf (Kd.R_far (p := ⟨gb410, 1, none⟩) (Kd.R_far (p := ⟨gb410, 0, none⟩) (Kd.qt HO_418001.out BK410.out (by decide)) (fun _ hk => hk.2) (.slice Ao122 x418000_1.length co122)) (fun _ hk => hk.2) (.slice Ao126 x418001_1.length co126)) (fun _ hk => trivial), bl⟩
end Go.Proofs.YtbpfhpjbeomfcaaDoor.P
namespace Go.Proofs.YtbpfhpjbeomfcaaDoor.P
open Go.RowKit Go.Proofs.YtbpfhpjbeomfcaaDoorW.PrintWords Go.Proofs.YtbpfhpjbeomfcaaDoorW.PrintLast Go.Proofs.YtbpfhpjbeomfcaaDoorW.PrintMore
attribute [local go_sem] qy qw qFA qEA qn qm qx qv
set_option linter.unusedVariables false
set_option linter.unusedSimpArgs false
def qRA.f (k : Nat) (a0 : ByteArray) (a1_0 : Int) (a1_1 : Int) (a1_2 : Int) : Option (Int × Int × List Int × (List (S27)) × List ByteArray × Bool) := (qp.f k a0 a1_0 a1_1 a1_2).bind fun bt437 => (if bt437.2.2.2 = true then ((qU.f k bt437.1 bt437.2.1 bt437.2.2.1 a1_0 a1_1 a1_2).bind fun bt444 => (some (bt437.1, bt437.2.1, bt437.2.2.1, bt444.1, bt444.2.1, bt444.2.2))) else (some (bt437.1, bt437.2.1, bt437.2.2.1, ([] : List (S27)), ([] : List ByteArray), false)))
set_option maxHeartbeats 8000000 in
set_option maxRecDepth 100000 in
theorem qRA.calls (k : Nat) (a0 : ByteArray) (a1_0 : Int) (a1_1 : Int) (a1_2 : Int) (r1 : Int) (r2 : Int) (r3 : List Int) (r4 : List (S27)) (r5 : List ByteArray) (r6 : Bool) (w : World) (h : qRA.f k a0 a1_0 a1_1 a1_2 = some (r1, r2, r3, r4, r5, r6)) :
  Calls Tryd.prog 65 #[.string a0, .agg #[.int .i64 a1_0, .int .i64 a1_1, .int .i64 a1_2]] w fun e w' => ∃ v2_ v3_ v4_ : Value, e = .returned (.tuple #[.agg #[.int .i64 r1, .int .i64 r2, v2_], .agg #[v3_, v4_], .bool r6]) ∧ Kd.R (Kd.int .u8) 5 w' w.heap.size (fun _ => True) v2_ r3 ∧ Kd.R k27 27 w' w.heap.size (fun _ => True) v3_ r4 ∧ Kd.R Kd.string 9 w' w.heap.size (fun _ => True) v4_ r5 ∧ Below w.heap.size w w' := by
 have hu27 := Tryd.underlying27
 have hu57 := Tryd.underlying57
 have hu75 := Tryd.underlying75
 have HB := Aside0.mk (Below.refl w.heap.size w)
 have H : ((qp.f k a0 a1_0 a1_1 a1_2).bind fun bt437 => (if bt437.2.2.2 = true then ((qU.f k bt437.1 bt437.2.1 bt437.2.2.1 a1_0 a1_1 a1_2).bind fun bt444 => (some (bt437.1, bt437.2.1, bt437.2.2.1, bt444.1, bt444.2.1, bt444.2.2))) else (some (bt437.1, bt437.2.1, bt437.2.2.1, ([] : List (S27)), ([] : List ByteArray), false)))) = some (r1, r2, r3, r4, r5, r6) := h
 clear h
 replace H := Option.bind_eq_some_iff.mp H
 obtain ⟨⟨t437, t438, t439, t442⟩, A30, H⟩ := H
 replace H : (if t442 = true then ((qU.f k t437 t438 t439 a1_0 a1_1 a1_2).bind fun bt444 => (some (t437, t438, t439, bt444.1, bt444.2.1, bt444.2.2))) else (some (t437, t438, t439, ([] : List (S27)), ([] : List ByteArray), false))) = some (r1, r2, r3, r4, r5, r6) := H
 have A3 := Aside0.mk A30
 clear A30
 by_cases c4 : t442 = true
 ·subst c4
  have H1 : ((qU.f k t437 t438 t439 a1_0 a1_1 a1_2).bind fun bt444 => (some (t437, t438, t439, bt444.1, bt444.2.1, bt444.2.2))) = some (r1, r2, r3, r4, r5, r6) := by rw [if_pos rfl] at H; exact H
  clear H
  have H := H1
  clear H1
  replace H := Option.bind_eq_some_iff.mp H
  obtain ⟨⟨t444, t447, t450⟩, A50, H⟩ := H
  replace H : (some (t437, t438, t439, t444, t447, t450)) = some (r1, r2, r3, r4, r5, r6) := H
  have A5 := Aside0.mk A50
  clear A50
  simp only [Option.some.injEq, Prod.mk.injEq] at H
  obtain ⟨rfl, rfl, rfl, rfl, rfl, rfl⟩ := H
  go_enter Tryd.func65, Tryd.ntmps65
  try go_wp2_with (first | ((with_reducible refine qb (N := 3) rfl ?_); refine qZ ?hg (N := 3) ?hd (cs := #[.int .i64 a1_0, .int .i64 a1_1, .int .i64 a1_2]) (t := 27) ?hr ?_; (case hd => rfl); (case hg => rfl); (case hr => first | (go_simp; done) | (go_simp; rfl)); intro gb434 hg w6 hbox hb; have n0_ := Aside0.mk (qG bl hb); have n1_ := Aside0.mk (hbox); have n2_ := Aside0.mk ((gg hg)); have n3_ := Aside0.mk ((gg hg)); clear HB; have HB := n0_; have BK434 := n1_; have GW434 := n2_; have GE434 := n3_; clear n0_ n1_ n2_ n3_; clear hb hbox hg) | ((with_reducible refine qb (N := 4) rfl ?_); refine qZ ?hg (N := 4) ?hd (cs := #[.int .i64 0, .int .i64 0, .slice none 0 0]) (t := 57) ?hr ?_; (case hd => rfl); (case hg => rfl); (case hr => first | (go_simp; done) | (go_simp; rfl)); intro gb435 hg w7 hbox hb; have n0_ := Aside0.mk (bb BK434 hb); have n1_ := Aside0.mk (qG bl hb); have n2_ := Aside0.mk (hbox); have n3_ := Aside0.mk ((gg hg)); have n4_ := Aside0.mk ((gg hg)); have n5_ := Aside0.mk ((nl BK434 hg)); have n6_ := Aside0.mk ((nr BK434 hg)); clear BK434; clear HB; have BK434 := n0_; have HB := n1_; have BK435 := n2_; have GW435 := n3_; have GE435 := n4_; have NB434_435 := n5_; have NB435_434 := n6_; clear n0_ n1_ n2_ n3_ n4_ n5_ n6_; clear hb hbox hg) | ((with_reducible refine qb (N := 5) rfl ?_); refine qZ ?hg (N := 5) ?hd (cs := #[.slice none 0 0, .slice none 0 0]) (t := 75) ?hr ?_; (case hd => rfl); (case hg => rfl); (case hr => first | (go_simp; done) | (go_simp; rfl)); intro gb436 hg w8 hbox hb; have n0_ := Aside0.mk (bb BK434 hb); have n1_ := Aside0.mk (bb BK435 hb); have n2_ := Aside0.mk (qG bl hb); have n3_ := Aside0.mk (hbox); have n4_ := Aside0.mk ((gg hg)); have n5_ := Aside0.mk ((gg hg)); have n6_ := Aside0.mk ((nl BK434 hg)); have n7_ := Aside0.mk ((nr BK434 hg)); have n8_ := Aside0.mk ((nl BK435 hg)); have n9_ := Aside0.mk ((nr BK435 hg)); clear BK434; clear BK435; clear HB; have BK434 := n0_; have BK435 := n1_; have HB := n2_; have BK436 := n3_; have GW436 := n4_; have GE436 := n5_; have NB434_436 := n6_; have NB436_434 := n7_; have NB435_436 := n8_; have NB436_435 := n9_; clear n0_ n1_ n2_ n3_ n4_ n5_ n6_ n7_ n8_ n9_; clear hb hbox hg; have hnb9 := NB434_435.out; have hnc9 := NB435_434.out; have hnb10 := NB434_436.out; have hnc10 := NB436_434.out; have hcz11_0 := bc BK434 0; have hcz11_1 := bc BK434 1; have hcz11_2 := bc BK434 2; have hfz11_0 := qC BK434.out 0; have hfz11_1 := qC BK434.out 1; have hfz11_2 := qC BK434.out 2) | ((with_reducible refine qa (f := 57) rfl ?_); refine qr (some 14) rfl rfl Tryd.func57 (by kernel_rfl) rfl #[.string a0, .agg #[.int .i64 a1_0, .int .i64 a1_1, .int .i64 a1_2]] rfl (by (try simp only [List.map_toArray, List.map_cons, List.map_nil]); first | done | rfl | (simp only [List.length_drop, List.length_take]; rfl)) ?_; (with_reducible refine (qp.calls k a0 a1_0 a1_1 a1_2 t437 t438 t439 true _ A3.out).mono ?_); rintro e w12 ⟨v440, rfl, ho0, hb⟩; refine ⟨_, rfl, ?_⟩; have n0_ := Aside0.mk (Kd.qu ho0 (qe bl)); have n1_ := Aside0.mk (bb BK434 hb); have n2_ := Aside0.mk (bb BK435 hb); have n3_ := Aside0.mk (bb BK436 hb); have n4_ := Aside0.mk (qG bl hb); clear BK434; clear BK435; clear BK436; clear HB; have HO441 := n0_; have BK434 := n1_; have BK435 := n2_; have BK436 := n3_; have HB := n4_; clear n0_ n1_ n2_ n3_ n4_; (try clear hb); (try clear hb2); (try clear hk); (try clear hi); (try clear ho0)) | ((with_reducible refine qb (N := 7) rfl ?_); refine qZ ?hg (N := 7) ?hd (cs := #[.int .i64 0, .int .i64 0, .slice none 0 0]) (t := 57) ?hr ?_; (case hd => rfl); (case hg => rfl); (case hr => first | (go_simp; done) | (go_simp; rfl)); intro gb443 hg w13 hbox hb; have n0_ := Aside0.mk (Kd.qc (by (with_reducible repeat (first | apply Kd.qF | apply Kd.qE | apply Kd.qH)); exact HO441.out) hb); have n1_ := Aside0.mk (bb BK434 hb); have n2_ := Aside0.mk (bb BK435 hb); have n3_ := Aside0.mk (bb BK436 hb); have n4_ := Aside0.mk (qG bl hb); have n5_ := Aside0.mk (hbox); have n6_ := Aside0.mk ((gg hg)); have n7_ := Aside0.mk ((gg hg)); have n8_ := Aside0.mk ((nl BK434 hg)); have n9_ := Aside0.mk ((nr BK434 hg)); have n10_ := Aside0.mk ((nl BK435 hg)); have n11_ := Aside0.mk ((nr BK435 hg)); have n12_ := Aside0.mk ((nl BK436 hg)); have n13_ := Aside0.mk ((nr BK436 hg)); clear HO441; clear BK434; clear BK435; clear BK436; clear HB; have HO441 := n0_; have BK434 := n1_; have BK435 := n2_; have BK436 := n3_; have HB := n4_; have BK443 := n5_; have GW443 := n6_; have GE443 := n7_; have NB434_443 := n8_; have NB443_434 := n9_; have NB435_443 := n10_; have NB443_435 := n11_; have NB436_443 := n12_; have NB443_436 := n13_; clear n0_ n1_ n2_ n3_ n4_ n5_ n6_ n7_ n8_ n9_ n10_ n11_ n12_ n13_; clear hb hbox hg; have hnb14 := NB443_434.out; have hnc14 := NB434_443.out; have hnb15 := NB443_435.out; have hnc15 := NB435_443.out; have hnb16 := NB443_436.out; have hnc16 := NB436_443.out; have hcz17_0 := bc BK443 0; have hcz17_1 := bc BK443 1; have hcz17_2 := bc BK443 2; have hfz17_0 := qC BK443.out 0; have hfz17_1 := qC BK443.out 1; have hfz17_2 := qC BK443.out 2; obtain ⟨Ao18, co18, eo18⟩ := Kd.ql HO441.out; subst eo18; have hcz19_0 := bc BK434 0; have hcz19_1 := bc BK434 1; have hcz19_2 := bc BK434 2; have hfz19_0 := qC BK434.out 0; have hfz19_1 := qC BK434.out 1; have hfz19_2 := qC BK434.out 2) | ((with_reducible refine qa (f := 90) rfl ?_); refine qr (some 24) rfl rfl Tryd.func90 (by kernel_rfl) rfl #[.agg #[.int .i64 t437, .int .i64 t438, .slice Ao18 t439.length co18], .agg #[.int .i64 a1_0, .int .i64 a1_1, .int .i64 a1_2]] rfl (by (try simp only [List.map_toArray, List.map_cons, List.map_nil]); first | done | rfl | (simp only [List.length_drop, List.length_take]; rfl)) ?_; (with_reducible refine (qU.calls k t437 t438 _ _ t439 a1_0 a1_1 a1_2 t444 t447 t450 _ ?side1 ?side2 A5.out).mono ?_); (case side1 => refine (Kd.qh (e := 5) (base := w.heap.size) (ok := fun k_ => True) (n := t439.length) (c := co18) ?_).2.2; exact (by (with_reducible repeat (first | apply Kd.qF | apply Kd.qE | apply Kd.qH)); exact (Kd.qf (Kd.R_far (p := ⟨gb443, 2, none⟩) (Kd.R_far (p := ⟨gb443, 1, none⟩) (Kd.R_far (p := ⟨gb443, 0, none⟩) (Kd.qt HO441.out BK443.out (by decide)) (fun _ hk => hk.2) (.int .i64 t437)) (fun _ hk => hk.2) (.int .i64 t438)) (fun _ hk => hk.2) (.slice Ao18 t439.length co18)) (fun _ h_ => h_.1)))); (case side2 => exact (Kd.qh HO441.out).2.1); rintro e w20 ⟨v445, v448, rfl, ho0, ho1, hb⟩; refine ⟨_, rfl, ?_⟩; have n0_ := Aside0.mk (Kd.qc (by (with_reducible repeat (first | apply Kd.qF | apply Kd.qE | apply Kd.qH)); exact (Kd.qf (Kd.R_far (p := ⟨gb443, 2, none⟩) (Kd.R_far (p := ⟨gb443, 1, none⟩) (Kd.R_far (p := ⟨gb443, 0, none⟩) (Kd.qt HO441.out BK443.out (by decide)) (fun _ hk => hk.2) (.int .i64 t437)) (fun _ hk => hk.2) (.int .i64 t438)) (fun _ hk => hk.2) (.slice Ao18 t439.length co18)) (fun _ h_ => h_.1))) hb); have n1_ := Aside0.mk (Kd.qu (Kd.qHB ho0 (g := gb434) (o := .cells #[.int .i64 a1_0, .int .i64 a1_1, .int .i64 a1_2] 27 (0, 0)) (by (with_reducible repeat (first | refine qB ?_ _ | refine qD ?_ | refine qA ?_ _)); refine qL ?_ NB434_443.out _; (with_reducible repeat (first | refine qB ?_ _ | refine qD ?_ | refine qA ?_ _)); refine qL ?_ NB434_443.out _; (with_reducible repeat (first | refine qB ?_ _ | refine qD ?_ | refine qA ?_ _)); refine qL ?_ NB434_443.out _; (with_reducible repeat (first | refine qB ?_ _ | refine qD ?_ | refine qA ?_ _)); exact BK434.out)) (qe bl)); have n2_ := Aside0.mk (Kd.qu ho1 (qe bl)); have n3_ := Aside0.mk (qOA (g := gb434) (o := .cells #[.int .i64 a1_0, .int .i64 a1_1, .int .i64 a1_2] 27 (0, 0)) (by (with_reducible repeat (first | refine qB ?_ _ | refine qD ?_ | refine qA ?_ _)); refine qL ?_ NB434_443.out _; (with_reducible repeat (first | refine qB ?_ _ | refine qD ?_ | refine qA ?_ _)); refine qL ?_ NB434_443.out _; (with_reducible repeat (first | refine qB ?_ _ | refine qD ?_ | refine qA ?_ _)); refine qL ?_ NB434_443.out _; (with_reducible repeat (first | refine qB ?_ _ | refine qD ?_ | refine qA ?_ _)); exact BK434.out) hb); have n4_ := Aside0.mk (qOA (g := gb435) (o := .cells #[.int .i64 0, .int .i64 0, .slice none 0 0] 57 (0, 0)) (by (with_reducible repeat (first | refine qB ?_ _ | refine qD ?_ | refine qA ?_ _)); refine qL ?_ NB435_443.out _; (with_reducible repeat (first | refine qB ?_ _ | refine qD ?_ | refine qA ?_ _)); refine qL ?_ NB435_443.out _; (with_reducible repeat (first | refine qB ?_ _ | refine qD ?_ | refine qA ?_ _)); refine qL ?_ NB435_443.out _; (with_reducible repeat (first | refine qB ?_ _ | refine qD ?_ | refine qA ?_ _)); exact BK435.out) hb); have n5_ := Aside0.mk (qOA (g := gb436) (o := .cells #[.slice none 0 0, .slice none 0 0] 75 (0, 0)) (by (with_reducible repeat (first | refine qB ?_ _ | refine qD ?_ | refine qA ?_ _)); refine qL ?_ NB436_443.out _; (with_reducible repeat (first | refine qB ?_ _ | refine qD ?_ | refine qA ?_ _)); refine qL ?_ NB436_443.out _; (with_reducible repeat (first | refine qB ?_ _ | refine qD ?_ | refine qA ?_ _)); refine qL ?_ NB436_443.out _; (with_reducible repeat (first | refine qB ?_ _ | refine qD ?_ | refine qA ?_ _)); exact BK436.out) hb); have n6_ := Aside0.mk (qOA (g := gb443) (o := .cells #[.int .i64 t437, .int .i64 t438, .slice Ao18 t439.length co18] 57 (0, 0)) (by (with_reducible repeat (first | refine qB ?_ _ | refine qD ?_ | refine qA ?_ _)); refine qP (cs := #[.int .i64 t437, .int .i64 t438, .slice none 0 0]) ?_ 2 _ rfl; (with_reducible repeat (first | refine qB ?_ _ | refine qD ?_ | refine qA ?_ _)); refine qP (cs := #[.int .i64 t437, .int .i64 0, .slice none 0 0]) ?_ 1 _ rfl; (with_reducible repeat (first | refine qB ?_ _ | refine qD ?_ | refine qA ?_ _)); refine qP (cs := #[.int .i64 0, .int .i64 0, .slice none 0 0]) ?_ 0 _ rfl; (with_reducible repeat (first | refine qB ?_ _ | refine qD ?_ | refine qA ?_ _)); exact BK443.out) hb); have n7_ := Aside0.mk (qG bl hb); clear HO441; clear BK434; clear BK435; clear BK436; clear BK443; clear HB; have HO441 := n0_; have HO446 := n1_; have HO449 := n2_; have BK434 := n3_; have BK435 := n4_; have BK436 := n5_; have BK443 := n6_; have HB := n7_; clear n0_ n1_ n2_ n3_ n4_ n5_ n6_ n7_; (try clear hb); (try clear hb2); (try clear hk); (try clear hi); (try clear ho0); (try clear ho1)) | ((with_reducible refine qb (N := 9) rfl ?_); refine qZ ?hg (N := 9) ?hd (cs := #[.slice none 0 0, .slice none 0 0]) (t := 75) ?hr ?_; (case hd => rfl); (case hg => rfl); (case hr => first | (go_simp; done) | (go_simp; rfl)); intro gb451 hg w21 hbox hb; have n0_ := Aside0.mk (Kd.qc (by (with_reducible repeat (first | apply Kd.qF | apply Kd.qE | apply Kd.qH)); exact HO441.out) hb); have n1_ := Aside0.mk (Kd.qc (by (with_reducible repeat (first | apply Kd.qF | apply Kd.qE | apply Kd.qH)); exact HO446.out) hb); have n2_ := Aside0.mk (Kd.qc (by (with_reducible repeat (first | apply Kd.qF | apply Kd.qE | apply Kd.qH)); exact HO449.out) hb); have n3_ := Aside0.mk (bb BK434 hb); have n4_ := Aside0.mk (bb BK435 hb); have n5_ := Aside0.mk (bb BK436 hb); have n6_ := Aside0.mk (bb BK443 hb); have n7_ := Aside0.mk (qG bl hb); have n8_ := Aside0.mk (hbox); have n9_ := Aside0.mk ((gg hg)); have n10_ := Aside0.mk ((gg hg)); have n11_ := Aside0.mk ((nl BK434 hg)); have n12_ := Aside0.mk ((nr BK434 hg)); have n13_ := Aside0.mk ((nl BK435 hg)); have n14_ := Aside0.mk ((nr BK435 hg)); have n15_ := Aside0.mk ((nl BK436 hg)); have n16_ := Aside0.mk ((nr BK436 hg)); have n17_ := Aside0.mk ((nl BK443 hg)); have n18_ := Aside0.mk ((nr BK443 hg)); clear HO441; clear HO446; clear HO449; clear BK434; clear BK435; clear BK436; clear BK443; clear HB; have HO441 := n0_; have HO446 := n1_; have HO449 := n2_; have BK434 := n3_; have BK435 := n4_; have BK436 := n5_; have BK443 := n6_; have HB := n7_; have BK451 := n8_; have GW451 := n9_; have GE451 := n10_; have NB434_451 := n11_; have NB451_434 := n12_; have NB435_451 := n13_; have NB451_435 := n14_; have NB436_451 := n15_; have NB451_436 := n16_; have NB443_451 := n17_; have NB451_443 := n18_; clear n0_ n1_ n2_ n3_ n4_ n5_ n6_ n7_ n8_ n9_ n10_ n11_ n12_ n13_ n14_ n15_ n16_ n17_ n18_; clear hb hbox hg; obtain ⟨Ao22, co22, eo22⟩ := Kd.ql HO446.out; subst eo22; have hnb23 := NB451_434.out; have hnc23 := NB434_451.out; have hnb24 := NB451_435.out; have hnc24 := NB435_451.out; have hnb25 := NB451_436.out; have hnc25 := NB436_451.out; have hnb26 := NB451_443.out; have hnc26 := NB443_451.out; have hcz27_0 := bc BK451 0; have hcz27_1 := bc BK451 1; have hfz27_0 := qC BK451.out 0; have hfz27_1 := qC BK451.out 1; obtain ⟨Ao28, co28, eo28⟩ := Kd.ql HO449.out; subst eo28))
  have n0_ : Aside0 (Kd.R (Kd.int .u8) 5 ((w21.setCell ⟨gb451, 0, none⟩ (.slice Ao22 t444.length co22)).setCell ⟨gb451, 1, none⟩ (.slice Ao28 t447.length co28)) w.heap.size (fun _ => True) (.slice Ao18 t439.length co18) t439) := ⟨by (with_reducible repeat (first | apply Kd.qF | apply Kd.qE | apply Kd.qH)); exact Kd.qf (Kd.R_far (p := ⟨gb451, 1, none⟩) (Kd.R_far (p := ⟨gb451, 0, none⟩) (Kd.qt HO441.out BK451.out (by decide)) (fun _ hk => hk.2) (.slice Ao22 t444.length co22)) (fun _ hk => hk.2) (.slice Ao28 t447.length co28)) (fun _ hk => trivial)⟩
  have n1_ : Aside0 (Kd.R k27 27 ((w21.setCell ⟨gb451, 0, none⟩ (.slice Ao22 t444.length co22)).setCell ⟨gb451, 1, none⟩ (.slice Ao28 t447.length co28)) w.heap.size (fun k_ => k_ ≠ gb434) (.slice Ao22 t444.length co22) t444) := ⟨by (with_reducible repeat (first | apply Kd.qF | apply Kd.qE | apply Kd.qH)); exact Kd.qf (Kd.R_far (p := ⟨gb451, 1, none⟩) (Kd.R_far (p := ⟨gb451, 0, none⟩) (Kd.qt HO446.out BK451.out (by decide)) (fun _ hk => hk.2) (.slice Ao22 t444.length co22)) (fun _ hk => hk.2) (.slice Ao28 t447.length co28)) (fun _ hk => hk.1.2)⟩
  have n2_ : Aside0 (Kd.R Kd.string 9 ((w21.setCell ⟨gb451, 0, none⟩ (.slice Ao22 t444.length co22)).setCell ⟨gb451, 1, none⟩ (.slice Ao28 t447.length co28)) w.heap.size (fun _ => True) (.slice Ao28 t447.length co28) t447) := ⟨by (with_reducible repeat (first | apply Kd.qF | apply Kd.qE | apply Kd.qH)); exact Kd.qf (Kd.R_far (p := ⟨gb451, 1, none⟩) (Kd.R_far (p := ⟨gb451, 0, none⟩) (Kd.qt HO449.out BK451.out (by decide)) (fun _ hk => hk.2) (.slice Ao22 t444.length co22)) (fun _ hk => hk.2) (.slice Ao28 t447.length co28)) (fun _ hk => trivial)⟩
  have n3_ : Aside0 (((w21.setCell ⟨gb451, 0, none⟩ (.slice Ao22 t444.length co22)).setCell ⟨gb451, 1, none⟩ (.slice Ao28 t447.length co28)).heap[gb434]? = some (.cells #[.int .i64 a1_0, .int .i64 a1_1, .int .i64 a1_2] 27 (0, 0))) := ⟨by (with_reducible repeat (first | refine qB ?_ _ | refine qD ?_ | refine qA ?_ _)); refine qL ?_ NB434_451.out _; (with_reducible repeat (first | refine qB ?_ _ | refine qD ?_ | refine qA ?_ _)); refine qL ?_ NB434_451.out _; (with_reducible repeat (first | refine qB ?_ _ | refine qD ?_ | refine qA ?_ _)); exact BK434.out⟩
  have n4_ : Aside0 (((w21.setCell ⟨gb451, 0, none⟩ (.slice Ao22 t444.length co22)).setCell ⟨gb451, 1, none⟩ (.slice Ao28 t447.length co28)).heap[gb435]? = some (.cells #[.int .i64 0, .int .i64 0, .slice none 0 0] 57 (0, 0))) := ⟨by (with_reducible repeat (first | refine qB ?_ _ | refine qD ?_ | refine qA ?_ _)); refine qL ?_ NB435_451.out _; (with_reducible repeat (first | refine qB ?_ _ | refine qD ?_ | refine qA ?_ _)); refine qL ?_ NB435_451.out _; (with_reducible repeat (first | refine qB ?_ _ | refine qD ?_ | refine qA ?_ _)); exact BK435.out⟩
  have n5_ : Aside0 (((w21.setCell ⟨gb451, 0, none⟩ (.slice Ao22 t444.length co22)).setCell ⟨gb451, 1, none⟩ (.slice Ao28 t447.length co28)).heap[gb436]? = some (.cells #[.slice none 0 0, .slice none 0 0] 75 (0, 0))) := ⟨by (with_reducible repeat (first | refine qB ?_ _ | refine qD ?_ | refine qA ?_ _)); refine qL ?_ NB436_451.out _; (with_reducible repeat (first | refine qB ?_ _ | refine qD ?_ | refine qA ?_ _)); refine qL ?_ NB436_451.out _; (with_reducible repeat (first | refine qB ?_ _ | refine qD ?_ | refine qA ?_ _)); exact BK436.out⟩
  have n6_ : Aside0 (((w21.setCell ⟨gb451, 0, none⟩ (.slice Ao22 t444.length co22)).setCell ⟨gb451, 1, none⟩ (.slice Ao28 t447.length co28)).heap[gb443]? = some (.cells #[.int .i64 t437, .int .i64 t438, .slice Ao18 t439.length co18] 57 (0, 0))) := ⟨by (with_reducible repeat (first | refine qB ?_ _ | refine qD ?_ | refine qA ?_ _)); refine qL ?_ NB443_451.out _; (with_reducible repeat (first | refine qB ?_ _ | refine qD ?_ | refine qA ?_ _)); refine qL ?_ NB443_451.out _; (with_reducible repeat (first | refine qB ?_ _ | refine qD ?_ | refine qA ?_ _)); exact BK443.out⟩
  have n7_ : Aside0 (((w21.setCell ⟨gb451, 0, none⟩ (.slice Ao22 t444.length co22)).setCell ⟨gb451, 1, none⟩ (.slice Ao28 t447.length co28)).heap[gb451]? = some (.cells #[.slice Ao22 t444.length co22, .slice Ao28 t447.length co28] 75 (0, 0))) := ⟨by (with_reducible repeat (first | refine qB ?_ _ | refine qD ?_ | refine qA ?_ _)); refine qP (cs := #[.slice Ao22 t444.length co22, .slice none 0 0]) ?_ 1 _ rfl; (with_reducible repeat (first | refine qB ?_ _ | refine qD ?_ | refine qA ?_ _)); refine qP (cs := #[.slice none 0 0, .slice none 0 0]) ?_ 0 _ rfl; (with_reducible repeat (first | refine qB ?_ _ | refine qD ?_ | refine qA ?_ _)); exact BK451.out⟩
  have n8_ : Aside0 (Below w.heap.size w ((w21.setCell ⟨gb451, 0, none⟩ (.slice Ao22 t444.length co22)).setCell ⟨gb451, 1, none⟩ (.slice Ao28 t447.length co28))) := ⟨bl⟩
  (try clear HO441)
  (try clear HO446)
  (try clear HO449)
  (try clear BK434)
  (try clear BK435)
  (try clear BK436)
  (try clear BK443)
  (try clear BK451)
  (try clear HB)
  generalize ((w21.setCell ⟨gb451, 0, none⟩ (.slice Ao22 t444.length co22)).setCell ⟨gb451, 1, none⟩ (.slice Ao28 t447.length co28)) = w29 at n0_ n1_ n2_ n3_ n4_ n5_ n6_ n7_ n8_ ⊢
  have HO441 := n0_
  have HO446 := n1_
  have HO449 := n2_
  have BK434 := n3_
  have BK435 := n4_
  have BK436 := n5_
  have BK443 := n6_
  have BK451 := n7_
  have HB := n8_
  clear n0_ n1_ n2_ n3_ n4_ n5_ n6_ n7_ n8_
  have n0_ := Aside0.mk (Kd.qH HO441.out)
  have n1_ := Aside0.mk (Kd.qH HO446.out)
  have n2_ := Aside0.mk (Kd.qH HO449.out)
  have n3_ := Aside0.mk (qD BK434.out)
  have n4_ := Aside0.mk (qD BK435.out)
  have n5_ := Aside0.mk (qD BK436.out)
  have n6_ := Aside0.mk (qD BK443.out)
  have n7_ := Aside0.mk (qD BK451.out)
  have n8_ := Aside0.mk (qi HB.out)
  clear HO441
  clear HO446
  clear HO449
  clear BK434
  clear BK435
  clear BK436
  clear BK443
  clear BK451
  clear HB
  have HO441 := n0_
  have HO446 := n1_
  have HO449 := n2_
  have BK434 := n3_
  have BK435 := n4_
  have BK436 := n5_
  have BK443 := n6_
  have BK451 := n7_
  have HB := n8_
  clear n0_ n1_ n2_ n3_ n4_ n5_ n6_ n7_ n8_
  refine qsA (n := 6) (S := fun w' => w'.cell? ⟨gb443, 0, none⟩ = some (.int .i64 t437) ∧ w'.cell? ⟨gb443, 1, none⟩ = some (.int .i64 t438) ∧ w'.cell? ⟨gb443, 2, none⟩ = some (.slice Ao18 t439.length co18) ∧ w'.cell? ⟨gb451, 0, none⟩ = some (.slice Ao22 t444.length co22) ∧ w'.cell? ⟨gb451, 1, none⟩ = some (.slice Ao28 t447.length co28)) (ds := []) #[false, false, false, false, false, false] (by kernel_rfl) rfl rfl ⟨(qK BK443.out 0).trans rfl, (qK BK443.out 1).trans rfl, (qK BK443.out 2).trans rfl, (qK BK451.out 0).trans rfl, (qK BK451.out 1).trans rfl⟩ (fun hHeld => ?_)
  generalize w29.drew = w30 at HO441 HO446 HO449 BK434 BK435 BK436 BK443 BK451 HB hHeld ⊢
  refine pure_ (i := 2) (N := some 29) (v := ?_) (a' := ?_) #[false, false, true, false, false, false] rfl rfl (by kernel_rfl) (fun _ _ _ h => h) (Or.inl ⟨by rfl, ?_⟩) ?_ ?_
  rotate_left
  ·intro w'
   go_simp
   first | (with_reducible rfl) | (rw [if_neg (by simp only [ByteArray.size_extract, ByteArray.size_append] at * <;> omega)]; try with_reducible rfl)
  rotate_left
  ·simp only [Act.put, List.setIfInBounds_toArray, List.set_cons_zero, List.set_cons_succ, i64_w, i32_w]
   rfl
  refine take_ (i := 0) (N := some 27) (v := ?_) (a' := ?_) #[true, false, true, false, false, false] rfl rfl (by kernel_rfl) (fun _ _ _ h => h) (Or.inl ⟨by rfl, ?_⟩) hHeld ?_ ?_
  rotate_left
  ·rintro w' ⟨s0, s1, s2, s3, s4⟩
   go_simp
   first | (with_reducible rfl) | (rw [if_neg (by simp only [ByteArray.size_extract, ByteArray.size_append] at * <;> omega)]; try with_reducible rfl)
  rotate_left
  ·simp only [Act.put, List.setIfInBounds_toArray, List.set_cons_zero, List.set_cons_succ, i64_w, i32_w]
   rfl
  refine take_ (i := 1) (N := some 28) (v := ?_) (a' := ?_) #[true, true, true, false, false, false] rfl rfl (by kernel_rfl) (fun _ _ _ h => h) (Or.inl ⟨by rfl, ?_⟩) hHeld ?_ ?_
  rotate_left
  ·rintro w' ⟨s0, s1, s2, s3, s4⟩
   go_simp
   first | (with_reducible rfl) | (rw [if_neg (by simp only [ByteArray.size_extract, ByteArray.size_append] at * <;> omega)]; try with_reducible rfl)
  rotate_left
  ·simp only [Act.put, List.setIfInBounds_toArray, List.set_cons_zero, List.set_cons_succ, i64_w, i32_w]
   rfl
  refine one_ (i := 3) (N := none) #[true, true, true, true, false, false] rfl rfl (by kernel_rfl) (by decide) (fun K hK => ?_)
  have hs31 : w30.cell? ⟨gb435, 0, none⟩ = some (.int .i64 0) := (qK BK435.out 0).trans rfl
  have hfs31 := qC BK435.out 0
  have hns31_0 := NB434_435.out
  have hns31_2 := NB436_435.out
  have hns31_3 := NB443_435.out
  have hns31_4 := NB451_435.out
  have hms31_0 := NB435_434.out
  have hms31_2 := NB435_436.out
  have hms31_3 := NB435_443.out
  have hms31_4 := NB435_451.out
  have hs32 : w30.cell? ⟨gb435, 1, none⟩ = some (.int .i64 0) := (qK BK435.out 1).trans rfl
  have hfs32 := qC BK435.out 1
  have hns32_0 := NB434_435.out
  have hns32_2 := NB436_435.out
  have hns32_3 := NB443_435.out
  have hns32_4 := NB451_435.out
  have hms32_0 := NB435_434.out
  have hms32_2 := NB435_436.out
  have hms32_3 := NB435_443.out
  have hms32_4 := NB435_451.out
  have hs33 : w30.cell? ⟨gb435, 2, none⟩ = some (.slice none 0 0) := (qK BK435.out 2).trans rfl
  have hfs33 := qC BK435.out 2
  have hns33_0 := NB434_435.out
  have hns33_2 := NB436_435.out
  have hns33_3 := NB443_435.out
  have hns33_4 := NB451_435.out
  have hms33_0 := NB435_434.out
  have hms33_2 := NB435_436.out
  have hms33_3 := NB435_443.out
  have hms33_4 := NB435_451.out
  refine skip_ (w1 := ?_) (by rfl) rfl ?_ ?_
  rotate_left
  ·go_simp
   rfl
  refine hK.out _ _ ⟨((qO (p := ⟨gb435, _, none⟩) NB443_435.out _).trans (((qO (p := ⟨gb435, _, none⟩) NB443_435.out _).trans (((qO (p := ⟨gb435, _, none⟩) NB443_435.out _).trans (hHeld.1)))))), ((qO (p := ⟨gb435, _, none⟩) NB443_435.out _).trans (((qO (p := ⟨gb435, _, none⟩) NB443_435.out _).trans (((qO (p := ⟨gb435, _, none⟩) NB443_435.out _).trans (hHeld.2.1)))))), ((qO (p := ⟨gb435, _, none⟩) NB443_435.out _).trans (((qO (p := ⟨gb435, _, none⟩) NB443_435.out _).trans (((qO (p := ⟨gb435, _, none⟩) NB443_435.out _).trans (hHeld.2.2.1)))))), ((qO (p := ⟨gb435, _, none⟩) NB451_435.out _).trans (((qO (p := ⟨gb435, _, none⟩) NB451_435.out _).trans (((qO (p := ⟨gb435, _, none⟩) NB451_435.out _).trans (hHeld.2.2.2.1)))))), ((qO (p := ⟨gb435, _, none⟩) NB451_435.out _).trans (((qO (p := ⟨gb435, _, none⟩) NB451_435.out _).trans (((qO (p := ⟨gb435, _, none⟩) NB451_435.out _).trans (hHeld.2.2.2.2))))))⟩ (fun hHeld => ?_)
  clear hK K
  refine one_ (i := 4) (N := none) #[true, true, true, true, true, false] rfl rfl (by kernel_rfl) (by decide) (fun K hK => ?_)
  have hs34 : w30.cell? ⟨gb436, 0, none⟩ = some (.slice none 0 0) := (qK BK436.out 0).trans rfl
  have hfs34 := qC BK436.out 0
  have hns34_0 := NB434_436.out
  have hns34_1 := NB435_436.out
  have hns34_3 := NB443_436.out
  have hns34_4 := NB451_436.out
  have hms34_0 := NB436_434.out
  have hms34_1 := NB436_435.out
  have hms34_3 := NB436_443.out
  have hms34_4 := NB436_451.out
  have hs35 : w30.cell? ⟨gb436, 1, none⟩ = some (.slice none 0 0) := (qK BK436.out 1).trans rfl
  have hfs35 := qC BK436.out 1
  have hns35_0 := NB434_436.out
  have hns35_1 := NB435_436.out
  have hns35_3 := NB443_436.out
  have hns35_4 := NB451_436.out
  have hms35_0 := NB436_434.out
  have hms35_1 := NB436_435.out
  have hms35_3 := NB436_443.out
  have hms35_4 := NB436_451.out
  refine skip_ (w1 := ?_) (by rfl) rfl ?_ ?_
  rotate_left
  ·go_simp
   rfl
  refine hK.out _ _ ⟨((qO (p := ⟨gb436, _, none⟩) NB443_436.out _).trans (((qO (p := ⟨gb436, _, none⟩) NB443_436.out _).trans (hHeld.1)))), ((qO (p := ⟨gb436, _, none⟩) NB443_436.out _).trans (((qO (p := ⟨gb436, _, none⟩) NB443_436.out _).trans (hHeld.2.1)))), ((qO (p := ⟨gb436, _, none⟩) NB443_436.out _).trans (((qO (p := ⟨gb436, _, none⟩) NB443_436.out _).trans (hHeld.2.2.1)))), ((qO (p := ⟨gb436, _, none⟩) NB451_436.out _).trans (((qO (p := ⟨gb436, _, none⟩) NB451_436.out _).trans (hHeld.2.2.2.1)))), ((qO (p := ⟨gb436, _, none⟩) NB451_436.out _).trans (((qO (p := ⟨gb436, _, none⟩) NB451_436.out _).trans (hHeld.2.2.2.2))))⟩ (fun hHeld => ?_)
  clear hK K
  refine pure_ (i := 5) (N := some 6) (v := ?_) (a' := ?_) #[true, true, true, true, true, true] rfl rfl (by kernel_rfl) (fun _ _ _ h => h) (Or.inl ⟨by rfl, ?_⟩) ?_ ?_
  rotate_left
  ·intro w'
   go_simp
   first | (with_reducible rfl) | (rw [if_neg (by simp only [ByteArray.size_extract, ByteArray.size_append] at * <;> omega)]; try with_reducible rfl)
  rotate_left
  ·simp only [Act.put, List.setIfInBounds_toArray, List.set_cons_zero, List.set_cons_succ, i64_w, i32_w]
   rfl
  refine done_ (by kernel_rfl) ?_
  try go_wp2
  refine bodyPost_ret (results_list (rs := [.cell 4 57, .cell 5 75, .tmp 6]) rfl (by simp) (.cell gb435 57 #[.int .i64 t437, .int .i64 t438, .slice Ao18 t439.length co18] (0, 0) _ rfl (by (with_reducible repeat (first | refine qB ?_ _ | refine qD ?_ | refine qA ?_ _)); refine qL ?_ NB435_436.out _; (with_reducible repeat (first | refine qB ?_ _ | refine qD ?_ | refine qA ?_ _)); refine qL ?_ NB435_436.out _; (with_reducible repeat (first | refine qB ?_ _ | refine qD ?_ | refine qA ?_ _)); refine qP (cs := #[.int .i64 t437, .int .i64 t438, .slice none 0 0]) ?_ 2 _ rfl; (with_reducible repeat (first | refine qB ?_ _ | refine qD ?_ | refine qA ?_ _)); refine qP (cs := #[.int .i64 t437, .int .i64 0, .slice none 0 0]) ?_ 1 _ rfl; (with_reducible repeat (first | refine qB ?_ _ | refine qD ?_ | refine qA ?_ _)); refine qP (cs := #[.int .i64 0, .int .i64 0, .slice none 0 0]) ?_ 0 _ rfl; (with_reducible repeat (first | refine qB ?_ _ | refine qD ?_ | refine qA ?_ _)); exact BK435.out) Tryd.underlying57 rfl (by kernel_rfl) (.cell gb436 75 #[.slice Ao22 t444.length co22, .slice Ao28 t447.length co28] (0, 0) _ rfl (by (with_reducible repeat (first | refine qB ?_ _ | refine qD ?_ | refine qA ?_ _)); refine qP (cs := #[.slice Ao22 t444.length co22, .slice none 0 0]) ?_ 1 _ rfl; (with_reducible repeat (first | refine qB ?_ _ | refine qD ?_ | refine qA ?_ _)); refine qP (cs := #[.slice none 0 0, .slice none 0 0]) ?_ 0 _ rfl; (with_reducible repeat (first | refine qB ?_ _ | refine qD ?_ | refine qA ?_ _)); refine qL ?_ NB436_435.out _; (with_reducible repeat (first | refine qB ?_ _ | refine qD ?_ | refine qA ?_ _)); refine qL ?_ NB436_435.out _; (with_reducible repeat (first | refine qB ?_ _ | refine qD ?_ | refine qA ?_ _)); refine qL ?_ NB436_435.out _; (with_reducible repeat (first | refine qB ?_ _ | refine qD ?_ | refine qA ?_ _)); exact BK436.out) Tryd.underlying75 rfl (by kernel_rfl) (.tmp .nil)))) rfl ?_
  exact ⟨_, _, _, by first | rfl | (simp [qJ, qI] <;> rfl) | (simp [*, qJ, qI] <;> rfl), by (with_reducible repeat (first | apply Kd.qF | apply Kd.qE | apply Kd.qH)); exact Kd.qf (Kd.R_far (p := ⟨gb436, 1, none⟩) (Kd.R_far (p := ⟨gb436, 0, none⟩) (Kd.R_far (p := ⟨gb435, 2, none⟩) (Kd.R_far (p := ⟨gb435, 1, none⟩) (Kd.R_far (p := ⟨gb435, 0, none⟩) (Kd.qt (Kd.qt HO441.out BK435.out (by decide)) BK436.out (by decide)) (fun _ hk => hk.1.2) (.int .i64 t437)) (fun _ hk => hk.1.2) (.int .i64 t438)) (fun _ hk => hk.1.2) (.slice Ao18 t439.length co18)) (fun _ hk => hk.2) (.slice Ao22 t444.length co22)) (fun _ hk => hk.2) (.slice Ao28 t447.length co28)) (fun _ hk => trivial), by (with_reducible repeat (first | apply Kd.qF | apply Kd.qE | apply Kd.qH)); exact Kd.qf (Kd.R_far (p := ⟨gb436, 1, none⟩) (Kd.R_far (p := ⟨gb436, 0, none⟩) (Kd.R_far (p := ⟨gb435, 2, none⟩) (Kd.R_far (p := ⟨gb435, 1, none⟩) (Kd.R_far (p := ⟨gb435, 0, none⟩) (Kd.qt (Kd.qt HO446.out BK435.out (by decide)) BK436.out (by decide)) (fun _ hk => hk.1.2) (.int .i64 t437)) (fun _ hk => hk.1.2) (.int .i64 t438)) (fun _ hk => hk.1.2) (.slice Ao18 t439.length co18)) (fun _ hk => hk.2) (.slice Ao22 t444.length co22)) (fun _ hk => hk.2) (.slice Ao28 t447.length co28)) (fun _ hk => trivial), by (with_reducible repeat (first | apply Kd.qF | apply Kd.qE | apply Kd.qH)); exact Kd.qf (Kd.R_far (p := ⟨gb436, 1, none⟩) (Kd.R_far (p := ⟨gb436, 0, none⟩) (Kd.R_far (p := ⟨gb435, 2, none⟩) (Kd.R_far (p := ⟨gb435, 1, none⟩) (Kd.R_far (p := ⟨gb435, 0, none⟩) (Kd.qt (Kd.qt HO449.out BK435.out (by decide)) BK436.out (by decide)) (fun _ hk => hk.1.2) (.int .i64 t437)) (fun _ hk => hk.1.2) (.int .i64 t438)) (fun _ hk => hk.1.2) (.slice Ao18 t439.length co18)) (fun _ hk => hk.2) (.slice Ao22 t444.length co22)) (fun _ hk => hk.2) (.slice Ao28 t447.length co28)) (fun _ hk => trivial), bl⟩
 ·replace c4 := Bool.eq_false_iff.mpr c4
  subst c4
  have H1 : (some (t437, t438, t439, ([] : List (S27)), ([] : List ByteArray), false)) = some (r1, r2, r3, r4, r5, r6) := by rw [if_neg (show ¬ (false = true) by decide)] at H; exact H
  clear H
  have H := H1
  clear H1
  simp only [Option.some.injEq, Prod.mk.injEq] at H
  obtain ⟨rfl, rfl, rfl, rfl, rfl, rfl⟩ := H
  go_enter Tryd.func65, Tryd.ntmps65
  go_wp2_with (first | ((with_reducible refine qb (N := 3) rfl ?_); refine qZ ?hg (N := 3) ?hd (cs := #[.int .i64 a1_0, .int .i64 a1_1, .int .i64 a1_2]) (t := 27) ?hr ?_; (case hd => rfl); (case hg => rfl); (case hr => first | (go_simp; done) | (go_simp; rfl)); intro gb434 hg w36 hbox hb; have n0_ := Aside0.mk (qG bl hb); have n1_ := Aside0.mk (hbox); have n2_ := Aside0.mk ((gg hg)); have n3_ := Aside0.mk ((gg hg)); clear HB; have HB := n0_; have BK434 := n1_; have GW434 := n2_; have GE434 := n3_; clear n0_ n1_ n2_ n3_; clear hb hbox hg) | ((with_reducible refine qb (N := 4) rfl ?_); refine qZ ?hg (N := 4) ?hd (cs := #[.int .i64 0, .int .i64 0, .slice none 0 0]) (t := 57) ?hr ?_; (case hd => rfl); (case hg => rfl); (case hr => first | (go_simp; done) | (go_simp; rfl)); intro gb435 hg w37 hbox hb; have n0_ := Aside0.mk (bb BK434 hb); have n1_ := Aside0.mk (qG bl hb); have n2_ := Aside0.mk (hbox); have n3_ := Aside0.mk ((gg hg)); have n4_ := Aside0.mk ((gg hg)); have n5_ := Aside0.mk ((nl BK434 hg)); have n6_ := Aside0.mk ((nr BK434 hg)); clear BK434; clear HB; have BK434 := n0_; have HB := n1_; have BK435 := n2_; have GW435 := n3_; have GE435 := n4_; have NB434_435 := n5_; have NB435_434 := n6_; clear n0_ n1_ n2_ n3_ n4_ n5_ n6_; clear hb hbox hg) | ((with_reducible refine qb (N := 5) rfl ?_); refine qZ ?hg (N := 5) ?hd (cs := #[.slice none 0 0, .slice none 0 0]) (t := 75) ?hr ?_; (case hd => rfl); (case hg => rfl); (case hr => first | (go_simp; done) | (go_simp; rfl)); intro gb436 hg w38 hbox hb; have n0_ := Aside0.mk (bb BK434 hb); have n1_ := Aside0.mk (bb BK435 hb); have n2_ := Aside0.mk (qG bl hb); have n3_ := Aside0.mk (hbox); have n4_ := Aside0.mk ((gg hg)); have n5_ := Aside0.mk ((gg hg)); have n6_ := Aside0.mk ((nl BK434 hg)); have n7_ := Aside0.mk ((nr BK434 hg)); have n8_ := Aside0.mk ((nl BK435 hg)); have n9_ := Aside0.mk ((nr BK435 hg)); clear BK434; clear BK435; clear HB; have BK434 := n0_; have BK435 := n1_; have HB := n2_; have BK436 := n3_; have GW436 := n4_; have GE436 := n5_; have NB434_436 := n6_; have NB436_434 := n7_; have NB435_436 := n8_; have NB436_435 := n9_; clear n0_ n1_ n2_ n3_ n4_ n5_ n6_ n7_ n8_ n9_; clear hb hbox hg; have hnb39 := NB434_435.out; have hnc39 := NB435_434.out; have hnb40 := NB434_436.out; have hnc40 := NB436_434.out; have hcz41_0 := bc BK434 0; have hcz41_1 := bc BK434 1; have hcz41_2 := bc BK434 2; have hfz41_0 := qC BK434.out 0; have hfz41_1 := qC BK434.out 1; have hfz41_2 := qC BK434.out 2) | ((with_reducible refine qa (f := 57) rfl ?_); refine qr (some 14) rfl rfl Tryd.func57 (by kernel_rfl) rfl #[.string a0, .agg #[.int .i64 a1_0, .int .i64 a1_1, .int .i64 a1_2]] rfl (by (try simp only [List.map_toArray, List.map_cons, List.map_nil]); first | done | rfl | (simp only [List.length_drop, List.length_take]; rfl)) ?_; (with_reducible refine (qp.calls k a0 a1_0 a1_1 a1_2 t437 t438 t439 false _ A3.out).mono ?_); rintro e w42 ⟨v440, rfl, ho0, hb⟩; refine ⟨_, rfl, ?_⟩; have n0_ := Aside0.mk (Kd.qu ho0 (qe bl)); have n1_ := Aside0.mk (bb BK434 hb); have n2_ := Aside0.mk (bb BK435 hb); have n3_ := Aside0.mk (bb BK436 hb); have n4_ := Aside0.mk (qG bl hb); clear BK434; clear BK435; clear BK436; clear HB; have HO441 := n0_; have BK434 := n1_; have BK435 := n2_; have BK436 := n3_; have HB := n4_; clear n0_ n1_ n2_ n3_ n4_; (try clear hb); (try clear hb2); (try clear hk); (try clear hi); (try clear ho0)) | ((with_reducible refine qb (N := 7) rfl ?_); refine qZ ?hg (N := 7) ?hd (cs := #[.int .i64 0, .int .i64 0, .slice none 0 0]) (t := 57) ?hr ?_; (case hd => rfl); (case hg => rfl); (case hr => first | (go_simp; done) | (go_simp; rfl)); intro gb443 hg w43 hbox hb; have n0_ := Aside0.mk (Kd.qc (by (with_reducible repeat (first | apply Kd.qF | apply Kd.qE | apply Kd.qH)); exact HO441.out) hb); have n1_ := Aside0.mk (bb BK434 hb); have n2_ := Aside0.mk (bb BK435 hb); have n3_ := Aside0.mk (bb BK436 hb); have n4_ := Aside0.mk (qG bl hb); have n5_ := Aside0.mk (hbox); have n6_ := Aside0.mk ((gg hg)); have n7_ := Aside0.mk ((gg hg)); have n8_ := Aside0.mk ((nl BK434 hg)); have n9_ := Aside0.mk ((nr BK434 hg)); have n10_ := Aside0.mk ((nl BK435 hg)); have n11_ := Aside0.mk ((nr BK435 hg)); have n12_ := Aside0.mk ((nl BK436 hg)); have n13_ := Aside0.mk ((nr BK436 hg)); clear HO441; clear BK434; clear BK435; clear BK436; clear HB; have HO441 := n0_; have BK434 := n1_; have BK435 := n2_; have BK436 := n3_; have HB := n4_; have BK443 := n5_; have GW443 := n6_; have GE443 := n7_; have NB434_443 := n8_; have NB443_434 := n9_; have NB435_443 := n10_; have NB443_435 := n11_; have NB436_443 := n12_; have NB443_436 := n13_; clear n0_ n1_ n2_ n3_ n4_ n5_ n6_ n7_ n8_ n9_ n10_ n11_ n12_ n13_; clear hb hbox hg; have hnb44 := NB443_434.out; have hnc44 := NB434_443.out; have hnb45 := NB443_435.out; have hnc45 := NB435_443.out; have hnb46 := NB443_436.out; have hnc46 := NB436_443.out; have hcz47_0 := bc BK443 0; have hcz47_1 := bc BK443 1; have hcz47_2 := bc BK443 2; have hfz47_0 := qC BK443.out 0; have hfz47_1 := qC BK443.out 1; have hfz47_2 := qC BK443.out 2; obtain ⟨Ao48, co48, eo48⟩ := Kd.ql HO441.out; subst eo48; have hnb49 := NB435_436.out; have hnc49 := NB436_435.out; have hcz50_0 := bc BK435 0; have hcz50_1 := bc BK435 1; have hcz50_2 := bc BK435 2; have hfz50_0 := qC BK435.out 0; have hfz50_1 := qC BK435.out 1; have hfz50_2 := qC BK435.out 2; have hcz51_0 := bc BK436 0; have hcz51_1 := bc BK436 1; have hfz51_0 := qC BK436.out 0; have hfz51_1 := qC BK436.out 1))
  refine bodyPost_ret (results_list (rs := [.cell 4 57, .cell 5 75, .tmp 6]) rfl (by simp) (.cell gb435 57 #[.int .i64 t437, .int .i64 t438, .slice Ao48 t439.length co48] (0, 0) _ rfl (by (with_reducible repeat (first | refine qB ?_ _ | refine qD ?_ | refine qA ?_ _)); refine qL ?_ NB435_436.out _; (with_reducible repeat (first | refine qB ?_ _ | refine qD ?_ | refine qA ?_ _)); refine qL ?_ NB435_436.out _; (with_reducible repeat (first | refine qB ?_ _ | refine qD ?_ | refine qA ?_ _)); refine qP (cs := #[.int .i64 t437, .int .i64 t438, .slice none 0 0]) ?_ 2 _ rfl; (with_reducible repeat (first | refine qB ?_ _ | refine qD ?_ | refine qA ?_ _)); refine qP (cs := #[.int .i64 t437, .int .i64 0, .slice none 0 0]) ?_ 1 _ rfl; (with_reducible repeat (first | refine qB ?_ _ | refine qD ?_ | refine qA ?_ _)); refine qP (cs := #[.int .i64 0, .int .i64 0, .slice none 0 0]) ?_ 0 _ rfl; (with_reducible repeat (first | refine qB ?_ _ | refine qD ?_ | refine qA ?_ _)); refine qL ?_ NB435_443.out _; (with_reducible repeat (first | refine qB ?_ _ | refine qD ?_ | refine qA ?_ _)); refine qL ?_ NB435_443.out _; (with_reducible repeat (first | refine qB ?_ _ | refine qD ?_ | refine qA ?_ _)); refine qL ?_ NB435_443.out _; (with_reducible repeat (first | refine qB ?_ _ | refine qD ?_ | refine qA ?_ _)); exact BK435.out) Tryd.underlying57 rfl (by kernel_rfl) (.cell gb436 75 #[.slice none 0 0, .slice none 0 0] (0, 0) _ rfl (by (with_reducible repeat (first | refine qB ?_ _ | refine qD ?_ | refine qA ?_ _)); refine qP (cs := #[.slice none 0 0, .slice none 0 0]) ?_ 1 _ rfl; (with_reducible repeat (first | refine qB ?_ _ | refine qD ?_ | refine qA ?_ _)); refine qP (cs := #[.slice none 0 0, .slice none 0 0]) ?_ 0 _ rfl; (with_reducible repeat (first | refine qB ?_ _ | refine qD ?_ | refine qA ?_ _)); refine qL ?_ NB436_435.out _; (with_reducible repeat (first | refine qB ?_ _ | refine qD ?_ | refine qA ?_ _)); refine qL ?_ NB436_435.out _; (with_reducible repeat (first | refine qB ?_ _ | refine qD ?_ | refine qA ?_ _)); refine qL ?_ NB436_435.out _; (with_reducible repeat (first | refine qB ?_ _ | refine qD ?_ | refine qA ?_ _)); refine qL ?_ NB436_443.out _; (with_reducible repeat (first | refine qB ?_ _ | refine qD ?_ | refine qA ?_ _)); refine qL ?_ NB436_443.out _; (with_reducible repeat (first | refine qB ?_ _ | refine qD ?_ | refine qA ?_ _)); refine qL ?_ NB436_443.out _; (with_reducible repeat (first | refine qB ?_ _ | refine qD ?_ | refine qA ?_ _)); exact BK436.out) Tryd.underlying75 rfl (by kernel_rfl) (.tmp .nil)))) rfl ?_
  exact ⟨_, _, _, by first | rfl | (simp [qJ, qI] <;> rfl) | (simp [*, qJ, qI] <;> rfl), by (with_reducible repeat (first | apply Kd.qF | apply Kd.qE | apply Kd.qH)); exact Kd.qf (Kd.R_far (p := ⟨gb436, 1, none⟩) (Kd.R_far (p := ⟨gb436, 0, none⟩) (Kd.R_far (p := ⟨gb435, 2, none⟩) (Kd.R_far (p := ⟨gb435, 1, none⟩) (Kd.R_far (p := ⟨gb435, 0, none⟩) (Kd.R_far (p := ⟨gb443, 2, none⟩) (Kd.R_far (p := ⟨gb443, 1, none⟩) (Kd.R_far (p := ⟨gb443, 0, none⟩) (Kd.qt (Kd.qt (Kd.qt HO441.out BK443.out (by decide)) BK435.out (by decide)) BK436.out (by decide)) (fun _ hk => hk.1.1.2) (.int .i64 t437)) (fun _ hk => hk.1.1.2) (.int .i64 t438)) (fun _ hk => hk.1.1.2) (.slice Ao48 t439.length co48)) (fun _ hk => hk.1.2) (.int .i64 t437)) (fun _ hk => hk.1.2) (.int .i64 t438)) (fun _ hk => hk.1.2) (.slice Ao48 t439.length co48)) (fun _ hk => hk.2) (.slice none 0 0)) (fun _ hk => hk.2) (.slice none 0 0)) (fun _ hk => trivial), by first | exact Kd.R_nil _ _ _ _ _ | exact Kd.N_nil _ _ _ _ _ | exact Kd.V_nil _ _ _ _ _ | exact Kd.Q_nil _ _ _ _ _ | exact Kd.S_nil _ _ _ _ _, by first | exact Kd.R_nil _ _ _ _ _ | exact Kd.N_nil _ _ _ _ _ | exact Kd.V_nil _ _ _ _ _ | exact Kd.Q_nil _ _ _ _ _ | exact Kd.S_nil _ _ _ _ _, bl⟩
def qGA.f (k : Nat) (a0 : ByteArray) (a1_0 : Int) (a1_1 : Int) (a1_2 : Int) : Option (Int × Bool) := (qRA.f k a0 a1_0 a1_1 a1_2).bind fun bt453 => (if bt453.2.2.2.2.2 = true then (some ((bt453.2.2.2.1.length : Int), true)) else (some (0, false)))
set_option maxHeartbeats 8000000 in
set_option maxRecDepth 100000 in
theorem qGA.calls (k : Nat) (a0 : ByteArray) (a1_0 : Int) (a1_1 : Int) (a1_2 : Int) (r1 : Int) (r2 : Bool) (w : World) (h : qGA.f k a0 a1_0 a1_1 a1_2 = some (r1, r2)) :
  Calls Tryd.prog 31 #[.string a0, .agg #[.int .i64 a1_0, .int .i64 a1_1, .int .i64 a1_2]] w fun e w' => e = .returned (.tuple #[.int .i64 r1, .bool r2]) ∧ Below w.heap.size w w' := by
 have hu27 := Tryd.underlying27
 have hu57 := Tryd.underlying57
 have hu75 := Tryd.underlying75
 have HB := Aside0.mk (Below.refl w.heap.size w)
 have H : ((qRA.f k a0 a1_0 a1_1 a1_2).bind fun bt453 => (if bt453.2.2.2.2.2 = true then (some ((bt453.2.2.2.1.length : Int), true)) else (some (0, false)))) = some (r1, r2) := h
 clear h
 replace H := Option.bind_eq_some_iff.mp H
 obtain ⟨⟨t453, t454, t455, t458, t461, t464⟩, A30, H⟩ := H
 replace H : (if t464 = true then (some ((t458.length : Int), true)) else (some (0, false))) = some (r1, r2) := H
 have A3 := Aside0.mk A30
 clear A30
 by_cases c4 : t464 = true
 ·subst c4
  have H1 : (some ((t458.length : Int), true)) = some (r1, r2) := by rw [if_pos rfl] at H; exact H
  clear H
  have H := H1
  clear H1
  simp only [Option.some.injEq, Prod.mk.injEq] at H
  obtain ⟨rfl, rfl⟩ := H
  go_enter Tryd.func31, Tryd.ntmps31
  go_wp2_with (first | ((with_reducible refine qb (N := 3) rfl ?_); refine qZ ?hg (N := 3) ?hd (cs := #[.int .i64 a1_0, .int .i64 a1_1, .int .i64 a1_2]) (t := 27) ?hr ?_; (case hd => rfl); (case hg => rfl); (case hr => first | (go_simp; done) | (go_simp; rfl)); intro gb452 hg w5 hbox hb; have n0_ := Aside0.mk (qG bl hb); have n1_ := Aside0.mk (hbox); have n2_ := Aside0.mk ((gg hg)); have n3_ := Aside0.mk ((gg hg)); clear HB; have HB := n0_; have BK452 := n1_; have GW452 := n2_; have GE452 := n3_; clear n0_ n1_ n2_ n3_; clear hb hbox hg; have hcz6_0 := bc BK452 0; have hcz6_1 := bc BK452 1; have hcz6_2 := bc BK452 2; have hfz6_0 := qC BK452.out 0; have hfz6_1 := qC BK452.out 1; have hfz6_2 := qC BK452.out 2) | ((with_reducible refine qa (f := 65) rfl ?_); refine qr (some 12) rfl rfl Tryd.func65 (by kernel_rfl) rfl #[.string a0, .agg #[.int .i64 a1_0, .int .i64 a1_1, .int .i64 a1_2]] rfl (by (try simp only [List.map_toArray, List.map_cons, List.map_nil]); first | done | rfl | (simp only [List.length_drop, List.length_take]; rfl)) ?_; (with_reducible refine (qRA.calls k a0 a1_0 a1_1 a1_2 t453 t454 t455 t458 t461 true _ A3.out).mono ?_); rintro e w7 ⟨v456, v459, v462, rfl, ho0, ho1, ho2, hb⟩; refine ⟨_, rfl, ?_⟩; have n0_ := Aside0.mk (Kd.qu ho0 (qe bl)); have n1_ := Aside0.mk (Kd.qu (Kd.qHB ho1 (g := gb452) (o := .cells #[.int .i64 a1_0, .int .i64 a1_1, .int .i64 a1_2] 27 (0, 0)) (by (with_reducible repeat (first | refine qB ?_ _ | refine qD ?_ | refine qA ?_ _)); exact BK452.out)) (qe bl)); have n2_ := Aside0.mk (Kd.qu ho2 (qe bl)); have n3_ := Aside0.mk (bb BK452 hb); have n4_ := Aside0.mk (qG bl hb); clear BK452; clear HB; have HO457 := n0_; have HO460 := n1_; have HO463 := n2_; have BK452 := n3_; have HB := n4_; clear n0_ n1_ n2_ n3_ n4_; (try clear hb); (try clear hb2); (try clear hk); (try clear hi); (try clear ho0); (try clear ho1); (try clear ho2)) | ((with_reducible refine qb (N := 6) rfl ?_); refine qZ ?hg (N := 6) ?hd (cs := #[.int .i64 0, .int .i64 0, .slice none 0 0]) (t := 57) ?hr ?_; (case hd => rfl); (case hg => rfl); (case hr => first | (go_simp; done) | (go_simp; rfl)); intro gb465 hg w8 hbox hb; have n0_ := Aside0.mk (Kd.qc (by (with_reducible repeat (first | apply Kd.qF | apply Kd.qE | apply Kd.qH)); exact HO457.out) hb); have n1_ := Aside0.mk (Kd.qc (by (with_reducible repeat (first | apply Kd.qF | apply Kd.qE | apply Kd.qH)); exact HO460.out) hb); have n2_ := Aside0.mk (Kd.qc (by (with_reducible repeat (first | apply Kd.qF | apply Kd.qE | apply Kd.qH)); exact HO463.out) hb); have n3_ := Aside0.mk (bb BK452 hb); have n4_ := Aside0.mk (qG bl hb); have n5_ := Aside0.mk (hbox); have n6_ := Aside0.mk ((gg hg)); have n7_ := Aside0.mk ((gg hg)); have n8_ := Aside0.mk ((nl BK452 hg)); have n9_ := Aside0.mk ((nr BK452 hg)); clear HO457; clear HO460; clear HO463; clear BK452; clear HB; have HO457 := n0_; have HO460 := n1_; have HO463 := n2_; have BK452 := n3_; have HB := n4_; have BK465 := n5_; have GW465 := n6_; have GE465 := n7_; have NB452_465 := n8_; have NB465_452 := n9_; clear n0_ n1_ n2_ n3_ n4_ n5_ n6_ n7_ n8_ n9_; clear hb hbox hg) | ((with_reducible refine qb (N := 7) rfl ?_); refine qZ ?hg (N := 7) ?hd (cs := #[.slice none 0 0, .slice none 0 0]) (t := 75) ?hr ?_; (case hd => rfl); (case hg => rfl); (case hr => first | (go_simp; done) | (go_simp; rfl)); intro gb466 hg w9 hbox hb; have n0_ := Aside0.mk (Kd.qc (by (with_reducible repeat (first | apply Kd.qF | apply Kd.qE | apply Kd.qH)); exact HO457.out) hb); have n1_ := Aside0.mk (Kd.qc (by (with_reducible repeat (first | apply Kd.qF | apply Kd.qE | apply Kd.qH)); exact HO460.out) hb); have n2_ := Aside0.mk (Kd.qc (by (with_reducible repeat (first | apply Kd.qF | apply Kd.qE | apply Kd.qH)); exact HO463.out) hb); have n3_ := Aside0.mk (bb BK452 hb); have n4_ := Aside0.mk (bb BK465 hb); have n5_ := Aside0.mk (qG bl hb); have n6_ := Aside0.mk (hbox); have n7_ := Aside0.mk ((gg hg)); have n8_ := Aside0.mk ((gg hg)); have n9_ := Aside0.mk ((nl BK452 hg)); have n10_ := Aside0.mk ((nr BK452 hg)); have n11_ := Aside0.mk ((nl BK465 hg)); have n12_ := Aside0.mk ((nr BK465 hg)); clear HO457; clear HO460; clear HO463; clear BK452; clear BK465; clear HB; have HO457 := n0_; have HO460 := n1_; have HO463 := n2_; have BK452 := n3_; have BK465 := n4_; have HB := n5_; have BK466 := n6_; have GW466 := n7_; have GE466 := n8_; have NB452_466 := n9_; have NB466_452 := n10_; have NB465_466 := n11_; have NB466_465 := n12_; clear n0_ n1_ n2_ n3_ n4_ n5_ n6_ n7_ n8_ n9_ n10_ n11_ n12_; clear hb hbox hg; have hnb10 := NB465_452.out; have hnc10 := NB452_465.out; have hnb11 := NB465_466.out; have hnc11 := NB466_465.out; have hcz12_0 := bc BK465 0; have hcz12_1 := bc BK465 1; have hcz12_2 := bc BK465 2; have hfz12_0 := qC BK465.out 0; have hfz12_1 := qC BK465.out 1; have hfz12_2 := qC BK465.out 2; obtain ⟨Ao13, co13, eo13⟩ := Kd.ql HO457.out; subst eo13; obtain ⟨Ao14, co14, eo14⟩ := Kd.ql HO460.out; subst eo14; have hnb15 := NB466_452.out; have hnc15 := NB452_466.out; have hcz16_0 := bc BK466 0; have hcz16_1 := bc BK466 1; have hfz16_0 := qC BK466.out 0; have hfz16_1 := qC BK466.out 1; obtain ⟨Ao17, co17, eo17⟩ := Kd.ql HO463.out; subst eo17))
  go_ret2
  exact ⟨by first | rfl | (simp [qJ, qI] <;> rfl) | (simp [*, qJ, qI] <;> rfl), bl⟩
 ·replace c4 := Bool.eq_false_iff.mpr c4
  subst c4
  have H1 : (some (0, false)) = some (r1, r2) := by rw [if_neg (show ¬ (false = true) by decide)] at H; exact H
  clear H
  have H := H1
  clear H1
  simp only [Option.some.injEq, Prod.mk.injEq] at H
  obtain ⟨rfl, rfl⟩ := H
  go_enter Tryd.func31, Tryd.ntmps31
  go_wp2_with (first | ((with_reducible refine qb (N := 3) rfl ?_); refine qZ ?hg (N := 3) ?hd (cs := #[.int .i64 a1_0, .int .i64 a1_1, .int .i64 a1_2]) (t := 27) ?hr ?_; (case hd => rfl); (case hg => rfl); (case hr => first | (go_simp; done) | (go_simp; rfl)); intro gb452 hg w18 hbox hb; have n0_ := Aside0.mk (qG bl hb); have n1_ := Aside0.mk (hbox); have n2_ := Aside0.mk ((gg hg)); have n3_ := Aside0.mk ((gg hg)); clear HB; have HB := n0_; have BK452 := n1_; have GW452 := n2_; have GE452 := n3_; clear n0_ n1_ n2_ n3_; clear hb hbox hg; have hcz19_0 := bc BK452 0; have hcz19_1 := bc BK452 1; have hcz19_2 := bc BK452 2; have hfz19_0 := qC BK452.out 0; have hfz19_1 := qC BK452.out 1; have hfz19_2 := qC BK452.out 2) | ((with_reducible refine qa (f := 65) rfl ?_); refine qr (some 12) rfl rfl Tryd.func65 (by kernel_rfl) rfl #[.string a0, .agg #[.int .i64 a1_0, .int .i64 a1_1, .int .i64 a1_2]] rfl (by (try simp only [List.map_toArray, List.map_cons, List.map_nil]); first | done | rfl | (simp only [List.length_drop, List.length_take]; rfl)) ?_; (with_reducible refine (qRA.calls k a0 a1_0 a1_1 a1_2 t453 t454 t455 t458 t461 false _ A3.out).mono ?_); rintro e w20 ⟨v456, v459, v462, rfl, ho0, ho1, ho2, hb⟩; refine ⟨_, rfl, ?_⟩; have n0_ := Aside0.mk (Kd.qu ho0 (qe bl)); have n1_ := Aside0.mk (Kd.qu (Kd.qHB ho1 (g := gb452) (o := .cells #[.int .i64 a1_0, .int .i64 a1_1, .int .i64 a1_2] 27 (0, 0)) (by (with_reducible repeat (first | refine qB ?_ _ | refine qD ?_ | refine qA ?_ _)); exact BK452.out)) (qe bl)); have n2_ := Aside0.mk (Kd.qu ho2 (qe bl)); have n3_ := Aside0.mk (bb BK452 hb); have n4_ := Aside0.mk (qG bl hb); clear BK452; clear HB; have HO457 := n0_; have HO460 := n1_; have HO463 := n2_; have BK452 := n3_; have HB := n4_; clear n0_ n1_ n2_ n3_ n4_; (try clear hb); (try clear hb2); (try clear hk); (try clear hi); (try clear ho0); (try clear ho1); (try clear ho2)) | ((with_reducible refine qb (N := 6) rfl ?_); refine qZ ?hg (N := 6) ?hd (cs := #[.int .i64 0, .int .i64 0, .slice none 0 0]) (t := 57) ?hr ?_; (case hd => rfl); (case hg => rfl); (case hr => first | (go_simp; done) | (go_simp; rfl)); intro gb465 hg w21 hbox hb; have n0_ := Aside0.mk (Kd.qc (by (with_reducible repeat (first | apply Kd.qF | apply Kd.qE | apply Kd.qH)); exact HO457.out) hb); have n1_ := Aside0.mk (Kd.qc (by (with_reducible repeat (first | apply Kd.qF | apply Kd.qE | apply Kd.qH)); exact HO460.out) hb); have n2_ := Aside0.mk (Kd.qc (by (with_reducible repeat (first | apply Kd.qF | apply Kd.qE | apply Kd.qH)); exact HO463.out) hb); have n3_ := Aside0.mk (bb BK452 hb); have n4_ := Aside0.mk (qG bl hb); have n5_ := Aside0.mk (hbox); have n6_ := Aside0.mk ((gg hg)); have n7_ := Aside0.mk ((gg hg)); have n8_ := Aside0.mk ((nl BK452 hg)); have n9_ := Aside0.mk ((nr BK452 hg)); clear HO457; clear HO460; clear HO463; clear BK452; clear HB; have HO457 := n0_; have HO460 := n1_; have HO463 := n2_; have BK452 := n3_; have HB := n4_; have BK465 := n5_; have GW465 := n6_; have GE465 := n7_; have NB452_465 := n8_; have NB465_452 := n9_; clear n0_ n1_ n2_ n3_ n4_ n5_ n6_ n7_ n8_ n9_; clear hb hbox hg) | ((with_reducible refine qb (N := 7) rfl ?_); refine qZ ?hg (N := 7) ?hd (cs := #[.slice none 0 0, .slice none 0 0]) (t := 75) ?hr ?_; (case hd => rfl); (case hg => rfl); (case hr => first | (go_simp; done) | (go_simp; rfl)); intro gb466 hg w22 hbox hb; have n0_ := Aside0.mk (Kd.qc (by (with_reducible repeat (first | apply Kd.qF | apply Kd.qE | apply Kd.qH)); exact HO457.out) hb); have n1_ := Aside0.mk (Kd.qc (by (with_reducible repeat (first | apply Kd.qF | apply Kd.qE | apply Kd.qH)); exact HO460.out) hb); have n2_ := Aside0.mk (Kd.qc (by (with_reducible repeat (first | apply Kd.qF | apply Kd.qE | apply Kd.qH)); exact HO463.out) hb); have n3_ := Aside0.mk (bb BK452 hb); have n4_ := Aside0.mk (bb BK465 hb); have n5_ := Aside0.mk (qG bl hb); have n6_ := Aside0.mk (hbox); have n7_ := Aside0.mk ((gg hg)); have n8_ := Aside0.mk ((gg hg)); have n9_ := Aside0.mk ((nl BK452 hg)); have n10_ := Aside0.mk ((nr BK452 hg)); have n11_ := Aside0.mk ((nl BK465 hg)); have n12_ := Aside0.mk ((nr BK465 hg)); clear HO457; clear HO460; clear HO463; clear BK452; clear BK465; clear HB; have HO457 := n0_; have HO460 := n1_; have HO463 := n2_; have BK452 := n3_; have BK465 := n4_; have HB := n5_; have BK466 := n6_; have GW466 := n7_; have GE466 := n8_; have NB452_466 := n9_; have NB466_452 := n10_; have NB465_466 := n11_; have NB466_465 := n12_; clear n0_ n1_ n2_ n3_ n4_ n5_ n6_ n7_ n8_ n9_ n10_ n11_ n12_; clear hb hbox hg; have hnb23 := NB465_452.out; have hnc23 := NB452_465.out; have hnb24 := NB465_466.out; have hnc24 := NB466_465.out; have hcz25_0 := bc BK465 0; have hcz25_1 := bc BK465 1; have hcz25_2 := bc BK465 2; have hfz25_0 := qC BK465.out 0; have hfz25_1 := qC BK465.out 1; have hfz25_2 := qC BK465.out 2; obtain ⟨Ao26, co26, eo26⟩ := Kd.ql HO457.out; subst eo26; obtain ⟨Ao27, co27, eo27⟩ := Kd.ql HO460.out; subst eo27; have hnb28 := NB466_452.out; have hnc28 := NB452_466.out; have hcz29_0 := bc BK466 0; have hcz29_1 := bc BK466 1; have hfz29_0 := qC BK466.out 0; have hfz29_1 := qC BK466.out 1; obtain ⟨Ao30, co30, eo30⟩ := Kd.ql HO463.out; subst eo30))
  go_ret2
  exact ⟨by first | rfl | (simp [qJ, qI] <;> rfl) | (simp [*, qJ, qI] <;> rfl), bl⟩
def qMA.f (a0 : Int) (a1 : Int) (a2 : Int) : Option (Bool) := if a1 ≤ a0 then (some (decide (a0 ≤ a2))) else (some false)
set_option maxHeartbeats 8000000 in
set_option maxRecDepth 100000 in
theorem qMA.calls (a0 : Int) (a1 : Int) (a2 : Int) (r : Bool) (w : World) (h : qMA.f a0 a1 a2 = some r) :
  Calls Tryd.prog 82 #[.int .i64 a0, .int .i64 a1, .int .i64 a2] w fun e w' => e = .returned (.bool r) ∧ Drawn0 w w' := by
 have H : (if a1 ≤ a0 then (some (decide (a0 ≤ a2))) else (some false)) = some r := h
 clear h
 by_cases c4 : a1 ≤ a0
 ·rw [if_pos c4] at H
  have c4b0 : decide (a1 ≤ a0) = true := decide_eq_true c4
  clear c4
  obtain rfl := Option.some.inj H
  go_enter Tryd.func82, Tryd.ntmps82
  go_wp2
  go_ret
  exact ⟨by first | rfl | (simp; done) | (simp [*]; done), by repeat (first | exact Drawn0.refl _ | apply Drawn0.step)⟩
 ·rw [if_neg c4] at H
  have c4b0 : decide (a1 ≤ a0) = false := decide_eq_false c4
  clear c4
  obtain rfl := Option.some.inj H
  go_enter Tryd.func82, Tryd.ntmps82
  go_wp2
  go_ret
  exact ⟨by first | rfl | (simp; done) | (simp [*]; done), by repeat (first | exact Drawn0.refl _ | apply Drawn0.step)⟩
end Go.Proofs.YtbpfhpjbeomfcaaDoor.P
namespace Go.Proofs
open Go.Shelf
def Tryd.lays138_ren : Go.Shelf.Ren := ⟨fun | 138 => 78 | 195 => 103 | 218 => 104 | 143 => 105 | 219 => 139 | 217 => 154 | 225 => 155 | 224 => 156 | 267 => 157 | 266 => 163 | 314 => 164 | n => n, fun | 9 => 9 | 3 => 3 | 4 => 4 | 5 => 5 | 0 => 0 | 46 => 110 | 146 => 163 | 51 => 128 | n => n, fun | 1 => 0 | n => n⟩
theorem Tryd.lays138 : Go.Proofs.Lays.n138 Tryd.prog Tryd.lays138_ren := {
 mixed := by kernel_rfl
 f138 := Tryd.func78.trans (congrArg some (by kernel_rfl))
 f143 := Tryd.func105.trans (congrArg some (by kernel_rfl))
 f195 := Tryd.func103.trans (congrArg some (by kernel_rfl))
 f217 := Tryd.func154.trans (congrArg some (by kernel_rfl))
 f218 := Tryd.func104.trans (congrArg some (by kernel_rfl))
 f219 := Tryd.func139.trans (congrArg some (by kernel_rfl))
 f224 := Tryd.func156.trans (congrArg some (by kernel_rfl))
 f225 := Tryd.func155.trans (congrArg some (by kernel_rfl))
 f266 := Tryd.func163.trans (congrArg some (by kernel_rfl))
 f267 := Tryd.func157.trans (congrArg some (by kernel_rfl))
 f314 := Tryd.func164.trans (congrArg some (by kernel_rfl))
 t0 := Tryd.underlying0
 a0 := Tryd.isAgg0
 z0 := Tryd.sizeOf0
 v0 := Tryd.zeroValue0
 t3 := Tryd.underlying3
 a3 := Tryd.isAgg3
 z3 := Tryd.sizeOf3
 v3 := Tryd.zeroValue3
 t4 := Tryd.underlying4
 a4 := Tryd.isAgg4
 z4 := Tryd.sizeOf4
 v4 := Tryd.zeroValue4
 t5 := Tryd.underlying5
 a5 := Tryd.isAgg5
 z5 := Tryd.sizeOf5
 v5 := Tryd.zeroValue5
 t9 := Tryd.underlying9
 a9 := Tryd.isAgg9
 z9 := Tryd.sizeOf9
 v9 := Tryd.zeroValue9
 t46 := Tryd.underlying110
 a46 := Tryd.isAgg110
 z46 := Tryd.sizeOf110
 v46 := Tryd.zeroValue110
 t51 := Tryd.underlying128
 a51 := Tryd.isAgg128
 z51 := Tryd.sizeOf128
 v51 := Tryd.zeroValue128
 t146 := Tryd.underlying163
 a146 := Tryd.isAgg163
 z146 := Tryd.sizeOf163
 v146 := Tryd.zeroValue163
 g1 := by kernel_rfl }
open Go.RowKit Go.Lib in
theorem Tryd.strings_Count_one (s : ByteArray) (c : UInt8) (w : World) :
  Calls Tryd.prog 78 #[.string s, .string ⟨#[c]⟩] w fun e w' => e = .returned (.int .i64 (Lib.countByte s.data.toList c)) ∧ w' = w := Any.strings_Count_one Tryd.lays138 s c w
def Tryd.lays146_ren : Go.Shelf.Ren := ⟨fun | 146 => 101 | 221 => 131 | 268 => 149 | 138 => 78 | 143 => 105 | 195 => 103 | 197 => 151 | 218 => 104 | 219 => 139 | 260 => 160 | 217 => 154 | 225 => 155 | 224 => 156 | 267 => 157 | 266 => 163 | 314 => 164 | n => n, fun | 9 => 9 | 31 => 60 | 3 => 3 | 4 => 4 | 0 => 0 | 105 => 155 | 21 => 21 | 5 => 5 | 46 => 110 | 119 => 165 | 139 => 168 | 138 => 167 | 146 => 163 | 51 => 128 | n => n, fun | 1 => 0 | 3 => 1 | 4 => 2 | n => n⟩
theorem Tryd.lays146 : Go.Proofs.Lays.n146 Tryd.prog Tryd.lays146_ren := {
 mixed := by kernel_rfl
 f138 := Tryd.func78.trans (congrArg some (by kernel_rfl))
 f143 := Tryd.func105.trans (congrArg some (by kernel_rfl))
 f146 := Tryd.func101.trans (congrArg some (by kernel_rfl))
 f195 := Tryd.func103.trans (congrArg some (by kernel_rfl))
 f197 := Tryd.func151.trans (congrArg some (by kernel_rfl))
 f217 := Tryd.func154.trans (congrArg some (by kernel_rfl))
 f218 := Tryd.func104.trans (congrArg some (by kernel_rfl))
 f219 := Tryd.func139.trans (congrArg some (by kernel_rfl))
 f221 := Tryd.func131.trans (congrArg some (by kernel_rfl))
 f224 := Tryd.func156.trans (congrArg some (by kernel_rfl))
 f225 := Tryd.func155.trans (congrArg some (by kernel_rfl))
 f260 := Tryd.func160.trans (congrArg some (by kernel_rfl))
 f266 := Tryd.func163.trans (congrArg some (by kernel_rfl))
 f267 := Tryd.func157.trans (congrArg some (by kernel_rfl))
 f268 := Tryd.func149.trans (congrArg some (by kernel_rfl))
 f314 := Tryd.func164.trans (congrArg some (by kernel_rfl))
 t0 := Tryd.underlying0
 a0 := Tryd.isAgg0
 z0 := Tryd.sizeOf0
 v0 := Tryd.zeroValue0
 t3 := Tryd.underlying3
 a3 := Tryd.isAgg3
 z3 := Tryd.sizeOf3
 v3 := Tryd.zeroValue3
 t4 := Tryd.underlying4
 a4 := Tryd.isAgg4
 z4 := Tryd.sizeOf4
 v4 := Tryd.zeroValue4
 t5 := Tryd.underlying5
 a5 := Tryd.isAgg5
 z5 := Tryd.sizeOf5
 v5 := Tryd.zeroValue5
 t9 := Tryd.underlying9
 a9 := Tryd.isAgg9
 z9 := Tryd.sizeOf9
 v9 := Tryd.zeroValue9
 t21 := Tryd.underlying21
 a21 := Tryd.isAgg21
 z21 := Tryd.sizeOf21
 v21 := Tryd.zeroValue21
 t31 := Tryd.underlying60
 a31 := Tryd.isAgg60
 z31 := Tryd.sizeOf60
 v31 := Tryd.zeroValue60
 t46 := Tryd.underlying110
 a46 := Tryd.isAgg110
 z46 := Tryd.sizeOf110
 v46 := Tryd.zeroValue110
 t51 := Tryd.underlying128
 a51 := Tryd.isAgg128
 z51 := Tryd.sizeOf128
 v51 := Tryd.zeroValue128
 t105 := Tryd.underlying155
 a105 := Tryd.isAgg155
 z105 := Tryd.sizeOf155
 v105 := Tryd.zeroValue155
 t119 := Tryd.underlying165
 a119 := Tryd.isAgg165
 z119 := Tryd.sizeOf165
 t138 := Tryd.underlying167
 a138 := Tryd.isAgg167
 z138 := Tryd.sizeOf167
 v138 := Tryd.zeroValue167
 t139 := Tryd.underlying168
 a139 := Tryd.isAgg168
 z139 := Tryd.sizeOf168
 v139 := Tryd.zeroValue168
 t146 := Tryd.underlying163
 a146 := Tryd.isAgg163
 z146 := Tryd.sizeOf163
 v146 := Tryd.zeroValue163
 g1 := by kernel_rfl
 g3 := by kernel_rfl
 g4 := by kernel_rfl }
open Go.RowKit Go.Lib in
theorem Tryd.strings_Split (s sep : ByteArray) (m : Int) (w : World) (hs : s.size < 4294967281) (hm : w.cell? ⟨0, 0, none⟩ = some (.int .i64 m)) (h1 : 1 ≤ sep.size) :
  Calls Tryd.prog 101 #[.string s, .string sep] w fun e w' =>
   e = .returned (.slice (some ⟨w.heap.size, 0, none⟩) (Lib.countB s sep + 1) (Lib.countB s sep + 1)) ∧ w' = w.alloc (.cells ((Lib.splitB sep 0 (Lib.countB s sep) s).map Value.string).toArray 9) := Any.strings_Split Tryd.lays146 (by kernel_rfl) s sep m w hs hm h1
def Tryd.lays160_ren : Go.Shelf.Ren := ⟨fun | 160 => 102 | 232 => 133 | 231 => 132 | 227 => 134 | 234 => 136 | 233 => 135 | 236 => 138 | 235 => 137 | 228 => 150 | 271 => 153 | 151 => 152 | 197 => 151 | 120 => 162 | 152 => 161 | 260 => 160 | 137 => 165 | 119 => 166 | 224 => 156 | 225 => 155 | 217 => 154 | 266 => 163 | n => n, fun | 9 => 9 | 4 => 4 | 3 => 3 | 5 => 5 | 117 => 140 | 116 => 139 | 0 => 0 | 124 => 143 | 21 => 21 | 105 => 155 | 46 => 110 | 119 => 165 | 139 => 168 | 138 => 167 | n => n, fun | 3 => 1 | 4 => 2 | n => n⟩
theorem Tryd.lays160 : Go.Proofs.Lays.n160 Tryd.prog Tryd.lays160_ren := {
 mixed := by kernel_rfl
 f119 := Tryd.func166.trans (congrArg some (by kernel_rfl))
 f120 := Tryd.func162.trans (congrArg some (by kernel_rfl))
 f137 := Tryd.func165.trans (congrArg some (by kernel_rfl))
 f151 := Tryd.func152.trans (congrArg some (by kernel_rfl))
 f152 := Tryd.func161.trans (congrArg some (by kernel_rfl))
 f160 := Tryd.func102.trans (congrArg some (by kernel_rfl))
 f197 := Tryd.func151.trans (congrArg some (by kernel_rfl))
 f217 := Tryd.func154.trans (congrArg some (by kernel_rfl))
 f224 := Tryd.func156.trans (congrArg some (by kernel_rfl))
 f225 := Tryd.func155.trans (congrArg some (by kernel_rfl))
 f227 := Tryd.func134.trans (congrArg some (by kernel_rfl))
 f228 := Tryd.func150.trans (congrArg some (by kernel_rfl))
 f231 := Tryd.func132.trans (congrArg some (by kernel_rfl))
 f232 := Tryd.func133.trans (congrArg some (by kernel_rfl))
 f233 := Tryd.func135.trans (congrArg some (by kernel_rfl))
 f234 := Tryd.func136.trans (congrArg some (by kernel_rfl))
 f235 := Tryd.func137.trans (congrArg some (by kernel_rfl))
 f236 := Tryd.func138.trans (congrArg some (by kernel_rfl))
 f260 := Tryd.func160.trans (congrArg some (by kernel_rfl))
 f266 := Tryd.func163.trans (congrArg some (by kernel_rfl))
 f271 := Tryd.func153.trans (congrArg some (by kernel_rfl))
 t0 := Tryd.underlying0
 a0 := Tryd.isAgg0
 z0 := Tryd.sizeOf0
 v0 := Tryd.zeroValue0
 t3 := Tryd.underlying3
 a3 := Tryd.isAgg3
 z3 := Tryd.sizeOf3
 v3 := Tryd.zeroValue3
 t4 := Tryd.underlying4
 a4 := Tryd.isAgg4
 z4 := Tryd.sizeOf4
 v4 := Tryd.zeroValue4
 t5 := Tryd.underlying5
 a5 := Tryd.isAgg5
 z5 := Tryd.sizeOf5
 v5 := Tryd.zeroValue5
 t9 := Tryd.underlying9
 a9 := Tryd.isAgg9
 z9 := Tryd.sizeOf9
 v9 := Tryd.zeroValue9
 t21 := Tryd.underlying21
 a21 := Tryd.isAgg21
 z21 := Tryd.sizeOf21
 v21 := Tryd.zeroValue21
 t46 := Tryd.underlying110
 a46 := Tryd.isAgg110
 z46 := Tryd.sizeOf110
 v46 := Tryd.zeroValue110
 t105 := Tryd.underlying155
 a105 := Tryd.isAgg155
 z105 := Tryd.sizeOf155
 v105 := Tryd.zeroValue155
 t116 := Tryd.underlying139
 a116 := Tryd.isAgg139
 z116 := Tryd.sizeOf139
 t117 := Tryd.underlying140
 a117 := Tryd.isAgg140
 z117 := Tryd.sizeOf140
 v117 := Tryd.zeroValue140
 t119 := Tryd.underlying165
 a119 := Tryd.isAgg165
 z119 := Tryd.sizeOf165
 t124 := Tryd.underlying143
 a124 := Tryd.isAgg143
 z124 := Tryd.sizeOf143
 v124 := Tryd.zeroValue143
 t138 := Tryd.underlying167
 a138 := Tryd.isAgg167
 z138 := Tryd.sizeOf167
 v138 := Tryd.zeroValue167
 t139 := Tryd.underlying168
 a139 := Tryd.isAgg168
 z139 := Tryd.sizeOf168
 v139 := Tryd.zeroValue168
 g3 := by kernel_rfl
 g4 := by kernel_rfl }
end Go.Proofs
namespace Go.Proofs.YtbpfhpjbeomfcaaDoor
open Go.RowKit Go.Proofs.YtbpfhpjbeomfcaaDoorW.PrintWords Go.Proofs.YtbpfhpjbeomfcaaDoorW.PrintLast
set_option linter.unusedVariables false
set_option linter.unusedSimpArgs false
def strings_Split.f (a0 a1 : ByteArray) : Option (List ByteArray) := if a0.size < 4294967281 ∧ 1 ≤ a1.size then some (Lib.splitB a1 0 (Lib.countB a0 a1) a0) else none
theorem strings_Split.calls (a0 a1 : ByteArray) (r : List ByteArray) (w : World) (hL : Laid w) (h : strings_Split.f a0 a1 = some r) :
  Calls Tryd.prog 101 #[.string a0, .string a1] w fun e w' => ∃ v0_ : Value, e = .returned v0_ ∧ Kd.R Kd.string 9 w' w.heap.size (fun _ => True) v0_ r ∧ Below w.heap.size w w' := by
 unfold strings_Split.f at h
 split at h
 ·rename_i hs
  obtain rfl := Option.some.inj h
  obtain ⟨m, hm⟩ := hL
  have hlen := Lib.splitB_all a1 hs.2 0 _ a0 rfl
  have hle := Lib.countB_le a1 hs.2 a0.size a0 (Nat.le_refl _)
  refine (Tryd.strings_Split a0 a1 m w hs.1 hm hs.2).mono fun e w' ⟨h1, h2⟩ => ⟨_, h1, ?_, ?_⟩
  ·subst h2
   generalize Lib.splitB a1 0 (Lib.countB a0 a1) a0 = l at *
   rw [← hlen]
   refine Kd.R_of_own ⟨by rw [encs_length, Nat.mul_one], .inr ⟨w.heap.size, l.length, (l.map Value.string).toArray, rfl, Nat.le_refl _, ?_, Nat.le_refl _, ?_, ?_, ?_⟩⟩ (fun _ _ => trivial)
   ·exact qpB _ _
   ·unfold maxLen; omega
   ·simp
   ·simp only [encs, Nat.mul_one]
    rw [List.take_of_length_le (by simp)]
  ·subst h2
   exact qj (Below.refl _ _) _
 ·cases h
def qYA.f (a0 a1 : ByteArray) : Option ByteArray := if a0.size ≤ 9223372036854775807 ∧ a1.size < 4294967281 ∧ (a1.data.toList.all fun b => decide (b.toNat < 128)) = true then some ⟨(Lib.trimS a0.data.toList a1.data.toList).toArray⟩ else none
theorem qYA.calls (a0 a1 : ByteArray) (r : ByteArray) (w : World) (h : qYA.f a0 a1 = some r) :
  Calls Tryd.prog 102 #[.string a0, .string a1] w fun e w' => e = .returned (.string r) ∧ Below w.heap.size w w' := by
 unfold qYA.f at h
 split at h
 ·rename_i hs
  obtain rfl := Option.some.inj h
  exact Any.strings_Trim_laid Tryd.lays160 (by kernel_rfl) a0 a1 w hs.1 hs.2.1 (ascii_of_all hs.2.2)
 ·cases h
end Go.Proofs.YtbpfhpjbeomfcaaDoor
namespace Go.Proofs.YtbpfhpjbeomfcaaDoor.P
open Go.RowKit Go.Proofs.YtbpfhpjbeomfcaaDoorW.PrintWords Go.Proofs.YtbpfhpjbeomfcaaDoorW.PrintLast Go.Proofs.YtbpfhpjbeomfcaaDoorW.PrintMore
attribute [local go_sem] qy qw qFA qEA qn qm qx qv
set_option linter.unusedVariables false
set_option linter.unusedSimpArgs false
def qz.l0 : Nat → ByteArray → Int → List ByteArray → Int → Int → Option (List ByteArray × Bool)
 | 0, _, _, _, _, _ => none
 | k + 1, x1, x7, x11, x17, x18 => if x18 < x17 then (if 0 ≤ x18 then (if x18 < (x11.length : Int) then (if ((rdOf ByteArray.empty x11 x18).size : Int) = x7 then ((qYA.f (rdOf ByteArray.empty x11 x18) x1).bind fun t125 => (if t125.toList = ([] : List UInt8) then (qz.l0 k x1 x7 x11 x17 (wrap64 (x18 + 1))) else (some (([] : List ByteArray), false)))) else (some (([] : List ByteArray), false))) else (none)) else (none)) else ((qMA.f (x11.length : Int) 1 7).bind fun t126 => (if t126 = true then ((qMA.f x7 1 7).bind fun t127 => (if t127 = true then (some (x11, decide ((wrap64 (x7 * (x11.length : Int))) ≤ 36))) else (some (x11, false)))) else (some (x11, false))))
def qz.f (k : Nat) (a0 : ByteArray) (a1 : ByteArray) : Option (List ByteArray × Bool) := (strings_Split.f a0 (⟨#[47]⟩ : ByteArray)).bind fun t120 => (if 0 < (t120.length : Int) then (qz.l0 k a1 ((rdOf ByteArray.empty t120 0).size : Int) t120 (t120.length : Int) 0) else (none))
set_option maxHeartbeats 8000000 in
set_option maxRecDepth 100000 in
theorem qz.calls (k : Nat) (a0 : ByteArray) (a1 : ByteArray) (r1 : List ByteArray) (r2 : Bool) (w : World) (hL : Laid w) (h : qz.f k a0 a1 = some (r1, r2)) :
  Calls Tryd.prog 77 #[.string a0, .string a1] w fun e w' => ∃ v0_ : Value, e = .returned (.tuple #[v0_, .bool r2]) ∧ Kd.R Kd.string 9 w' w.heap.size (fun _ => True) v0_ r1 ∧ Below w.heap.size w w' := by
 have HLD := Aside0.mk hL
 clear hL
 have HB := Aside0.mk (Below.refl w.heap.size w)
 have H : ((strings_Split.f a0 (⟨#[47]⟩ : ByteArray)).bind fun t120 => (if 0 < (t120.length : Int) then (qz.l0 k a1 ((rdOf ByteArray.empty t120 0).size : Int) t120 (t120.length : Int) 0) else (none))) = some (r1, r2) := h
 clear h
 replace H := Option.bind_eq_some_iff.mp H
 obtain ⟨t120, A30, H⟩ := H
 replace H : (if 0 < (t120.length : Int) then (qz.l0 k a1 ((rdOf ByteArray.empty t120 0).size : Int) t120 (t120.length : Int) 0) else (none)) = some (r1, r2) := H
 have A3 := Aside0.mk A30
 clear A30
 by_cases c4 : 0 < (t120.length : Int)
 ·rw [if_pos c4] at H
  have c4b0 : decide (0 < (t120.length : Int)) = true := decide_eq_true c4
  have c4b1 : decide (0 < t120.length) = true := decide_eq_true (by omega)
  clear c4
  have H' := Aside0.mk H
  clear H
  go_enter Tryd.func77, Tryd.ntmps77
  go_wp2_with (first | ((with_reducible refine qa (f := 101) rfl ?_); refine qr (some 11) rfl rfl Tryd.func101 (by kernel_rfl) rfl #[.string a0, .string (⟨#[47]⟩ : ByteArray)] rfl (by (try simp only [List.map_toArray, List.map_cons, List.map_nil]); first | done | rfl | (simp only [List.length_drop, List.length_take]; rfl)) ?_; (with_reducible refine (strings_Split.calls a0 (⟨#[47]⟩ : ByteArray) t120 _ ?side1 A3.out).mono ?_); (case side1 => first | exact HLD.out | exact Laid.below HLD.out (by repeat (first | (with_reducible first | exact HB.out | apply qj | apply qk | apply qi | refine qWA ?_ (Aside0.out (by with_reducible assumption))) | exact HB.out))); rintro e w5 ⟨v121, rfl, ho0, hb⟩; refine ⟨_, rfl, ?_⟩; have n0_ := Aside0.mk (Kd.qu ho0 (qe bl)); have n1_ := Aside0.mk (qG bl hb); clear HB; have HO122 := n0_; have HB := n1_; clear n0_ n1_; (try clear hb); (try clear hb2); (try clear hk); (try clear hi); (try clear ho0); obtain ⟨Ao6, co6, eo6⟩ := Kd.ql HO122.out; subst eo6; have p123 : 0 ≤ (0 : Int) := (by omega); have q123 : 0 < (t120.length : Int) := of_decide_eq_true (by first | (with_reducible assumption) | assumption); obtain ⟨ad123, e123, hx123_0⟩ := Kd.qpA (Kd.qh HO122.out).2.2 0 p123 q123; cases e123; have qi123 : (0 < t120.length) = True := eq_true (by omega); (try rw [show ((0 : Int)).toNat = 0 from rfl] at hx123_0); (try rw [Addr.add_zero'] at hx123_0); replace p123 := eq_true p123; replace q123 := eq_true q123))
  go_loopg [18] k (fun kq v18 w' => ∃ (x18_1 : Int), v18 = .int .i64 x18_1 ∧ Aside0 (qz.l0 kq a1 ((rdOf ByteArray.empty t120 0).size : Int) t120 (t120.length : Int) x18_1 = some (r1, r2)) ∧ Aside0 (kq ≤ k) ∧ Aside0 (Kd.R Kd.string 9 w' w.heap.size (fun _ => True) (.slice (some ad123) t120.length co6) t120) ∧ Aside0 (Below w.heap.size w w'))
  case atStart => exact ⟨(0), (by first | rfl | (simp; done) | (simp [*]; done)), H', ⟨Nat.le_refl _⟩, ⟨by (with_reducible repeat (first | apply Kd.qF | apply Kd.qE | apply Kd.qH)); exact HO122.out⟩, ⟨bl⟩⟩
  case round =>
   clear H'
   try clear c1
   try clear p1
   try clear q1
   try clear hx1
   try clear qi1
   try clear p2
   try clear c4
   try clear c4b0
   try clear c4b1
   try clear hx123_0
   try clear p123
   try clear q123
   obtain ⟨x18_1, rfl, HA, HK1, HO_11, HB⟩ := hrel
   cases gk with
   | zero => exact absurd HA.out (by simp [qz.l0])
   | succ k1 =>
    have H := HA.out
    clear HA
    simp only [qz.l0] at H
    by_cases c7 : x18_1 < (t120.length : Int)
    ·rw [if_pos c7] at H
     have c7b0 : decide (x18_1 < (t120.length : Int)) = true := decide_eq_true c7
     clear c7
     by_cases c8 : 0 ≤ x18_1
     ·rw [if_pos c8] at H
      have c8b0 : decide (0 ≤ x18_1) = true := decide_eq_true c8
      clear c8
      by_cases c9 : x18_1 < (t120.length : Int)
      ·rw [if_pos c9] at H
       have c9b0 : decide (x18_1 < (t120.length : Int)) = true := decide_eq_true c9
       clear c9
       by_cases c10 : ((rdOf ByteArray.empty t120 x18_1).size : Int) = ((rdOf ByteArray.empty t120 0).size : Int)
       ·rw [if_pos c10] at H
        have c10b0 : (((rdOf ByteArray.empty t120 x18_1).size : Int) == ((rdOf ByteArray.empty t120 0).size : Int)) = true := beq_iff_eq.mpr c10
        have c10b1 : (((rdOf ByteArray.empty t120 x18_1).size : Int) != ((rdOf ByteArray.empty t120 0).size : Int)) = false := bne_eq_false_iff_eq.mpr c10
        have c10b2 : ((rdOf ByteArray.empty t120 x18_1).size == (rdOf ByteArray.empty t120 0).size) = true := by first | simpa using c10 | (simp at c10 ⊢; omega)
        clear c10
        replace H := Option.bind_eq_some_iff.mp H
        obtain ⟨t125, A110, H⟩ := H
        replace H : (if t125.toList = ([] : List UInt8) then (qz.l0 k1 a1 ((rdOf ByteArray.empty t120 0).size : Int) t120 (t120.length : Int) (wrap64 (x18_1 + 1))) else (some (([] : List ByteArray), false))) = some (r1, r2) := H
        have A11 := Aside0.mk A110
        clear A110
        by_cases c12 : t125.toList = ([] : List UInt8)
        ·rw [if_pos c12] at H
         have c12b0 : (t125.toList == ([] : List UInt8)) = true := beq_iff_eq.mpr c12
         have c12b1 : (t125.toList != ([] : List UInt8)) = false := bne_eq_false_iff_eq.mpr c12
         clear c12
         have H' := Aside0.mk H
         clear H
         have p124 : 0 ≤ (x18_1 : Int) := of_decide_eq_true (by first | (with_reducible assumption) | assumption)
         have q124 : x18_1 < (t120.length : Int) := of_decide_eq_true (by first | (with_reducible assumption) | assumption)
         obtain ⟨ad124, e124, hx124_0⟩ := Kd.qpA (Kd.qh HO_11.out).2.2 x18_1 p124 q124
         obtain rfl : ad123 = ad124 := (by injection e124)
         replace p124 := eq_true p124
         replace q124 := eq_true q124
         go_wp2_with (first | (go_at_call 102; (with_reducible refine (qYA.calls (rdOf ByteArray.empty t120 x18_1) a1 t125 _ A11.out).mono ?_); rintro e w13 ⟨rfl, hb⟩; have n0_ := Aside0.mk (Kd.qc (by (with_reducible repeat (first | apply Kd.qF | apply Kd.qE | apply Kd.qH)); exact HO_11.out) hb); have n1_ := Aside0.mk (qG bl hb); clear HO_11; clear HB; have HO_11 := n0_; have HB := n1_; clear n0_ n1_; (try clear hb); (try clear hb2); (try clear hk); (try clear hi)))
         go_roundg k1
         case measure => have := HK1.out; omega
         case rel => exact ⟨(wrap64 (x18_1 + 1)), (by first | rfl | (simp; done) | (simp [*]; done)), H', ⟨by have := HK1.out; omega⟩, ⟨by (with_reducible repeat (first | apply Kd.qF | apply Kd.qE | apply Kd.qH)); exact HO_11.out⟩, ⟨bl⟩⟩
        ·rw [if_neg c12] at H
         have c12b0 : (t125.toList == ([] : List UInt8)) = false := beq_eq_false_iff_ne.mpr c12
         have c12b1 : (t125.toList != ([] : List UInt8)) = true := bne_iff_ne.mpr c12
         simp only [Option.some.injEq, Prod.mk.injEq] at H
         obtain ⟨rfl, rfl⟩ := H
         have p124 : 0 ≤ (x18_1 : Int) := of_decide_eq_true (by first | (with_reducible assumption) | assumption)
         have q124 : x18_1 < (t120.length : Int) := of_decide_eq_true (by first | (with_reducible assumption) | assumption)
         obtain ⟨ad124, e124, hx124_0⟩ := Kd.qpA (Kd.qh HO_11.out).2.2 x18_1 p124 q124
         obtain rfl : ad123 = ad124 := (by injection e124)
         replace p124 := eq_true p124
         replace q124 := eq_true q124
         go_wp2_with (first | (go_at_call 102; (with_reducible refine (qYA.calls (rdOf ByteArray.empty t120 x18_1) a1 t125 _ A11.out).mono ?_); rintro e w14 ⟨rfl, hb⟩; have n0_ := Aside0.mk (Kd.qc (by (with_reducible repeat (first | apply Kd.qF | apply Kd.qE | apply Kd.qH)); exact HO_11.out) hb); have n1_ := Aside0.mk (qG bl hb); clear HO_11; clear HB; have HO_11 := n0_; have HB := n1_; clear n0_ n1_; (try clear hb); (try clear hb2); (try clear hk); (try clear hi)))
         go_ret2
         exact ⟨_, by first | rfl | (simp [qJ, qI] <;> rfl) | (simp [*, qJ, qI] <;> rfl), by first | exact Kd.R_nil _ _ _ _ _ | exact Kd.N_nil _ _ _ _ _ | exact Kd.V_nil _ _ _ _ _ | exact Kd.Q_nil _ _ _ _ _ | exact Kd.S_nil _ _ _ _ _, bl⟩
       ·rw [if_neg c10] at H
        have c10b0 : (((rdOf ByteArray.empty t120 x18_1).size : Int) == ((rdOf ByteArray.empty t120 0).size : Int)) = false := beq_eq_false_iff_ne.mpr c10
        have c10b1 : (((rdOf ByteArray.empty t120 x18_1).size : Int) != ((rdOf ByteArray.empty t120 0).size : Int)) = true := bne_iff_ne.mpr c10
        have c10b2 : ((rdOf ByteArray.empty t120 x18_1).size == (rdOf ByteArray.empty t120 0).size) = false := by first | simpa using c10 | (simp at c10 ⊢; omega)
        simp only [Option.some.injEq, Prod.mk.injEq] at H
        obtain ⟨rfl, rfl⟩ := H
        have p124 : 0 ≤ (x18_1 : Int) := of_decide_eq_true (by first | (with_reducible assumption) | assumption)
        have q124 : x18_1 < (t120.length : Int) := of_decide_eq_true (by first | (with_reducible assumption) | assumption)
        obtain ⟨ad124, e124, hx124_0⟩ := Kd.qpA (Kd.qh HO_11.out).2.2 x18_1 p124 q124
        obtain rfl : ad123 = ad124 := (by injection e124)
        replace p124 := eq_true p124
        replace q124 := eq_true q124
        go_wp2
        go_ret2
        exact ⟨_, by first | rfl | (simp [qJ, qI] <;> rfl) | (simp [*, qJ, qI] <;> rfl), by first | exact Kd.R_nil _ _ _ _ _ | exact Kd.N_nil _ _ _ _ _ | exact Kd.V_nil _ _ _ _ _ | exact Kd.Q_nil _ _ _ _ _ | exact Kd.S_nil _ _ _ _ _, bl⟩
      ·rw [if_neg c9] at H
       exact absurd H (by simp)
     ·rw [if_neg c8] at H
      exact absurd H (by simp)
    ·rw [if_neg c7] at H
     have c7b0 : decide (x18_1 < (t120.length : Int)) = false := decide_eq_false c7
     clear c7
     replace H := Option.bind_eq_some_iff.mp H
     obtain ⟨t126, A150, H⟩ := H
     replace H : (if t126 = true then ((qMA.f ((rdOf ByteArray.empty t120 0).size : Int) 1 7).bind fun t127 => (if t127 = true then (some (t120, decide ((wrap64 (((rdOf ByteArray.empty t120 0).size : Int) * (t120.length : Int))) ≤ 36))) else (some (t120, false)))) else (some (t120, false))) = some (r1, r2) := H
     have A15 := Aside0.mk A150
     clear A150
     by_cases c16 : t126 = true
     ·subst c16
      have H1 : ((qMA.f ((rdOf ByteArray.empty t120 0).size : Int) 1 7).bind fun t127 => (if t127 = true then (some (t120, decide ((wrap64 (((rdOf ByteArray.empty t120 0).size : Int) * (t120.length : Int))) ≤ 36))) else (some (t120, false)))) = some (r1, r2) := by rw [if_pos rfl] at H; exact H
      clear H
      have H := H1
      clear H1
      replace H := Option.bind_eq_some_iff.mp H
      obtain ⟨t127, A170, H⟩ := H
      replace H : (if t127 = true then (some (t120, decide ((wrap64 (((rdOf ByteArray.empty t120 0).size : Int) * (t120.length : Int))) ≤ 36))) else (some (t120, false))) = some (r1, r2) := H
      have A17 := Aside0.mk A170
      clear A170
      by_cases c18 : t127 = true
      ·subst c18
       have H1 : (some (t120, decide ((wrap64 (((rdOf ByteArray.empty t120 0).size : Int) * (t120.length : Int))) ≤ 36))) = some (r1, r2) := by rw [if_pos rfl] at H; exact H
       clear H
       have H := H1
       clear H1
       simp only [Option.some.injEq, Prod.mk.injEq] at H
       obtain ⟨rfl, rfl⟩ := H
       go_wp2_with (first | ((with_reducible refine qa (f := 82) rfl ?_); refine qr (some 36) rfl rfl Tryd.func82 (by kernel_rfl) rfl #[.int .i64 (t120.length : Int), .int .i64 1, .int .i64 7] rfl (by (try simp only [List.map_toArray, List.map_cons, List.map_nil]); first | done | rfl | (simp only [List.length_drop, List.length_take]; rfl)) ?_; (with_reducible refine (qMA.calls (t120.length : Int) 1 7 true _ A15.out).mono ?_); rintro e w' ⟨rfl, ⟨nd, rfl⟩⟩; refine ⟨_, rfl, ?_⟩) | (go_at_call 82; (with_reducible refine (qMA.calls ((rdOf ByteArray.empty t120 0).size : Int) 1 7 true _ A17.out).mono ?_); rintro e w' ⟨rfl, ⟨nd, rfl⟩⟩))
       go_ret2
       exact ⟨_, by first | rfl | (simp [qJ, qI] <;> rfl) | (simp [*, qJ, qI] <;> rfl), by (with_reducible repeat (first | apply Kd.qF | apply Kd.qE | apply Kd.qH)); exact HO_11.out, bl⟩
      ·replace c18 := Bool.eq_false_iff.mpr c18
       subst c18
       have H1 : (some (t120, false)) = some (r1, r2) := by rw [if_neg (show ¬ (false = true) by decide)] at H; exact H
       clear H
       have H := H1
       clear H1
       simp only [Option.some.injEq, Prod.mk.injEq] at H
       obtain ⟨rfl, rfl⟩ := H
       go_wp2_with (first | ((with_reducible refine qa (f := 82) rfl ?_); refine qr (some 36) rfl rfl Tryd.func82 (by kernel_rfl) rfl #[.int .i64 (t120.length : Int), .int .i64 1, .int .i64 7] rfl (by (try simp only [List.map_toArray, List.map_cons, List.map_nil]); first | done | rfl | (simp only [List.length_drop, List.length_take]; rfl)) ?_; (with_reducible refine (qMA.calls (t120.length : Int) 1 7 true _ A15.out).mono ?_); rintro e w' ⟨rfl, ⟨nd, rfl⟩⟩; refine ⟨_, rfl, ?_⟩) | (go_at_call 82; (with_reducible refine (qMA.calls ((rdOf ByteArray.empty t120 0).size : Int) 1 7 false _ A17.out).mono ?_); rintro e w' ⟨rfl, ⟨nd, rfl⟩⟩))
       go_ret2
       exact ⟨_, by first | rfl | (simp [qJ, qI] <;> rfl) | (simp [*, qJ, qI] <;> rfl), by (with_reducible repeat (first | apply Kd.qF | apply Kd.qE | apply Kd.qH)); exact HO_11.out, bl⟩
     ·replace c16 := Bool.eq_false_iff.mpr c16
      subst c16
      have H1 : (some (t120, false)) = some (r1, r2) := by rw [if_neg (show ¬ (false = true) by decide)] at H; exact H
      clear H
      have H := H1
      clear H1
      simp only [Option.some.injEq, Prod.mk.injEq] at H
      obtain ⟨rfl, rfl⟩ := H
      go_wp2_with (first | ((with_reducible refine qa (f := 82) rfl ?_); refine qr (some 36) rfl rfl Tryd.func82 (by kernel_rfl) rfl #[.int .i64 (t120.length : Int), .int .i64 1, .int .i64 7] rfl (by (try simp only [List.map_toArray, List.map_cons, List.map_nil]); first | done | rfl | (simp only [List.length_drop, List.length_take]; rfl)) ?_; (with_reducible refine (qMA.calls (t120.length : Int) 1 7 false _ A15.out).mono ?_); rintro e w' ⟨rfl, ⟨nd, rfl⟩⟩; refine ⟨_, rfl, ?_⟩))
      go_ret2
      exact ⟨_, by first | rfl | (simp [qJ, qI] <;> rfl) | (simp [*, qJ, qI] <;> rfl), by (with_reducible repeat (first | apply Kd.qF | apply Kd.qE | apply Kd.qH)); exact HO_11.out, bl⟩
 ·rw [if_neg c4] at H
  exact absurd H (by simp)
end Go.Proofs.YtbpfhpjbeomfcaaDoor.P
namespace Go.Proofs.YtbpfhpjbeomfcaaDoor
open Go.RowKit Go.Proofs.YtbpfhpjbeomfcaaDoorW.PrintWords Go.Proofs.YtbpfhpjbeomfcaaDoorW.PrintLast
set_option linter.unusedVariables false
set_option linter.unusedSimpArgs false
def qPA.f (a0 a1 : ByteArray) : Option Int := match a1.data.toList with | [c] => some (Lib.countByte a0.data.toList c) | _ => none
theorem qPA.calls (a0 a1 : ByteArray) (r : Int) (w : World) (h : qPA.f a0 a1 = some r) :
  Calls Tryd.prog 78 #[.string a0, .string a1] w fun e w' => e = .returned (.int .i64 r) ∧ Drawn0 w w' := by
 unfold qPA.f at h
 split at h
 ·rename_i c hc
  obtain rfl := Option.some.inj h
  obtain ⟨⟨l⟩⟩ := a1
  obtain rfl : l = [c] := hc
  exact (Tryd.strings_Count_one a0 c w).mono fun e w' ⟨h1, h2⟩ => ⟨h1, by rw [h2]; exact Drawn0.refl w⟩
 ·cases h
end Go.Proofs.YtbpfhpjbeomfcaaDoor
namespace Go.Proofs.YtbpfhpjbeomfcaaDoor.P
open Go.RowKit Go.Proofs.YtbpfhpjbeomfcaaDoorW.PrintWords Go.Proofs.YtbpfhpjbeomfcaaDoorW.PrintLast Go.Proofs.YtbpfhpjbeomfcaaDoorW.PrintMore
attribute [local go_sem] qy qw qFA qEA qn qm qx qv
set_option linter.unusedVariables false
set_option linter.unusedSimpArgs false
def qfA.f (k : Nat) (a0 : ByteArray) : Option (List ByteArray × Bool) := (qz.f k a0 (⟨#[46, 35, 45, 111]⟩ : ByteArray)).bind fun bt128 => (if bt128.2 = true then ((qPA.f a0 (⟨#[111]⟩ : ByteArray)).bind fun t132 => (some (bt128.1, decide (t132 ≤ 1)))) else (some (bt128.1, false)))
set_option maxHeartbeats 8000000 in
set_option maxRecDepth 100000 in
theorem qfA.calls (k : Nat) (a0 : ByteArray) (r1 : List ByteArray) (r2 : Bool) (w : World) (hL : Laid w) (h : qfA.f k a0 = some (r1, r2)) :
  Calls Tryd.prog 54 #[.string a0] w fun e w' => ∃ v0_ : Value, e = .returned (.tuple #[v0_, .bool r2]) ∧ Kd.R Kd.string 9 w' w.heap.size (fun _ => True) v0_ r1 ∧ Below w.heap.size w w' := by
 have HLD := Aside0.mk hL
 clear hL
 have HB := Aside0.mk (Below.refl w.heap.size w)
 have H : ((qz.f k a0 (⟨#[46, 35, 45, 111]⟩ : ByteArray)).bind fun bt128 => (if bt128.2 = true then ((qPA.f a0 (⟨#[111]⟩ : ByteArray)).bind fun t132 => (some (bt128.1, decide (t132 ≤ 1)))) else (some (bt128.1, false)))) = some (r1, r2) := h
 clear h
 replace H := Option.bind_eq_some_iff.mp H
 obtain ⟨⟨t128, t129⟩, A20, H⟩ := H
 replace H : (if t129 = true then ((qPA.f a0 (⟨#[111]⟩ : ByteArray)).bind fun t132 => (some (t128, decide (t132 ≤ 1)))) else (some (t128, false))) = some (r1, r2) := H
 have A2 := Aside0.mk A20
 clear A20
 by_cases c3 : t129 = true
 ·subst c3
  have H1 : ((qPA.f a0 (⟨#[111]⟩ : ByteArray)).bind fun t132 => (some (t128, decide (t132 ≤ 1)))) = some (r1, r2) := by rw [if_pos rfl] at H; exact H
  clear H
  have H := H1
  clear H1
  replace H := Option.bind_eq_some_iff.mp H
  obtain ⟨t132, A40, H⟩ := H
  replace H : (some (t128, decide (t132 ≤ 1))) = some (r1, r2) := H
  have A4 := Aside0.mk A40
  clear A40
  simp only [Option.some.injEq, Prod.mk.injEq] at H
  obtain ⟨rfl, rfl⟩ := H
  go_enter Tryd.func54, Tryd.ntmps54
  go_wp2_with (first | ((with_reducible refine qa (f := 77) rfl ?_); refine qr (some 8) rfl rfl Tryd.func77 (by kernel_rfl) rfl #[.string a0, .string (⟨#[46, 35, 45, 111]⟩ : ByteArray)] rfl (by (try simp only [List.map_toArray, List.map_cons, List.map_nil]); first | done | rfl | (simp only [List.length_drop, List.length_take]; rfl)) ?_; (with_reducible refine (qz.calls k a0 (⟨#[46, 35, 45, 111]⟩ : ByteArray) t128 true _ ?side1 A2.out).mono ?_); (case side1 => first | exact HLD.out | exact Laid.below HLD.out (by repeat (first | (with_reducible first | exact HB.out | apply qj | apply qk | apply qi | refine qWA ?_ (Aside0.out (by with_reducible assumption))) | exact HB.out))); rintro e w5 ⟨v130, rfl, ho0, hb⟩; refine ⟨_, rfl, ?_⟩; have n0_ := Aside0.mk (Kd.qu ho0 (qe bl)); have n1_ := Aside0.mk (qG bl hb); clear HB; have HO131 := n0_; have HB := n1_; clear n0_ n1_; (try clear hb); (try clear hb2); (try clear hk); (try clear hi); (try clear ho0)) | (go_at_call 78; (with_reducible refine (qPA.calls a0 (⟨#[111]⟩ : ByteArray) t132 _ A4.out).mono ?_); rintro e w' ⟨rfl, ⟨nd, rfl⟩⟩))
  go_ret2
  exact ⟨_, by first | rfl | (simp [qJ, qI] <;> rfl) | (simp [*, qJ, qI] <;> rfl), by (with_reducible repeat (first | apply Kd.qF | apply Kd.qE | apply Kd.qH)); exact HO131.out, bl⟩
 ·replace c3 := Bool.eq_false_iff.mpr c3
  subst c3
  have H1 : (some (t128, false)) = some (r1, r2) := by rw [if_neg (show ¬ (false = true) by decide)] at H; exact H
  clear H
  have H := H1
  clear H1
  simp only [Option.some.injEq, Prod.mk.injEq] at H
  obtain ⟨rfl, rfl⟩ := H
  go_enter Tryd.func54, Tryd.ntmps54
  go_wp2_with (first | ((with_reducible refine qa (f := 77) rfl ?_); refine qr (some 8) rfl rfl Tryd.func77 (by kernel_rfl) rfl #[.string a0, .string (⟨#[46, 35, 45, 111]⟩ : ByteArray)] rfl (by (try simp only [List.map_toArray, List.map_cons, List.map_nil]); first | done | rfl | (simp only [List.length_drop, List.length_take]; rfl)) ?_; (with_reducible refine (qz.calls k a0 (⟨#[46, 35, 45, 111]⟩ : ByteArray) t128 false _ ?side1 A2.out).mono ?_); (case side1 => first | exact HLD.out | exact Laid.below HLD.out (by repeat (first | (with_reducible first | exact HB.out | apply qj | apply qk | apply qi | refine qWA ?_ (Aside0.out (by with_reducible assumption))) | exact HB.out))); rintro e w6 ⟨v130, rfl, ho0, hb⟩; refine ⟨_, rfl, ?_⟩; have n0_ := Aside0.mk (Kd.qu ho0 (qe bl)); have n1_ := Aside0.mk (qG bl hb); clear HB; have HO131 := n0_; have HB := n1_; clear n0_ n1_; (try clear hb); (try clear hb2); (try clear hk); (try clear hi); (try clear ho0)))
  go_ret2
  exact ⟨_, by first | rfl | (simp [qJ, qI] <;> rfl) | (simp [*, qJ, qI] <;> rfl), by (with_reducible repeat (first | apply Kd.qF | apply Kd.qE | apply Kd.qH)); exact HO131.out, bl⟩
def qq.f (l0 : List ByteArray) (a1 : Int) (a2 : Int) : Option (Bool) := (qMA.f a2 0 (wrap64 ((l0.length : Int) - 1))).bind fun t187 => (if t187 = true then (if 0 < (l0.length : Int) then ((qMA.f a1 0 (wrap64 (((rdOf ByteArray.empty l0 0).size : Int) - 1))).bind fun t189 => (some t189)) else (none)) else (some false))
set_option maxHeartbeats 8000000 in
set_option maxRecDepth 100000 in
theorem qq.calls (A0 : Option Addr) (c0 : Nat) (l0 : List ByteArray) (a1 : Int) (a2 : Int) (r : Bool) (w : World) (hr0 : Kd.C Kd.string w A0 l0.length l0) (hc0 : l0.length ≤ c0) (h : qq.f l0 a1 a2 = some r) :
  Calls Tryd.prog 83 #[.slice A0 l0.length c0, .int .i64 a1, .int .i64 a2] w fun e w' => e = .returned (.bool r) ∧ Drawn0 w w' := by
 have HR0 := Aside0.mk hr0
 have HC0 := Aside0.mk hc0
 clear hr0 hc0
 have H : ((qMA.f a2 0 (wrap64 ((l0.length : Int) - 1))).bind fun t187 => (if t187 = true then (if 0 < (l0.length : Int) then ((qMA.f a1 0 (wrap64 (((rdOf ByteArray.empty l0 0).size : Int) - 1))).bind fun t189 => (some t189)) else (none)) else (some false))) = some r := h
 clear h
 replace H := Option.bind_eq_some_iff.mp H
 obtain ⟨t187, A40, H⟩ := H
 replace H : (if t187 = true then (if 0 < (l0.length : Int) then ((qMA.f a1 0 (wrap64 (((rdOf ByteArray.empty l0 0).size : Int) - 1))).bind fun t189 => (some t189)) else (none)) else (some false)) = some r := H
 have A4 := Aside0.mk A40
 clear A40
 by_cases c5 : t187 = true
 ·subst c5
  have H1 : (if 0 < (l0.length : Int) then ((qMA.f a1 0 (wrap64 (((rdOf ByteArray.empty l0 0).size : Int) - 1))).bind fun t189 => (some t189)) else (none)) = some r := by rw [if_pos rfl] at H; exact H
  clear H
  have H := H1
  clear H1
  by_cases c6 : 0 < (l0.length : Int)
  ·rw [if_pos c6] at H
   have c6b0 : decide (0 < (l0.length : Int)) = true := decide_eq_true c6
   have c6b1 : decide (0 < l0.length) = true := decide_eq_true (by omega)
   clear c6
   replace H := Option.bind_eq_some_iff.mp H
   obtain ⟨t189, A70, H⟩ := H
   replace H : (some t189) = some r := H
   have A7 := Aside0.mk A70
   clear A70
   obtain rfl := Option.some.inj H
   go_enter Tryd.func83, Tryd.ntmps83
   go_wp2_with (first | ((with_reducible refine qa (f := 82) rfl ?_); refine qr (some 11) rfl rfl Tryd.func82 (by kernel_rfl) rfl #[.int .i64 a2, .int .i64 0, .int .i64 (wrap64 ((l0.length : Int) - 1))] rfl (by (try simp only [List.map_toArray, List.map_cons, List.map_nil]); first | done | rfl | (simp only [List.length_drop, List.length_take]; rfl)) ?_; (with_reducible refine (qMA.calls a2 0 (wrap64 ((l0.length : Int) - 1)) true _ A4.out).mono ?_); rintro e w' ⟨rfl, ⟨nd, rfl⟩⟩; refine ⟨_, rfl, ?_⟩; have p188 : 0 ≤ (0 : Int) := (by omega); have q188 : 0 < (l0.length : Int) := of_decide_eq_true (by first | (with_reducible assumption) | assumption); obtain ⟨ad188, e188, hx188_0⟩ := Kd.qpA HR0.out 0 p188 q188; cases e188; have qi188 : (0 < l0.length) = True := eq_true (by omega); (try rw [show ((0 : Int)).toNat = 0 from rfl] at hx188_0); (try rw [Addr.add_zero'] at hx188_0); replace p188 := eq_true p188; replace q188 := eq_true q188) | (go_at_call 82; (with_reducible refine (qMA.calls a1 0 (wrap64 (((rdOf ByteArray.empty l0 0).size : Int) - 1)) t189 _ A7.out).mono ?_); rintro e w' ⟨rfl, ⟨nd, rfl⟩⟩))
   go_ret
   exact ⟨by first | rfl | (simp; done) | (simp [*]; done), by repeat (first | exact Drawn0.refl _ | apply Drawn0.step)⟩
  ·rw [if_neg c6] at H
   exact absurd H (by simp)
 ·replace c5 := Bool.eq_false_iff.mpr c5
  subst c5
  have H1 : (some false) = some r := by rw [if_neg (show ¬ (false = true) by decide)] at H; exact H
  clear H
  have H := H1
  clear H1
  obtain rfl := Option.some.inj H
  go_enter Tryd.func83, Tryd.ntmps83
  go_wp2_with (first | ((with_reducible refine qa (f := 82) rfl ?_); refine qr (some 11) rfl rfl Tryd.func82 (by kernel_rfl) rfl #[.int .i64 a2, .int .i64 0, .int .i64 (wrap64 ((l0.length : Int) - 1))] rfl (by (try simp only [List.map_toArray, List.map_cons, List.map_nil]); first | done | rfl | (simp only [List.length_drop, List.length_take]; rfl)) ?_; (with_reducible refine (qMA.calls a2 0 (wrap64 ((l0.length : Int) - 1)) false _ A4.out).mono ?_); rintro e w' ⟨rfl, ⟨nd, rfl⟩⟩; refine ⟨_, rfl, ?_⟩))
  go_ret
  exact ⟨by first | rfl | (simp; done) | (simp [*]; done), by repeat (first | exact Drawn0.refl _ | apply Drawn0.step)⟩
def qKA.f (l0 : List ByteArray) (a1 : Int) (a2 : Int) : Option (Int) := (qq.f l0 a1 a2).bind fun t190 => (if t190 = true then (if 0 ≤ a2 then (if a2 < (l0.length : Int) then (if 0 ≤ a1 then (if a1 < ((rdOf ByteArray.empty l0 a2).size : Int) then (some (bt (rdOf ByteArray.empty l0 a2) a1)) else (none)) else (none)) else (none)) else (none)) else (some 0))
set_option maxHeartbeats 8000000 in
set_option maxRecDepth 100000 in
theorem qKA.calls (A0 : Option Addr) (c0 : Nat) (l0 : List ByteArray) (a1 : Int) (a2 : Int) (r : Int) (w : World) (hr0 : Kd.C Kd.string w A0 l0.length l0) (hc0 : l0.length ≤ c0) (h : qKA.f l0 a1 a2 = some r) :
  Calls Tryd.prog 71 #[.slice A0 l0.length c0, .int .i64 a1, .int .i64 a2] w fun e w' => e = .returned (.int .u8 r) ∧ Drawn0 w w' := by
 have HR0 := Aside0.mk hr0
 have HC0 := Aside0.mk hc0
 clear hr0 hc0
 have H : ((qq.f l0 a1 a2).bind fun t190 => (if t190 = true then (if 0 ≤ a2 then (if a2 < (l0.length : Int) then (if 0 ≤ a1 then (if a1 < ((rdOf ByteArray.empty l0 a2).size : Int) then (some (bt (rdOf ByteArray.empty l0 a2) a1)) else (none)) else (none)) else (none)) else (none)) else (some 0))) = some r := h
 clear h
 replace H := Option.bind_eq_some_iff.mp H
 obtain ⟨t190, A40, H⟩ := H
 replace H : (if t190 = true then (if 0 ≤ a2 then (if a2 < (l0.length : Int) then (if 0 ≤ a1 then (if a1 < ((rdOf ByteArray.empty l0 a2).size : Int) then (some (bt (rdOf ByteArray.empty l0 a2) a1)) else (none)) else (none)) else (none)) else (none)) else (some 0)) = some r := H
 have A4 := Aside0.mk A40
 clear A40
 by_cases c5 : t190 = true
 ·subst c5
  have H1 : (if 0 ≤ a2 then (if a2 < (l0.length : Int) then (if 0 ≤ a1 then (if a1 < ((rdOf ByteArray.empty l0 a2).size : Int) then (some (bt (rdOf ByteArray.empty l0 a2) a1)) else (none)) else (none)) else (none)) else (none)) = some r := by rw [if_pos rfl] at H; exact H
  clear H
  have H := H1
  clear H1
  by_cases c6 : 0 ≤ a2
  ·rw [if_pos c6] at H
   have c6b0 : decide (0 ≤ a2) = true := decide_eq_true c6
   clear c6
   by_cases c7 : a2 < (l0.length : Int)
   ·rw [if_pos c7] at H
    have c7b0 : decide (a2 < (l0.length : Int)) = true := decide_eq_true c7
    clear c7
    by_cases c8 : 0 ≤ a1
    ·rw [if_pos c8] at H
     have c8b0 : decide (0 ≤ a1) = true := decide_eq_true c8
     clear c8
     by_cases c9 : a1 < ((rdOf ByteArray.empty l0 a2).size : Int)
     ·rw [if_pos c9] at H
      have c9b0 : decide (a1 < ((rdOf ByteArray.empty l0 a2).size : Int)) = true := decide_eq_true c9
      clear c9
      obtain rfl := Option.some.inj H
      go_enter Tryd.func71, Tryd.ntmps71
      go_wp2_with (first | ((with_reducible refine qa (f := 83) rfl ?_); refine qr (some 10) rfl rfl Tryd.func83 (by kernel_rfl) rfl #[.slice A0 l0.length c0, .int .i64 a1, .int .i64 a2] rfl (by (try simp only [List.map_toArray, List.map_cons, List.map_nil]); first | done | rfl | (simp only [List.length_drop, List.length_take]; rfl)) ?_; (with_reducible refine (qq.calls _ _ l0 a1 a2 true _ ?side1 ?side2 A4.out).mono ?_); (case side1 => repeat (first | exact HR0.out | (with_reducible refine Kd.qIA ?_ _) | (with_reducible refine Kd.qHA ?_ _) | (with_reducible refine Kd.qSA ?_))); (case side2 => exact HC0.out); rintro e w' ⟨rfl, ⟨nd, rfl⟩⟩; refine ⟨_, rfl, ?_⟩; have p191 : 0 ≤ (a2 : Int) := of_decide_eq_true (by first | (with_reducible assumption) | assumption); have q191 : a2 < (l0.length : Int) := of_decide_eq_true (by first | (with_reducible assumption) | assumption); obtain ⟨ad191, e191, hx191_0⟩ := Kd.qpA HR0.out a2 p191 q191; cases e191; replace p191 := eq_true p191; replace q191 := eq_true q191; have p10 : 0 ≤ (a1 : Int) := of_decide_eq_true (by first | (with_reducible assumption) | assumption); have q10 : a1 < ((rdOf ByteArray.empty l0 a2).size : Int) := of_decide_eq_true (by first | (with_reducible assumption) | assumption); have hx10 := bt_at (rdOf ByteArray.empty l0 a2) a1; replace p10 := eq_true p10; replace q10 := eq_true q10))
      go_ret
      exact ⟨by first | rfl | (simp; done) | (simp [*]; done), by repeat (first | exact Drawn0.refl _ | apply Drawn0.step)⟩
     ·rw [if_neg c9] at H
      exact absurd H (by simp)
    ·rw [if_neg c8] at H
     exact absurd H (by simp)
   ·rw [if_neg c7] at H
    exact absurd H (by simp)
  ·rw [if_neg c6] at H
   exact absurd H (by simp)
 ·replace c5 := Bool.eq_false_iff.mpr c5
  subst c5
  have H1 : (some 0) = some r := by rw [if_neg (show ¬ (false = true) by decide)] at H; exact H
  clear H
  have H := H1
  clear H1
  obtain rfl := Option.some.inj H
  go_enter Tryd.func71, Tryd.ntmps71
  go_wp2_with (first | ((with_reducible refine qa (f := 83) rfl ?_); refine qr (some 10) rfl rfl Tryd.func83 (by kernel_rfl) rfl #[.slice A0 l0.length c0, .int .i64 a1, .int .i64 a2] rfl (by (try simp only [List.map_toArray, List.map_cons, List.map_nil]); first | done | rfl | (simp only [List.length_drop, List.length_take]; rfl)) ?_; (with_reducible refine (qq.calls _ _ l0 a1 a2 false _ ?side1 ?side2 A4.out).mono ?_); (case side1 => repeat (first | exact HR0.out | (with_reducible refine Kd.qIA ?_ _) | (with_reducible refine Kd.qHA ?_ _) | (with_reducible refine Kd.qSA ?_))); (case side2 => exact HC0.out); rintro e w' ⟨rfl, ⟨nd, rfl⟩⟩; refine ⟨_, rfl, ?_⟩))
  go_ret
  exact ⟨by first | rfl | (simp; done) | (simp [*]; done), by repeat (first | exact Drawn0.refl _ | apply Drawn0.step)⟩
def qbA.f (a0_0 : Int) (a0_1 : Int) (a0_2 : Int) : Option ((List (S96))) := if a0_2 = 1 then (some (([(⟨a0_0, a0_1⟩ : S96), (⟨wrap64 (a0_0 + 1), a0_1⟩ : S96)] : List (S96)))) else (if a0_2 = 2 then (some (([(⟨a0_0, a0_1⟩ : S96), (⟨a0_0, wrap64 (a0_1 + 1)⟩ : S96)] : List (S96)))) else (some (([(⟨a0_0, a0_1⟩ : S96)] : List (S96)))))
set_option maxHeartbeats 8000000 in
set_option maxRecDepth 100000 in
theorem qbA.calls (a0_0 : Int) (a0_1 : Int) (a0_2 : Int) (r : List (S96)) (w : World) (h : qbA.f a0_0 a0_1 a0_2 = some r) :
  Calls Tryd.prog 85 #[.agg #[.int .i64 a0_0, .int .i64 a0_1, .int .i64 a0_2]] w fun e w' => ∃ v0_ : Value, e = .returned (v0_) ∧ Kd.R k96 96 w' w.heap.size (fun _ => True) v0_ r ∧ Below w.heap.size w w' := by
 have hu27 := Tryd.underlying27
 have hu96 := Tryd.underlying96
 have HB := Aside0.mk (Below.refl w.heap.size w)
 have H : (if a0_2 = 1 then (some (([(⟨a0_0, a0_1⟩ : S96), (⟨wrap64 (a0_0 + 1), a0_1⟩ : S96)] : List (S96)))) else (if a0_2 = 2 then (some (([(⟨a0_0, a0_1⟩ : S96), (⟨a0_0, wrap64 (a0_1 + 1)⟩ : S96)] : List (S96)))) else (some (([(⟨a0_0, a0_1⟩ : S96)] : List (S96)))))) = some r := h
 clear h
 by_cases c2 : a0_2 = 1
 ·rw [if_pos c2] at H
  have c2b0 : (a0_2 == 1) = true := beq_iff_eq.mpr c2
  have c2b1 : (a0_2 != 1) = false := bne_eq_false_iff_eq.mpr c2
  clear c2
  obtain ⟨y193, hy193⟩ : ∃ y_ : List (S96), y_ = (([(⟨a0_0, a0_1⟩ : S96), (⟨wrap64 (a0_0 + 1), a0_1⟩ : S96)] : List (S96))) := ⟨_, rfl⟩
  replace H : (some y193) = some r := by first | (rw [hy193]; with_reducible exact H) | (have H2_ := (Option.bind_some _ _).symm.trans H; rw [hy193]; with_reducible exact H2_) | (have H2_ := (Option.bind_some _ _).symm.trans H; with_reducible exact H2_) | with_reducible exact H | (rw [hy193]; exact H) | exact H
  have Ny193 := Aside0.mk hy193
  clear hy193
  obtain rfl := Option.some.inj H
  go_enter Tryd.func85, Tryd.ntmps85
  go_wp2_with (first | ((with_reducible refine qb (N := 1) rfl ?_); refine qZ ?hg (N := 1) ?hd (cs := #[.int .i64 a0_0, .int .i64 a0_1, .int .i64 a0_2]) (t := 27) ?hr ?_; (case hd => rfl); (case hg => rfl); (case hr => first | (go_simp; done) | (go_simp; rfl)); intro gb192 hg w3 hbox hb; have n0_ := Aside0.mk (qG bl hb); have n1_ := Aside0.mk (hbox); have n2_ := Aside0.mk ((gg hg)); have n3_ := Aside0.mk ((gg hg)); clear HB; have HB := n0_; have BK192 := n1_; have GW192 := n2_; have GE192 := n3_; clear n0_ n1_ n2_ n3_; clear hb hbox hg; have hcz4_0 := bc BK192 0; have hcz4_1 := bc BK192 1; have hcz4_2 := bc BK192 2; have hfz4_0 := qC BK192.out 0; have hfz4_1 := qC BK192.out 1; have hfz4_2 := qC BK192.out 2) | ((with_reducible refine qb (N := 18) rfl ?_); refine Kd.R_lit k96 _ 96 ?hg (N := 18) ?hd (xs := ([(⟨a0_0, a0_1⟩ : S96), (⟨wrap64 (a0_0 + 1), a0_1⟩ : S96)] : List (S96))) (inner := [.int .i64 a0_0, .int .i64 a0_1, .int .i64 (wrap64 (a0_0 + 1)), .int .i64 a0_1]) (ok := fun _ => True) (okp := fun _ => True) ?hr ?hp (fun _ hk => hk) trivial (Below.refl _ _) (Nat.le_refl _) (by simp) ?_; (case hd => rfl); (case hg => rfl); (case hr => first | (go_simp; done) | (go_simp; rfl)); (case hp => exact (Reps.c2 (show Kd.M k96 _ _ _ (⟨a0_0, a0_1⟩ : S96) [.int .i64 a0_0, .int .i64 a0_1] from (qgB _ _ _ (⟨a0_0, a0_1⟩ : S96) )) (Reps.c2 (show Kd.M k96 _ _ _ (⟨wrap64 (a0_0 + 1), a0_1⟩ : S96) [.int .i64 (wrap64 (a0_0 + 1)), .int .i64 a0_1] from (qgB _ _ _ (⟨wrap64 (a0_0 + 1), a0_1⟩ : S96) )) (Reps.none _ _)))); intro v194 w5 ho6 hb hg_ hnew_; clear hg_ hnew_; (first | rw [← Ny193.out] at ho6 | (simp only [Int.reduceToNat] at ho6; rw [← Ny193.out] at ho6)); have n0_ := Aside0.mk (Kd.qu ho6 (qe bl)); have n1_ := Aside0.mk (bb BK192 hb); have n2_ := Aside0.mk (qG bl hb); clear BK192; clear HB; have HO195 := n0_; have BK192 := n1_; have HB := n2_; clear n0_ n1_ n2_; clear hb ho6))
  go_ret
  exact ⟨_, by first | rfl | (simp [qJ, qI] <;> rfl) | (simp [*, qJ, qI] <;> rfl), by (with_reducible repeat (first | apply Kd.qF | apply Kd.qE | apply Kd.qH)); exact HO195.out, bl⟩
 ·rw [if_neg c2] at H
  have c2b0 : (a0_2 == 1) = false := beq_eq_false_iff_ne.mpr c2
  have c2b1 : (a0_2 != 1) = true := bne_iff_ne.mpr c2
  by_cases c7 : a0_2 = 2
  ·rw [if_pos c7] at H
   have c7b0 : (a0_2 == 2) = true := beq_iff_eq.mpr c7
   have c7b1 : (a0_2 != 2) = false := bne_eq_false_iff_eq.mpr c7
   clear c7
   obtain ⟨y196, hy196⟩ : ∃ y_ : List (S96), y_ = (([(⟨a0_0, a0_1⟩ : S96), (⟨a0_0, wrap64 (a0_1 + 1)⟩ : S96)] : List (S96))) := ⟨_, rfl⟩
   replace H : (some y196) = some r := by first | (rw [hy196]; with_reducible exact H) | (have H2_ := (Option.bind_some _ _).symm.trans H; rw [hy196]; with_reducible exact H2_) | (have H2_ := (Option.bind_some _ _).symm.trans H; with_reducible exact H2_) | with_reducible exact H | (rw [hy196]; exact H) | exact H
   have Ny196 := Aside0.mk hy196
   clear hy196
   obtain rfl := Option.some.inj H
   go_enter Tryd.func85, Tryd.ntmps85
   go_wp2_with (first | ((with_reducible refine qb (N := 1) rfl ?_); refine qZ ?hg (N := 1) ?hd (cs := #[.int .i64 a0_0, .int .i64 a0_1, .int .i64 a0_2]) (t := 27) ?hr ?_; (case hd => rfl); (case hg => rfl); (case hr => first | (go_simp; done) | (go_simp; rfl)); intro gb192 hg w8 hbox hb; have n0_ := Aside0.mk (qG bl hb); have n1_ := Aside0.mk (hbox); have n2_ := Aside0.mk ((gg hg)); have n3_ := Aside0.mk ((gg hg)); clear HB; have HB := n0_; have BK192 := n1_; have GW192 := n2_; have GE192 := n3_; clear n0_ n1_ n2_ n3_; clear hb hbox hg; have hcz9_0 := bc BK192 0; have hcz9_1 := bc BK192 1; have hcz9_2 := bc BK192 2; have hfz9_0 := qC BK192.out 0; have hfz9_1 := qC BK192.out 1; have hfz9_2 := qC BK192.out 2) | ((with_reducible refine qb (N := 32) rfl ?_); refine Kd.R_lit k96 _ 96 ?hg (N := 32) ?hd (xs := ([(⟨a0_0, a0_1⟩ : S96), (⟨a0_0, wrap64 (a0_1 + 1)⟩ : S96)] : List (S96))) (inner := [.int .i64 a0_0, .int .i64 a0_1, .int .i64 a0_0, .int .i64 (wrap64 (a0_1 + 1))]) (ok := fun _ => True) (okp := fun _ => True) ?hr ?hp (fun _ hk => hk) trivial (Below.refl _ _) (Nat.le_refl _) (by simp) ?_; (case hd => rfl); (case hg => rfl); (case hr => first | (go_simp; done) | (go_simp; rfl)); (case hp => exact (Reps.c2 (show Kd.M k96 _ _ _ (⟨a0_0, a0_1⟩ : S96) [.int .i64 a0_0, .int .i64 a0_1] from (qgB _ _ _ (⟨a0_0, a0_1⟩ : S96) )) (Reps.c2 (show Kd.M k96 _ _ _ (⟨a0_0, wrap64 (a0_1 + 1)⟩ : S96) [.int .i64 a0_0, .int .i64 (wrap64 (a0_1 + 1))] from (qgB _ _ _ (⟨a0_0, wrap64 (a0_1 + 1)⟩ : S96) )) (Reps.none _ _)))); intro v197 w10 ho11 hb hg_ hnew_; clear hg_ hnew_; (first | rw [← Ny196.out] at ho11 | (simp only [Int.reduceToNat] at ho11; rw [← Ny196.out] at ho11)); have n0_ := Aside0.mk (Kd.qu ho11 (qe bl)); have n1_ := Aside0.mk (bb BK192 hb); have n2_ := Aside0.mk (qG bl hb); clear BK192; clear HB; have HO198 := n0_; have BK192 := n1_; have HB := n2_; clear n0_ n1_ n2_; clear hb ho11))
   go_ret
   exact ⟨_, by first | rfl | (simp [qJ, qI] <;> rfl) | (simp [*, qJ, qI] <;> rfl), by (with_reducible repeat (first | apply Kd.qF | apply Kd.qE | apply Kd.qH)); exact HO198.out, bl⟩
  ·rw [if_neg c7] at H
   have c7b0 : (a0_2 == 2) = false := beq_eq_false_iff_ne.mpr c7
   have c7b1 : (a0_2 != 2) = true := bne_iff_ne.mpr c7
   obtain ⟨y199, hy199⟩ : ∃ y_ : List (S96), y_ = (([(⟨a0_0, a0_1⟩ : S96)] : List (S96))) := ⟨_, rfl⟩
   replace H : (some y199) = some r := by first | (rw [hy199]; with_reducible exact H) | (have H2_ := (Option.bind_some _ _).symm.trans H; rw [hy199]; with_reducible exact H2_) | (have H2_ := (Option.bind_some _ _).symm.trans H; with_reducible exact H2_) | with_reducible exact H | (rw [hy199]; exact H) | exact H
   have Ny199 := Aside0.mk hy199
   clear hy199
   obtain rfl := Option.some.inj H
   go_enter Tryd.func85, Tryd.ntmps85
   go_wp2_with (first | ((with_reducible refine qb (N := 1) rfl ?_); refine qZ ?hg (N := 1) ?hd (cs := #[.int .i64 a0_0, .int .i64 a0_1, .int .i64 a0_2]) (t := 27) ?hr ?_; (case hd => rfl); (case hg => rfl); (case hr => first | (go_simp; done) | (go_simp; rfl)); intro gb192 hg w12 hbox hb; have n0_ := Aside0.mk (qG bl hb); have n1_ := Aside0.mk (hbox); have n2_ := Aside0.mk ((gg hg)); have n3_ := Aside0.mk ((gg hg)); clear HB; have HB := n0_; have BK192 := n1_; have GW192 := n2_; have GE192 := n3_; clear n0_ n1_ n2_ n3_; clear hb hbox hg; have hcz13_0 := bc BK192 0; have hcz13_1 := bc BK192 1; have hcz13_2 := bc BK192 2; have hfz13_0 := qC BK192.out 0; have hfz13_1 := qC BK192.out 1; have hfz13_2 := qC BK192.out 2) | ((with_reducible refine qb (N := 38) rfl ?_); refine Kd.R_lit k96 _ 96 ?hg (N := 38) ?hd (xs := ([(⟨a0_0, a0_1⟩ : S96)] : List (S96))) (inner := [.int .i64 a0_0, .int .i64 a0_1]) (ok := fun _ => True) (okp := fun _ => True) ?hr ?hp (fun _ hk => hk) trivial (Below.refl _ _) (Nat.le_refl _) (by simp) ?_; (case hd => rfl); (case hg => rfl); (case hr => first | (go_simp; done) | (go_simp; rfl)); (case hp => exact (Reps.c2 (show Kd.M k96 _ _ _ (⟨a0_0, a0_1⟩ : S96) [.int .i64 a0_0, .int .i64 a0_1] from (qgB _ _ _ (⟨a0_0, a0_1⟩ : S96) )) (Reps.none _ _))); intro v200 w14 ho15 hb hg_ hnew_; clear hg_ hnew_; (first | rw [← Ny199.out] at ho15 | (simp only [Int.reduceToNat] at ho15; rw [← Ny199.out] at ho15)); have n0_ := Aside0.mk (Kd.qu ho15 (qe bl)); have n1_ := Aside0.mk (bb BK192 hb); have n2_ := Aside0.mk (qG bl hb); clear BK192; clear HB; have HO201 := n0_; have BK192 := n1_; have HB := n2_; clear n0_ n1_ n2_; clear hb ho15))
   go_ret
   exact ⟨_, by first | rfl | (simp [qJ, qI] <;> rfl) | (simp [*, qJ, qI] <;> rfl), by (with_reducible repeat (first | apply Kd.qF | apply Kd.qE | apply Kd.qH)); exact HO201.out, bl⟩
end Go.Proofs.YtbpfhpjbeomfcaaDoor.P
namespace Go.Proofs.YtbpfhpjbeomfcaaDoor
open Go.RowKit Go.Proofs.YtbpfhpjbeomfcaaDoor.P Go.Proofs.YtbpfhpjbeomfcaaDoorW.PrintWords Go.Proofs.YtbpfhpjbeomfcaaDoorW.PrintLast
set_option linter.unusedVariables false
set_option linter.unusedSimpArgs false
def PredOn {α : Type} (g : Nat) (lb : Array Value) (enc : α → Value) (p : α → Bool) (l : List α) (w : World) : Prop :=
 ∀ (W : World) (x : α), x ∈ l → Below w.heap.size w W → Calls Tryd.prog g (#[enc x] ++ lb) W fun e w' => e = .returned (.bool (p x)) ∧ Below W.heap.size W w'
theorem PredOn.later {α : Type} {g : Nat} {lb : Array Value} {enc : α → Value} {p : α → Bool} {l : List α} {w w1 : World} (h : PredOn g lb enc p l w) (hb : Below w.heap.size w w1) : PredOn g lb enc p l w1 :=
 fun W x hx hW => h W x hx (qNB hb hb.size hW)
def idxP {α : Type} (p : α → Bool) (l : List α) : Int := match l.findIdx? p with | some i => (i : Int) | none => -1
theorem idxP_hit {α : Type} (p : α → Bool) (l : List α) (k : Nat) (hk : k < l.length) (h0 : ∀ j, (h : j < k) → p (l[j]'(by omega)) = false) (h1 : p l[k] = true) : idxP p l = (k : Int) := by
 unfold idxP
 have : l.findIdx? p = some k := by
  rw [List.findIdx?_eq_some_iff_getElem]
  exact ⟨hk, h1, fun j hj => by rw [h0 j hj]; decide⟩
 rw [this]
theorem idxP_miss {α : Type} (p : α → Bool) (l : List α) (h0 : ∀ j, (h : j < l.length) → p l[j] = false) : idxP p l = -1 := by
 unfold idxP
 have : l.findIdx? p = none := by
  rw [List.findIdx?_eq_none_iff]
  intro x hx
  obtain ⟨j, hj, rfl⟩ := List.getElem_of_mem hx
  exact h0 j hj
 rw [this]
theorem idxP_any {α : Type} (p : α → Bool) (l : List α) : decide (idxP p l ≥ 0) = l.any p := by
 unfold idxP
 cases h : l.findIdx? p with
 | none =>
  rw [List.findIdx?_eq_none_iff] at h
  have : l.any p = false := by rw [List.any_eq_false]; intro x hx; simp [h x hx]
  rw [this]; decide
 | some i =>
  rw [List.findIdx?_eq_some_iff_getElem] at h
  obtain ⟨hi, hp, _⟩ := h
  have : l.any p = true := List.any_eq_true.2 ⟨l[i], List.getElem_mem hi, hp⟩
  rw [this]
  exact decide_eq_true (Int.natCast_nonneg i)
def encCell (x : S96) : Value := .agg #[.int .i64 x.f0, .int .i64 x.f1]
theorem rd_getCell (l : List S96) (j : Nat) (h : j < l.length) : qrB l (j : Int) = l[j] := by
 unfold qrB
 rw [Int.toNat_natCast, List.getD_eq_getElem?_getD, List.getElem?_eq_getElem h]; rfl
set_option maxHeartbeats 1000000 in
theorem indexFunc_Cell (p : S96 → Bool) (g : Nat) (lb : Array Value) (eg : ∀ args w, (callFunc g args).run Tryd.prog w = .ok (.enter g args) w) (A0 : Option Addr) (c0 : Nat) (l : List S96) (w : World)
  (hr : Kd.C k96 w A0 l.length l) (hp : PredOn g lb encCell p l w) :
  Calls Tryd.prog 107 #[.slice A0 l.length c0, .func (.func g) #[] lb] w fun e w' => e = .returned (.int .i64 (idxP p l)) ∧ Below w.heap.size w w' := by
 have HR := Lib.hid hr
 have hn : l.length ≤ 9223372036854775807 := hr.2.1
 clear hr
 have hu := Tryd.underlying96
 go_enter Tryd.func107, Tryd.ntmps107
 go_wp2
 go_loopg [5, 8] l.length (fun gg _ s8 wr => ∃ kk : Nat, kk ≤ l.length ∧ l.length - kk ≤ gg ∧ s8 = .int .i64 kk ∧ Aside0 (Below w.heap.size w wr) ∧ Aside0 (∀ j, (h : j < l.length) → j < kk → p l[j] = false))
 case atStart => exact ⟨0, Nat.zero_le _, by omega, rfl, ⟨Below.refl _ w⟩, ⟨fun j _ hj => absurd hj (Nat.not_lt_zero _)⟩⟩
 case round =>
  obtain ⟨kk, hkk, hg, rfl, BW, A⟩ := hrel
  rename World => wr
  by_cases hlt : kk < l.length
  ·have hltz : (kk : Int) < (l.length : Int) := by omega
   obtain ⟨ad, e, h0, h1⟩ := at_T96 (Kd.qQA HR.out BW.out) (kk : Int) (by omega) hltz
   cases e
   simp only [rd_getCell l kk hlt, Int.toNat_natCast] at h0 h1
   have hcall := hp wr l[kk] (List.getElem_mem hlt) BW.out
   have B := Lib.hid (rfl : l[kk] = l[kk])
   generalize hy : l[kk] = y at h0 h1 hcall
   have HY := Lib.hid hy
   clear hy B
   cases hq : p y with
   | true =>
    rw [hq] at hcall
    have HQ := Lib.hid hq
    have HC := Lib.hid hcall
    clear hq hp hcall
    go_wp2
    refine HC.out.mono ?_
    rintro e w' ⟨rfl, hb'⟩
    clear HC h0 h1 eg
    go_wp2
    go_ret
    exact ⟨ret_i64 (idxP_hit p l kk hlt (fun j hj => A.out j _ hj) (by rw [HY.out]; exact HQ.out)).symm, qNB BW.out BW.out.size hb'⟩
   | false =>
    rw [hq] at hcall
    have HQ := Lib.hid hq
    have HC := Lib.hid hcall
    clear hq hp hcall
    go_wp2
    refine HC.out.mono ?_
    rintro e w' ⟨rfl, hb'⟩
    clear HC h0 h1 eg
    go_wp2
    go_roundg (l.length - (kk + 1))
    case measure => omega
    case rel =>
     refine ⟨kk + 1, by omega, by omega, by go_num, ⟨qNB BW.out BW.out.size hb'⟩, ⟨fun j h hj => ?_⟩⟩
     by_cases e : j = kk
     ·subst e
      rw [HY.out]; exact HQ.out
     ·exact A.out j h (by omega)
  ·have hltz : ¬ (kk : Int) < (l.length : Int) := by omega
   have hke : kk = l.length := by omega
   subst hke
   clear hp
   go_wp2
   go_ret
   exact ⟨ret_i64 (idxP_miss p l (fun j h => A.out j h h)).symm, BW.out⟩
theorem containsFunc_Cell (p : S96 → Bool) (g : Nat) (lb : Array Value) (eg : ∀ args w, (callFunc g args).run Tryd.prog w = .ok (.enter g args) w) (A0 : Option Addr) (c0 : Nat) (l : List S96) (w : World)
  (hr : Kd.C k96 w A0 l.length l) (hp : PredOn g lb encCell p l w) :
  Calls Tryd.prog 84 #[.slice A0 l.length c0, .func (.func g) #[] lb] w fun e w' => e = .returned (.bool (l.any p)) ∧ Below w.heap.size w w' := by
 have hcall := fun c => indexFunc_Cell p g lb eg A0 c l w hr hp
 have HA := Lib.hid (idxP_any p l)
 clear hr hp
 go_enter Tryd.func84, Tryd.ntmps84
 go_wp2_with (go_at_call 107; refine (hcall _).mono ?_; rintro e w' ⟨rfl, hb'⟩)
 go_ret
 exact ⟨ret_bool HA.out, hb'⟩
def qSB.f (rows : List ByteArray) (x y : Int) : Option Bool := (qq.f rows x y).bind fun b => if b = true then (qKA.f rows x y).bind fun c => some (c == 35) else some true
def qgA.f (l : List S96) (rows : List ByteArray) : Option Bool := if (l.all fun c => (qSB.f rows c.f0 c.f1).isSome) = true then some (l.any fun c => (qSB.f rows c.f0 c.f1).getD false) else none
set_option maxHeartbeats 1000000 in
set_option maxRecDepth 100000 in
theorem isBox1_calls (x : S96) (b : Nat) (A1 : Option Addr) (c1 : Nat) (rows : List ByteArray) (r : Bool) (w : World) (hr1 : Kd.C Kd.string w A1 rows.length rows) (hc1 : rows.length ≤ c1) (hp : w.cell? ⟨b, 0, none⟩ = some (.slice A1 rows.length c1))
  (h : qSB.f rows x.f0 x.f1 = some r) :
  Calls Tryd.prog 86 (#[encCell x] ++ #[.pointer (some ⟨b, 0, none⟩)]) w fun e w' => e = .returned (.bool r) ∧ Below w.heap.size w w' := by
 have hu := Tryd.underlying96
 have g7 := World.block_lt_of_cell? w _ hp
 have HR := Lib.hid hr1
 clear hr1
 unfold qSB.f at h
 replace h := Option.bind_eq_some_iff.mp h
 obtain ⟨b1, hb1, h⟩ := h
 have HH := fun (W : World) (hw : Below w.heap.size w W) => Lib.hid (qq.calls A1 c1 rows x.f0 x.f1 b1 W (Kd.qQA HR.out hw) hc1 hb1)
 show Calls Tryd.prog 86 #[encCell x, .pointer (some ⟨b, 0, none⟩)] w _
 unfold encCell
 have H := Lib.hid h
 clear h hb1
 cases b1 with
 | false =>
  have H1 := H.out
  rw [if_neg (by decide)] at H1
  obtain rfl := Option.some.inj H1
  clear H H1
  go_enter Tryd.func86, Tryd.ntmps86
  go_wp2_with (first | (go_at_call 83; refine (HH _ (qj (Below.refl _ _) _)).out.mono ?_; rintro e w1 ⟨rfl, ⟨nd, rfl⟩⟩))
  go_ret
  exact ⟨rfl, qk (qj (Below.refl _ _) _) nd⟩
 | true =>
  have H1 := H.out
  rw [if_pos rfl] at H1
  replace H1 := Option.bind_eq_some_iff.mp H1
  obtain ⟨c, hc, H1⟩ := H1
  obtain rfl := Option.some.inj H1
  clear H H1
  have HA := fun (W : World) (hw : Below w.heap.size w W) => Lib.hid (qKA.calls A1 c1 rows x.f0 x.f1 c W (Kd.qQA HR.out hw) hc1 hc)
  clear hc
  go_enter Tryd.func86, Tryd.ntmps86
  go_wp2_with (first | (go_at_call 83; refine (HH _ (qj (Below.refl _ _) _)).out.mono ?_; rintro e w1 ⟨rfl, ⟨nd, rfl⟩⟩) | (go_at_call 71; refine (HA _ (qk (qj (Below.refl _ _) _) _)).out.mono ?_; rintro e w2 ⟨rfl, ⟨nd2, rfl⟩⟩))
  go_ret
  exact ⟨rfl, qk (qj (Below.refl _ _) _) (nd + nd2)⟩
theorem qgA.calls (A0 : Option Addr) (c0 : Nat) (l0 : List S96) (b : Nat) (A1 : Option Addr) (c1 : Nat) (l1 : List ByteArray) (r : Bool) (w : World) (hr0 : Kd.C k96 w A0 l0.length l0) (hc0 : l0.length ≤ c0) (hr1 : Kd.C Kd.string w A1 l1.length l1) (hc1 : l1.length ≤ c1) (hp : w.cell? ⟨b, 0, none⟩ = some (.slice A1 l1.length c1))
  (h : qgA.f l0 l1 = some r) :
  Calls Tryd.prog 84 #[.slice A0 l0.length c0, .func (.func 86) #[] #[.pointer (some ⟨b, 0, none⟩)]] w fun e w' => e = .returned (.bool r) ∧ Below w.heap.size w w' := by
 unfold qgA.f at h
 split at h
 ·rename_i hall
  obtain rfl := Option.some.inj h
  have eg := Go.Proofs.enters_of Tryd.func86 (by kernel_rfl) rfl
  refine containsFunc_Cell (fun c => (qSB.f l1 c.f0 c.f1).getD false) 86 _ eg A0 c0 l0 w hr0 fun W x hx hb => ?_
  have hs := List.all_eq_true.1 hall x hx
  obtain ⟨v, hv⟩ := Option.isSome_iff_exists.1 hs
  have e : (qSB.f l1 x.f0 x.f1).getD false = v := by rw [hv]; rfl
  show Calls _ _ _ _ fun e w' => e = .returned (.bool ((qSB.f l1 x.f0 x.f1).getD false)) ∧ _
  rw [e]
  exact isBox1_calls x b A1 c1 l1 v W (Kd.qQA hr1 hb) hc1 (qtA hb hp) hv
 ·cases h
end Go.Proofs.YtbpfhpjbeomfcaaDoor
