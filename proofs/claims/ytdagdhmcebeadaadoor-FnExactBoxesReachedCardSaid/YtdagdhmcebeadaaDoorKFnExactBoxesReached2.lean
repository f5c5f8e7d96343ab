/- The program's BoxesReached returns what the reference's returns, for all texts and boxes (the law lets longer texts by). No further condition. -/
import Derived.Test.YtdagdhmcebeadaaDoorKFnExactBoxesReached1

namespace Go.Proofs.YtdagdhmcebeadaaDoor.P
open Go.RowKit Go.Proofs.YtdagdhmcebeadaaDoorW.PrintWords Go.Proofs.YtdagdhmcebeadaaDoorW.PrintLast Go.Proofs.YtdagdhmcebeadaaDoorW.PrintMore
attribute [local go_sem] qDA qBA qLA qKA qq qp qCA qAA
set_option linter.unusedVariables false
set_option linter.unusedSimpArgs false
attribute [local go_sem high] eqA27
mutual
def qZ.l0 : Nat → Int → Int → Int → List Int → List (S27) → List ByteArray → Option ((List (S27)) × List ByteArray × Bool)
 | 0, _, _, _, _, _, _ => none
 | k + 1, x7, x171000, x171001, x171002, x180000, x180001 => if x7 < (x180000.length : Int) then (qZ.l1 k x7 0 x171000 x171001 x171002 x180000 x180001) else (some (x180000, x180001, true))
def qZ.l1 : Nat → Int → Int → Int → Int → List Int → List (S27) → List ByteArray → Option ((List (S27)) × List ByteArray × Bool)
 | 0, _, _, _, _, _, _, _ => none
 | k + 1, x7, x8, x171000, x171001, x171002, x180000, x180001 => if x8 < 4 then (if 0 ≤ x7 then (if x7 < (x180000.length : Int) then ((qoA.f k x171000 x171001 x171002 ((qK x180000 x7).f0) ((qK x180000 x7).f1) ((qK x180000 x7).f2) x8).bind fun bt181 => (if bt181.2.2.2 = true then (qZ.l2 k x7 x8 false x180000 (x180000.length : Int) 0 x171000 x171001 x171002 x180000 x180001 bt181.1 bt181.2.1 bt181.2.2.1) else (qZ.l1 k x7 (wrap64 (x8 + 1)) x171000 x171001 x171002 x180000 x180001))) else (none)) else (none)) else (if (x180000.length : Int) > 400 then (some (x180000, x180001, false)) else (qZ.l0 k (wrap64 (x7 + 1)) x171000 x171001 x171002 x180000 x180001))
def qZ.l2 : Nat → Int → Int → Bool → List (S27) → Int → Int → Int → Int → List Int → List (S27) → List ByteArray → Int → Int → Int → Option ((List (S27)) × List ByteArray × Bool)
 | 0, _, _, _, _, _, _, _, _, _, _, _, _, _, _ => none
 | k + 1, x7, x8, x11, x32, x44, x45, x171000, x171001, x171002, x180000, x180001, x186000, x186001, x186002 => if x45 < x44 then (if 0 ≤ x45 then (if x45 < (x32.length : Int) then (if x11 = true then (qZ.l2 k x7 x8 true x32 x44 (wrap64 (x45 + 1)) x171000 x171001 x171002 x180000 x180001 x186000 x186001 x186002) else (qZ.l2 k x7 x8 (((qK x32 x45).f0) == x186000 && (((qK x32 x45).f1) == x186001 && (((qK x32 x45).f2) == x186002))) x32 x44 (wrap64 (x45 + 1)) x171000 x171001 x171002 x180000 x180001 x186000 x186001 x186002)) else (none)) else (none)) else (if x11 = true then (qZ.l1 k x7 (wrap64 (x8 + 1)) x171000 x171001 x171002 x180000 x180001) else (if x180000.length < 5864062014805 then (if 0 ≤ x7 then (if x7 < (x180001.length : Int) then ((qBB.f).bind fun t192 => (if 0 ≤ x8 then (if x8 ≤ (wrap64 (x8 + 1)) then (if (wrap64 (x8 + 1)) ≤ (t192.size : Int) then (if (rdOf ByteArray.empty x180001 x7).size + (t192.extract (x8 : Int).toNat ((wrap64 (x8 + 1)) : Int).toNat).size ≤ 9223372036854775807 then (if x180001.length < 8796093022208 then (qZ.l1 k x7 (wrap64 (x8 + 1)) x171000 x171001 x171002 (x180000 ++ [(⟨x186000, x186001, x186002⟩ : S27)]) (x180001 ++ [(rdOf ByteArray.empty x180001 x7) ++ (t192.extract (x8 : Int).toNat ((wrap64 (x8 + 1)) : Int).toNat)])) else (none)) else (none)) else (none)) else (none)) else (none))) else (none)) else (none)) else (none)))
end
def qZ.f (k : Nat) (a0_0 : Int) (a0_1 : Int) (l0_2 : List Int) (a1_0 : Int) (a1_1 : Int) (a1_2 : Int) : Option ((List (S27)) × List ByteArray × Bool) := qZ.l0 k 0 a0_0 a0_1 l0_2 (([(⟨a1_0, a1_1, a1_2⟩ : S27)] : List (S27))) (([(⟨#[]⟩ : ByteArray)] : List ByteArray))
def qZ.T8 : Bool × List (List Nat × List Nat) := (true, [([], []), ([], []), ([1], [1]), ([], []), ([2, 3], [2, 3]), ([4], [4]), ([], []), ([0, 5, 6], [0, 5, 6]), ([7], [7]), ([8], [8]), ([8], [8]), ([], []), ([11, 9, 7, 0, 1, 2, 3, 4, 5, 6, 7, 8, 9, 11], [9, 11]), ([10, 12, 0, 1, 2, 3, 4, 5, 6, 7, 8, 9, 10, 11, 12], [10])])
def qZ.B8 : List Nat := [0, 0, 2, 0, 14, 30, 0, 127, 255, 511, 511, 0, 3071, 8191]
theorem qZ.tab8 : rtab .any (opsOf Tryd.f17 8) = qZ.T8 := by kernel_rfl
theorem qZ.bits8 : waitsOk qZ.T8.2 qZ.B8 = true := by kernel_rfl
def qZ.T18 : Bool × List (List Nat × List Nat) := (true, [([], []), ([0], [0]), ([], []), ([2], [2]), ([], []), ([3, 4], [3, 4]), ([5], [5]), ([], []), ([], []), ([], []), ([9], [9]), ([7, 8, 10], [7, 8, 10]), ([6, 11], [6, 11]), ([12], [12]), ([1, 13, 7], [1, 13]), ([0, 1, 2, 3, 4, 5, 6, 7, 8, 9, 10, 11, 12, 13, 14], []), ([15, 14, 14, 0, 1, 2, 3, 4, 5, 6, 7, 8, 9, 10, 11, 12, 13, 14], [14, 15])])
def qZ.B18 : List Nat := [0, 1, 0, 4, 0, 28, 60, 0, 0, 0, 512, 1920, 4092, 8188, 16383, 32767, 65535]
theorem qZ.tab18 : rtab .any (opsOf Tryd.f17 18) = qZ.T18 := by kernel_rfl
theorem qZ.bits18 : waitsOk qZ.T18.2 qZ.B18 = true := by kernel_rfl
set_option maxHeartbeats 8000000 in
set_option maxRecDepth 100000 in
theorem qZ.calls (k : Nat) (a0_0 : Int) (a0_1 : Int) (A0_2 : Option Addr) (c0_2 : Nat) (l0_2 : List Int) (a1_0 : Int) (a1_1 : Int) (a1_2 : Int) (r1 : List (S27)) (r2 : List ByteArray) (r3 : Bool) (w : World) (hr0_2 : Kd.C (Kd.int .u8) w A0_2 l0_2.length l0_2) (hc0_2 : l0_2.length ≤ c0_2) (h : qZ.f k a0_0 a0_1 l0_2 a1_0 a1_1 a1_2 = some (r1, r2, r3)) :
  Calls Tryd.prog 17 #[.agg #[.int .i64 a0_0, .int .i64 a0_1, .slice A0_2 l0_2.length c0_2], .agg #[.int .i64 a1_0, .int .i64 a1_1, .int .i64 a1_2]] w fun e w' => ∃ v0_ v1_ : Value, e = .returned (.tuple #[.agg #[v0_, v1_], .bool r3]) ∧ Kd.R k27 27 w' w.heap.size (fun _ => True) v0_ r1 ∧ Kd.R Kd.string 9 w' w.heap.size (fun _ => True) v1_ r2 ∧ Below w.heap.size w w' := by
 have hu34 := Tryd.underlying34
 have hu27 := Tryd.underlying27
 have hu37 := Tryd.underlying37
 have HR0_2 := Aside0.mk hr0_2
 have HC0_2 := Aside0.mk hc0_2
 clear hr0_2 hc0_2
 have HB := Aside0.mk (Below.refl w.heap.size w)
 have H : (qZ.l0 k 0 a0_0 a0_1 l0_2 (([(⟨a1_0, a1_1, a1_2⟩ : S27)] : List (S27))) (([(⟨#[]⟩ : ByteArray)] : List ByteArray))) = some (r1, r2, r3) := h
 clear h
 obtain ⟨y173, hy173⟩ : ∃ y_ : List (S27), y_ = (([(⟨a1_0, a1_1, a1_2⟩ : S27)] : List (S27))) := ⟨_, rfl⟩
 replace H : (qZ.l0 k 0 a0_0 a0_1 l0_2 y173 (([(⟨#[]⟩ : ByteArray)] : List ByteArray))) = some (r1, r2, r3) := by first | (rw [hy173]; with_reducible exact H) | (have H2_ := (Option.bind_some _ _).symm.trans H; rw [hy173]; with_reducible exact H2_) | (have H2_ := (Option.bind_some _ _).symm.trans H; with_reducible exact H2_) | with_reducible exact H | (rw [hy173]; exact H) | exact H
 have Ny173 := Aside0.mk hy173
 clear hy173
 obtain ⟨y176, hy176⟩ : ∃ y_ : List ByteArray, y_ = (([(⟨#[]⟩ : ByteArray)] : List ByteArray)) := ⟨_, rfl⟩
 replace H : (qZ.l0 k 0 a0_0 a0_1 l0_2 y173 y176) = some (r1, r2, r3) := by first | (rw [hy176]; with_reducible exact H) | (have H2_ := (Option.bind_some _ _).symm.trans H; rw [hy176]; with_reducible exact H2_) | (have H2_ := (Option.bind_some _ _).symm.trans H; with_reducible exact H2_) | with_reducible exact H | (rw [hy176]; exact H) | exact H
 have Ny176 := Aside0.mk hy176
 clear hy176
 have H' := Aside0.mk H
 clear H
 go_enter Tryd.func17, Tryd.ntmps17
 go_wp2_with (first | ((with_reducible refine qd (N := 2) rfl ?_); refine qY ?hg (N := 2) ?hd (cs := #[.int .i64 a0_0, .int .i64 a0_1, .slice A0_2 l0_2.length c0_2]) (t := 34) ?hr ?_; (case hd => rfl); (case hg => rfl); (case hr => first | (go_simp; done) | (go_simp; rfl)); intro gb170 hg w3 hbox hb; have n0_ := Aside0.mk (qG bl hb); have n1_ := Aside0.mk (hbox); have n2_ := Aside0.mk ((gg hg)); have n3_ := Aside0.mk ((gg hg)); clear HB; have HB := n0_; have BK170 := n1_; have GW170 := n2_; have GE170 := n3_; clear n0_ n1_ n2_ n3_; clear hb hbox hg) | ((with_reducible refine qd (N := 3) rfl ?_); refine qY ?hg (N := 3) ?hd (cs := #[.int .i64 a1_0, .int .i64 a1_1, .int .i64 a1_2]) (t := 27) ?hr ?_; (case hd => rfl); (case hg => rfl); (case hr => first | (go_simp; done) | (go_simp; rfl)); intro gb171 hg w4 hbox hb; have n0_ := Aside0.mk (bb BK170 hb); have n1_ := Aside0.mk (qG bl hb); have n2_ := Aside0.mk (hbox); have n3_ := Aside0.mk ((gg hg)); have n4_ := Aside0.mk ((gg hg)); have n5_ := Aside0.mk ((nl BK170 hg)); have n6_ := Aside0.mk ((nr BK170 hg)); clear BK170; clear HB; have BK170 := n0_; have HB := n1_; have BK171 := n2_; have GW171 := n3_; have GE171 := n4_; have NB170_171 := n5_; have NB171_170 := n6_; clear n0_ n1_ n2_ n3_ n4_ n5_ n6_; clear hb hbox hg) | ((with_reducible refine qd (N := 4) rfl ?_); refine qY ?hg (N := 4) ?hd (cs := #[.slice none 0 0, .slice none 0 0]) (t := 37) ?hr ?_; (case hd => rfl); (case hg => rfl); (case hr => first | (go_simp; done) | (go_simp; rfl)); intro gb172 hg w5 hbox hb; have n0_ := Aside0.mk (bb BK170 hb); have n1_ := Aside0.mk (bb BK171 hb); have n2_ := Aside0.mk (qG bl hb); have n3_ := Aside0.mk (hbox); have n4_ := Aside0.mk ((gg hg)); have n5_ := Aside0.mk ((gg hg)); have n6_ := Aside0.mk ((nl BK170 hg)); have n7_ := Aside0.mk ((nr BK170 hg)); have n8_ := Aside0.mk ((nl BK171 hg)); have n9_ := Aside0.mk ((nr BK171 hg)); clear BK170; clear BK171; clear HB; have BK170 := n0_; have BK171 := n1_; have HB := n2_; have BK172 := n3_; have GW172 := n4_; have GE172 := n5_; have NB170_172 := n6_; have NB172_170 := n7_; have NB171_172 := n8_; have NB172_171 := n9_; clear n0_ n1_ n2_ n3_ n4_ n5_ n6_ n7_ n8_ n9_; clear hb hbox hg; have hnb6 := NB171_170.out; have hnc6 := NB170_171.out; have hnb7 := NB171_172.out; have hnc7 := NB172_171.out; have hcz8_0 := bc BK171 0; have hcz8_1 := bc BK171 1; have hcz8_2 := bc BK171 2; have hfz8_0 := qC BK171.out 0; have hfz8_1 := qC BK171.out 1; have hfz8_2 := qC BK171.out 2) | ((with_reducible refine qd (N := 15) rfl ?_); refine Kd.R_lit k27 _ 27 ?hg (N := 15) ?hd (xs := ([(⟨a1_0, a1_1, a1_2⟩ : S27)] : List (S27))) (inner := [.int .i64 a1_0, .int .i64 a1_1, .int .i64 a1_2]) (ok := fun _ => True) (okp := fun _ => True) ?hr ?hp (fun _ hk => hk) trivial (Below.refl _ _) (Nat.le_refl _) (by simp) ?_; (case hd => rfl); (case hg => rfl); (case hr => first | (go_simp; done) | (go_simp; rfl)); (case hp => exact (Reps.c3 (show Kd.M k27 _ _ _ (⟨a1_0, a1_1, a1_2⟩ : S27) [.int .i64 a1_0, .int .i64 a1_1, .int .i64 a1_2] from (qVB _ _ _ (⟨a1_0, a1_1, a1_2⟩ : S27) )) (Reps.none _ _))); intro v174 w9 ho10 hb hg_ hnew_; clear hg_ hnew_; (first | rw [← Ny173.out] at ho10 | (simp only [Int.reduceToNat] at ho10; rw [← Ny173.out] at ho10)); have n0_ := Aside0.mk (Kd.qHA (Kd.qgB ho10 (g := gb171) (o := .cells #[.int .i64 a1_0, .int .i64 a1_1, .int .i64 a1_2] 27 (0, 0)) (by (with_reducible repeat (first | refine qB ?_ _ | refine qD ?_ | refine qA ?_ _)); exact BK171.out)) (qg bl)); have n1_ := Aside0.mk (bb BK170 hb); have n2_ := Aside0.mk (bb BK171 hb); have n3_ := Aside0.mk (bb BK172 hb); have n4_ := Aside0.mk (qG bl hb); clear BK170; clear BK171; clear BK172; clear HB; have HO175 := n0_; have BK170 := n1_; have BK171 := n2_; have BK172 := n3_; have HB := n4_; clear n0_ n1_ n2_ n3_ n4_; clear hb ho10) | ((with_reducible refine qd (N := 16) rfl ?_); refine Kd.R_lit Kd.string _ 9 ?hg (N := 16) ?hd (xs := ([(⟨#[]⟩ : ByteArray)] : List ByteArray)) (inner := [.string (⟨#[]⟩ : ByteArray)]) (ok := fun _ => True) (okp := fun _ => True) ?hr ?hp (fun _ hk => hk) trivial (Below.refl _ _) (Nat.le_refl _) (by simp) ?_; (case hd => rfl); (case hg => rfl); (case hr => first | (go_simp; done) | (go_simp; rfl)); (case hp => exact (Reps.one (show Kd.M Kd.string _ _ _ (⟨#[]⟩ : ByteArray) [.string (⟨#[]⟩ : ByteArray)] from rfl) (Reps.none _ _))); intro v177 w11 ho12 hb hg_ hnew_; clear hg_ hnew_; (first | rw [← Ny176.out] at ho12 | (simp only [Int.reduceToNat] at ho12; rw [← Ny176.out] at ho12)); have n0_ := Aside0.mk (Kd.qa (by (with_reducible repeat (first | apply Kd.qF | apply Kd.qE | apply Kd.qH)); exact HO175.out) hb); have n1_ := Aside0.mk (Kd.qHA ho12 (qg bl)); have n2_ := Aside0.mk (bb BK170 hb); have n3_ := Aside0.mk (bb BK171 hb); have n4_ := Aside0.mk (bb BK172 hb); have n5_ := Aside0.mk (qG bl hb); clear HO175; clear BK170; clear BK171; clear BK172; clear HB; have HO175 := n0_; have HO178 := n1_; have BK170 := n2_; have BK171 := n3_; have BK172 := n4_; have HB := n5_; clear n0_ n1_ n2_ n3_ n4_ n5_; clear hb ho12; obtain ⟨Ao13, co13, eo13⟩ := Kd.qo HO178.out; subst eo13; obtain ⟨Ao14, co14, eo14⟩ := Kd.qo HO175.out; subst eo14) | ((with_reducible refine qd (N := 6) rfl ?_); refine qY ?hg (N := 6) ?hd (cs := #[.slice none 0 0, .slice none 0 0]) (t := 37) ?hr ?_; (case hd => rfl); (case hg => rfl); (case hr => first | (go_simp; done) | (go_simp; rfl)); intro gb179 hg w15 hbox hb; have n0_ := Aside0.mk (Kd.qa (by (with_reducible repeat (first | apply Kd.qF | apply Kd.qE | apply Kd.qH)); exact HO175.out) hb); have n1_ := Aside0.mk (Kd.qa (by (with_reducible repeat (first | apply Kd.qF | apply Kd.qE | apply Kd.qH)); exact HO178.out) hb); have n2_ := Aside0.mk (bb BK170 hb); have n3_ := Aside0.mk (bb BK171 hb); have n4_ := Aside0.mk (bb BK172 hb); have n5_ := Aside0.mk (qG bl hb); have n6_ := Aside0.mk (hbox); have n7_ := Aside0.mk ((gg hg)); have n8_ := Aside0.mk ((gg hg)); have n9_ := Aside0.mk ((nl BK170 hg)); have n10_ := Aside0.mk ((nr BK170 hg)); have n11_ := Aside0.mk ((nl BK171 hg)); have n12_ := Aside0.mk ((nr BK171 hg)); have n13_ := Aside0.mk ((nl BK172 hg)); have n14_ := Aside0.mk ((nr BK172 hg)); clear HO175; clear HO178; clear BK170; clear BK171; clear BK172; clear HB; have HO175 := n0_; have HO178 := n1_; have BK170 := n2_; have BK171 := n3_; have BK172 := n4_; have HB := n5_; have BK179 := n6_; have GW179 := n7_; have GE179 := n8_; have NB170_179 := n9_; have NB179_170 := n10_; have NB171_179 := n11_; have NB179_171 := n12_; have NB172_179 := n13_; have NB179_172 := n14_; clear n0_ n1_ n2_ n3_ n4_ n5_ n6_ n7_ n8_ n9_ n10_ n11_ n12_ n13_ n14_; clear hb hbox hg; have hnb16 := NB179_170.out; have hnc16 := NB170_179.out; have hnb17 := NB179_171.out; have hnc17 := NB171_179.out; have hnb18 := NB179_172.out; have hnc18 := NB172_179.out; have hcz19_0 := bc BK179 0; have hcz19_1 := bc BK179 1; have hfz19_0 := qC BK179.out 0; have hfz19_1 := qC BK179.out 1))
 go_loopg [7] k (fun kq v7 w' => ∃ (x7_1 : Int) (x180000_1 : List (S27)) (x180001_1 : List ByteArray) (u180000 : Value) (u180001 : Value), v7 = .int .i64 x7_1 ∧ Aside0 (qZ.l0 kq x7_1 a0_0 a0_1 l0_2 x180000_1 x180001_1 = some (r1, r2, r3)) ∧ Aside0 (kq ≤ k) ∧ Aside0 (Kd.R k27 27 w' w.heap.size (fun k_ => k_ ≠ gb171) u180000 x180000_1) ∧ Aside0 (Kd.R Kd.string 9 w' w.heap.size (fun _ => True) u180001 x180001_1) ∧ Aside0 (w'.heap[gb170]? = some (.cells #[.int .i64 a0_0, .int .i64 a0_1, (.slice A0_2 l0_2.length c0_2)] 34 (0, 0))) ∧ Aside0 (w'.heap[gb171]? = some (.cells #[.int .i64 a1_0, .int .i64 a1_1, .int .i64 a1_2] 27 (0, 0))) ∧ Aside0 (w'.heap[gb172]? = some (.cells #[(.slice none 0 0), (.slice none 0 0)] 37 (0, 0))) ∧ Aside0 (w'.heap[gb179]? = some (.cells #[u180000, u180001] 37 (0, 0))) ∧ Aside0 (Below w.heap.size w w'))
 case atStart => exact ⟨(0), (y173), (y176), (.slice Ao14 y173.length co14), (.slice Ao13 y176.length co13), (by first | rfl | (simp; done) | (simp [*]; done)), H', ⟨Nat.le_refl _⟩, ⟨by (with_reducible repeat (first | apply Kd.qF | apply Kd.qE | apply Kd.qH)); exact Kd.qh (Kd.R_far (p := ⟨gb179, 1, none⟩) (Kd.R_far (p := ⟨gb179, 0, none⟩) (Kd.qEA HO175.out BK179.out (by decide)) (fun _ hk => hk.2) (.slice Ao14 y173.length co14)) (fun _ hk => hk.2) (.slice Ao13 y176.length co13)) (fun _ hk => hk.1.2)⟩, ⟨by (with_reducible repeat (first | apply Kd.qF | apply Kd.qE | apply Kd.qH)); exact Kd.qh (Kd.R_far (p := ⟨gb179, 1, none⟩) (Kd.R_far (p := ⟨gb179, 0, none⟩) (Kd.qEA HO178.out BK179.out (by decide)) (fun _ hk => hk.2) (.slice Ao14 y173.length co14)) (fun _ hk => hk.2) (.slice Ao13 y176.length co13)) (fun _ hk => trivial)⟩, ⟨by (with_reducible repeat (first | refine qB ?_ _ | refine qD ?_ | refine qA ?_ _)); refine qN ?_ NB170_179.out _; (with_reducible repeat (first | refine qB ?_ _ | refine qD ?_ | refine qA ?_ _)); refine qN ?_ NB170_179.out _; (with_reducible repeat (first | refine qB ?_ _ | refine qD ?_ | refine qA ?_ _)); exact BK170.out⟩, ⟨by (with_reducible repeat (first | refine qB ?_ _ | refine qD ?_ | refine qA ?_ _)); refine qN ?_ NB171_179.out _; (with_reducible repeat (first | refine qB ?_ _ | refine qD ?_ | refine qA ?_ _)); refine qN ?_ NB171_179.out _; (with_reducible repeat (first | refine qB ?_ _ | refine qD ?_ | refine qA ?_ _)); exact BK171.out⟩, ⟨by (with_reducible repeat (first | refine qB ?_ _ | refine qD ?_ | refine qA ?_ _)); refine qN ?_ NB172_179.out _; (with_reducible repeat (first | refine qB ?_ _ | refine qD ?_ | refine qA ?_ _)); refine qN ?_ NB172_179.out _; (with_reducible repeat (first | refine qB ?_ _ | refine qD ?_ | refine qA ?_ _)); exact BK172.out⟩, ⟨by (with_reducible repeat (first | refine qB ?_ _ | refine qD ?_ | refine qA ?_ _)); refine qQ (cs := #[.slice Ao14 y173.length co14, .slice none 0 0]) ?_ 1 _ rfl; (with_reducible repeat (first | refine qB ?_ _ | refine qD ?_ | refine qA ?_ _)); refine qQ (cs := #[.slice none 0 0, .slice none 0 0]) ?_ 0 _ rfl; (with_reducible repeat (first | refine qB ?_ _ | refine qD ?_ | refine qA ?_ _)); exact BK179.out⟩, ⟨bl⟩⟩
 case round =>
  clear H'
  try clear c1
  try clear p2
  try clear c3
  try clear c6
  try clear c7
  try clear c16
  try clear c17
  try clear c18
  try clear hcz19_0
  try clear hcz19_1
  try clear hcz8_0
  try clear hcz8_1
  try clear hcz8_2
  try clear hfz19_0
  try clear hfz19_1
  try clear hfz8_0
  try clear hfz8_1
  try clear hfz8_2
  obtain ⟨x7_1, x180000_1, x180001_1, u180000, u180001, rfl, HA, HK1, HO_180000, HO_180001, BK170, BK171, BK172, BK179, HB⟩ := hrel
  cases gk with
  | zero => exact absurd HA.out (by simp [qZ.l0])
  | succ k1 =>
   have H := HA.out
   clear HA
   simp only [qZ.l0] at H
   by_cases c20 : x7_1 < (x180000_1.length : Int)
   ·rw [if_pos c20] at H
    have c20b0 : decide (x7_1 < (x180000_1.length : Int)) = true := decide_eq_true c20
    clear c20
    have H' := Aside0.mk H
    clear H
    have hnb21 := NB179_170.out
    have hnc21 := NB170_179.out
    have hnb22 := NB179_171.out
    have hnc22 := NB171_179.out
    have hnb23 := NB179_172.out
    have hnc23 := NB172_179.out
    have hcz24_0 := bc BK179 0
    have hcz24_1 := bc BK179 1
    have hfz24_0 := qC BK179.out 0
    have hfz24_1 := qC BK179.out 1
    obtain ⟨Ao25, co25, eo25⟩ := Kd.qo HO_180000.out
    subst eo25
    go_wp2
    go_loopg [8] k1 (fun kq v8 w' => ∃ (x8_2 : Int) (x180000_2 : List (S27)) (x180001_2 : List ByteArray) (u180000 : Value) (u180001 : Value), v8 = .int .i64 x8_2 ∧ Aside0 (qZ.l1 kq x7_1 x8_2 a0_0 a0_1 l0_2 x180000_2 x180001_2 = some (r1, r2, r3)) ∧ Aside0 (kq ≤ k1) ∧ Aside0 (Kd.R k27 27 w' w.heap.size (fun k_ => k_ ≠ gb171) u180000 x180000_2) ∧ Aside0 (Kd.R Kd.string 9 w' w.heap.size (fun _ => True) u180001 x180001_2) ∧ Aside0 (w'.heap[gb170]? = some (.cells #[.int .i64 a0_0, .int .i64 a0_1, (.slice A0_2 l0_2.length c0_2)] 34 (0, 0))) ∧ Aside0 (w'.heap[gb171]? = some (.cells #[.int .i64 a1_0, .int .i64 a1_1, .int .i64 a1_2] 27 (0, 0))) ∧ Aside0 (w'.heap[gb172]? = some (.cells #[(.slice none 0 0), (.slice none 0 0)] 37 (0, 0))) ∧ Aside0 (w'.heap[gb179]? = some (.cells #[u180000, u180001] 37 (0, 0))) ∧ Aside0 (Below w.heap.size w w'))
    case atStart => exact ⟨(0), (x180000_1), (x180001_1), (.slice Ao25 x180000_1.length co25), (u180001), (by first | rfl | (simp; done) | (simp [*]; done)), H', ⟨Nat.le_refl _⟩, ⟨by (with_reducible repeat (first | apply Kd.qF | apply Kd.qE | apply Kd.qH)); exact HO_180000.out⟩, ⟨by (with_reducible repeat (first | apply Kd.qF | apply Kd.qE | apply Kd.qH)); exact HO_180001.out⟩, ⟨by (with_reducible repeat (first | refine qB ?_ _ | refine qD ?_ | refine qA ?_ _)); exact BK170.out⟩, ⟨by (with_reducible repeat (first | refine qB ?_ _ | refine qD ?_ | refine qA ?_ _)); exact BK171.out⟩, ⟨by (with_reducible repeat (first | refine qB ?_ _ | refine qD ?_ | refine qA ?_ _)); exact BK172.out⟩, ⟨by (with_reducible repeat (first | refine qB ?_ _ | refine qD ?_ | refine qA ?_ _)); exact BK179.out⟩, ⟨bl⟩⟩
    case round =>
     clear H'
     try clear c1
     try clear c2
     try clear p2
     try clear c3
     try clear c6
     try clear c7
     try clear c16
     try clear c17
     try clear c18
     try clear c20
     try clear c20b0
     try clear c21
     try clear c22
     try clear c23
     try clear hcz19_0
     try clear hcz19_1
     try clear hcz24_0
     try clear hcz24_1
     try clear hcz8_0
     try clear hcz8_1
     try clear hcz8_2
     try clear hfz19_0
     try clear hfz19_1
     try clear hfz24_0
     try clear hfz24_1
     try clear hfz8_0
     try clear hfz8_1
     try clear hfz8_2
     try clear p2
     obtain ⟨x8_2, x180000_2, x180001_2, u180000, u180001, rfl, HA, HK2, HO_180000, HO_180001, BK170, BK171, BK172, BK179, HB⟩ := hrel
     cases gk with
     | zero => exact absurd HA.out (by simp [qZ.l1])
     | succ k2 =>
      have H := HA.out
      clear HA
      simp only [qZ.l1] at H
      by_cases c26 : x8_2 < 4
      ·rw [if_pos c26] at H
       have c26b0 : decide (x8_2 < 4) = true := decide_eq_true c26
       clear c26
       by_cases c27 : 0 ≤ x7_1
       ·rw [if_pos c27] at H
        have c27b0 : decide (0 ≤ x7_1) = true := decide_eq_true c27
        clear c27
        by_cases c28 : x7_1 < (x180000_2.length : Int)
        ·rw [if_pos c28] at H
         have c28b0 : decide (x7_1 < (x180000_2.length : Int)) = true := decide_eq_true c28
         clear c28
         replace H := Option.bind_eq_some_iff.mp H
         obtain ⟨⟨t181, t182, t183, t184⟩, A290, H⟩ := H
         replace H : (if t184 = true then (qZ.l2 k2 x7_1 x8_2 false x180000_2 (x180000_2.length : Int) 0 a0_0 a0_1 l0_2 x180000_2 x180001_2 t181 t182 t183) else (qZ.l1 k2 x7_1 (wrap64 (x8_2 + 1)) a0_0 a0_1 l0_2 x180000_2 x180001_2)) = some (r1, r2, r3) := H
         have A29 := Aside0.mk A290
         clear A290
         by_cases c30 : t184 = true
         ·subst c30
          have H1 : (qZ.l2 k2 x7_1 x8_2 false x180000_2 (x180000_2.length : Int) 0 a0_0 a0_1 l0_2 x180000_2 x180001_2 t181 t182 t183) = some (r1, r2, r3) := by rw [if_pos rfl] at H; exact H
          clear H
          have H := H1
          clear H1
          have H' := Aside0.mk H
          clear H
          try go_wp2
          have n0_ := Aside0.mk (Kd.qH HO_180000.out)
          have n1_ := Aside0.mk (Kd.qH HO_180001.out)
          have n2_ := Aside0.mk (qD BK170.out)
          have n3_ := Aside0.mk (qD BK171.out)
          have n4_ := Aside0.mk (qD BK172.out)
          have n5_ := Aside0.mk (qD BK179.out)
          have n6_ := Aside0.mk (qm HB.out)
          clear HO_180000
          clear HO_180001
          clear BK170
          clear BK171
          clear BK172
          clear BK179
          clear HB
          have HO_180000 := n0_
          have HO_180001 := n1_
          have BK170 := n2_
          have BK171 := n3_
          have BK172 := n4_
          have BK179 := n5_
          have HB := n6_
          clear n0_ n1_ n2_ n3_ n4_ n5_ n6_
          obtain ⟨Ao32, co32, eo32⟩ := Kd.qo HO_180000.out
          (first | subst eo32 | (injection eo32 with f1_ f2_ f3_; have f4_ := f1_.symm; have f5_ := f3_.symm; clear f1_ f2_ f3_; subst f4_; subst f5_))
          have p180 : 0 ≤ (x7_1 : Int) := of_decide_eq_true (by first | (with_reducible assumption) | assumption)
          have q180 : x7_1 < (x180000_2.length : Int) := of_decide_eq_true (by first | (with_reducible assumption) | assumption)
          obtain ⟨ad180, e180, hx180_0, hx180_1, hx180_2⟩ := qnA (Kd.qT HO_180000.out).2.2 x7_1 p180 q180
          cases e180
          replace p180 := eq_true p180
          replace q180 := eq_true q180
          refine qyA (n := 14) (S := fun w' => w'.cell? ⟨gb170, 0, none⟩ = some (.int .i64 a0_0) ∧ w'.cell? ⟨gb170, 1, none⟩ = some (.int .i64 a0_1) ∧ w'.cell? ⟨gb170, 2, none⟩ = some (.slice A0_2 l0_2.length c0_2) ∧ w'.cell? ⟨gb179, 0, none⟩ = some (.slice (some ad180) x180000_2.length co32) ∧ w'.cell? ⟨gb179, 1, none⟩ = some (u180001) ∧ w'.cell? (ad180.add ((x7_1).toNat * 3)) = some (.int .i64 ((qK x180000_2 x7_1).f0)) ∧ w'.cell? ⟨(ad180.add ((x7_1).toNat * 3)).block, (ad180.add ((x7_1).toNat * 3)).off + 1, none⟩ = some (.int .i64 ((qK x180000_2 x7_1).f1)) ∧ w'.cell? ⟨(ad180.add ((x7_1).toNat * 3)).block, (ad180.add ((x7_1).toNat * 3)).off + 2, none⟩ = some (.int .i64 ((qK x180000_2 x7_1).f2))) (ds := []) #[false, false, false, false, false, false, false, false, false, false, false, false, false, false] (by kernel_rfl) rfl rfl ⟨(qL BK170.out 0).trans rfl, (qL BK170.out 1).trans rfl, (qL BK170.out 2).trans rfl, (qL BK179.out 0).trans rfl, (qL BK179.out 1).trans rfl, hx180_0, hx180_1, hx180_2⟩ (fun hHeld => ?_); refine qWA qZ.tab8 qZ.bits8 (fun HT_ HW_ => ?_)
          generalize wr.drew = w31 at HO_180000 HO_180001 BK170 BK171 BK172 BK179 HB hx180_0 hx180_1 hx180_2 hHeld ⊢
          refine pS (i := 1) (N := some 31) #[false, true, false, false, false, false, false, false, false, false, false, false, false, false] HT_ ?_
          refine pS (i := 3) (N := some 33) #[false, true, false, true, false, false, false, false, false, false, false, false, false, false] HT_ ?_
          refine pS (i := 6) (N := some 36) #[false, true, false, true, false, false, true, false, false, false, false, false, false, false] HT_ ?_
          refine tS (i := 0) (N := some 30) #[true, true, false, true, false, false, true, false, false, false, false, false, false, false] HT_ HW_ hHeld ?_
          refine tS (i := 2) (N := some 32) #[true, true, true, true, false, false, true, false, false, false, false, false, false, false] HT_ HW_ hHeld ?_
          refine pS (i := 4) (N := some 34) #[true, true, true, true, true, false, true, false, false, false, false, false, false, false] HT_ ?_
          refine tS (i := 5) (N := some 35) #[true, true, true, true, true, true, true, false, false, false, false, false, false, false] HT_ HW_ hHeld ?_
          refine join_ (σ := Nat) 2 #[true, true, true, true, true, true, true, true, true, true, true, true, false, false] (fun s_ => [(37, .tuple #[.agg #[.int .i64 t181, .int .i64 t182, .int .i64 t183], .bool true]), (9, .pointer (some ⟨s_, 0, none⟩)), (29, .tuple #[.agg #[.int .i64 t181, .int .i64 t182, .int .i64 t183], .bool true]), (38, .agg #[.int .i64 t181, .int .i64 t182, .int .i64 t183]), (39, .bool true)]) (fun s_ w' => (w'.cell? ⟨gb170, 0, none⟩ = some (.int .i64 a0_0) ∧ w'.cell? ⟨gb170, 1, none⟩ = some (.int .i64 a0_1) ∧ w'.cell? ⟨gb170, 2, none⟩ = some (.slice A0_2 l0_2.length c0_2) ∧ w'.cell? ⟨gb179, 0, none⟩ = some (.slice (some ad180) x180000_2.length co32) ∧ w'.cell? ⟨gb179, 1, none⟩ = some (u180001) ∧ w'.cell? (ad180.add ((x7_1).toNat * 3)) = some (.int .i64 ((qK x180000_2 x7_1).f0)) ∧ w'.cell? ⟨(ad180.add ((x7_1).toNat * 3)).block, (ad180.add ((x7_1).toNat * 3)).off + 1, none⟩ = some (.int .i64 ((qK x180000_2 x7_1).f1)) ∧ w'.cell? ⟨(ad180.add ((x7_1).toNat * 3)).block, (ad180.add ((x7_1).toNat * 3)).off + 2, none⟩ = some (.int .i64 ((qK x180000_2 x7_1).f2))) ∧ (Kd.R k27 27 w' w.heap.size (fun k_ => k_ ≠ gb171 ∧ k_ ≠ s_) (.slice (some ad180) x180000_2.length co32) x180000_2) ∧ (Kd.R Kd.string 9 w' w.heap.size (fun _ => True) u180001 x180001_2) ∧ (w'.heap[gb170]? = some (.cells #[.int .i64 a0_0, .int .i64 a0_1, .slice A0_2 l0_2.length c0_2] 34 (0, 0))) ∧ (w'.heap[gb171]? = some (.cells #[.int .i64 a1_0, .int .i64 a1_1, .int .i64 a1_2] 27 (0, 0))) ∧ (w'.heap[gb172]? = some (.cells #[.slice none 0 0, .slice none 0 0] 37 (0, 0))) ∧ (w'.heap[gb179]? = some (.cells #[.slice (some ad180) x180000_2.length co32, u180001] 37 (0, 0))) ∧ (w'.heap[s_]? = some (.cells #[.int .i64 0, .int .i64 0, .int .i64 0] 27 (0, 0))) ∧ (w.heap.size ≤ s_) ∧ (w.heap.size ≤ s_) ∧ (gb170 ≠ s_) ∧ (s_ ≠ gb170) ∧ (gb171 ≠ s_) ∧ (s_ ≠ gb171) ∧ (gb172 ≠ s_) ∧ (s_ ≠ gb172) ∧ (gb179 ≠ s_) ∧ (s_ ≠ gb179) ∧ (Below w.heap.size w w')) ?_ ?_
          rotate_left
          ·intro hCont
           refine two_ (i := 7) (j := 11) (Ni := some 37) (Nj := some 9) #[true, true, true, true, true, true, true, true, false, false, false, false, false, false] #[true, true, true, true, true, true, true, false, false, false, false, true, false, false] rfl rfl rfl rfl (qKC HT_.out (by kernel_rfl)) (by decide) (by decide) (fun K hK => ?_) (fun K hK => ?_)
           ·skip
            refine goes_ Tryd.func28 (by kernel_rfl) rfl #[.agg #[.int .i64 a0_0, .int .i64 a0_1, .slice A0_2 l0_2.length c0_2], .agg #[.int .i64 ((qK x180000_2 x7_1).f0), .int .i64 ((qK x180000_2 x7_1).f1), .int .i64 ((qK x180000_2 x7_1).f2)], .int .i64 x8_2] (by rfl) rfl rfl (by (try simp only [List.map_toArray, List.map_cons, List.map_nil]); first | done | rfl | (simp only [List.length_drop, List.length_take]; rfl)) ?_
            with_reducible refine (qoA.calls k2 a0_0 a0_1 _ _ l0_2 ((qK x180000_2 x7_1).f0) ((qK x180000_2 x7_1).f1) ((qK x180000_2 x7_1).f2) x8_2 t181 t182 t183 true _ ?side1 ?side2 A29.out).mono ?_
            (case side1 => repeat (first | exact (Kd.qYA HR0_2.out HB.out) | (with_reducible refine Kd.qz ?_ _) | (with_reducible refine Kd.qy ?_ _) | (with_reducible refine Kd.qNA ?_)))
            (case side2 => exact HC0_2.out)
            rintro e w33 ⟨rfl, hb⟩
            have HS5_ := (hb.cell (World.block_lt_of_cell? _ _ (hHeld.2.2.2.2.2.1))).trans (hHeld.2.2.2.2.2.1)
            have HS6_ := (hb.cell (World.block_lt_of_cell? _ _ (hHeld.2.2.2.2.2.2.1))).trans (hHeld.2.2.2.2.2.2.1)
            have HS7_ := (hb.cell (World.block_lt_of_cell? _ _ (hHeld.2.2.2.2.2.2.2))).trans (hHeld.2.2.2.2.2.2.2)
            refine ⟨_, rfl, ?_⟩
            have n0_ := Aside0.mk (Kd.qa (by (with_reducible repeat (first | apply Kd.qF | apply Kd.qE | apply Kd.qH)); exact HO_180000.out) hb)
            have n1_ := Aside0.mk (Kd.qa (by (with_reducible repeat (first | apply Kd.qF | apply Kd.qE | apply Kd.qH)); exact HO_180001.out) hb)
            have n2_ := Aside0.mk (bb BK170 hb)
            have n3_ := Aside0.mk (bb BK171 hb)
            have n4_ := Aside0.mk (bb BK172 hb)
            have n5_ := Aside0.mk (bb BK179 hb)
            have n6_ := Aside0.mk (qG bl hb)
            clear HO_180000
            clear HO_180001
            clear BK170
            clear BK171
            clear BK172
            clear BK179
            clear HB
            have HO_180000 := n0_
            have HO_180001 := n1_
            have BK170 := n2_
            have BK171 := n3_
            have BK172 := n4_
            have BK179 := n5_
            have HB := n6_
            clear n0_ n1_ n2_ n3_ n4_ n5_ n6_
            (try clear hb)
            (try clear hb2)
            (try clear hk)
            (try clear hi)
            refine hK.out _ _ ⟨(qL BK170.out 0).trans rfl, (qL BK170.out 1).trans rfl, (qL BK170.out 2).trans rfl, (qL BK179.out 0).trans rfl, (qL BK179.out 1).trans rfl, HS5_, HS6_, HS7_⟩ (fun hHeld => ?_)
            clear hK K
            refine norm_ (a' := ?_) ?_ ?_
            rotate_left
            ·show Act.put _ (some 37) _ = _
             simp only [Act.put, List.setIfInBounds_toArray, List.set_cons_zero, List.set_cons_succ, i64_w, i32_w]
             rfl
            refine pS (i := 8) (N := some 29) #[true, true, true, true, true, true, true, true, true, false, false, false, false, false] HT_ ?_
            refine pS (i := 9) (N := some 38) #[true, true, true, true, true, true, true, true, true, true, false, false, false, false] HT_ ?_
            refine pS (i := 10) (N := some 39) #[true, true, true, true, true, true, true, true, true, true, true, false, false, false] HT_ ?_
            refine one_ (i := 11) (N := some 9) #[true, true, true, true, true, true, true, true, true, true, true, true, false, false] rfl rfl (qQA HT_.out (by kernel_rfl)) (by decide) (fun K hK => ?_)
            refine qIB ?hg (N := 9) ?hd (cs := #[.int .i64 0, .int .i64 0, .int .i64 0]) (t := 27) ?hr ?_; (case hd => rfl); (case hg => rfl); (case hr => first | (go_simp; done) | (go_simp; rfl))
            intro gb185 hg w34 hbox hb
            have HS5_ := (hb.cell (World.block_lt_of_cell? _ _ (hHeld.2.2.2.2.2.1))).trans (hHeld.2.2.2.2.2.1)
            have HS6_ := (hb.cell (World.block_lt_of_cell? _ _ (hHeld.2.2.2.2.2.2.1))).trans (hHeld.2.2.2.2.2.2.1)
            have HS7_ := (hb.cell (World.block_lt_of_cell? _ _ (hHeld.2.2.2.2.2.2.2))).trans (hHeld.2.2.2.2.2.2.2)
            have n0_ := Aside0.mk (Kd.qa (Kd.qsA (by (with_reducible repeat (first | apply Kd.qF | apply Kd.qE | apply Kd.qH)); exact HO_180000.out) gb185 (Nat.le_of_eq hg.symm)) hb)
            have n1_ := Aside0.mk (Kd.qa (by (with_reducible repeat (first | apply Kd.qF | apply Kd.qE | apply Kd.qH)); exact HO_180001.out) hb)
            have n2_ := Aside0.mk (bb BK170 hb)
            have n3_ := Aside0.mk (bb BK171 hb)
            have n4_ := Aside0.mk (bb BK172 hb)
            have n5_ := Aside0.mk (bb BK179 hb)
            have n6_ := Aside0.mk (qG bl hb)
            have n7_ := Aside0.mk (hbox)
            have n8_ := Aside0.mk ((gg hg))
            have n9_ := Aside0.mk ((gg hg))
            have n10_ := Aside0.mk ((nl BK170 hg))
            have n11_ := Aside0.mk ((nr BK170 hg))
            have n12_ := Aside0.mk ((nl BK171 hg))
            have n13_ := Aside0.mk ((nr BK171 hg))
            have n14_ := Aside0.mk ((nl BK172 hg))
            have n15_ := Aside0.mk ((nr BK172 hg))
            have n16_ := Aside0.mk ((nl BK179 hg))
            have n17_ := Aside0.mk ((nr BK179 hg))
            clear HO_180000
            clear HO_180001
            clear BK170
            clear BK171
            clear BK172
            clear BK179
            clear HB
            have HO_180000 := n0_
            have HO_180001 := n1_
            have BK170 := n2_
            have BK171 := n3_
            have BK172 := n4_
            have BK179 := n5_
            have HB := n6_
            have BK185 := n7_
            have GW185 := n8_
            have GE185 := n9_
            have NB170_185 := n10_
            have NB185_170 := n11_
            have NB171_185 := n12_
            have NB185_171 := n13_
            have NB172_185 := n14_
            have NB185_172 := n15_
            have NB179_185 := n16_
            have NB185_179 := n17_
            clear n0_ n1_ n2_ n3_ n4_ n5_ n6_ n7_ n8_ n9_ n10_ n11_ n12_ n13_ n14_ n15_ n16_ n17_
            clear hb hbox hg
            refine hK.out _ _ ⟨(qL BK170.out 0).trans rfl, (qL BK170.out 1).trans rfl, (qL BK170.out 2).trans rfl, (qL BK179.out 0).trans rfl, (qL BK179.out 1).trans rfl, HS5_, HS6_, HS7_⟩ (fun hHeld => ?_)
            clear hK K
            refine norm_ (a' := ?_) ?_ ?_
            rotate_left
            ·show Act.put _ (some 9) _ = _
             simp only [Act.put, List.setIfInBounds_toArray, List.set_cons_zero, List.set_cons_succ, i64_w, i32_w]
             rfl
            exact norm_ (by simp only [putAll, Act.put, List.setIfInBounds_toArray, List.set_cons_zero, List.set_cons_succ]) (hCont (gb185) _ ⟨hHeld, (by (with_reducible repeat (first | apply Kd.qF | apply Kd.qE | apply Kd.qH)); exact HO_180000.out), (by (with_reducible repeat (first | apply Kd.qF | apply Kd.qE | apply Kd.qH)); exact HO_180001.out), (by (with_reducible repeat (first | refine qB ?_ _ | refine qD ?_ | refine qA ?_ _)); exact BK170.out), (by (with_reducible repeat (first | refine qB ?_ _ | refine qD ?_ | refine qA ?_ _)); exact BK171.out), (by (with_reducible repeat (first | refine qB ?_ _ | refine qD ?_ | refine qA ?_ _)); exact BK172.out), (by (with_reducible repeat (first | refine qB ?_ _ | refine qD ?_ | refine qA ?_ _)); exact BK179.out), (by (with_reducible repeat (first | refine qB ?_ _ | refine qD ?_ | refine qA ?_ _)); exact BK185.out), GW185.out, GE185.out, NB170_185.out, NB185_170.out, NB171_185.out, NB185_171.out, NB172_185.out, NB185_172.out, NB179_185.out, NB185_179.out, bl⟩)
           ·skip
            refine qIB ?hg (N := 9) ?hd (cs := #[.int .i64 0, .int .i64 0, .int .i64 0]) (t := 27) ?hr ?_; (case hd => rfl); (case hg => rfl); (case hr => first | (go_simp; done) | (go_simp; rfl))
            intro gb185 hg w33 hbox hb
            have HS5_ := (hb.cell (World.block_lt_of_cell? _ _ (hHeld.2.2.2.2.2.1))).trans (hHeld.2.2.2.2.2.1)
            have HS6_ := (hb.cell (World.block_lt_of_cell? _ _ (hHeld.2.2.2.2.2.2.1))).trans (hHeld.2.2.2.2.2.2.1)
            have HS7_ := (hb.cell (World.block_lt_of_cell? _ _ (hHeld.2.2.2.2.2.2.2))).trans (hHeld.2.2.2.2.2.2.2)
            have n0_ := Aside0.mk (Kd.qa (Kd.qsA (by (with_reducible repeat (first | apply Kd.qF | apply Kd.qE | apply Kd.qH)); exact HO_180000.out) gb185 (Nat.le_of_eq hg.symm)) hb)
            have n1_ := Aside0.mk (Kd.qa (by (with_reducible repeat (first | apply Kd.qF | apply Kd.qE | apply Kd.qH)); exact HO_180001.out) hb)
            have n2_ := Aside0.mk (bb BK170 hb)
            have n3_ := Aside0.mk (bb BK171 hb)
            have n4_ := Aside0.mk (bb BK172 hb)
            have n5_ := Aside0.mk (bb BK179 hb)
            have n6_ := Aside0.mk (qG bl hb)
            have n7_ := Aside0.mk (hbox)
            have n8_ := Aside0.mk ((gg hg))
            have n9_ := Aside0.mk ((gg hg))
            have n10_ := Aside0.mk ((nl BK170 hg))
            have n11_ := Aside0.mk ((nr BK170 hg))
            have n12_ := Aside0.mk ((nl BK171 hg))
            have n13_ := Aside0.mk ((nr BK171 hg))
            have n14_ := Aside0.mk ((nl BK172 hg))
            have n15_ := Aside0.mk ((nr BK172 hg))
            have n16_ := Aside0.mk ((nl BK179 hg))
            have n17_ := Aside0.mk ((nr BK179 hg))
            clear HO_180000
            clear HO_180001
            clear BK170
            clear BK171
            clear BK172
            clear BK179
            clear HB
            have HO_180000 := n0_
            have HO_180001 := n1_
            have BK170 := n2_
            have BK171 := n3_
            have BK172 := n4_
            have BK179 := n5_
            have HB := n6_
            have BK185 := n7_
            have GW185 := n8_
            have GE185 := n9_
            have NB170_185 := n10_
            have NB185_170 := n11_
            have NB171_185 := n12_
            have NB185_171 := n13_
            have NB172_185 := n14_
            have NB185_172 := n15_
            have NB179_185 := n16_
            have NB185_179 := n17_
            clear n0_ n1_ n2_ n3_ n4_ n5_ n6_ n7_ n8_ n9_ n10_ n11_ n12_ n13_ n14_ n15_ n16_ n17_
            clear hb hbox hg
            refine hK.out _ _ ⟨(qL BK170.out 0).trans rfl, (qL BK170.out 1).trans rfl, (qL BK170.out 2).trans rfl, (qL BK179.out 0).trans rfl, (qL BK179.out 1).trans rfl, HS5_, HS6_, HS7_⟩ (fun hHeld => ?_)
            clear hK K
            refine norm_ (a' := ?_) ?_ ?_
            rotate_left
            ·show Act.put _ (some 9) _ = _
             simp only [Act.put, List.setIfInBounds_toArray, List.set_cons_zero, List.set_cons_succ, i64_w, i32_w]
             rfl
            refine one_ (i := 7) (N := some 37) #[true, true, true, true, true, true, true, true, false, false, false, true, false, false] rfl rfl (qQA HT_.out (by kernel_rfl)) (by decide) (fun K hK => ?_)
            refine goes_ Tryd.func28 (by kernel_rfl) rfl #[.agg #[.int .i64 a0_0, .int .i64 a0_1, .slice A0_2 l0_2.length c0_2], .agg #[.int .i64 ((qK x180000_2 x7_1).f0), .int .i64 ((qK x180000_2 x7_1).f1), .int .i64 ((qK x180000_2 x7_1).f2)], .int .i64 x8_2] (by rfl) rfl rfl (by (try simp only [List.map_toArray, List.map_cons, List.map_nil]); first | done | rfl | (simp only [List.length_drop, List.length_take]; rfl)) ?_
            with_reducible refine (qoA.calls k2 a0_0 a0_1 _ _ l0_2 ((qK x180000_2 x7_1).f0) ((qK x180000_2 x7_1).f1) ((qK x180000_2 x7_1).f2) x8_2 t181 t182 t183 true _ ?side1 ?side2 A29.out).mono ?_
            (case side1 => repeat (first | exact (Kd.qYA HR0_2.out HB.out) | (with_reducible refine Kd.qz ?_ _) | (with_reducible refine Kd.qy ?_ _) | (with_reducible refine Kd.qNA ?_)))
            (case side2 => exact HC0_2.out)
            rintro e w34 ⟨rfl, hb⟩
            have HS5_ := (hb.cell (World.block_lt_of_cell? _ _ (hHeld.2.2.2.2.2.1))).trans (hHeld.2.2.2.2.2.1)
            have HS6_ := (hb.cell (World.block_lt_of_cell? _ _ (hHeld.2.2.2.2.2.2.1))).trans (hHeld.2.2.2.2.2.2.1)
            have HS7_ := (hb.cell (World.block_lt_of_cell? _ _ (hHeld.2.2.2.2.2.2.2))).trans (hHeld.2.2.2.2.2.2.2)
            refine ⟨_, rfl, ?_⟩
            have n0_ := Aside0.mk (Kd.qa (by (with_reducible repeat (first | apply Kd.qF | apply Kd.qE | apply Kd.qH)); exact HO_180000.out) hb)
            have n1_ := Aside0.mk (Kd.qa (by (with_reducible repeat (first | apply Kd.qF | apply Kd.qE | apply Kd.qH)); exact HO_180001.out) hb)
            have n2_ := Aside0.mk (bb BK170 hb)
            have n3_ := Aside0.mk (bb BK171 hb)
            have n4_ := Aside0.mk (bb BK172 hb)
            have n5_ := Aside0.mk (bb BK179 hb)
            have n6_ := Aside0.mk (bb BK185 hb)
            have n7_ := Aside0.mk (qG bl hb)
            clear HO_180000
            clear HO_180001
            clear BK170
            clear BK171
            clear BK172
            clear BK179
            clear BK185
            clear HB
            have HO_180000 := n0_
            have HO_180001 := n1_
            have BK170 := n2_
            have BK171 := n3_
            have BK172 := n4_
            have BK179 := n5_
            have BK185 := n6_
            have HB := n7_
            clear n0_ n1_ n2_ n3_ n4_ n5_ n6_ n7_
            (try clear hb)
            (try clear hb2)
            (try clear hk)
            (try clear hi)
            refine hK.out _ _ ⟨(qL BK170.out 0).trans rfl, (qL BK170.out 1).trans rfl, (qL BK170.out 2).trans rfl, (qL BK179.out 0).trans rfl, (qL BK179.out 1).trans rfl, HS5_, HS6_, HS7_⟩ (fun hHeld => ?_)
            clear hK K
            refine norm_ (a' := ?_) ?_ ?_
            rotate_left
            ·show Act.put _ (some 37) _ = _
             simp only [Act.put, List.setIfInBounds_toArray, List.set_cons_zero, List.set_cons_succ, i64_w, i32_w]
             rfl
            refine pS (i := 8) (N := some 29) #[true, true, true, true, true, true, true, true, true, false, false, true, false, false] HT_ ?_
            refine pS (i := 9) (N := some 38) #[true, true, true, true, true, true, true, true, true, true, false, true, false, false] HT_ ?_
            refine pS (i := 10) (N := some 39) #[true, true, true, true, true, true, true, true, true, true, true, true, false, false] HT_ ?_
            exact norm_ (by simp only [putAll, Act.put, List.setIfInBounds_toArray, List.set_cons_zero, List.set_cons_succ]) (hCont (gb185) _ ⟨hHeld, (by (with_reducible repeat (first | apply Kd.qF | apply Kd.qE | apply Kd.qH)); exact HO_180000.out), (by (with_reducible repeat (first | apply Kd.qF | apply Kd.qE | apply Kd.qH)); exact HO_180001.out), (by (with_reducible repeat (first | refine qB ?_ _ | refine qD ?_ | refine qA ?_ _)); exact BK170.out), (by (with_reducible repeat (first | refine qB ?_ _ | refine qD ?_ | refine qA ?_ _)); exact BK171.out), (by (with_reducible repeat (first | refine qB ?_ _ | refine qD ?_ | refine qA ?_ _)); exact BK172.out), (by (with_reducible repeat (first | refine qB ?_ _ | refine qD ?_ | refine qA ?_ _)); exact BK179.out), (by (with_reducible repeat (first | refine qB ?_ _ | refine qD ?_ | refine qA ?_ _)); exact BK185.out), GW185.out, GE185.out, NB170_185.out, NB185_170.out, NB171_185.out, NB185_171.out, NB172_185.out, NB185_172.out, NB179_185.out, NB185_179.out, bl⟩)
          rintro gb185 w35 ⟨hS_, h0_, h1_, h2_, h3_, h4_, h5_, h6_, h7_, h8_, h9_, h10_, h11_, h12_, h13_, h14_, h15_, h16_, h17_⟩
          have n0_ : Aside0 (Kd.R k27 27 w35 w.heap.size (fun k_ => k_ ≠ gb171 ∧ k_ ≠ gb185) (.slice (some ad180) x180000_2.length co32) x180000_2) := ⟨h0_⟩
          have n1_ : Aside0 (Kd.R Kd.string 9 w35 w.heap.size (fun _ => True) u180001 x180001_2) := ⟨h1_⟩
          have n2_ : Aside0 (w35.heap[gb170]? = some (.cells #[.int .i64 a0_0, .int .i64 a0_1, .slice A0_2 l0_2.length c0_2] 34 (0, 0))) := ⟨h2_⟩
          have n3_ : Aside0 (w35.heap[gb171]? = some (.cells #[.int .i64 a1_0, .int .i64 a1_1, .int .i64 a1_2] 27 (0, 0))) := ⟨h3_⟩
          have n4_ : Aside0 (w35.heap[gb172]? = some (.cells #[.slice none 0 0, .slice none 0 0] 37 (0, 0))) := ⟨h4_⟩
          have n5_ : Aside0 (w35.heap[gb179]? = some (.cells #[.slice (some ad180) x180000_2.length co32, u180001] 37 (0, 0))) := ⟨h5_⟩
          have n6_ : Aside0 (w35.heap[gb185]? = some (.cells #[.int .i64 0, .int .i64 0, .int .i64 0] 27 (0, 0))) := ⟨h6_⟩
          have n7_ : Aside0 (w.heap.size ≤ gb185) := ⟨h7_⟩
          have n8_ : Aside0 (w.heap.size ≤ gb185) := ⟨h8_⟩
          have n9_ : Aside0 (gb170 ≠ gb185) := ⟨h9_⟩
          have n10_ : Aside0 (gb185 ≠ gb170) := ⟨h10_⟩
          have n11_ : Aside0 (gb171 ≠ gb185) := ⟨h11_⟩
          have n12_ : Aside0 (gb185 ≠ gb171) := ⟨h12_⟩
          have n13_ : Aside0 (gb172 ≠ gb185) := ⟨h13_⟩
          have n14_ : Aside0 (gb185 ≠ gb172) := ⟨h14_⟩
          have n15_ : Aside0 (gb179 ≠ gb185) := ⟨h15_⟩
          have n16_ : Aside0 (gb185 ≠ gb179) := ⟨h16_⟩
          have n17_ : Aside0 (Below w.heap.size w w35) := ⟨h17_⟩
          clear HO_180000
          clear HO_180001
          clear BK170
          clear BK171
          clear BK172
          clear BK179
          clear HB
          clear h0_ h1_ h2_ h3_ h4_ h5_ h6_ h7_ h8_ h9_ h10_ h11_ h12_ h13_ h14_ h15_ h16_ h17_
          have HO_180000 := n0_
          have HO_180001 := n1_
          have BK170 := n2_
          have BK171 := n3_
          have BK172 := n4_
          have BK179 := n5_
          have BK185 := n6_
          have GW185 := n7_
          have GE185 := n8_
          have NB170_185 := n9_
          have NB185_170 := n10_
          have NB171_185 := n11_
          have NB185_171 := n12_
          have NB172_185 := n13_
          have NB185_172 := n14_
          have NB179_185 := n15_
          have NB185_179 := n16_
          have HB := n17_
          clear n0_ n1_ n2_ n3_ n4_ n5_ n6_ n7_ n8_ n9_ n10_ n11_ n12_ n13_ n14_ n15_ n16_ n17_
          have hHeld : w35.cell? ⟨gb170, 0, none⟩ = some (.int .i64 a0_0) ∧ w35.cell? ⟨gb170, 1, none⟩ = some (.int .i64 a0_1) ∧ w35.cell? ⟨gb170, 2, none⟩ = some (.slice A0_2 l0_2.length c0_2) ∧ w35.cell? ⟨gb179, 0, none⟩ = some (.slice (some ad180) x180000_2.length co32) ∧ w35.cell? ⟨gb179, 1, none⟩ = some (u180001) ∧ w35.cell? (ad180.add ((x7_1).toNat * 3)) = some (.int .i64 ((qK x180000_2 x7_1).f0)) ∧ w35.cell? ⟨(ad180.add ((x7_1).toNat * 3)).block, (ad180.add ((x7_1).toNat * 3)).off + 1, none⟩ = some (.int .i64 ((qK x180000_2 x7_1).f1)) ∧ w35.cell? ⟨(ad180.add ((x7_1).toNat * 3)).block, (ad180.add ((x7_1).toNat * 3)).off + 2, none⟩ = some (.int .i64 ((qK x180000_2 x7_1).f2)) := hS_
          refine norm_ (a' := ?_) ?_ ?_
          rotate_left
          ·simp only [putAll, Act.put, List.setIfInBounds_toArray, List.set_cons_zero, List.set_cons_succ]
           rfl
          refine one_ (i := 12) (N := none) #[true, true, true, true, true, true, true, true, true, true, true, true, true, false] rfl rfl (qQA HT_.out (by kernel_rfl)) (by decide) (fun K hK => ?_)
          have hs36 : w35.cell? ⟨gb185, 0, none⟩ = some (.int .i64 0) := (qL BK185.out 0).trans rfl
          have hfs36 := qC BK185.out 0
          have hns36_0 := NB170_185.out
          have hns36_1 := NB171_185.out
          have hns36_2 := NB172_185.out
          have hns36_3 := NB179_185.out
          have hms36_0 := NB185_170.out
          have hms36_1 := NB185_171.out
          have hms36_2 := NB185_172.out
          have hms36_3 := NB185_179.out
          have hs37 : w35.cell? ⟨gb185, 1, none⟩ = some (.int .i64 0) := (qL BK185.out 1).trans rfl
          have hfs37 := qC BK185.out 1
          have hns37_0 := NB170_185.out
          have hns37_1 := NB171_185.out
          have hns37_2 := NB172_185.out
          have hns37_3 := NB179_185.out
          have hms37_0 := NB185_170.out
          have hms37_1 := NB185_171.out
          have hms37_2 := NB185_172.out
          have hms37_3 := NB185_179.out
          have hs38 : w35.cell? ⟨gb185, 2, none⟩ = some (.int .i64 0) := (qL BK185.out 2).trans rfl
          have hfs38 := qC BK185.out 2
          have hns38_0 := NB170_185.out
          have hns38_1 := NB171_185.out
          have hns38_2 := NB172_185.out
          have hns38_3 := NB179_185.out
          have hms38_0 := NB185_170.out
          have hms38_1 := NB185_171.out
          have hms38_2 := NB185_172.out
          have hms38_3 := NB185_179.out
          refine skip_ (w1 := ?_) (by rfl) rfl ?_ ?_
          rotate_left
          ·go_simp
           rfl
          refine hK.out _ _ ⟨((qR (p := ⟨gb185, _, none⟩) NB170_185.out _).trans (((qR (p := ⟨gb185, _, none⟩) NB170_185.out _).trans (((qR (p := ⟨gb185, _, none⟩) NB170_185.out _).trans (hHeld.1)))))), ((qR (p := ⟨gb185, _, none⟩) NB170_185.out _).trans (((qR (p := ⟨gb185, _, none⟩) NB170_185.out _).trans (((qR (p := ⟨gb185, _, none⟩) NB170_185.out _).trans (hHeld.2.1)))))), ((qR (p := ⟨gb185, _, none⟩) NB170_185.out _).trans (((qR (p := ⟨gb185, _, none⟩) NB170_185.out _).trans (((qR (p := ⟨gb185, _, none⟩) NB170_185.out _).trans (hHeld.2.2.1)))))), ((qR (p := ⟨gb185, _, none⟩) NB179_185.out _).trans (((qR (p := ⟨gb185, _, none⟩) NB179_185.out _).trans (((qR (p := ⟨gb185, _, none⟩) NB179_185.out _).trans (hHeld.2.2.2.1)))))), ((qR (p := ⟨gb185, _, none⟩) NB179_185.out _).trans (((qR (p := ⟨gb185, _, none⟩) NB179_185.out _).trans (((qR (p := ⟨gb185, _, none⟩) NB179_185.out _).trans (hHeld.2.2.2.2.1)))))), ((qR (p := ⟨gb185, _, none⟩) (by first | exact Kd.qO (Kd.qU HO_180000.out (fun _ hk => hk.2)) | (rw [qW]; exact Kd.qO (Kd.qU HO_180000.out (fun _ hk => hk.2))) | (show (Addr.add _ _).block ≠ _; rw [qW]; exact Kd.qO (Kd.qU HO_180000.out (fun _ hk => hk.2))) | (dsimp only; exact Kd.qO (Kd.qU HO_180000.out (fun _ hk => hk.2)))) _).trans (((qR (p := ⟨gb185, _, none⟩) (by first | exact Kd.qO (Kd.qU HO_180000.out (fun _ hk => hk.2)) | (rw [qW]; exact Kd.qO (Kd.qU HO_180000.out (fun _ hk => hk.2))) | (show (Addr.add _ _).block ≠ _; rw [qW]; exact Kd.qO (Kd.qU HO_180000.out (fun _ hk => hk.2))) | (dsimp only; exact Kd.qO (Kd.qU HO_180000.out (fun _ hk => hk.2)))) _).trans (((qR (p := ⟨gb185, _, none⟩) (by first | exact Kd.qO (Kd.qU HO_180000.out (fun _ hk => hk.2)) | (rw [qW]; exact Kd.qO (Kd.qU HO_180000.out (fun _ hk => hk.2))) | (show (Addr.add _ _).block ≠ _; rw [qW]; exact Kd.qO (Kd.qU HO_180000.out (fun _ hk => hk.2))) | (dsimp only; exact Kd.qO (Kd.qU HO_180000.out (fun _ hk => hk.2)))) _).trans (hHeld.2.2.2.2.2.1)))))), ((qR (p := ⟨gb185, _, none⟩) (by first | exact Kd.qO (Kd.qU HO_180000.out (fun _ hk => hk.2)) | (rw [qW]; exact Kd.qO (Kd.qU HO_180000.out (fun _ hk => hk.2))) | (show (Addr.add _ _).block ≠ _; rw [qW]; exact Kd.qO (Kd.qU HO_180000.out (fun _ hk => hk.2))) | (dsimp only; exact Kd.qO (Kd.qU HO_180000.out (fun _ hk => hk.2)))) _).trans (((qR (p := ⟨gb185, _, none⟩) (by first | exact Kd.qO (Kd.qU HO_180000.out (fun _ hk => hk.2)) | (rw [qW]; exact Kd.qO (Kd.qU HO_180000.out (fun _ hk => hk.2))) | (show (Addr.add _ _).block ≠ _; rw [qW]; exact Kd.qO (Kd.qU HO_180000.out (fun _ hk => hk.2))) | (dsimp only; exact Kd.qO (Kd.qU HO_180000.out (fun _ hk => hk.2)))) _).trans (((qR (p := ⟨gb185, _, none⟩) (by first | exact Kd.qO (Kd.qU HO_180000.out (fun _ hk => hk.2)) | (rw [qW]; exact Kd.qO (Kd.qU HO_180000.out (fun _ hk => hk.2))) | (show (Addr.add _ _).block ≠ _; rw [qW]; exact Kd.qO (Kd.qU HO_180000.out (fun _ hk => hk.2))) | (dsimp only; exact Kd.qO (Kd.qU HO_180000.out (fun _ hk => hk.2)))) _).trans (hHeld.2.2.2.2.2.2.1)))))), ((qR (p := ⟨gb185, _, none⟩) (by first | exact Kd.qO (Kd.qU HO_180000.out (fun _ hk => hk.2)) | (rw [qW]; exact Kd.qO (Kd.qU HO_180000.out (fun _ hk => hk.2))) | (show (Addr.add _ _).block ≠ _; rw [qW]; exact Kd.qO (Kd.qU HO_180000.out (fun _ hk => hk.2))) | (dsimp only; exact Kd.qO (Kd.qU HO_180000.out (fun _ hk => hk.2)))) _).trans (((qR (p := ⟨gb185, _, none⟩) (by first | exact Kd.qO (Kd.qU HO_180000.out (fun _ hk => hk.2)) | (rw [qW]; exact Kd.qO (Kd.qU HO_180000.out (fun _ hk => hk.2))) | (show (Addr.add _ _).block ≠ _; rw [qW]; exact Kd.qO (Kd.qU HO_180000.out (fun _ hk => hk.2))) | (dsimp only; exact Kd.qO (Kd.qU HO_180000.out (fun _ hk => hk.2)))) _).trans (((qR (p := ⟨gb185, _, none⟩) (by first | exact Kd.qO (Kd.qU HO_180000.out (fun _ hk => hk.2)) | (rw [qW]; exact Kd.qO (Kd.qU HO_180000.out (fun _ hk => hk.2))) | (show (Addr.add _ _).block ≠ _; rw [qW]; exact Kd.qO (Kd.qU HO_180000.out (fun _ hk => hk.2))) | (dsimp only; exact Kd.qO (Kd.qU HO_180000.out (fun _ hk => hk.2)))) _).trans (hHeld.2.2.2.2.2.2.2))))))⟩ (fun hHeld => ?_)
          clear hK K
          refine pS (i := 13) (N := some 10) #[true, true, true, true, true, true, true, true, true, true, true, true, true, true] HT_ ?_
          refine done_ (qqA HT_.out (by kernel_rfl)) ?_
          have hnb39 := NB179_170.out
          have hnc39 := NB170_179.out
          have hnb40 := NB179_171.out
          have hnc40 := NB171_179.out
          have hnb41 := NB179_172.out
          have hnc41 := NB172_179.out
          have hnb42 := NB179_185.out
          have hnc42 := NB185_179.out
          have hcz43_0 := bc BK179 0
          have hcz43_1 := bc BK179 1
          have hfz43_0 := qC BK179.out 0
          have hfz43_1 := qC BK179.out 1
          try go_wp2
          go_loopg [11, 45] k2 (fun kq v11 v45 w' => ∃ (x11_3 : Bool) (x45_3 : Int), v11 = .bool x11_3 ∧ v45 = .int .i64 x45_3 ∧ Aside0 (qZ.l2 kq x7_1 x8_2 x11_3 x180000_2 (x180000_2.length : Int) x45_3 a0_0 a0_1 l0_2 x180000_2 x180001_2 t181 t182 t183 = some (r1, r2, r3)) ∧ Aside0 (kq ≤ k2) ∧ Aside0 (Kd.R k27 27 w' w.heap.size (fun k_ => k_ ≠ gb171 ∧ k_ ≠ gb185) (.slice (some ad180) x180000_2.length co32) x180000_2) ∧ Aside0 (Kd.R k27 27 w' w.heap.size (fun k_ => k_ ≠ gb171 ∧ k_ ≠ gb185) (.slice (some ad180) x180000_2.length co32) x180000_2) ∧ Aside0 (Kd.R Kd.string 9 w' w.heap.size (fun _ => True) u180001 x180001_2) ∧ Aside0 (w'.heap[gb170]? = some (.cells #[.int .i64 a0_0, .int .i64 a0_1, (.slice A0_2 l0_2.length c0_2)] 34 (0, 0))) ∧ Aside0 (w'.heap[gb171]? = some (.cells #[.int .i64 a1_0, .int .i64 a1_1, .int .i64 a1_2] 27 (0, 0))) ∧ Aside0 (w'.heap[gb172]? = some (.cells #[(.slice none 0 0), (.slice none 0 0)] 37 (0, 0))) ∧ Aside0 (w'.heap[gb179]? = some (.cells #[(.slice (some ad180) x180000_2.length co32), u180001] 37 (0, 0))) ∧ Aside0 (w'.heap[gb185]? = some (.cells #[.int .i64 t181, .int .i64 t182, .int .i64 t183] 27 (0, 0))) ∧ Aside0 (Below w.heap.size w w'))
          case atStart => exact ⟨(false), (0), (by first | rfl | (simp; done) | (simp [*]; done)), (by first | rfl | (simp; done) | (simp [*]; done)), H', ⟨Nat.le_refl _⟩, ⟨by (with_reducible repeat (first | apply Kd.qF | apply Kd.qE | apply Kd.qH)); exact Kd.qh (Kd.R_far (p := ⟨gb185, 2, none⟩) (Kd.R_far (p := ⟨gb185, 1, none⟩) (Kd.R_far (p := ⟨gb185, 0, none⟩) (Kd.qh HO_180000.out (fun k_ hk => (⟨hk, hk.2⟩ : _ ∧ k_ ≠ gb185))) (fun _ hk => hk.2) (.int .i64 t181)) (fun _ hk => hk.2) (.int .i64 t182)) (fun _ hk => hk.2) (.int .i64 t183)) (fun _ hk => ⟨hk.1.1, hk.1.2⟩)⟩, ⟨by (with_reducible repeat (first | apply Kd.qF | apply Kd.qE | apply Kd.qH)); exact Kd.qh (Kd.R_far (p := ⟨gb185, 2, none⟩) (Kd.R_far (p := ⟨gb185, 1, none⟩) (Kd.R_far (p := ⟨gb185, 0, none⟩) (Kd.qh HO_180000.out (fun k_ hk => (⟨hk, hk.2⟩ : _ ∧ k_ ≠ gb185))) (fun _ hk => hk.2) (.int .i64 t181)) (fun _ hk => hk.2) (.int .i64 t182)) (fun _ hk => hk.2) (.int .i64 t183)) (fun _ hk => ⟨hk.1.1, hk.1.2⟩)⟩, ⟨by (with_reducible repeat (first | apply Kd.qF | apply Kd.qE | apply Kd.qH)); exact Kd.qh (Kd.R_far (p := ⟨gb185, 2, none⟩) (Kd.R_far (p := ⟨gb185, 1, none⟩) (Kd.R_far (p := ⟨gb185, 0, none⟩) (Kd.qEA HO_180001.out BK185.out (by decide)) (fun _ hk => hk.2) (.int .i64 t181)) (fun _ hk => hk.2) (.int .i64 t182)) (fun _ hk => hk.2) (.int .i64 t183)) (fun _ hk => trivial)⟩, ⟨by (with_reducible repeat (first | refine qB ?_ _ | refine qD ?_ | refine qA ?_ _)); refine qN ?_ NB170_185.out _; (with_reducible repeat (first | refine qB ?_ _ | refine qD ?_ | refine qA ?_ _)); refine qN ?_ NB170_185.out _; (with_reducible repeat (first | refine qB ?_ _ | refine qD ?_ | refine qA ?_ _)); refine qN ?_ NB170_185.out _; (with_reducible repeat (first | refine qB ?_ _ | refine qD ?_ | refine qA ?_ _)); exact BK170.out⟩, ⟨by (with_reducible repeat (first | refine qB ?_ _ | refine qD ?_ | refine qA ?_ _)); refine qN ?_ NB171_185.out _; (with_reducible repeat (first | refine qB ?_ _ | refine qD ?_ | refine qA ?_ _)); refine qN ?_ NB171_185.out _; (with_reducible repeat (first | refine qB ?_ _ | refine qD ?_ | refine qA ?_ _)); refine qN ?_ NB171_185.out _; (with_reducible repeat (first | refine qB ?_ _ | refine qD ?_ | refine qA ?_ _)); exact BK171.out⟩, ⟨by (with_reducible repeat (first | refine qB ?_ _ | refine qD ?_ | refine qA ?_ _)); refine qN ?_ NB172_185.out _; (with_reducible repeat (first | refine qB ?_ _ | refine qD ?_ | refine qA ?_ _)); refine qN ?_ NB172_185.out _; (with_reducible repeat (first | refine qB ?_ _ | refine qD ?_ | refine qA ?_ _)); refine qN ?_ NB172_185.out _; (with_reducible repeat (first | refine qB ?_ _ | refine qD ?_ | refine qA ?_ _)); exact BK172.out⟩, ⟨by (with_reducible repeat (first | refine qB ?_ _ | refine qD ?_ | refine qA ?_ _)); refine qN ?_ NB179_185.out _; (with_reducible repeat (first | refine qB ?_ _ | refine qD ?_ | refine qA ?_ _)); refine qN ?_ NB179_185.out _; (with_reducible repeat (first | refine qB ?_ _ | refine qD ?_ | refine qA ?_ _)); refine qN ?_ NB179_185.out _; (with_reducible repeat (first | refine qB ?_ _ | refine qD ?_ | refine qA ?_ _)); exact BK179.out⟩, ⟨by (with_reducible repeat (first | refine qB ?_ _ | refine qD ?_ | refine qA ?_ _)); refine qQ (cs := #[.int .i64 t181, .int .i64 t182, .int .i64 0]) ?_ 2 _ rfl; (with_reducible repeat (first | refine qB ?_ _ | refine qD ?_ | refine qA ?_ _)); refine qQ (cs := #[.int .i64 t181, .int .i64 0, .int .i64 0]) ?_ 1 _ rfl; (with_reducible repeat (first | refine qB ?_ _ | refine qD ?_ | refine qA ?_ _)); refine qQ (cs := #[.int .i64 0, .int .i64 0, .int .i64 0]) ?_ 0 _ rfl; (with_reducible repeat (first | refine qB ?_ _ | refine qD ?_ | refine qA ?_ _)); exact BK185.out⟩, ⟨bl⟩⟩
          case round =>
           clear H'
           try clear c1
           try clear p1
           try clear q1
           try clear hx1
           try clear c2
           try clear p2
           try clear c3
           try clear c4
           try clear c6
           try clear p6
           try clear c7
           try clear c16
           try clear c17
           try clear c18
           try clear p18
           try clear q18
           try clear hx18
           try clear c20
           try clear c20b0
           try clear c21
           try clear c22
           try clear c23
           try clear c26
           try clear c26b0
           try clear c27
           try clear c27b0
           try clear c28
           try clear c28b0
           try clear c30
           try clear c39
           try clear c40
           try clear c41
           try clear c42
           try clear hcz19_0
           try clear hcz19_1
           try clear hcz24_0
           try clear hcz24_1
           try clear hcz43_0
           try clear hcz43_1
           try clear hcz8_0
           try clear hcz8_1
           try clear hcz8_2
           try clear hfz19_0
           try clear hfz19_1
           try clear hfz24_0
           try clear hfz24_1
           try clear hfz43_0
           try clear hfz43_1
           try clear hfz8_0
           try clear hfz8_1
           try clear hfz8_2
           try clear hx180_0
           try clear hx180_1
           try clear hx180_2
           try clear p180
           try clear p2
           try clear q180
           obtain ⟨x11_3, x45_3, rfl, rfl, HA, HK3, HO_32, HO_180000, HO_180001, BK170, BK171, BK172, BK179, BK185, HB⟩ := hrel
           cases gk with
           | zero => exact absurd HA.out (by simp [qZ.l2])
           | succ k3 =>
            have H := HA.out
            clear HA
            simp only [qZ.l2] at H
            by_cases c44 : x45_3 < (x180000_2.length : Int)
            ·rw [if_pos c44] at H
             have c44b0 : decide (x45_3 < (x180000_2.length : Int)) = true := decide_eq_true c44
             clear c44
             by_cases c45 : 0 ≤ x45_3
             ·rw [if_pos c45] at H
              have c45b0 : decide (0 ≤ x45_3) = true := decide_eq_true c45
              clear c45
              by_cases c46 : x45_3 < (x180000_2.length : Int)
              ·rw [if_pos c46] at H
               have c46b0 : decide (x45_3 < (x180000_2.length : Int)) = true := decide_eq_true c46
               clear c46
               by_cases c47 : x11_3 = true
               ·subst c47
                have H1 : (qZ.l2 k3 x7_1 x8_2 true x180000_2 (x180000_2.length : Int) (wrap64 (x45_3 + 1)) a0_0 a0_1 l0_2 x180000_2 x180001_2 t181 t182 t183) = some (r1, r2, r3) := by rw [if_pos rfl] at H; exact H
                clear H
                have H := H1
                clear H1
                have H' := Aside0.mk H
                clear H
                have p186 : 0 ≤ (x45_3 : Int) := of_decide_eq_true (by first | (with_reducible assumption) | assumption)
                have q186 : x45_3 < (x180000_2.length : Int) := of_decide_eq_true (by first | (with_reducible assumption) | assumption)
                obtain ⟨ad186, e186, hx186_0, hx186_1, hx186_2⟩ := qnA (Kd.qT HO_32.out).2.2 x45_3 p186 q186
                obtain rfl : ad180 = ad186 := (by injection e186)
                replace p186 := eq_true p186
                replace q186 := eq_true q186
                go_wp2_with (first | ((with_reducible refine qd (N := 13) rfl ?_); refine qY ?hg (N := 13) ?hd (cs := #[.int .i64 0, .int .i64 0, .int .i64 0]) (t := 27) ?hr ?_; (case hd => rfl); (case hg => rfl); (case hr => first | (go_simp; done) | (go_simp; rfl)); intro gb187 hg w48 hbox hb; have n0_ := Aside0.mk (Kd.qa (Kd.qsA (by (with_reducible repeat (first | apply Kd.qF | apply Kd.qE | apply Kd.qH)); exact HO_32.out) gb187 (Nat.le_of_eq hg.symm)) hb); have n1_ := Aside0.mk (Kd.qa (Kd.qsA (by (with_reducible repeat (first | apply Kd.qF | apply Kd.qE | apply Kd.qH)); exact HO_180000.out) gb187 (Nat.le_of_eq hg.symm)) hb); have n2_ := Aside0.mk (Kd.qa (by (with_reducible repeat (first | apply Kd.qF | apply Kd.qE | apply Kd.qH)); exact HO_180001.out) hb); have n3_ := Aside0.mk (bb BK170 hb); have n4_ := Aside0.mk (bb BK171 hb); have n5_ := Aside0.mk (bb BK172 hb); have n6_ := Aside0.mk (bb BK179 hb); have n7_ := Aside0.mk (bb BK185 hb); have n8_ := Aside0.mk (qG bl hb); have n9_ := Aside0.mk (hbox); have n10_ := Aside0.mk ((gg hg)); have n11_ := Aside0.mk ((gg hg)); have n12_ := Aside0.mk ((nl BK170 hg)); have n13_ := Aside0.mk ((nr BK170 hg)); have n14_ := Aside0.mk ((nl BK171 hg)); have n15_ := Aside0.mk ((nr BK171 hg)); have n16_ := Aside0.mk ((nl BK172 hg)); have n17_ := Aside0.mk ((nr BK172 hg)); have n18_ := Aside0.mk ((nl BK179 hg)); have n19_ := Aside0.mk ((nr BK179 hg)); have n20_ := Aside0.mk ((nl BK185 hg)); have n21_ := Aside0.mk ((nr BK185 hg)); clear HO_32; clear HO_180000; clear HO_180001; clear BK170; clear BK171; clear BK172; clear BK179; clear BK185; clear HB; have HO_32 := n0_; have HO_180000 := n1_; have HO_180001 := n2_; have BK170 := n3_; have BK171 := n4_; have BK172 := n5_; have BK179 := n6_; have BK185 := n7_; have HB := n8_; have BK187 := n9_; have GW187 := n10_; have GE187 := n11_; have NB170_187 := n12_; have NB187_170 := n13_; have NB171_187 := n14_; have NB187_171 := n15_; have NB172_187 := n16_; have NB187_172 := n17_; have NB179_187 := n18_; have NB187_179 := n19_; have NB185_187 := n20_; have NB187_185 := n21_; clear n0_ n1_ n2_ n3_ n4_ n5_ n6_ n7_ n8_ n9_ n10_ n11_ n12_ n13_ n14_ n15_ n16_ n17_ n18_ n19_ n20_ n21_; clear hb hbox hg; have hnb49 := NB187_170.out; have hnc49 := NB170_187.out; have hnb50 := NB187_171.out; have hnc50 := NB171_187.out; have hnb51 := NB187_172.out; have hnc51 := NB172_187.out; have hnb52 := NB187_179.out; have hnc52 := NB179_187.out; have hnb53 := NB187_185.out; have hnc53 := NB185_187.out; have hcz54_0 := bc BK187 0; have hcz54_1 := bc BK187 1; have hcz54_2 := bc BK187 2; have hfz54_0 := qC BK187.out 0; have hfz54_1 := qC BK187.out 1; have hfz54_2 := qC BK187.out 2))
                go_roundg k3
                case measure => have := HK1.out; have := HK2.out; have := HK3.out; omega
                case rel => exact ⟨(true), (wrap64 (x45_3 + 1)), (by first | rfl | (simp; done) | (simp [*]; done)), (by first | rfl | (simp; done) | (simp [*]; done)), H', ⟨by have := HK1.out; have := HK2.out; have := HK3.out; omega⟩, ⟨by (with_reducible repeat (first | apply Kd.qF | apply Kd.qE | apply Kd.qH)); exact Kd.qh (Kd.R_far (p := ⟨gb187, 2, none⟩) (Kd.R_far (p := ⟨gb187, 1, none⟩) (Kd.R_far (p := ⟨gb187, 0, none⟩) (Kd.qh HO_32.out (fun k_ hk => (⟨hk, hk.2⟩ : _ ∧ k_ ≠ gb187))) (fun _ hk => hk.2) (.int .i64 ((qK x180000_2 x45_3).f0))) (fun _ hk => hk.2) (.int .i64 ((qK x180000_2 x45_3).f1))) (fun _ hk => hk.2) (.int .i64 ((qK x180000_2 x45_3).f2))) (fun _ hk => ⟨hk.1.1.1, hk.1.1.2⟩)⟩, ⟨by (with_reducible repeat (first | apply Kd.qF | apply Kd.qE | apply Kd.qH)); exact Kd.qh (Kd.R_far (p := ⟨gb187, 2, none⟩) (Kd.R_far (p := ⟨gb187, 1, none⟩) (Kd.R_far (p := ⟨gb187, 0, none⟩) (Kd.qh HO_180000.out (fun k_ hk => (⟨hk, hk.2⟩ : _ ∧ k_ ≠ gb187))) (fun _ hk => hk.2) (.int .i64 ((qK x180000_2 x45_3).f0))) (fun _ hk => hk.2) (.int .i64 ((qK x180000_2 x45_3).f1))) (fun _ hk => hk.2) (.int .i64 ((qK x180000_2 x45_3).f2))) (fun _ hk => ⟨hk.1.1.1, hk.1.1.2⟩)⟩, ⟨by (with_reducible repeat (first | apply Kd.qF | apply Kd.qE | apply Kd.qH)); exact Kd.qh (Kd.R_far (p := ⟨gb187, 2, none⟩) (Kd.R_far (p := ⟨gb187, 1, none⟩) (Kd.R_far (p := ⟨gb187, 0, none⟩) (Kd.qEA HO_180001.out BK187.out (by decide)) (fun _ hk => hk.2) (.int .i64 ((qK x180000_2 x45_3).f0))) (fun _ hk => hk.2) (.int .i64 ((qK x180000_2 x45_3).f1))) (fun _ hk => hk.2) (.int .i64 ((qK x180000_2 x45_3).f2))) (fun _ hk => trivial)⟩, ⟨by (with_reducible repeat (first | refine qB ?_ _ | refine qD ?_ | refine qA ?_ _)); refine qN ?_ NB170_187.out _; (with_reducible repeat (first | refine qB ?_ _ | refine qD ?_ | refine qA ?_ _)); refine qN ?_ NB170_187.out _; (with_reducible repeat (first | refine qB ?_ _ | refine qD ?_ | refine qA ?_ _)); refine qN ?_ NB170_187.out _; (with_reducible repeat (first | refine qB ?_ _ | refine qD ?_ | refine qA ?_ _)); exact BK170.out⟩, ⟨by (with_reducible repeat (first | refine qB ?_ _ | refine qD ?_ | refine qA ?_ _)); refine qN ?_ NB171_187.out _; (with_reducible repeat (first | refine qB ?_ _ | refine qD ?_ | refine qA ?_ _)); refine qN ?_ NB171_187.out _; (with_reducible repeat (first | refine qB ?_ _ | refine qD ?_ | refine qA ?_ _)); refine qN ?_ NB171_187.out _; (with_reducible repeat (first | refine qB ?_ _ | refine qD ?_ | refine qA ?_ _)); exact BK171.out⟩, ⟨by (with_reducible repeat (first | refine qB ?_ _ | refine qD ?_ | refine qA ?_ _)); refine qN ?_ NB172_187.out _; (with_reducible repeat (first | refine qB ?_ _ | refine qD ?_ | refine qA ?_ _)); refine qN ?_ NB172_187.out _; (with_reducible repeat (first | refine qB ?_ _ | refine qD ?_ | refine qA ?_ _)); refine qN ?_ NB172_187.out _; (with_reducible repeat (first | refine qB ?_ _ | refine qD ?_ | refine qA ?_ _)); exact BK172.out⟩, ⟨by (with_reducible repeat (first | refine qB ?_ _ | refine qD ?_ | refine qA ?_ _)); refine qN ?_ NB179_187.out _; (with_reducible repeat (first | refine qB ?_ _ | refine qD ?_ | refine qA ?_ _)); refine qN ?_ NB179_187.out _; (with_reducible repeat (first | refine qB ?_ _ | refine qD ?_ | refine qA ?_ _)); refine qN ?_ NB179_187.out _; (with_reducible repeat (first | refine qB ?_ _ | refine qD ?_ | refine qA ?_ _)); exact BK179.out⟩, ⟨by (with_reducible repeat (first | refine qB ?_ _ | refine qD ?_ | refine qA ?_ _)); refine qN ?_ NB185_187.out _; (with_reducible repeat (first | refine qB ?_ _ | refine qD ?_ | refine qA ?_ _)); refine qN ?_ NB185_187.out _; (with_reducible repeat (first | refine qB ?_ _ | refine qD ?_ | refine qA ?_ _)); refine qN ?_ NB185_187.out _; (with_reducible repeat (first | refine qB ?_ _ | refine qD ?_ | refine qA ?_ _)); exact BK185.out⟩, ⟨bl⟩⟩
               ·replace c47 := Bool.eq_false_iff.mpr c47
                subst c47
                have H1 : (qZ.l2 k3 x7_1 x8_2 (((qK x180000_2 x45_3).f0) == t181 && (((qK x180000_2 x45_3).f1) == t182 && (((qK x180000_2 x45_3).f2) == t183))) x180000_2 (x180000_2.length : Int) (wrap64 (x45_3 + 1)) a0_0 a0_1 l0_2 x180000_2 x180001_2 t181 t182 t183) = some (r1, r2, r3) := by rw [if_neg (show ¬ (false = true) by decide)] at H; exact H
                clear H
                have H := H1
                clear H1
                have H' := Aside0.mk H
                clear H
                have p186 : 0 ≤ (x45_3 : Int) := of_decide_eq_true (by first | (with_reducible assumption) | assumption)
                have q186 : x45_3 < (x180000_2.length : Int) := of_decide_eq_true (by first | (with_reducible assumption) | assumption)
                obtain ⟨ad186, e186, hx186_0, hx186_1, hx186_2⟩ := qnA (Kd.qT HO_32.out).2.2 x45_3 p186 q186
                obtain rfl : ad180 = ad186 := (by injection e186)
                replace p186 := eq_true p186
                replace q186 := eq_true q186
                go_wp2_with (first | ((with_reducible refine qd (N := 13) rfl ?_); refine qY ?hg (N := 13) ?hd (cs := #[.int .i64 0, .int .i64 0, .int .i64 0]) (t := 27) ?hr ?_; (case hd => rfl); (case hg => rfl); (case hr => first | (go_simp; done) | (go_simp; rfl)); intro gb187 hg w55 hbox hb; have n0_ := Aside0.mk (Kd.qa (Kd.qsA (by (with_reducible repeat (first | apply Kd.qF | apply Kd.qE | apply Kd.qH)); exact HO_32.out) gb187 (Nat.le_of_eq hg.symm)) hb); have n1_ := Aside0.mk (Kd.qa (Kd.qsA (by (with_reducible repeat (first | apply Kd.qF | apply Kd.qE | apply Kd.qH)); exact HO_180000.out) gb187 (Nat.le_of_eq hg.symm)) hb); have n2_ := Aside0.mk (Kd.qa (by (with_reducible repeat (first | apply Kd.qF | apply Kd.qE | apply Kd.qH)); exact HO_180001.out) hb); have n3_ := Aside0.mk (bb BK170 hb); have n4_ := Aside0.mk (bb BK171 hb); have n5_ := Aside0.mk (bb BK172 hb); have n6_ := Aside0.mk (bb BK179 hb); have n7_ := Aside0.mk (bb BK185 hb); have n8_ := Aside0.mk (qG bl hb); have n9_ := Aside0.mk (hbox); have n10_ := Aside0.mk ((gg hg)); have n11_ := Aside0.mk ((gg hg)); have n12_ := Aside0.mk ((nl BK170 hg)); have n13_ := Aside0.mk ((nr BK170 hg)); have n14_ := Aside0.mk ((nl BK171 hg)); have n15_ := Aside0.mk ((nr BK171 hg)); have n16_ := Aside0.mk ((nl BK172 hg)); have n17_ := Aside0.mk ((nr BK172 hg)); have n18_ := Aside0.mk ((nl BK179 hg)); have n19_ := Aside0.mk ((nr BK179 hg)); have n20_ := Aside0.mk ((nl BK185 hg)); have n21_ := Aside0.mk ((nr BK185 hg)); clear HO_32; clear HO_180000; clear HO_180001; clear BK170; clear BK171; clear BK172; clear BK179; clear BK185; clear HB; have HO_32 := n0_; have HO_180000 := n1_; have HO_180001 := n2_; have BK170 := n3_; have BK171 := n4_; have BK172 := n5_; have BK179 := n6_; have BK185 := n7_; have HB := n8_; have BK187 := n9_; have GW187 := n10_; have GE187 := n11_; have NB170_187 := n12_; have NB187_170 := n13_; have NB171_187 := n14_; have NB187_171 := n15_; have NB172_187 := n16_; have NB187_172 := n17_; have NB179_187 := n18_; have NB187_179 := n19_; have NB185_187 := n20_; have NB187_185 := n21_; clear n0_ n1_ n2_ n3_ n4_ n5_ n6_ n7_ n8_ n9_ n10_ n11_ n12_ n13_ n14_ n15_ n16_ n17_ n18_ n19_ n20_ n21_; clear hb hbox hg; have hnb56 := NB187_170.out; have hnc56 := NB170_187.out; have hnb57 := NB187_171.out; have hnc57 := NB171_187.out; have hnb58 := NB187_172.out; have hnc58 := NB172_187.out; have hnb59 := NB187_179.out; have hnc59 := NB179_187.out; have hnb60 := NB187_185.out; have hnc60 := NB185_187.out; have hcz61_0 := bc BK187 0; have hcz61_1 := bc BK187 1; have hcz61_2 := bc BK187 2; have hfz61_0 := qC BK187.out 0; have hfz61_1 := qC BK187.out 1; have hfz61_2 := qC BK187.out 2; have hnb62 := NB185_170.out; have hnc62 := NB170_185.out; have hnb63 := NB185_171.out; have hnc63 := NB171_185.out; have hnb64 := NB185_172.out; have hnc64 := NB172_185.out; have hnb65 := NB185_179.out; have hnc65 := NB179_185.out; have hcz66_0 := bc BK185 0; have hcz66_1 := bc BK185 1; have hcz66_2 := bc BK185 2; have hfz66_0 := qC BK185.out 0; have hfz66_1 := qC BK185.out 1; have hfz66_2 := qC BK185.out 2))
                go_roundg k3
                case measure => have := HK1.out; have := HK2.out; have := HK3.out; omega
                case rel => exact ⟨((((qK x180000_2 x45_3).f0) == t181 && (((qK x180000_2 x45_3).f1) == t182 && (((qK x180000_2 x45_3).f2) == t183)))), (wrap64 (x45_3 + 1)), (by first | rfl | (simp; done) | (simp [*]; done)), (by first | rfl | (simp; done) | (simp [*]; done)), H', ⟨by have := HK1.out; have := HK2.out; have := HK3.out; omega⟩, ⟨by (with_reducible repeat (first | apply Kd.qF | apply Kd.qE | apply Kd.qH)); exact Kd.qh (Kd.R_far (p := ⟨gb187, 2, none⟩) (Kd.R_far (p := ⟨gb187, 1, none⟩) (Kd.R_far (p := ⟨gb187, 0, none⟩) (Kd.qh HO_32.out (fun k_ hk => (⟨hk, hk.2⟩ : _ ∧ k_ ≠ gb187))) (fun _ hk => hk.2) (.int .i64 ((qK x180000_2 x45_3).f0))) (fun _ hk => hk.2) (.int .i64 ((qK x180000_2 x45_3).f1))) (fun _ hk => hk.2) (.int .i64 ((qK x180000_2 x45_3).f2))) (fun _ hk => ⟨hk.1.1.1, hk.1.1.2⟩)⟩, ⟨by (with_reducible repeat (first | apply Kd.qF | apply Kd.qE | apply Kd.qH)); exact Kd.qh (Kd.R_far (p := ⟨gb187, 2, none⟩) (Kd.R_far (p := ⟨gb187, 1, none⟩) (Kd.R_far (p := ⟨gb187, 0, none⟩) (Kd.qh HO_180000.out (fun k_ hk => (⟨hk, hk.2⟩ : _ ∧ k_ ≠ gb187))) (fun _ hk => hk.2) (.int .i64 ((qK x180000_2 x45_3).f0))) (fun _ hk => hk.2) (.int .i64 ((qK x180000_2 x45_3).f1))) (fun _ hk => hk.2) (.int .i64 ((qK x180000_2 x45_3).f2))) (fun _ hk => ⟨hk.1.1.1, hk.1.1.2⟩)⟩, ⟨by (with_reducible repeat (first | apply Kd.qF | apply Kd.qE | apply Kd.qH)); exact Kd.qh (Kd.R_far (p := ⟨gb187, 2, none⟩) (Kd.R_far (p := ⟨gb187, 1, none⟩) (Kd.R_far (p := ⟨gb187, 0, none⟩) (Kd.qEA HO_180001.out BK187.out (by decide)) (fun _ hk => hk.2) (.int .i64 ((qK x180000_2 x45_3).f0))) (fun _ hk => hk.2) (.int .i64 ((qK x180000_2 x45_3).f1))) (fun _ hk => hk.2) (.int .i64 ((qK x180000_2 x45_3).f2))) (fun _ hk => trivial)⟩, ⟨by (with_reducible repeat (first | refine qB ?_ _ | refine qD ?_ | refine qA ?_ _)); refine qN ?_ NB170_187.out _; (with_reducible repeat (first | refine qB ?_ _ | refine qD ?_ | refine qA ?_ _)); refine qN ?_ NB170_187.out _; (with_reducible repeat (first | refine qB ?_ _ | refine qD ?_ | refine qA ?_ _)); refine qN ?_ NB170_187.out _; (with_reducible repeat (first | refine qB ?_ _ | refine qD ?_ | refine qA ?_ _)); exact BK170.out⟩, ⟨by (with_reducible repeat (first | refine qB ?_ _ | refine qD ?_ | refine qA ?_ _)); refine qN ?_ NB171_187.out _; (with_reducible repeat (first | refine qB ?_ _ | refine qD ?_ | refine qA ?_ _)); refine qN ?_ NB171_187.out _; (with_reducible repeat (first | refine qB ?_ _ | refine qD ?_ | refine qA ?_ _)); refine qN ?_ NB171_187.out _; (with_reducible repeat (first | refine qB ?_ _ | refine qD ?_ | refine qA ?_ _)); exact BK171.out⟩, ⟨by (with_reducible repeat (first | refine qB ?_ _ | refine qD ?_ | refine qA ?_ _)); refine qN ?_ NB172_187.out _; (with_reducible repeat (first | refine qB ?_ _ | refine qD ?_ | refine qA ?_ _)); refine qN ?_ NB172_187.out _; (with_reducible repeat (first | refine qB ?_ _ | refine qD ?_ | refine qA ?_ _)); refine qN ?_ NB172_187.out _; (with_reducible repeat (first | refine qB ?_ _ | refine qD ?_ | refine qA ?_ _)); exact BK172.out⟩, ⟨by (with_reducible repeat (first | refine qB ?_ _ | refine qD ?_ | refine qA ?_ _)); refine qN ?_ NB179_187.out _; (with_reducible repeat (first | refine qB ?_ _ | refine qD ?_ | refine qA ?_ _)); refine qN ?_ NB179_187.out _; (with_reducible repeat (first | refine qB ?_ _ | refine qD ?_ | refine qA ?_ _)); refine qN ?_ NB179_187.out _; (with_reducible repeat (first | refine qB ?_ _ | refine qD ?_ | refine qA ?_ _)); exact BK179.out⟩, ⟨by (with_reducible repeat (first | refine qB ?_ _ | refine qD ?_ | refine qA ?_ _)); refine qN ?_ NB185_187.out _; (with_reducible repeat (first | refine qB ?_ _ | refine qD ?_ | refine qA ?_ _)); refine qN ?_ NB185_187.out _; (with_reducible repeat (first | refine qB ?_ _ | refine qD ?_ | refine qA ?_ _)); refine qN ?_ NB185_187.out _; (with_reducible repeat (first | refine qB ?_ _ | refine qD ?_ | refine qA ?_ _)); exact BK185.out⟩, ⟨bl⟩⟩
              ·rw [if_neg c46] at H
               exact absurd H (by simp)
             ·rw [if_neg c45] at H
              exact absurd H (by simp)
            ·rw [if_neg c44] at H
             have c44b0 : decide (x45_3 < (x180000_2.length : Int)) = false := decide_eq_false c44
             clear c44
             by_cases c67 : x11_3 = true
             ·subst c67
              have H1 : (qZ.l1 k3 x7_1 (wrap64 (x8_2 + 1)) a0_0 a0_1 l0_2 x180000_2 x180001_2) = some (r1, r2, r3) := by rw [if_pos rfl] at H; exact H
              clear H
              have H := H1
              clear H1
              have H' := Aside0.mk H
              clear H
              go_wp2
              go_roundg k3
              case measure => have := HK1.out; have := HK2.out; have := HK3.out; omega
              case rel => exact ⟨(wrap64 (x8_2 + 1)), (x180000_2), (x180001_2), (.slice (some ad180) x180000_2.length co32), (u180001), (by first | rfl | (simp; done) | (simp [*]; done)), H', ⟨by have := HK1.out; have := HK2.out; have := HK3.out; omega⟩, ⟨by (with_reducible repeat (first | apply Kd.qF | apply Kd.qE | apply Kd.qH)); exact Kd.qh HO_180000.out (fun _ hk => hk.1)⟩, ⟨by (with_reducible repeat (first | apply Kd.qF | apply Kd.qE | apply Kd.qH)); exact HO_180001.out⟩, ⟨by (with_reducible repeat (first | refine qB ?_ _ | refine qD ?_ | refine qA ?_ _)); exact BK170.out⟩, ⟨by (with_reducible repeat (first | refine qB ?_ _ | refine qD ?_ | refine qA ?_ _)); exact BK171.out⟩, ⟨by (with_reducible repeat (first | refine qB ?_ _ | refine qD ?_ | refine qA ?_ _)); exact BK172.out⟩, ⟨by (with_reducible repeat (first | refine qB ?_ _ | refine qD ?_ | refine qA ?_ _)); exact BK179.out⟩, ⟨bl⟩⟩
             ·replace c67 := Bool.eq_false_iff.mpr c67
              subst c67
              have H1 : (if x180000_2.length < 5864062014805 then (if 0 ≤ x7_1 then (if x7_1 < (x180001_2.length : Int) then ((qBB.f).bind fun t192 => (if 0 ≤ x8_2 then (if x8_2 ≤ (wrap64 (x8_2 + 1)) then (if (wrap64 (x8_2 + 1)) ≤ (t192.size : Int) then (if (rdOf ByteArray.empty x180001_2 x7_1).size + (t192.extract (x8_2 : Int).toNat ((wrap64 (x8_2 + 1)) : Int).toNat).size ≤ 9223372036854775807 then (if x180001_2.length < 8796093022208 then (qZ.l1 k3 x7_1 (wrap64 (x8_2 + 1)) a0_0 a0_1 l0_2 (x180000_2 ++ [(⟨t181, t182, t183⟩ : S27)]) (x180001_2 ++ [(rdOf ByteArray.empty x180001_2 x7_1) ++ (t192.extract (x8_2 : Int).toNat ((wrap64 (x8_2 + 1)) : Int).toNat)])) else (none)) else (none)) else (none)) else (none)) else (none))) else (none)) else (none)) else (none)) = some (r1, r2, r3) := by rw [if_neg (show ¬ (false = true) by decide)] at H; exact H
              clear H
              have H := H1
              clear H1
              by_cases c68 : x180000_2.length < 5864062014805
              ·rw [if_pos c68] at H
               have LMc68 := Aside0.mk c68
               clear c68
               obtain ⟨y188, hy188⟩ : ∃ y_ : List (S27), y_ = (x180000_2 ++ [(⟨t181, t182, t183⟩ : S27)]) := ⟨_, rfl⟩
               replace H : (if 0 ≤ x7_1 then (if x7_1 < (x180001_2.length : Int) then ((qBB.f).bind fun t192 => (if 0 ≤ x8_2 then (if x8_2 ≤ (wrap64 (x8_2 + 1)) then (if (wrap64 (x8_2 + 1)) ≤ (t192.size : Int) then (if (rdOf ByteArray.empty x180001_2 x7_1).size + (t192.extract (x8_2 : Int).toNat ((wrap64 (x8_2 + 1)) : Int).toNat).size ≤ 9223372036854775807 then (if x180001_2.length < 8796093022208 then (qZ.l1 k3 x7_1 (wrap64 (x8_2 + 1)) a0_0 a0_1 l0_2 y188 (x180001_2 ++ [(rdOf ByteArray.empty x180001_2 x7_1) ++ (t192.extract (x8_2 : Int).toNat ((wrap64 (x8_2 + 1)) : Int).toNat)])) else (none)) else (none)) else (none)) else (none)) else (none))) else (none)) else (none)) = some (r1, r2, r3) := by first | (rw [hy188]; with_reducible exact H) | (have H2_ := (Option.bind_some _ _).symm.trans H; rw [hy188]; with_reducible exact H2_) | (have H2_ := (Option.bind_some _ _).symm.trans H; with_reducible exact H2_) | with_reducible exact H | (rw [hy188]; exact H) | exact H
               have Ny188 := Aside0.mk hy188
               clear hy188
               by_cases c69 : 0 ≤ x7_1
               ·rw [if_pos c69] at H
                have c69b0 : decide (0 ≤ x7_1) = true := decide_eq_true c69
                clear c69
                by_cases c70 : x7_1 < (x180001_2.length : Int)
                ·rw [if_pos c70] at H
                 have c70b0 : decide (x7_1 < (x180001_2.length : Int)) = true := decide_eq_true c70
                 clear c70
                 replace H := Option.bind_eq_some_iff.mp H
                 obtain ⟨t192, A710, H⟩ := H
                 replace H : (if 0 ≤ x8_2 then (if x8_2 ≤ (wrap64 (x8_2 + 1)) then (if (wrap64 (x8_2 + 1)) ≤ (t192.size : Int) then (if (rdOf ByteArray.empty x180001_2 x7_1).size + (t192.extract (x8_2 : Int).toNat ((wrap64 (x8_2 + 1)) : Int).toNat).size ≤ 9223372036854775807 then (if x180001_2.length < 8796093022208 then (qZ.l1 k3 x7_1 (wrap64 (x8_2 + 1)) a0_0 a0_1 l0_2 y188 (x180001_2 ++ [(rdOf ByteArray.empty x180001_2 x7_1) ++ (t192.extract (x8_2 : Int).toNat ((wrap64 (x8_2 + 1)) : Int).toNat)])) else (none)) else (none)) else (none)) else (none)) else (none)) = some (r1, r2, r3) := H
                 have A71 := Aside0.mk A710
                 clear A710
                 by_cases c72 : 0 ≤ x8_2
                 ·rw [if_pos c72] at H
                  have c72b0 := eq_true c72
                  have c72b1 : decide (0 ≤ x8_2) = true := decide_eq_true c72
                  clear c72
                  by_cases c73 : x8_2 ≤ (wrap64 (x8_2 + 1))
                  ·rw [if_pos c73] at H
                   have c73b0 := eq_true c73
                   have c73b1 : decide (x8_2 ≤ (wrap64 (x8_2 + 1))) = true := decide_eq_true c73
                   by_cases c74 : (wrap64 (x8_2 + 1)) ≤ (t192.size : Int)
                   ·rw [if_pos c74] at H
                    have c74b0 := eq_true c74
                    have c74b1 : decide ((wrap64 (x8_2 + 1)) ≤ (t192.size : Int)) = true := decide_eq_true c74
                    by_cases c75 : (rdOf ByteArray.empty x180001_2 x7_1).size + (t192.extract (x8_2 : Int).toNat ((wrap64 (x8_2 + 1)) : Int).toNat).size ≤ 9223372036854775807
                    ·rw [if_pos c75] at H
                     have c75b0 := eq_true c75
                     have c75b1 : decide ((rdOf ByteArray.empty x180001_2 x7_1).size + (t192.extract (x8_2 : Int).toNat ((wrap64 (x8_2 + 1)) : Int).toNat).size ≤ 9223372036854775807) = true := decide_eq_true c75
                     try have c75b2 : (9223372036854775807 < (rdOf ByteArray.empty x180001_2 x7_1).size + (t192.extract (x8_2 : Int).toNat ((wrap64 (x8_2 + 1)) : Int).toNat).size) = False := eq_false (Nat.not_lt.2 c75)
                     by_cases c76 : x180001_2.length < 8796093022208
                     ·rw [if_pos c76] at H
                      have LMc76 := Aside0.mk c76
                      clear c76
                      obtain ⟨y193, hy193⟩ : ∃ y_ : List ByteArray, y_ = (x180001_2 ++ [(rdOf ByteArray.empty x180001_2 x7_1) ++ (t192.extract (x8_2 : Int).toNat ((wrap64 (x8_2 + 1)) : Int).toNat)]) := ⟨_, rfl⟩
                      replace H : (qZ.l1 k3 x7_1 (wrap64 (x8_2 + 1)) a0_0 a0_1 l0_2 y188 y193) = some (r1, r2, r3) := by first | (rw [hy193]; with_reducible exact H) | (have H2_ := (Option.bind_some _ _).symm.trans H; rw [hy193]; with_reducible exact H2_) | (have H2_ := (Option.bind_some _ _).symm.trans H; with_reducible exact H2_) | with_reducible exact H | (rw [hy193]; exact H) | exact H
                      have Ny193 := Aside0.mk hy193
                      clear hy193
                      have H' := Aside0.mk H
                      clear H
                      have hnb77 := NB179_170.out
                      have hnc77 := NB170_179.out
                      have hnb78 := NB179_171.out
                      have hnc78 := NB171_179.out
                      have hnb79 := NB179_172.out
                      have hnc79 := NB172_179.out
                      have hnb80 := NB179_185.out
                      have hnc80 := NB185_179.out
                      have hcz81_0 := bc BK179 0
                      have hcz81_1 := bc BK179 1
                      have hfz81_0 := qC BK179.out 0
                      have hfz81_1 := qC BK179.out 1
                      have hnb82 := NB185_170.out
                      have hnc82 := NB170_185.out
                      have hnb83 := NB185_171.out
                      have hnc83 := NB171_185.out
                      have hnb84 := NB185_172.out
                      have hnc84 := NB172_185.out
                      have hcz85_0 := bc BK185 0
                      have hcz85_1 := bc BK185 1
                      have hcz85_2 := bc BK185 2
                      have hfz85_0 := qC BK185.out 0
                      have hfz85_1 := qC BK185.out 1
                      have hfz85_2 := qC BK185.out 2
                      try go_wp2_with (first | ((with_reducible refine qiA (b := .append) (xs := #[.tmp 59, .tmp 61]) rfl ?_); at_builtin; refine Kd.qJC k27 (w0 := w) w.heap.size rfl (.tmp 59) (.tmp 61) 24 27 (.agg #[(.int .i64 0), (.int .i64 0), (.int .i64 0)]) 24 rfl Tryd.underlying24 info27 rfl (by decide) (by omega) (.slice (some ad180) x180000_2.length co32) x180000_2 (⟨t181, t182, t183⟩ : S27) [.int .i64 t181, .int .i64 t182, .int .i64 t183] (fun k_ => k_ ≠ gb171 ∧ k_ ≠ gb185) (fun _ => False) rfl rfl ?aP (fun _ hk => hk.elim) ?aF ?aO ?aB ?aS ?aL ?_; (case aP => exact qVB _ _ _ (⟨t181, t182, t183⟩ : S27)); (case aB => exact bl); (case aF => exact (fun k_ hk => ⟨Kd.freshB (g := gb171) (o := .cells #[.int .i64 a1_0, .int .i64 a1_1, .int .i64 a1_2] 27 (0, 0)) (by (with_reducible repeat (first | refine qB ?_ _ | refine qD ?_ | refine qA ?_ _)); exact BK171.out) k_ hk, Kd.freshB (g := gb185) (o := .cells #[.int .i64 t181, .int .i64 t182, .int .i64 t183] 27 (0, 0)) (by (with_reducible repeat (first | refine qB ?_ _ | refine qD ?_ | refine qA ?_ _)); exact BK185.out) k_ hk⟩)); (case aO => exact (by (with_reducible repeat (first | apply Kd.qF | apply Kd.qE | apply Kd.qH)); exact HO_180000.out)); (case aS => exact (qg bl)); (case aL => have := LMc68.out; omega); intro v189 w86 ho hb hg hat; rw [← Ny188.out] at ho; have n0_ := Aside0.mk (Kd.qCB (by (with_reducible repeat (first | apply Kd.qF | apply Kd.qE | apply Kd.qH)); exact HO_180001.out) (Kd.qxA (by (with_reducible repeat (first | apply Kd.qF | apply Kd.qE | apply Kd.qH)); exact HO_180000.out)) (by decide) hg); have n1_ := Aside0.mk (qFA (g := gb170) (o := .cells #[.int .i64 a0_0, .int .i64 a0_1, .slice A0_2 l0_2.length c0_2] 34 (0, 0)) (by (with_reducible repeat (first | refine qB ?_ _ | refine qD ?_ | refine qA ?_ _)); exact BK170.out) hg (Kd.R_ne HO_180000.out BK170.out (by decide))); have n2_ := Aside0.mk (qFA (g := gb171) (o := .cells #[.int .i64 a1_0, .int .i64 a1_1, .int .i64 a1_2] 27 (0, 0)) (by (with_reducible repeat (first | refine qB ?_ _ | refine qD ?_ | refine qA ?_ _)); exact BK171.out) hg (Kd.qU HO_180000.out (fun _ hk => hk.1))); have n3_ := Aside0.mk (qFA (g := gb172) (o := .cells #[.slice none 0 0, .slice none 0 0] 37 (0, 0)) (by (with_reducible repeat (first | refine qB ?_ _ | refine qD ?_ | refine qA ?_ _)); exact BK172.out) hg (Kd.R_ne HO_180000.out BK172.out (by decide))); have n4_ := Aside0.mk (qFA (g := gb179) (o := .cells #[.slice (some ad180) x180000_2.length co32, u180001] 37 (0, 0)) (by (with_reducible repeat (first | refine qB ?_ _ | refine qD ?_ | refine qA ?_ _)); exact BK179.out) hg (Kd.R_ne HO_180000.out BK179.out (by decide))); have n5_ := Aside0.mk (qFA (g := gb185) (o := .cells #[.int .i64 t181, .int .i64 t182, .int .i64 t183] 27 (0, 0)) (by (with_reducible repeat (first | refine qB ?_ _ | refine qD ?_ | refine qA ?_ _)); exact BK185.out) hg (Kd.qU HO_180000.out (fun _ hk => hk.2))); have n6_ := Aside0.mk (hb); have n7_ := Aside0.mk (ho); clear HO_180001; clear BK170; clear BK171; clear BK172; clear BK179; clear BK185; clear HB; clear HO_180000; have HO_180001 := n0_; have BK170 := n1_; have BK171 := n2_; have BK172 := n3_; have BK179 := n4_; have BK185 := n5_; have HB := n6_; have HO190 := n7_; clear n0_ n1_ n2_ n3_ n4_ n5_ n6_ n7_; clear ho hb hg hat; obtain ⟨Ao87, co87, eo87⟩ := Kd.qo HO190.out; subst eo87; have hcz88_0 := bc BK179 0; have hcz88_1 := bc BK179 1; have hfz88_0 := qC BK179.out 0; have hfz88_1 := qC BK179.out 1))
                      have n0_ : Aside0 (Kd.R Kd.string 9 (w86.setCell ⟨gb179, 0, none⟩ (.slice Ao87 y188.length co87)) w.heap.size (fun _ => True) u180001 x180001_2) := ⟨by (with_reducible repeat (first | apply Kd.qF | apply Kd.qE | apply Kd.qH)); exact Kd.qh (Kd.R_far (p := ⟨gb179, 0, none⟩) (Kd.qEA HO_180001.out BK179.out (by decide)) (fun _ hk => hk.2) (.slice Ao87 y188.length co87)) (fun _ hk => trivial)⟩
                      have n1_ : Aside0 (Kd.R k27 27 (w86.setCell ⟨gb179, 0, none⟩ (.slice Ao87 y188.length co87)) w.heap.size (fun k_ => k_ ≠ gb171 ∧ k_ ≠ gb185) (.slice Ao87 y188.length co87) y188) := ⟨by (with_reducible repeat (first | apply Kd.qF | apply Kd.qE | apply Kd.qH)); exact Kd.qh (Kd.R_far (p := ⟨gb179, 0, none⟩) (Kd.qEA HO190.out BK179.out (by decide)) (fun _ hk => hk.2) (.slice Ao87 y188.length co87)) (fun _ hk => ⟨hk.1.1, hk.1.2⟩)⟩
                      have n2_ : Aside0 ((w86.setCell ⟨gb179, 0, none⟩ (.slice Ao87 y188.length co87)).heap[gb170]? = some (.cells #[.int .i64 a0_0, .int .i64 a0_1, .slice A0_2 l0_2.length c0_2] 34 (0, 0))) := ⟨by (with_reducible repeat (first | refine qB ?_ _ | refine qD ?_ | refine qA ?_ _)); refine qN ?_ NB170_179.out _; (with_reducible repeat (first | refine qB ?_ _ | refine qD ?_ | refine qA ?_ _)); exact BK170.out⟩
                      have n3_ : Aside0 ((w86.setCell ⟨gb179, 0, none⟩ (.slice Ao87 y188.length co87)).heap[gb171]? = some (.cells #[.int .i64 a1_0, .int .i64 a1_1, .int .i64 a1_2] 27 (0, 0))) := ⟨by (with_reducible repeat (first | refine qB ?_ _ | refine qD ?_ | refine qA ?_ _)); refine qN ?_ NB171_179.out _; (with_reducible repeat (first | refine qB ?_ _ | refine qD ?_ | refine qA ?_ _)); exact BK171.out⟩
                      have n4_ : Aside0 ((w86.setCell ⟨gb179, 0, none⟩ (.slice Ao87 y188.length co87)).heap[gb172]? = some (.cells #[.slice none 0 0, .slice none 0 0] 37 (0, 0))) := ⟨by (with_reducible repeat (first | refine qB ?_ _ | refine qD ?_ | refine qA ?_ _)); refine qN ?_ NB172_179.out _; (with_reducible repeat (first | refine qB ?_ _ | refine qD ?_ | refine qA ?_ _)); exact BK172.out⟩
                      have n5_ : Aside0 ((w86.setCell ⟨gb179, 0, none⟩ (.slice Ao87 y188.length co87)).heap[gb179]? = some (.cells #[.slice Ao87 y188.length co87, u180001] 37 (0, 0))) := ⟨by (with_reducible repeat (first | refine qB ?_ _ | refine qD ?_ | refine qA ?_ _)); refine qQ (cs := #[.slice (some ad180) x180000_2.length co32, u180001]) ?_ 0 _ rfl; (with_reducible repeat (first | refine qB ?_ _ | refine qD ?_ | refine qA ?_ _)); exact BK179.out⟩
                      have n6_ : Aside0 ((w86.setCell ⟨gb179, 0, none⟩ (.slice Ao87 y188.length co87)).heap[gb185]? = some (.cells #[.int .i64 t181, .int .i64 t182, .int .i64 t183] 27 (0, 0))) := ⟨by (with_reducible repeat (first | refine qB ?_ _ | refine qD ?_ | refine qA ?_ _)); refine qN ?_ NB185_179.out _; (with_reducible repeat (first | refine qB ?_ _ | refine qD ?_ | refine qA ?_ _)); exact BK185.out⟩
                      have n7_ : Aside0 (Below w.heap.size w (w86.setCell ⟨gb179, 0, none⟩ (.slice Ao87 y188.length co87))) := ⟨bl⟩
                      (try clear HO_180001)
                      (try clear HO190)
                      (try clear BK170)
                      (try clear BK171)
                      (try clear BK172)
                      (try clear BK179)
                      (try clear BK185)
                      (try clear HB)
                      generalize (w86.setCell ⟨gb179, 0, none⟩ (.slice Ao87 y188.length co87)) = w89 at n0_ n1_ n2_ n3_ n4_ n5_ n6_ n7_ ⊢
                      have HO_180001 := n0_
                      have HO190 := n1_
                      have BK170 := n2_
                      have BK171 := n3_
                      have BK172 := n4_
                      have BK179 := n5_
                      have BK185 := n6_
                      have HB := n7_
                      clear n0_ n1_ n2_ n3_ n4_ n5_ n6_ n7_
                      have n0_ := Aside0.mk (Kd.qH HO_180001.out)
                      have n1_ := Aside0.mk (Kd.qH HO190.out)
                      have n2_ := Aside0.mk (qD BK170.out)
                      have n3_ := Aside0.mk (qD BK171.out)
                      have n4_ := Aside0.mk (qD BK172.out)
                      have n5_ := Aside0.mk (qD BK179.out)
                      have n6_ := Aside0.mk (qD BK185.out)
                      have n7_ := Aside0.mk (qm HB.out)
                      clear HO_180001
                      clear HO190
                      clear BK170
                      clear BK171
                      clear BK172
                      clear BK179
                      clear BK185
                      clear HB
                      have HO_180001 := n0_
                      have HO190 := n1_
                      have BK170 := n2_
                      have BK171 := n3_
                      have BK172 := n4_
                      have BK179 := n5_
                      have BK185 := n6_
                      have HB := n7_
                      clear n0_ n1_ n2_ n3_ n4_ n5_ n6_ n7_
                      obtain ⟨Ao91, co91, eo91⟩ := Kd.qo HO_180001.out
                      (first | subst eo91 | (injection eo91 with f1_ f2_ f3_; have f4_ := f1_.symm; have f5_ := f3_.symm; clear f1_ f2_ f3_; subst f4_; subst f5_))
                      have p191 : 0 ≤ (x7_1 : Int) := of_decide_eq_true (by first | (with_reducible assumption) | assumption)
                      have q191 : x7_1 < (x180001_2.length : Int) := of_decide_eq_true (by first | (with_reducible assumption) | assumption)
                      obtain ⟨ad191, e191, hx191_0⟩ := Kd.qKB (Kd.qT HO_180001.out).2.2 x7_1 p191 q191
                      cases e191
                      replace p191 := eq_true p191
                      replace q191 := eq_true q191
                      refine qyA (n := 17) (S := fun w' => w'.cell? ⟨gb179, 0, none⟩ = some (.slice Ao87 y188.length co87) ∧ w'.cell? ⟨gb179, 1, none⟩ = some (.slice (some ad191) x180001_2.length co91) ∧ w'.cell? (ad191.add (x7_1).toNat) = some (.string (rdOf ByteArray.empty x180001_2 x7_1))) (ds := [14, 16]) #[false, false, false, false, false, false, false, false, false, false, false, false, false, false, false, false, false] (by kernel_rfl) rfl rfl ⟨(qL BK179.out 0).trans rfl, (qL BK179.out 1).trans rfl, hx191_0⟩ (fun hHeld => ?_); refine qWA qZ.tab18 qZ.bits18 (fun HT_ HW_ => ?_)
                      generalize w89.drew = w90 at HO_180001 HO190 BK170 BK171 BK172 BK179 BK185 HB hx191_0 hHeld ⊢
                      refine pS (i := 0) (N := some 64) #[true, false, false, false, false, false, false, false, false, false, false, false, false, false, false, false, false] HT_ ?_
                      refine pS (i := 2) (N := some 66) #[true, false, true, false, false, false, false, false, false, false, false, false, false, false, false, false, false] HT_ ?_
                      refine pS (i := 4) (N := some 68) #[true, false, true, false, true, false, false, false, false, false, false, false, false, false, false, false, false] HT_ ?_
                      refine pS (i := 8) (N := some 72) #[true, false, true, false, true, false, false, false, true, false, false, false, false, false, false, false, false] HT_ ?_
                      refine pS (i := 9) (N := some 73) #[true, false, true, false, true, false, false, false, true, true, false, false, false, false, false, false, false] HT_ ?_
                      refine pS (i := 10) (N := some 74) #[true, false, true, false, true, false, false, false, true, true, true, false, false, false, false, false, false] HT_ ?_
                      refine tS (i := 1) (N := some 65) #[true, true, true, false, true, false, false, false, true, true, true, false, false, false, false, false, false] HT_ HW_ hHeld ?_
                      refine tS (i := 3) (N := some 67) #[true, true, true, true, true, false, false, false, true, true, true, false, false, false, false, false, false] HT_ HW_ hHeld ?_
                      refine pS (i := 5) (N := some 69) #[true, true, true, true, true, true, false, false, true, true, true, false, false, false, false, false, false] HT_ ?_
                      refine tS (i := 6) (N := some 70) #[true, true, true, true, true, true, true, false, true, true, true, false, false, false, false, false, false] HT_ HW_ hHeld ?_
                      refine one_ (i := 7) (N := some 71) #[true, true, true, true, true, true, true, true, true, true, true, false, false, false, false, false, false] rfl rfl (qQA HT_.out (by kernel_rfl)) (by decide) (fun K hK => ?_)
                      refine goes_ Tryd.func29 (by kernel_rfl) rfl #[] (by rfl) rfl rfl (by (try simp only [List.map_toArray, List.map_cons, List.map_nil]); first | done | rfl | (simp only [List.length_drop, List.length_take]; rfl)) ?_
                      with_reducible refine (qBB.calls  t192 _ A71.out).mono ?_
                      rintro e w' ⟨rfl, ⟨nd, rfl⟩⟩
                      refine ⟨_, rfl, ?_⟩
                      refine hK.out _ _ ⟨(qL BK179.out 0).trans rfl, (qL BK179.out 1).trans rfl, hHeld.2.2⟩ (fun hHeld => ?_)
                      clear hK K
                      refine norm_ (a' := ?_) ?_ ?_
                      rotate_left
                      ·show Act.put _ (some 71) _ = _
                       simp only [Act.put, List.setIfInBounds_toArray, List.set_cons_zero, List.set_cons_succ, i64_w, i32_w]
                       rfl
                      refine pS (i := 11) (N := some 75) #[true, true, true, true, true, true, true, true, true, true, true, true, false, false, false, false, false] HT_ ?_
                      refine pS (i := 12) (N := some 76) #[true, true, true, true, true, true, true, true, true, true, true, true, true, false, false, false, false] HT_ ?_
                      refine one_ (i := 13) (N := some 77) #[true, true, true, true, true, true, true, true, true, true, true, true, true, true, false, false, false] rfl rfl (qQA HT_.out (by kernel_rfl)) (by decide) (fun K hK => ?_)
                      refine qjC (w1 := ?_) (v := ?_) (by rfl) rfl ?_ ?_
                      rotate_left 2
                      ·go_simp
                       constructor
                       ·rfl
                       ·rfl
                      refine hK.out _ _ ⟨(qL (qA BK179.out _) 0).trans rfl, (qL (qA BK179.out _) 1).trans rfl, (World.cell?_alloc_lt _ _ _ (World.block_lt_of_cell? _ _ (hHeld.2.2))).trans (hHeld.2.2)⟩ (fun hHeld => ?_)
                      clear hK K
                      refine norm_ (a' := ?_) ?_ ?_
                      rotate_left
                      ·show Act.put _ (some 77) _ = _
                       simp only [Act.put, List.setIfInBounds_toArray, List.set_cons_zero, List.set_cons_succ, i64_w, i32_w]
                       rfl
                      refine last_ (i := 14) (N := some 78) #[true, true, true, true, true, true, true, true, true, true, true, true, true, true, true, false, false] rfl rfl (qQA HT_.out (by kernel_rfl)) (by decide) (fun K hK => ?_)
                      refine Kd.qcB Kd.string (w0 := w) w.heap.size (by rfl) (.tmp 65) (.tmp 77) 35 9 (.string ⟨#[]⟩) 16 rfl Tryd.underlying35 info9 rfl (by decide) (by omega) (.slice (some ad191) x180001_2.length co91) x180001_2 ((rdOf ByteArray.empty x180001_2 x7_1) ++ (t192.extract (x8_2 : Int).toNat ((wrap64 (x8_2 + 1)) : Int).toNat)) [.string ((rdOf ByteArray.empty x180001_2 x7_1) ++ (t192.extract (x8_2 : Int).toNat ((wrap64 (x8_2 + 1)) : Int).toNat))] (fun _ => True) (fun _ => False) rfl rfl ?aP (fun _ hk => hk.elim) ?aF ?aO ?aB ?aS ?aL ?_
                      (case aP => exact rfl)
                      (case aB => exact bl)
                      (case aF => exact (fun _ _ => trivial))
                      (case aO => exact (by (with_reducible repeat (first | apply Kd.qF | apply Kd.qE | apply Kd.qH)); exact HO_180001.out))
                      (case aS => exact (qg bl))
                      (case aL => have := LMc76.out; omega)
                      intro v194 w92 ho hb hg hat
                      rw [← Ny193.out] at ho
                      have n0_ := Aside0.mk (qFA (g := gb170) (o := .cells #[.int .i64 a0_0, .int .i64 a0_1, .slice A0_2 l0_2.length c0_2] 34 (0, 0)) (by (with_reducible repeat (first | refine qB ?_ _ | refine qD ?_ | refine qA ?_ _)); exact BK170.out) hg (Kd.R_ne HO_180001.out BK170.out (by decide)))
                      have n1_ := Aside0.mk (qFA (g := gb171) (o := .cells #[.int .i64 a1_0, .int .i64 a1_1, .int .i64 a1_2] 27 (0, 0)) (by (with_reducible repeat (first | refine qB ?_ _ | refine qD ?_ | refine qA ?_ _)); exact BK171.out) hg (Kd.R_ne HO_180001.out BK171.out (by decide)))
                      have n2_ := Aside0.mk (qFA (g := gb172) (o := .cells #[.slice none 0 0, .slice none 0 0] 37 (0, 0)) (by (with_reducible repeat (first | refine qB ?_ _ | refine qD ?_ | refine qA ?_ _)); exact BK172.out) hg (Kd.R_ne HO_180001.out BK172.out (by decide)))
                      have n3_ := Aside0.mk (qFA (g := gb179) (o := .cells #[.slice Ao87 y188.length co87, .slice (some ad191) x180001_2.length co91] 37 (0, 0)) (by (with_reducible repeat (first | refine qB ?_ _ | refine qD ?_ | refine qA ?_ _)); exact BK179.out) hg (Kd.R_ne HO_180001.out BK179.out (by decide)))
                      have n4_ := Aside0.mk (qFA (g := gb185) (o := .cells #[.int .i64 t181, .int .i64 t182, .int .i64 t183] 27 (0, 0)) (by (with_reducible repeat (first | refine qB ?_ _ | refine qD ?_ | refine qA ?_ _)); exact BK185.out) hg (Kd.R_ne HO_180001.out BK185.out (by decide)))
                      have n5_ := Aside0.mk (Kd.qCB (by (with_reducible repeat (first | apply Kd.qF | apply Kd.qE | apply Kd.qH)); exact HO190.out) (Kd.qxA (by (with_reducible repeat (first | apply Kd.qF | apply Kd.qE | apply Kd.qH)); exact HO_180001.out)) (by decide) hg)
                      have n6_ := Aside0.mk (hb)
                      have n7_ := Aside0.mk (ho)
                      clear BK170
                      clear BK171
                      clear BK172
                      clear BK179
                      clear BK185
                      clear HO190
                      clear HB
                      clear HO_180001
                      have BK170 := n0_
                      have BK171 := n1_
                      have BK172 := n2_
                      have BK179 := n3_
                      have BK185 := n4_
                      have HO190 := n5_
                      have HB := n6_
                      have HO195 := n7_
                      clear n0_ n1_ n2_ n3_ n4_ n5_ n6_ n7_
                      clear ho hb hg hat
                      obtain ⟨Ao93, co93, eo93⟩ := Kd.qo HO195.out
                      (first | subst eo93 | (injection eo93 with f1_ f2_ f3_; have f4_ := f1_.symm; have f5_ := f3_.symm; clear f1_ f2_ f3_; subst f4_; subst f5_))
                      refine hK.out _ _ ?_
                      clear hK K
                      refine norm_ (a' := ?_) ?_ ?_
                      rotate_left
                      ·show Act.put _ (some 78) _ = _
                       simp only [Act.put, List.setIfInBounds_toArray, List.set_cons_zero, List.set_cons_succ, i64_w, i32_w]
                       rfl
                      refine pS (i := 15) (N := some 79) #[true, true, true, true, true, true, true, true, true, true, true, true, true, true, true, true, false] HT_ ?_
                      refine last_ (i := 16) (N := none) #[true, true, true, true, true, true, true, true, true, true, true, true, true, true, true, true, true] rfl rfl (qQA HT_.out (by kernel_rfl)) (by decide) (fun K hK => ?_)
                      have hs94 : w92.cell? ⟨gb179, 1, none⟩ = some (.slice (some ad191) x180001_2.length co91) := (qL BK179.out 1).trans rfl
                      have hfs94 := qC BK179.out 1
                      have hns94_0 := NB170_179.out
                      have hns94_1 := NB171_179.out
                      have hns94_2 := NB172_179.out
                      have hns94_4 := NB185_179.out
                      have hms94_0 := NB179_170.out
                      have hms94_1 := NB179_171.out
                      have hms94_2 := NB179_172.out
                      have hms94_4 := NB179_185.out
                      refine skip_ (w1 := ?_) (by rfl) rfl ?_ ?_
                      rotate_left
                      ·go_simp
                       rfl
                      refine hK.out _ _ ?_
                      clear hK K
                      refine done_ (qqA HT_.out (by kernel_rfl)) ?_
                      try go_wp2
                      go_roundg k3
                      case measure => have := HK1.out; have := HK2.out; have := HK3.out; omega
                      case rel => exact ⟨(wrap64 (x8_2 + 1)), (y188), (y193), (.slice Ao87 y188.length co87), (.slice Ao93 y193.length co93), (by first | rfl | (simp; done) | (simp [*]; done)), H', ⟨by have := HK1.out; have := HK2.out; have := HK3.out; omega⟩, ⟨by (with_reducible repeat (first | apply Kd.qF | apply Kd.qE | apply Kd.qH)); exact Kd.qh (Kd.R_far (p := ⟨gb179, 1, none⟩) (Kd.qEA HO190.out BK179.out (by decide)) (fun _ hk => hk.2) (.slice Ao93 y193.length co93)) (fun _ hk => hk.1.1)⟩, ⟨by (with_reducible repeat (first | apply Kd.qF | apply Kd.qE | apply Kd.qH)); exact Kd.qh (Kd.R_far (p := ⟨gb179, 1, none⟩) (Kd.qEA HO195.out BK179.out (by decide)) (fun _ hk => hk.2) (.slice Ao93 y193.length co93)) (fun _ hk => trivial)⟩, ⟨by (with_reducible repeat (first | refine qB ?_ _ | refine qD ?_ | refine qA ?_ _)); refine qN ?_ NB170_179.out _; (with_reducible repeat (first | refine qB ?_ _ | refine qD ?_ | refine qA ?_ _)); exact BK170.out⟩, ⟨by (with_reducible repeat (first | refine qB ?_ _ | refine qD ?_ | refine qA ?_ _)); refine qN ?_ NB171_179.out _; (with_reducible repeat (first | refine qB ?_ _ | refine qD ?_ | refine qA ?_ _)); exact BK171.out⟩, ⟨by (with_reducible repeat (first | refine qB ?_ _ | refine qD ?_ | refine qA ?_ _)); refine qN ?_ NB172_179.out _; (with_reducible repeat (first | refine qB ?_ _ | refine qD ?_ | refine qA ?_ _)); exact BK172.out⟩, ⟨by (with_reducible repeat (first | refine qB ?_ _ | refine qD ?_ | refine qA ?_ _)); refine qQ (cs := #[.slice Ao87 y188.length co87, .slice (some ad191) x180001_2.length co91]) ?_ 1 _ rfl; (with_reducible repeat (first | refine qB ?_ _ | refine qD ?_ | refine qA ?_ _)); exact BK179.out⟩, ⟨bl⟩⟩
                     ·rw [if_neg c76] at H
                      exact absurd H (by simp)
                    ·rw [if_neg c75] at H
                     exact absurd H (by simp)
                   ·rw [if_neg c74] at H
                    exact absurd H (by simp)
                  ·rw [if_neg c73] at H
                   exact absurd H (by simp)
                 ·rw [if_neg c72] at H
                  exact absurd H (by simp)
                ·rw [if_neg c70] at H
                 exact absurd H (by simp)
               ·rw [if_neg c69] at H
                exact absurd H (by simp)
              ·rw [if_neg c68] at H
               exact absurd H (by simp)
         ·replace c30 := Bool.eq_false_iff.mpr c30
          subst c30
          have H1 : (qZ.l1 k2 x7_1 (wrap64 (x8_2 + 1)) a0_0 a0_1 l0_2 x180000_2 x180001_2) = some (r1, r2, r3) := by rw [if_neg (show ¬ (false = true) by decide)] at H; exact H
          clear H
          have H := H1
          clear H1
          have H' := Aside0.mk H
          clear H
          try go_wp2
          have n0_ := Aside0.mk (Kd.qH HO_180000.out)
          have n1_ := Aside0.mk (Kd.qH HO_180001.out)
          have n2_ := Aside0.mk (qD BK170.out)
          have n3_ := Aside0.mk (qD BK171.out)
          have n4_ := Aside0.mk (qD BK172.out)
          have n5_ := Aside0.mk (qD BK179.out)
          have n6_ := Aside0.mk (qm HB.out)
          clear HO_180000
          clear HO_180001
          clear BK170
          clear BK171
          clear BK172
          clear BK179
          clear HB
          have HO_180000 := n0_
          have HO_180001 := n1_
          have BK170 := n2_
          have BK171 := n3_
          have BK172 := n4_
          have BK179 := n5_
          have HB := n6_
          clear n0_ n1_ n2_ n3_ n4_ n5_ n6_
          obtain ⟨Ao96, co96, eo96⟩ := Kd.qo HO_180000.out
          (first | subst eo96 | (injection eo96 with f1_ f2_ f3_; have f4_ := f1_.symm; have f5_ := f3_.symm; clear f1_ f2_ f3_; subst f4_; subst f5_))
          have p180 : 0 ≤ (x7_1 : Int) := of_decide_eq_true (by first | (with_reducible assumption) | assumption)
          have q180 : x7_1 < (x180000_2.length : Int) := of_decide_eq_true (by first | (with_reducible assumption) | assumption)
          obtain ⟨ad180, e180, hx180_0, hx180_1, hx180_2⟩ := qnA (Kd.qT HO_180000.out).2.2 x7_1 p180 q180
          cases e180
          replace p180 := eq_true p180
          replace q180 := eq_true q180
          refine qyA (n := 14) (S := fun w' => w'.cell? ⟨gb170, 0, none⟩ = some (.int .i64 a0_0) ∧ w'.cell? ⟨gb170, 1, none⟩ = some (.int .i64 a0_1) ∧ w'.cell? ⟨gb170, 2, none⟩ = some (.slice A0_2 l0_2.length c0_2) ∧ w'.cell? ⟨gb179, 0, none⟩ = some (.slice (some ad180) x180000_2.length co96) ∧ w'.cell? ⟨gb179, 1, none⟩ = some (u180001) ∧ w'.cell? (ad180.add ((x7_1).toNat * 3)) = some (.int .i64 ((qK x180000_2 x7_1).f0)) ∧ w'.cell? ⟨(ad180.add ((x7_1).toNat * 3)).block, (ad180.add ((x7_1).toNat * 3)).off + 1, none⟩ = some (.int .i64 ((qK x180000_2 x7_1).f1)) ∧ w'.cell? ⟨(ad180.add ((x7_1).toNat * 3)).block, (ad180.add ((x7_1).toNat * 3)).off + 2, none⟩ = some (.int .i64 ((qK x180000_2 x7_1).f2))) (ds := []) #[false, false, false, false, false, false, false, false, false, false, false, false, false, false] (by kernel_rfl) rfl rfl ⟨(qL BK170.out 0).trans rfl, (qL BK170.out 1).trans rfl, (qL BK170.out 2).trans rfl, (qL BK179.out 0).trans rfl, (qL BK179.out 1).trans rfl, hx180_0, hx180_1, hx180_2⟩ (fun hHeld => ?_); refine qWA qZ.tab8 qZ.bits8 (fun HT_ HW_ => ?_)
          generalize wr.drew = w95 at HO_180000 HO_180001 BK170 BK171 BK172 BK179 HB hx180_0 hx180_1 hx180_2 hHeld ⊢
          refine pS (i := 1) (N := some 31) #[false, true, false, false, false, false, false, false, false, false, false, false, false, false] HT_ ?_
          refine pS (i := 3) (N := some 33) #[false, true, false, true, false, false, false, false, false, false, false, false, false, false] HT_ ?_
          refine pS (i := 6) (N := some 36) #[false, true, false, true, false, false, true, false, false, false, false, false, false, false] HT_ ?_
          refine tS (i := 0) (N := some 30) #[true, true, false, true, false, false, true, false, false, false, false, false, false, false] HT_ HW_ hHeld ?_
          refine tS (i := 2) (N := some 32) #[true, true, true, true, false, false, true, false, false, false, false, false, false, false] HT_ HW_ hHeld ?_
          refine pS (i := 4) (N := some 34) #[true, true, true, true, true, false, true, false, false, false, false, false, false, false] HT_ ?_
          refine tS (i := 5) (N := some 35) #[true, true, true, true, true, true, true, false, false, false, false, false, false, false] HT_ HW_ hHeld ?_
          refine join_ (σ := Nat) 2 #[true, true, true, true, true, true, true, true, true, true, true, true, false, false] (fun s_ => [(37, .tuple #[.agg #[.int .i64 t181, .int .i64 t182, .int .i64 t183], .bool false]), (9, .pointer (some ⟨s_, 0, none⟩)), (29, .tuple #[.agg #[.int .i64 t181, .int .i64 t182, .int .i64 t183], .bool false]), (38, .agg #[.int .i64 t181, .int .i64 t182, .int .i64 t183]), (39, .bool false)]) (fun s_ w' => (w'.cell? ⟨gb170, 0, none⟩ = some (.int .i64 a0_0) ∧ w'.cell? ⟨gb170, 1, none⟩ = some (.int .i64 a0_1) ∧ w'.cell? ⟨gb170, 2, none⟩ = some (.slice A0_2 l0_2.length c0_2) ∧ w'.cell? ⟨gb179, 0, none⟩ = some (.slice (some ad180) x180000_2.length co96) ∧ w'.cell? ⟨gb179, 1, none⟩ = some (u180001) ∧ w'.cell? (ad180.add ((x7_1).toNat * 3)) = some (.int .i64 ((qK x180000_2 x7_1).f0)) ∧ w'.cell? ⟨(ad180.add ((x7_1).toNat * 3)).block, (ad180.add ((x7_1).toNat * 3)).off + 1, none⟩ = some (.int .i64 ((qK x180000_2 x7_1).f1)) ∧ w'.cell? ⟨(ad180.add ((x7_1).toNat * 3)).block, (ad180.add ((x7_1).toNat * 3)).off + 2, none⟩ = some (.int .i64 ((qK x180000_2 x7_1).f2))) ∧ (Kd.R k27 27 w' w.heap.size (fun k_ => k_ ≠ gb171 ∧ k_ ≠ s_) (.slice (some ad180) x180000_2.length co96) x180000_2) ∧ (Kd.R Kd.string 9 w' w.heap.size (fun _ => True) u180001 x180001_2) ∧ (w'.heap[gb170]? = some (.cells #[.int .i64 a0_0, .int .i64 a0_1, .slice A0_2 l0_2.length c0_2] 34 (0, 0))) ∧ (w'.heap[gb171]? = some (.cells #[.int .i64 a1_0, .int .i64 a1_1, .int .i64 a1_2] 27 (0, 0))) ∧ (w'.heap[gb172]? = some (.cells #[.slice none 0 0, .slice none 0 0] 37 (0, 0))) ∧ (w'.heap[gb179]? = some (.cells #[.slice (some ad180) x180000_2.length co96, u180001] 37 (0, 0))) ∧ (w'.heap[s_]? = some (.cells #[.int .i64 0, .int .i64 0, .int .i64 0] 27 (0, 0))) ∧ (w.heap.size ≤ s_) ∧ (w.heap.size ≤ s_) ∧ (gb170 ≠ s_) ∧ (s_ ≠ gb170) ∧ (gb171 ≠ s_) ∧ (s_ ≠ gb171) ∧ (gb172 ≠ s_) ∧ (s_ ≠ gb172) ∧ (gb179 ≠ s_) ∧ (s_ ≠ gb179) ∧ (Below w.heap.size w w')) ?_ ?_
          rotate_left
          ·intro hCont
           refine two_ (i := 7) (j := 11) (Ni := some 37) (Nj := some 9) #[true, true, true, true, true, true, true, true, false, false, false, false, false, false] #[true, true, true, true, true, true, true, false, false, false, false, true, false, false] rfl rfl rfl rfl (qKC HT_.out (by kernel_rfl)) (by decide) (by decide) (fun K hK => ?_) (fun K hK => ?_)
           ·skip
            refine goes_ Tryd.func28 (by kernel_rfl) rfl #[.agg #[.int .i64 a0_0, .int .i64 a0_1, .slice A0_2 l0_2.length c0_2], .agg #[.int .i64 ((qK x180000_2 x7_1).f0), .int .i64 ((qK x180000_2 x7_1).f1), .int .i64 ((qK x180000_2 x7_1).f2)], .int .i64 x8_2] (by rfl) rfl rfl (by (try simp only [List.map_toArray, List.map_cons, List.map_nil]); first | done | rfl | (simp only [List.length_drop, List.length_take]; rfl)) ?_
            with_reducible refine (qoA.calls k2 a0_0 a0_1 _ _ l0_2 ((qK x180000_2 x7_1).f0) ((qK x180000_2 x7_1).f1) ((qK x180000_2 x7_1).f2) x8_2 t181 t182 t183 false _ ?side1 ?side2 A29.out).mono ?_
            (case side1 => repeat (first | exact (Kd.qYA HR0_2.out HB.out) | (with_reducible refine Kd.qz ?_ _) | (with_reducible refine Kd.qy ?_ _) | (with_reducible refine Kd.qNA ?_)))
            (case side2 => exact HC0_2.out)
            rintro e w97 ⟨rfl, hb⟩
            have HS5_ := (hb.cell (World.block_lt_of_cell? _ _ (hHeld.2.2.2.2.2.1))).trans (hHeld.2.2.2.2.2.1)
            have HS6_ := (hb.cell (World.block_lt_of_cell? _ _ (hHeld.2.2.2.2.2.2.1))).trans (hHeld.2.2.2.2.2.2.1)
            have HS7_ := (hb.cell (World.block_lt_of_cell? _ _ (hHeld.2.2.2.2.2.2.2))).trans (hHeld.2.2.2.2.2.2.2)
            refine ⟨_, rfl, ?_⟩
            have n0_ := Aside0.mk (Kd.qa (by (with_reducible repeat (first | apply Kd.qF | apply Kd.qE | apply Kd.qH)); exact HO_180000.out) hb)
            have n1_ := Aside0.mk (Kd.qa (by (with_reducible repeat (first | apply Kd.qF | apply Kd.qE | apply Kd.qH)); exact HO_180001.out) hb)
            have n2_ := Aside0.mk (bb BK170 hb)
            have n3_ := Aside0.mk (bb BK171 hb)
            have n4_ := Aside0.mk (bb BK172 hb)
            have n5_ := Aside0.mk (bb BK179 hb)
            have n6_ := Aside0.mk (qG bl hb)
            clear HO_180000
            clear HO_180001
            clear BK170
            clear BK171
            clear BK172
            clear BK179
            clear HB
            have HO_180000 := n0_
            have HO_180001 := n1_
            have BK170 := n2_
            have BK171 := n3_
            have BK172 := n4_
            have BK179 := n5_
            have HB := n6_
            clear n0_ n1_ n2_ n3_ n4_ n5_ n6_
            (try clear hb)
            (try clear hb2)
            (try clear hk)
            (try clear hi)
            refine hK.out _ _ ⟨(qL BK170.out 0).trans rfl, (qL BK170.out 1).trans rfl, (qL BK170.out 2).trans rfl, (qL BK179.out 0).trans rfl, (qL BK179.out 1).trans rfl, HS5_, HS6_, HS7_⟩ (fun hHeld => ?_)
            clear hK K
            refine norm_ (a' := ?_) ?_ ?_
            rotate_left
            ·show Act.put _ (some 37) _ = _
             simp only [Act.put, List.setIfInBounds_toArray, List.set_cons_zero, List.set_cons_succ, i64_w, i32_w]
             rfl
            refine pS (i := 8) (N := some 29) #[true, true, true, true, true, true, true, true, true, false, false, false, false, false] HT_ ?_
            refine pS (i := 9) (N := some 38) #[true, true, true, true, true, true, true, true, true, true, false, false, false, false] HT_ ?_
            refine pS (i := 10) (N := some 39) #[true, true, true, true, true, true, true, true, true, true, true, false, false, false] HT_ ?_
            refine one_ (i := 11) (N := some 9) #[true, true, true, true, true, true, true, true, true, true, true, true, false, false] rfl rfl (qQA HT_.out (by kernel_rfl)) (by decide) (fun K hK => ?_)
            refine qIB ?hg (N := 9) ?hd (cs := #[.int .i64 0, .int .i64 0, .int .i64 0]) (t := 27) ?hr ?_; (case hd => rfl); (case hg => rfl); (case hr => first | (go_simp; done) | (go_simp; rfl))
            intro gb185 hg w98 hbox hb
            have HS5_ := (hb.cell (World.block_lt_of_cell? _ _ (hHeld.2.2.2.2.2.1))).trans (hHeld.2.2.2.2.2.1)
            have HS6_ := (hb.cell (World.block_lt_of_cell? _ _ (hHeld.2.2.2.2.2.2.1))).trans (hHeld.2.2.2.2.2.2.1)
            have HS7_ := (hb.cell (World.block_lt_of_cell? _ _ (hHeld.2.2.2.2.2.2.2))).trans (hHeld.2.2.2.2.2.2.2)
            have n0_ := Aside0.mk (Kd.qa (Kd.qsA (by (with_reducible repeat (first | apply Kd.qF | apply Kd.qE | apply Kd.qH)); exact HO_180000.out) gb185 (Nat.le_of_eq hg.symm)) hb)
            have n1_ := Aside0.mk (Kd.qa (by (with_reducible repeat (first | apply Kd.qF | apply Kd.qE | apply Kd.qH)); exact HO_180001.out) hb)
            have n2_ := Aside0.mk (bb BK170 hb)
            have n3_ := Aside0.mk (bb BK171 hb)
            have n4_ := Aside0.mk (bb BK172 hb)
            have n5_ := Aside0.mk (bb BK179 hb)
            have n6_ := Aside0.mk (qG bl hb)
            have n7_ := Aside0.mk (hbox)
            have n8_ := Aside0.mk ((gg hg))
            have n9_ := Aside0.mk ((gg hg))
            have n10_ := Aside0.mk ((nl BK170 hg))
            have n11_ := Aside0.mk ((nr BK170 hg))
            have n12_ := Aside0.mk ((nl BK171 hg))
            have n13_ := Aside0.mk ((nr BK171 hg))
            have n14_ := Aside0.mk ((nl BK172 hg))
            have n15_ := Aside0.mk ((nr BK172 hg))
            have n16_ := Aside0.mk ((nl BK179 hg))
            have n17_ := Aside0.mk ((nr BK179 hg))
            clear HO_180000
            clear HO_180001
            clear BK170
            clear BK171
            clear BK172
            clear BK179
            clear HB
            have HO_180000 := n0_
            have HO_180001 := n1_
            have BK170 := n2_
            have BK171 := n3_
            have BK172 := n4_
            have BK179 := n5_
            have HB := n6_
            have BK185 := n7_
            have GW185 := n8_
            have GE185 := n9_
            have NB170_185 := n10_
            have NB185_170 := n11_
            have NB171_185 := n12_
            have NB185_171 := n13_
            have NB172_185 := n14_
            have NB185_172 := n15_
            have NB179_185 := n16_
            have NB185_179 := n17_
            clear n0_ n1_ n2_ n3_ n4_ n5_ n6_ n7_ n8_ n9_ n10_ n11_ n12_ n13_ n14_ n15_ n16_ n17_
            clear hb hbox hg
            refine hK.out _ _ ⟨(qL BK170.out 0).trans rfl, (qL BK170.out 1).trans rfl, (qL BK170.out 2).trans rfl, (qL BK179.out 0).trans rfl, (qL BK179.out 1).trans rfl, HS5_, HS6_, HS7_⟩ (fun hHeld => ?_)
            clear hK K
            refine norm_ (a' := ?_) ?_ ?_
            rotate_left
            ·show Act.put _ (some 9) _ = _
             simp only [Act.put, List.setIfInBounds_toArray, List.set_cons_zero, List.set_cons_succ, i64_w, i32_w]
             rfl
            exact norm_ (by simp only [putAll, Act.put, List.setIfInBounds_toArray, List.set_cons_zero, List.set_cons_succ]) (hCont (gb185) _ ⟨hHeld, (by (with_reducible repeat (first | apply Kd.qF | apply Kd.qE | apply Kd.qH)); exact HO_180000.out), (by (with_reducible repeat (first | apply Kd.qF | apply Kd.qE | apply Kd.qH)); exact HO_180001.out), (by (with_reducible repeat (first | refine qB ?_ _ | refine qD ?_ | refine qA ?_ _)); exact BK170.out), (by (with_reducible repeat (first | refine qB ?_ _ | refine qD ?_ | refine qA ?_ _)); exact BK171.out), (by (with_reducible repeat (first | refine qB ?_ _ | refine qD ?_ | refine qA ?_ _)); exact BK172.out), (by (with_reducible repeat (first | refine qB ?_ _ | refine qD ?_ | refine qA ?_ _)); exact BK179.out), (by (with_reducible repeat (first | refine qB ?_ _ | refine qD ?_ | refine qA ?_ _)); exact BK185.out), GW185.out, GE185.out, NB170_185.out, NB185_170.out, NB171_185.out, NB185_171.out, NB172_185.out, NB185_172.out, NB179_185.out, NB185_179.out, bl⟩)
           ·skip
            refine qIB ?hg (N := 9) ?hd (cs := #[.int .i64 0, .int .i64 0, .int .i64 0]) (t := 27) ?hr ?_; (case hd => rfl); (case hg => rfl); (case hr => first | (go_simp; done) | (go_simp; rfl))
            intro gb185 hg w97 hbox hb
            have HS5_ := (hb.cell (World.block_lt_of_cell? _ _ (hHeld.2.2.2.2.2.1))).trans (hHeld.2.2.2.2.2.1)
            have HS6_ := (hb.cell (World.block_lt_of_cell? _ _ (hHeld.2.2.2.2.2.2.1))).trans (hHeld.2.2.2.2.2.2.1)
            have HS7_ := (hb.cell (World.block_lt_of_cell? _ _ (hHeld.2.2.2.2.2.2.2))).trans (hHeld.2.2.2.2.2.2.2)
            have n0_ := Aside0.mk (Kd.qa (Kd.qsA (by (with_reducible repeat (first | apply Kd.qF | apply Kd.qE | apply Kd.qH)); exact HO_180000.out) gb185 (Nat.le_of_eq hg.symm)) hb)
            have n1_ := Aside0.mk (Kd.qa (by (with_reducible repeat (first | apply Kd.qF | apply Kd.qE | apply Kd.qH)); exact HO_180001.out) hb)
            have n2_ := Aside0.mk (bb BK170 hb)
            have n3_ := Aside0.mk (bb BK171 hb)
            have n4_ := Aside0.mk (bb BK172 hb)
            have n5_ := Aside0.mk (bb BK179 hb)
            have n6_ := Aside0.mk (qG bl hb)
            have n7_ := Aside0.mk (hbox)
            have n8_ := Aside0.mk ((gg hg))
            have n9_ := Aside0.mk ((gg hg))
            have n10_ := Aside0.mk ((nl BK170 hg))
            have n11_ := Aside0.mk ((nr BK170 hg))
            have n12_ := Aside0.mk ((nl BK171 hg))
            have n13_ := Aside0.mk ((nr BK171 hg))
            have n14_ := Aside0.mk ((nl BK172 hg))
            have n15_ := Aside0.mk ((nr BK172 hg))
            have n16_ := Aside0.mk ((nl BK179 hg))
            have n17_ := Aside0.mk ((nr BK179 hg))
            clear HO_180000
            clear HO_180001
            clear BK170
            clear BK171
            clear BK172
            clear BK179
            clear HB
            have HO_180000 := n0_
            have HO_180001 := n1_
            have BK170 := n2_
            have BK171 := n3_
            have BK172 := n4_
            have BK179 := n5_
            have HB := n6_
            have BK185 := n7_
            have GW185 := n8_
            have GE185 := n9_
            have NB170_185 := n10_
            have NB185_170 := n11_
            have NB171_185 := n12_
            have NB185_171 := n13_
            have NB172_185 := n14_
            have NB185_172 := n15_
            have NB179_185 := n16_
            have NB185_179 := n17_
            clear n0_ n1_ n2_ n3_ n4_ n5_ n6_ n7_ n8_ n9_ n10_ n11_ n12_ n13_ n14_ n15_ n16_ n17_
            clear hb hbox hg
            refine hK.out _ _ ⟨(qL BK170.out 0).trans rfl, (qL BK170.out 1).trans rfl, (qL BK170.out 2).trans rfl, (qL BK179.out 0).trans rfl, (qL BK179.out 1).trans rfl, HS5_, HS6_, HS7_⟩ (fun hHeld => ?_)
            clear hK K
            refine norm_ (a' := ?_) ?_ ?_
            rotate_left
            ·show Act.put _ (some 9) _ = _
             simp only [Act.put, List.setIfInBounds_toArray, List.set_cons_zero, List.set_cons_succ, i64_w, i32_w]
             rfl
            refine one_ (i := 7) (N := some 37) #[true, true, true, true, true, true, true, true, false, false, false, true, false, false] rfl rfl (qQA HT_.out (by kernel_rfl)) (by decide) (fun K hK => ?_)
            refine goes_ Tryd.func28 (by kernel_rfl) rfl #[.agg #[.int .i64 a0_0, .int .i64 a0_1, .slice A0_2 l0_2.length c0_2], .agg #[.int .i64 ((qK x180000_2 x7_1).f0), .int .i64 ((qK x180000_2 x7_1).f1), .int .i64 ((qK x180000_2 x7_1).f2)], .int .i64 x8_2] (by rfl) rfl rfl (by (try simp only [List.map_toArray, List.map_cons, List.map_nil]); first | done | rfl | (simp only [List.length_drop, List.length_take]; rfl)) ?_
            with_reducible refine (qoA.calls k2 a0_0 a0_1 _ _ l0_2 ((qK x180000_2 x7_1).f0) ((qK x180000_2 x7_1).f1) ((qK x180000_2 x7_1).f2) x8_2 t181 t182 t183 false _ ?side1 ?side2 A29.out).mono ?_
            (case side1 => repeat (first | exact (Kd.qYA HR0_2.out HB.out) | (with_reducible refine Kd.qz ?_ _) | (with_reducible refine Kd.qy ?_ _) | (with_reducible refine Kd.qNA ?_)))
            (case side2 => exact HC0_2.out)
            rintro e w98 ⟨rfl, hb⟩
            have HS5_ := (hb.cell (World.block_lt_of_cell? _ _ (hHeld.2.2.2.2.2.1))).trans (hHeld.2.2.2.2.2.1)
            have HS6_ := (hb.cell (World.block_lt_of_cell? _ _ (hHeld.2.2.2.2.2.2.1))).trans (hHeld.2.2.2.2.2.2.1)
            have HS7_ := (hb.cell (World.block_lt_of_cell? _ _ (hHeld.2.2.2.2.2.2.2))).trans (hHeld.2.2.2.2.2.2.2)
            refine ⟨_, rfl, ?_⟩
            have n0_ := Aside0.mk (Kd.qa (by (with_reducible repeat (first | apply Kd.qF | apply Kd.qE | apply Kd.qH)); exact HO_180000.out) hb)
            have n1_ := Aside0.mk (Kd.qa (by (with_reducible repeat (first | apply Kd.qF | apply Kd.qE | apply Kd.qH)); exact HO_180001.out) hb)
            have n2_ := Aside0.mk (bb BK170 hb)
            have n3_ := Aside0.mk (bb BK171 hb)
            have n4_ := Aside0.mk (bb BK172 hb)
            have n5_ := Aside0.mk (bb BK179 hb)
            have n6_ := Aside0.mk (bb BK185 hb)
            have n7_ := Aside0.mk (qG bl hb)
            clear HO_180000
            clear HO_180001
            clear BK170
            clear BK171
            clear BK172
            clear BK179
            clear BK185
            clear HB
            have HO_180000 := n0_
            have HO_180001 := n1_
            have BK170 := n2_
            have BK171 := n3_
            have BK172 := n4_
            have BK179 := n5_
            have BK185 := n6_
            have HB := n7_
            clear n0_ n1_ n2_ n3_ n4_ n5_ n6_ n7_
            (try clear hb)
            (try clear hb2)
            (try clear hk)
            (try clear hi)
            refine hK.out _ _ ⟨(qL BK170.out 0).trans rfl, (qL BK170.out 1).trans rfl, (qL BK170.out 2).trans rfl, (qL BK179.out 0).trans rfl, (qL BK179.out 1).trans rfl, HS5_, HS6_, HS7_⟩ (fun hHeld => ?_)
            clear hK K
            refine norm_ (a' := ?_) ?_ ?_
            rotate_left
            ·show Act.put _ (some 37) _ = _
             simp only [Act.put, List.setIfInBounds_toArray, List.set_cons_zero, List.set_cons_succ, i64_w, i32_w]
             rfl
            refine pS (i := 8) (N := some 29) #[true, true, true, true, true, true, true, true, true, false, false, true, false, false] HT_ ?_
            refine pS (i := 9) (N := some 38) #[true, true, true, true, true, true, true, true, true, true, false, true, false, false] HT_ ?_
            refine pS (i := 10) (N := some 39) #[true, true, true, true, true, true, true, true, true, true, true, true, false, false] HT_ ?_
            exact norm_ (by simp only [putAll, Act.put, List.setIfInBounds_toArray, List.set_cons_zero, List.set_cons_succ]) (hCont (gb185) _ ⟨hHeld, (by (with_reducible repeat (first | apply Kd.qF | apply Kd.qE | apply Kd.qH)); exact HO_180000.out), (by (with_reducible repeat (first | apply Kd.qF | apply Kd.qE | apply Kd.qH)); exact HO_180001.out), (by (with_reducible repeat (first | refine qB ?_ _ | refine qD ?_ | refine qA ?_ _)); exact BK170.out), (by (with_reducible repeat (first | refine qB ?_ _ | refine qD ?_ | refine qA ?_ _)); exact BK171.out), (by (with_reducible repeat (first | refine qB ?_ _ | refine qD ?_ | refine qA ?_ _)); exact BK172.out), (by (with_reducible repeat (first | refine qB ?_ _ | refine qD ?_ | refine qA ?_ _)); exact BK179.out), (by (with_reducible repeat (first | refine qB ?_ _ | refine qD ?_ | refine qA ?_ _)); exact BK185.out), GW185.out, GE185.out, NB170_185.out, NB185_170.out, NB171_185.out, NB185_171.out, NB172_185.out, NB185_172.out, NB179_185.out, NB185_179.out, bl⟩)
          rintro gb185 w99 ⟨hS_, h0_, h1_, h2_, h3_, h4_, h5_, h6_, h7_, h8_, h9_, h10_, h11_, h12_, h13_, h14_, h15_, h16_, h17_⟩
          have n0_ : Aside0 (Kd.R k27 27 w99 w.heap.size (fun k_ => k_ ≠ gb171 ∧ k_ ≠ gb185) (.slice (some ad180) x180000_2.length co96) x180000_2) := ⟨h0_⟩
          have n1_ : Aside0 (Kd.R Kd.string 9 w99 w.heap.size (fun _ => True) u180001 x180001_2) := ⟨h1_⟩
          have n2_ : Aside0 (w99.heap[gb170]? = some (.cells #[.int .i64 a0_0, .int .i64 a0_1, .slice A0_2 l0_2.length c0_2] 34 (0, 0))) := ⟨h2_⟩
          have n3_ : Aside0 (w99.heap[gb171]? = some (.cells #[.int .i64 a1_0, .int .i64 a1_1, .int .i64 a1_2] 27 (0, 0))) := ⟨h3_⟩
          have n4_ : Aside0 (w99.heap[gb172]? = some (.cells #[.slice none 0 0, .slice none 0 0] 37 (0, 0))) := ⟨h4_⟩
          have n5_ : Aside0 (w99.heap[gb179]? = some (.cells #[.slice (some ad180) x180000_2.length co96, u180001] 37 (0, 0))) := ⟨h5_⟩
          have n6_ : Aside0 (w99.heap[gb185]? = some (.cells #[.int .i64 0, .int .i64 0, .int .i64 0] 27 (0, 0))) := ⟨h6_⟩
          have n7_ : Aside0 (w.heap.size ≤ gb185) := ⟨h7_⟩
          have n8_ : Aside0 (w.heap.size ≤ gb185) := ⟨h8_⟩
          have n9_ : Aside0 (gb170 ≠ gb185) := ⟨h9_⟩
          have n10_ : Aside0 (gb185 ≠ gb170) := ⟨h10_⟩
          have n11_ : Aside0 (gb171 ≠ gb185) := ⟨h11_⟩
          have n12_ : Aside0 (gb185 ≠ gb171) := ⟨h12_⟩
          have n13_ : Aside0 (gb172 ≠ gb185) := ⟨h13_⟩
          have n14_ : Aside0 (gb185 ≠ gb172) := ⟨h14_⟩
          have n15_ : Aside0 (gb179 ≠ gb185) := ⟨h15_⟩
          have n16_ : Aside0 (gb185 ≠ gb179) := ⟨h16_⟩
          have n17_ : Aside0 (Below w.heap.size w w99) := ⟨h17_⟩
          clear HO_180000
          clear HO_180001
          clear BK170
          clear BK171
          clear BK172
          clear BK179
          clear HB
          clear h0_ h1_ h2_ h3_ h4_ h5_ h6_ h7_ h8_ h9_ h10_ h11_ h12_ h13_ h14_ h15_ h16_ h17_
          have HO_180000 := n0_
          have HO_180001 := n1_
          have BK170 := n2_
          have BK171 := n3_
          have BK172 := n4_
          have BK179 := n5_
          have BK185 := n6_
          have GW185 := n7_
          have GE185 := n8_
          have NB170_185 := n9_
          have NB185_170 := n10_
          have NB171_185 := n11_
          have NB185_171 := n12_
          have NB172_185 := n13_
          have NB185_172 := n14_
          have NB179_185 := n15_
          have NB185_179 := n16_
          have HB := n17_
          clear n0_ n1_ n2_ n3_ n4_ n5_ n6_ n7_ n8_ n9_ n10_ n11_ n12_ n13_ n14_ n15_ n16_ n17_
          have hHeld : w99.cell? ⟨gb170, 0, none⟩ = some (.int .i64 a0_0) ∧ w99.cell? ⟨gb170, 1, none⟩ = some (.int .i64 a0_1) ∧ w99.cell? ⟨gb170, 2, none⟩ = some (.slice A0_2 l0_2.length c0_2) ∧ w99.cell? ⟨gb179, 0, none⟩ = some (.slice (some ad180) x180000_2.length co96) ∧ w99.cell? ⟨gb179, 1, none⟩ = some (u180001) ∧ w99.cell? (ad180.add ((x7_1).toNat * 3)) = some (.int .i64 ((qK x180000_2 x7_1).f0)) ∧ w99.cell? ⟨(ad180.add ((x7_1).toNat * 3)).block, (ad180.add ((x7_1).toNat * 3)).off + 1, none⟩ = some (.int .i64 ((qK x180000_2 x7_1).f1)) ∧ w99.cell? ⟨(ad180.add ((x7_1).toNat * 3)).block, (ad180.add ((x7_1).toNat * 3)).off + 2, none⟩ = some (.int .i64 ((qK x180000_2 x7_1).f2)) := hS_
          refine norm_ (a' := ?_) ?_ ?_
          rotate_left
          ·simp only [putAll, Act.put, List.setIfInBounds_toArray, List.set_cons_zero, List.set_cons_succ]
           rfl
          refine one_ (i := 12) (N := none) #[true, true, true, true, true, true, true, true, true, true, true, true, true, false] rfl rfl (qQA HT_.out (by kernel_rfl)) (by decide) (fun K hK => ?_)
          have hs100 : w99.cell? ⟨gb185, 0, none⟩ = some (.int .i64 0) := (qL BK185.out 0).trans rfl
          have hfs100 := qC BK185.out 0
          have hns100_0 := NB170_185.out
          have hns100_1 := NB171_185.out
          have hns100_2 := NB172_185.out
          have hns100_3 := NB179_185.out
          have hms100_0 := NB185_170.out
          have hms100_1 := NB185_171.out
          have hms100_2 := NB185_172.out
          have hms100_3 := NB185_179.out
          have hs101 : w99.cell? ⟨gb185, 1, none⟩ = some (.int .i64 0) := (qL BK185.out 1).trans rfl
          have hfs101 := qC BK185.out 1
          have hns101_0 := NB170_185.out
          have hns101_1 := NB171_185.out
          have hns101_2 := NB172_185.out
          have hns101_3 := NB179_185.out
          have hms101_0 := NB185_170.out
          have hms101_1 := NB185_171.out
          have hms101_2 := NB185_172.out
          have hms101_3 := NB185_179.out
          have hs102 : w99.cell? ⟨gb185, 2, none⟩ = some (.int .i64 0) := (qL BK185.out 2).trans rfl
          have hfs102 := qC BK185.out 2
          have hns102_0 := NB170_185.out
          have hns102_1 := NB171_185.out
          have hns102_2 := NB172_185.out
          have hns102_3 := NB179_185.out
          have hms102_0 := NB185_170.out
          have hms102_1 := NB185_171.out
          have hms102_2 := NB185_172.out
          have hms102_3 := NB185_179.out
          refine skip_ (w1 := ?_) (by rfl) rfl ?_ ?_
          rotate_left
          ·go_simp
           rfl
          refine hK.out _ _ ⟨((qR (p := ⟨gb185, _, none⟩) NB170_185.out _).trans (((qR (p := ⟨gb185, _, none⟩) NB170_185.out _).trans (((qR (p := ⟨gb185, _, none⟩) NB170_185.out _).trans (hHeld.1)))))), ((qR (p := ⟨gb185, _, none⟩) NB170_185.out _).trans (((qR (p := ⟨gb185, _, none⟩) NB170_185.out _).trans (((qR (p := ⟨gb185, _, none⟩) NB170_185.out _).trans (hHeld.2.1)))))), ((qR (p := ⟨gb185, _, none⟩) NB170_185.out _).trans (((qR (p := ⟨gb185, _, none⟩) NB170_185.out _).trans (((qR (p := ⟨gb185, _, none⟩) NB170_185.out _).trans (hHeld.2.2.1)))))), ((qR (p := ⟨gb185, _, none⟩) NB179_185.out _).trans (((qR (p := ⟨gb185, _, none⟩) NB179_185.out _).trans (((qR (p := ⟨gb185, _, none⟩) NB179_185.out _).trans (hHeld.2.2.2.1)))))), ((qR (p := ⟨gb185, _, none⟩) NB179_185.out _).trans (((qR (p := ⟨gb185, _, none⟩) NB179_185.out _).trans (((qR (p := ⟨gb185, _, none⟩) NB179_185.out _).trans (hHeld.2.2.2.2.1)))))), ((qR (p := ⟨gb185, _, none⟩) (by first | exact Kd.qO (Kd.qU HO_180000.out (fun _ hk => hk.2)) | (rw [qW]; exact Kd.qO (Kd.qU HO_180000.out (fun _ hk => hk.2))) | (show (Addr.add _ _).block ≠ _; rw [qW]; exact Kd.qO (Kd.qU HO_180000.out (fun _ hk => hk.2))) | (dsimp only; exact Kd.qO (Kd.qU HO_180000.out (fun _ hk => hk.2)))) _).trans (((qR (p := ⟨gb185, _, none⟩) (by first | exact Kd.qO (Kd.qU HO_180000.out (fun _ hk => hk.2)) | (rw [qW]; exact Kd.qO (Kd.qU HO_180000.out (fun _ hk => hk.2))) | (show (Addr.add _ _).block ≠ _; rw [qW]; exact Kd.qO (Kd.qU HO_180000.out (fun _ hk => hk.2))) | (dsimp only; exact Kd.qO (Kd.qU HO_180000.out (fun _ hk => hk.2)))) _).trans (((qR (p := ⟨gb185, _, none⟩) (by first | exact Kd.qO (Kd.qU HO_180000.out (fun _ hk => hk.2)) | (rw [qW]; exact Kd.qO (Kd.qU HO_180000.out (fun _ hk => hk.2))) | (show (Addr.add _ _).block ≠ _; rw [qW]; exact Kd.qO (Kd.qU HO_180000.out (fun _ hk => hk.2))) | (dsimp only; exact Kd.qO (Kd.qU HO_180000.out (fun _ hk => hk.2)))) _).trans (hHeld.2.2.2.2.2.1)))))), ((qR (p := ⟨gb185, _, none⟩) (by first | exact Kd.qO (Kd.qU HO_180000.out (fun _ hk => hk.2)) | (rw [qW]; exact Kd.qO (Kd.qU HO_180000.out (fun _ hk => hk.2))) | (show (Addr.add _ _).block ≠ _; rw [qW]; exact Kd.qO (Kd.qU HO_180000.out (fun _ hk => hk.2))) | (dsimp only; exact Kd.qO (Kd.qU HO_180000.out (fun _ hk => hk.2)))) _).trans (((qR (p := ⟨gb185, _, none⟩) (by first | exact Kd.qO (Kd.qU HO_180000.out (fun _ hk => hk.2)) | (rw [qW]; exact Kd.qO (Kd.qU HO_180000.out (fun _ hk => hk.2))) | (show (Addr.add _ _).block ≠ _; rw [qW]; exact Kd.qO (Kd.qU HO_180000.out (fun _ hk => hk.2))) | (dsimp only; exact Kd.qO (Kd.qU HO_180000.out (fun _ hk => hk.2)))) _).trans (((qR (p := ⟨gb185, _, none⟩) (by first | exact Kd.qO (Kd.qU HO_180000.out (fun _ hk => hk.2)) | (rw [qW]; exact Kd.qO (Kd.qU HO_180000.out (fun _ hk => hk.2))) | (show (Addr.add _ _).block ≠ _; rw [qW]; exact Kd.qO (Kd.qU HO_180000.out (fun _ hk => hk.2))) | (dsimp only; exact Kd.qO (Kd.qU HO_180000.out (fun _ hk => hk.2)))) _).trans (hHeld.2.2.2.2.2.2.1)))))), ((qR (p := ⟨gb185, _, none⟩) (by first | exact Kd.qO (Kd.qU HO_180000.out (fun _ hk => hk.2)) | (rw [qW]; exact Kd.qO (Kd.qU HO_180000.out (fun _ hk => hk.2))) | (show (Addr.add _ _).block ≠ _; rw [qW]; exact Kd.qO (Kd.qU HO_180000.out (fun _ hk => hk.2))) | (dsimp only; exact Kd.qO (Kd.qU HO_180000.out (fun _ hk => hk.2)))) _).trans (((qR (p := ⟨gb185, _, none⟩) (by first | exact Kd.qO (Kd.qU HO_180000.out (fun _ hk => hk.2)) | (rw [qW]; exact Kd.qO (Kd.qU HO_180000.out (fun _ hk => hk.2))) | (show (Addr.add _ _).block ≠ _; rw [qW]; exact Kd.qO (Kd.qU HO_180000.out (fun _ hk => hk.2))) | (dsimp only; exact Kd.qO (Kd.qU HO_180000.out (fun _ hk => hk.2)))) _).trans (((qR (p := ⟨gb185, _, none⟩) (by first | exact Kd.qO (Kd.qU HO_180000.out (fun _ hk => hk.2)) | (rw [qW]; exact Kd.qO (Kd.qU HO_180000.out (fun _ hk => hk.2))) | (show (Addr.add _ _).block ≠ _; rw [qW]; exact Kd.qO (Kd.qU HO_180000.out (fun _ hk => hk.2))) | (dsimp only; exact Kd.qO (Kd.qU HO_180000.out (fun _ hk => hk.2)))) _).trans (hHeld.2.2.2.2.2.2.2))))))⟩ (fun hHeld => ?_)
          clear hK K
          refine pS (i := 13) (N := some 10) #[true, true, true, true, true, true, true, true, true, true, true, true, true, true] HT_ ?_
          refine done_ (qqA HT_.out (by kernel_rfl)) ?_
          try go_wp2
          go_roundg k2
          case measure => have := HK1.out; have := HK2.out; omega
          case rel => exact ⟨(wrap64 (x8_2 + 1)), (x180000_2), (x180001_2), (.slice (some ad180) x180000_2.length co96), (u180001), (by first | rfl | (simp; done) | (simp [*]; done)), H', ⟨by have := HK1.out; have := HK2.out; omega⟩, ⟨by (with_reducible repeat (first | apply Kd.qF | apply Kd.qE | apply Kd.qH)); exact Kd.qh (Kd.R_far (p := ⟨gb185, 2, none⟩) (Kd.R_far (p := ⟨gb185, 1, none⟩) (Kd.R_far (p := ⟨gb185, 0, none⟩) (Kd.qh HO_180000.out (fun k_ hk => (⟨hk, hk.2⟩ : _ ∧ k_ ≠ gb185))) (fun _ hk => hk.2) (.int .i64 t181)) (fun _ hk => hk.2) (.int .i64 t182)) (fun _ hk => hk.2) (.int .i64 t183)) (fun _ hk => hk.1.1)⟩, ⟨by (with_reducible repeat (first | apply Kd.qF | apply Kd.qE | apply Kd.qH)); exact Kd.qh (Kd.R_far (p := ⟨gb185, 2, none⟩) (Kd.R_far (p := ⟨gb185, 1, none⟩) (Kd.R_far (p := ⟨gb185, 0, none⟩) (Kd.qEA HO_180001.out BK185.out (by decide)) (fun _ hk => hk.2) (.int .i64 t181)) (fun _ hk => hk.2) (.int .i64 t182)) (fun _ hk => hk.2) (.int .i64 t183)) (fun _ hk => trivial)⟩, ⟨by (with_reducible repeat (first | refine qB ?_ _ | refine qD ?_ | refine qA ?_ _)); refine qN ?_ NB170_185.out _; (with_reducible repeat (first | refine qB ?_ _ | refine qD ?_ | refine qA ?_ _)); refine qN ?_ NB170_185.out _; (with_reducible repeat (first | refine qB ?_ _ | refine qD ?_ | refine qA ?_ _)); refine qN ?_ NB170_185.out _; (with_reducible repeat (first | refine qB ?_ _ | refine qD ?_ | refine qA ?_ _)); exact BK170.out⟩, ⟨by (with_reducible repeat (first | refine qB ?_ _ | refine qD ?_ | refine qA ?_ _)); refine qN ?_ NB171_185.out _; (with_reducible repeat (first | refine qB ?_ _ | refine qD ?_ | refine qA ?_ _)); refine qN ?_ NB171_185.out _; (with_reducible repeat (first | refine qB ?_ _ | refine qD ?_ | refine qA ?_ _)); refine qN ?_ NB171_185.out _; (with_reducible repeat (first | refine qB ?_ _ | refine qD ?_ | refine qA ?_ _)); exact BK171.out⟩, ⟨by (with_reducible repeat (first | refine qB ?_ _ | refine qD ?_ | refine qA ?_ _)); refine qN ?_ NB172_185.out _; (with_reducible repeat (first | refine qB ?_ _ | refine qD ?_ | refine qA ?_ _)); refine qN ?_ NB172_185.out _; (with_reducible repeat (first | refine qB ?_ _ | refine qD ?_ | refine qA ?_ _)); refine qN ?_ NB172_185.out _; (with_reducible repeat (first | refine qB ?_ _ | refine qD ?_ | refine qA ?_ _)); exact BK172.out⟩, ⟨by (with_reducible repeat (first | refine qB ?_ _ | refine qD ?_ | refine qA ?_ _)); refine qN ?_ NB179_185.out _; (with_reducible repeat (first | refine qB ?_ _ | refine qD ?_ | refine qA ?_ _)); refine qN ?_ NB179_185.out _; (with_reducible repeat (first | refine qB ?_ _ | refine qD ?_ | refine qA ?_ _)); refine qN ?_ NB179_185.out _; (with_reducible repeat (first | refine qB ?_ _ | refine qD ?_ | refine qA ?_ _)); exact BK179.out⟩, ⟨bl⟩⟩
        ·rw [if_neg c28] at H
         exact absurd H (by simp)
       ·rw [if_neg c27] at H
        exact absurd H (by simp)
      ·rw [if_neg c26] at H
       have c26b0 : decide (x8_2 < 4) = false := decide_eq_false c26
       clear c26
       by_cases c103 : (x180000_2.length : Int) > 400
       ·rw [if_pos c103] at H
        have c103b0 : decide (400 < (x180000_2.length : Int)) = true := decide_eq_true c103
        have c103b1 : decide (400 < x180000_2.length) = true := decide_eq_true (by omega)
        clear c103
        simp only [Option.some.injEq, Prod.mk.injEq] at H
        obtain ⟨rfl, rfl, rfl⟩ := H
        have hnb104 := NB179_170.out
        have hnc104 := NB170_179.out
        have hnb105 := NB179_171.out
        have hnc105 := NB171_179.out
        have hnb106 := NB179_172.out
        have hnc106 := NB172_179.out
        have hcz107_0 := bc BK179 0
        have hcz107_1 := bc BK179 1
        have hfz107_0 := qC BK179.out 0
        have hfz107_1 := qC BK179.out 1
        obtain ⟨Ao108, co108, eo108⟩ := Kd.qo HO_180000.out
        subst eo108
        have hnb109 := NB172_170.out
        have hnc109 := NB170_172.out
        have hnb110 := NB172_171.out
        have hnc110 := NB171_172.out
        have hcz111_0 := bc BK172 0
        have hcz111_1 := bc BK172 1
        have hfz111_0 := qC BK172.out 0
        have hfz111_1 := qC BK172.out 1
        obtain ⟨Ao112, co112, eo112⟩ := Kd.qo HO_180001.out
        subst eo112
        go_wp2
        refine bodyPost_ret (qRA rfl _ _ gb172 37 #[.slice Ao108 x180000_2.length co108, .slice Ao112 x180001_2.length co112] (0, 0) _ rfl (by (with_reducible repeat (first | refine qB ?_ _ | refine qD ?_ | refine qA ?_ _)); refine qQ (cs := #[.slice Ao108 x180000_2.length co108, .slice none 0 0]) ?_ 1 _ rfl; (with_reducible repeat (first | refine qB ?_ _ | refine qD ?_ | refine qA ?_ _)); refine qQ (cs := #[.slice none 0 0, .slice none 0 0]) ?_ 0 _ rfl; (with_reducible repeat (first | refine qB ?_ _ | refine qD ?_ | refine qA ?_ _)); exact BK172.out) Tryd.underlying37 rfl (by kernel_rfl)) rfl ?_
        exact ⟨_, _, by first | rfl | (simp [qJ, qI] <;> rfl) | (simp [*, qJ, qI] <;> rfl), by (with_reducible repeat (first | apply Kd.qF | apply Kd.qE | apply Kd.qH)); exact Kd.qh (Kd.R_far (p := ⟨gb172, 1, none⟩) (Kd.R_far (p := ⟨gb172, 0, none⟩) (Kd.qEA HO_180000.out BK172.out (by decide)) (fun _ hk => hk.2) (.slice Ao108 x180000_2.length co108)) (fun _ hk => hk.2) (.slice Ao112 x180001_2.length co112)) (fun _ hk => trivial), by (with_reducible repeat (first | apply Kd.qF | apply Kd.qE | apply Kd.qH)); exact Kd.qh (Kd.R_far (p := ⟨gb172, 1, none⟩) (Kd.R_far (p := ⟨gb172, 0, none⟩) (Kd.qEA HO_180001.out BK172.out (by decide)) (fun _ hk => hk.2) (.slice Ao108 x180000_2.length co108)) (fun _ hk => hk.2) (.slice Ao112 x180001_2.length co112)) (fun _ hk => trivial), bl⟩
       ·rw [if_neg c103] at H
        have c103b0 : decide (400 < (x180000_2.length : Int)) = false := decide_eq_false c103
        have c103b1 : decide (400 < x180000_2.length) = false := decide_eq_false (by omega)
        clear c103
        have H' := Aside0.mk H
        clear H
        have hnb113 := NB179_170.out
        have hnc113 := NB170_179.out
        have hnb114 := NB179_171.out
        have hnc114 := NB171_179.out
        have hnb115 := NB179_172.out
        have hnc115 := NB172_179.out
        have hcz116_0 := bc BK179 0
        have hcz116_1 := bc BK179 1
        have hfz116_0 := qC BK179.out 0
        have hfz116_1 := qC BK179.out 1
        obtain ⟨Ao117, co117, eo117⟩ := Kd.qo HO_180000.out
        subst eo117
        go_wp2
        go_roundg k2
        case measure => have := HK1.out; have := HK2.out; omega
        case rel => exact ⟨(wrap64 (x7_1 + 1)), (x180000_2), (x180001_2), (.slice Ao117 x180000_2.length co117), (u180001), (by first | rfl | (simp; done) | (simp [*]; done)), H', ⟨by have := HK1.out; have := HK2.out; omega⟩, ⟨by (with_reducible repeat (first | apply Kd.qF | apply Kd.qE | apply Kd.qH)); exact HO_180000.out⟩, ⟨by (with_reducible repeat (first | apply Kd.qF | apply Kd.qE | apply Kd.qH)); exact HO_180001.out⟩, ⟨by (with_reducible repeat (first | refine qB ?_ _ | refine qD ?_ | refine qA ?_ _)); exact BK170.out⟩, ⟨by (with_reducible repeat (first | refine qB ?_ _ | refine qD ?_ | refine qA ?_ _)); exact BK171.out⟩, ⟨by (with_reducible repeat (first | refine qB ?_ _ | refine qD ?_ | refine qA ?_ _)); exact BK172.out⟩, ⟨by (with_reducible repeat (first | refine qB ?_ _ | refine qD ?_ | refine qA ?_ _)); exact BK179.out⟩, ⟨bl⟩⟩
   ·rw [if_neg c20] at H
    have c20b0 : decide (x7_1 < (x180000_1.length : Int)) = false := decide_eq_false c20
    clear c20
    simp only [Option.some.injEq, Prod.mk.injEq] at H
    obtain ⟨rfl, rfl, rfl⟩ := H
    have hnb118 := NB179_170.out
    have hnc118 := NB170_179.out
    have hnb119 := NB179_171.out
    have hnc119 := NB171_179.out
    have hnb120 := NB179_172.out
    have hnc120 := NB172_179.out
    have hcz121_0 := bc BK179 0
    have hcz121_1 := bc BK179 1
    have hfz121_0 := qC BK179.out 0
    have hfz121_1 := qC BK179.out 1
    obtain ⟨Ao122, co122, eo122⟩ := Kd.qo HO_180000.out
    subst eo122
    have hnb123 := NB172_170.out
    have hnc123 := NB170_172.out
    have hnb124 := NB172_171.out
    have hnc124 := NB171_172.out
    have hcz125_0 := bc BK172 0
    have hcz125_1 := bc BK172 1
    have hfz125_0 := qC BK172.out 0
    have hfz125_1 := qC BK172.out 1
    obtain ⟨Ao126, co126, eo126⟩ := Kd.qo HO_180001.out
    subst eo126
    go_wp2
    refine bodyPost_ret (qRA rfl _ _ gb172 37 #[.slice Ao122 x180000_1.length co122, .slice Ao126 x180001_1.length co126] (0, 0) _ rfl (by (with_reducible repeat (first | refine qB ?_ _ | refine qD ?_ | refine qA ?_ _)); refine qQ (cs := #[.slice Ao122 x180000_1.length co122, .slice none 0 0]) ?_ 1 _ rfl; (with_reducible repeat (first | refine qB ?_ _ | refine qD ?_ | refine qA ?_ _)); refine qQ (cs := #[.slice none 0 0, .slice none 0 0]) ?_ 0 _ rfl; (with_reducible repeat (first | refine qB ?_ _ | refine qD ?_ | refine qA ?_ _)); exact BK172.out) Tryd.underlying37 rfl (by kernel_rfl)) rfl ?_
    exact ⟨_, _, by first | rfl | (simp [qJ, qI] <;> rfl) | (simp [*, qJ, qI] <;> rfl), by (with_reducible repeat (first | apply Kd.qF | apply Kd.qE | apply Kd.qH)); exact Kd.qh (Kd.R_far (p := ⟨gb172, 1, none⟩) (Kd.R_far (p := ⟨gb172, 0, none⟩) (Kd.qEA HO_180000.out BK172.out (by decide)) (fun _ hk => hk.2) (.slice Ao122 x180000_1.length co122)) (fun _ hk => hk.2) (.slice Ao126 x180001_1.length co126)) (fun _ hk => trivial), by (with_reducible repeat (first | apply Kd.qF | apply Kd.qE | apply Kd.qH)); exact Kd.qh (Kd.R_far (p := ⟨gb172, 1, none⟩) (Kd.R_far (p := ⟨gb172, 0, none⟩) (Kd.qEA HO_180001.out BK172.out (by decide)) (fun _ hk => hk.2) (.slice Ao122 x180000_1.length co122)) (fun _ hk => hk.2) (.slice Ao126 x180001_1.length co126)) (fun _ hk => trivial), bl⟩
end Go.Proofs.YtdagdhmcebeadaaDoor.P
namespace Go.Proofs.YtdagdhmcebeadaaDoor.P
open Go.RowKit Go.Proofs.YtdagdhmcebeadaaDoorW.PrintWords Go.Proofs.YtdagdhmcebeadaaDoorW.PrintLast Go.Proofs.YtdagdhmcebeadaaDoorW.PrintMore
attribute [local go_sem] qDA qBA qLA qKA qq qp qCA qAA
set_option linter.unusedVariables false
set_option linter.unusedSimpArgs false
def qbA.f (k : Nat) (a0 : ByteArray) (a1_0 : Int) (a1_1 : Int) (a1_2 : Int) : Option (Int × Int × List Int × (List (S27)) × List ByteArray × Bool) := (qJA.f k a0 a1_0 a1_1 a1_2).bind fun bt199 => (if bt199.2.2.2 = true then ((qZ.f k bt199.1 bt199.2.1 bt199.2.2.1 a1_0 a1_1 a1_2).bind fun bt206 => (some (bt199.1, bt199.2.1, bt199.2.2.1, bt206.1, bt206.2.1, bt206.2.2))) else (some (bt199.1, bt199.2.1, bt199.2.2.1, ([] : List (S27)), ([] : List ByteArray), false)))
set_option maxHeartbeats 8000000 in
set_option maxRecDepth 100000 in
theorem qbA.calls (k : Nat) (a0 : ByteArray) (a1_0 : Int) (a1_1 : Int) (a1_2 : Int) (r1 : Int) (r2 : Int) (r3 : List Int) (r4 : List (S27)) (r5 : List ByteArray) (r6 : Bool) (w : World) (h : qbA.f k a0 a1_0 a1_1 a1_2 = some (r1, r2, r3, r4, r5, r6)) :
  Calls Tryd.prog 10 #[.string a0, .agg #[.int .i64 a1_0, .int .i64 a1_1, .int .i64 a1_2]] w fun e w' => ∃ v2_ v3_ v4_ : Value, e = .returned (.tuple #[.agg #[.int .i64 r1, .int .i64 r2, v2_], .agg #[v3_, v4_], .bool r6]) ∧ Kd.R (Kd.int .u8) 5 w' w.heap.size (fun _ => True) v2_ r3 ∧ Kd.R k27 27 w' w.heap.size (fun _ => True) v3_ r4 ∧ Kd.R Kd.string 9 w' w.heap.size (fun _ => True) v4_ r5 ∧ Below w.heap.size w w' := by
 have hu27 := Tryd.underlying27
 have hu34 := Tryd.underlying34
 have hu37 := Tryd.underlying37
 have HB := Aside0.mk (Below.refl w.heap.size w)
 have H : ((qJA.f k a0 a1_0 a1_1 a1_2).bind fun bt199 => (if bt199.2.2.2 = true then ((qZ.f k bt199.1 bt199.2.1 bt199.2.2.1 a1_0 a1_1 a1_2).bind fun bt206 => (some (bt199.1, bt199.2.1, bt199.2.2.1, bt206.1, bt206.2.1, bt206.2.2))) else (some (bt199.1, bt199.2.1, bt199.2.2.1, ([] : List (S27)), ([] : List ByteArray), false)))) = some (r1, r2, r3, r4, r5, r6) := h
 clear h
 replace H := Option.bind_eq_some_iff.mp H
 obtain ⟨⟨t199, t200, t201, t204⟩, A30, H⟩ := H
 replace H : (if t204 = true then ((qZ.f k t199 t200 t201 a1_0 a1_1 a1_2).bind fun bt206 => (some (t199, t200, t201, bt206.1, bt206.2.1, bt206.2.2))) else (some (t199, t200, t201, ([] : List (S27)), ([] : List ByteArray), false))) = some (r1, r2, r3, r4, r5, r6) := H
 have A3 := Aside0.mk A30
 clear A30
 by_cases c4 : t204 = true
 ·subst c4
  have H1 : ((qZ.f k t199 t200 t201 a1_0 a1_1 a1_2).bind fun bt206 => (some (t199, t200, t201, bt206.1, bt206.2.1, bt206.2.2))) = some (r1, r2, r3, r4, r5, r6) := by rw [if_pos rfl] at H; exact H
  clear H
  have H := H1
  clear H1
  replace H := Option.bind_eq_some_iff.mp H
  obtain ⟨⟨t206, t209, t212⟩, A50, H⟩ := H
  replace H : (some (t199, t200, t201, t206, t209, t212)) = some (r1, r2, r3, r4, r5, r6) := H
  have A5 := Aside0.mk A50
  clear A50
  simp only [Option.some.injEq, Prod.mk.injEq] at H
  obtain ⟨rfl, rfl, rfl, rfl, rfl, rfl⟩ := H
  go_enter Tryd.func10, Tryd.ntmps10
  try go_wp2_with (first | ((with_reducible refine qd (N := 3) rfl ?_); refine qY ?hg (N := 3) ?hd (cs := #[.int .i64 a1_0, .int .i64 a1_1, .int .i64 a1_2]) (t := 27) ?hr ?_; (case hd => rfl); (case hg => rfl); (case hr => first | (go_simp; done) | (go_simp; rfl)); intro gb196 hg w6 hbox hb; have n0_ := Aside0.mk (qG bl hb); have n1_ := Aside0.mk (hbox); have n2_ := Aside0.mk ((gg hg)); have n3_ := Aside0.mk ((gg hg)); clear HB; have HB := n0_; have BK196 := n1_; have GW196 := n2_; have GE196 := n3_; clear n0_ n1_ n2_ n3_; clear hb hbox hg) | ((with_reducible refine qd (N := 4) rfl ?_); refine qY ?hg (N := 4) ?hd (cs := #[.int .i64 0, .int .i64 0, .slice none 0 0]) (t := 34) ?hr ?_; (case hd => rfl); (case hg => rfl); (case hr => first | (go_simp; done) | (go_simp; rfl)); intro gb197 hg w7 hbox hb; have n0_ := Aside0.mk (bb BK196 hb); have n1_ := Aside0.mk (qG bl hb); have n2_ := Aside0.mk (hbox); have n3_ := Aside0.mk ((gg hg)); have n4_ := Aside0.mk ((gg hg)); have n5_ := Aside0.mk ((nl BK196 hg)); have n6_ := Aside0.mk ((nr BK196 hg)); clear BK196; clear HB; have BK196 := n0_; have HB := n1_; have BK197 := n2_; have GW197 := n3_; have GE197 := n4_; have NB196_197 := n5_; have NB197_196 := n6_; clear n0_ n1_ n2_ n3_ n4_ n5_ n6_; clear hb hbox hg) | ((with_reducible refine qd (N := 5) rfl ?_); refine qY ?hg (N := 5) ?hd (cs := #[.slice none 0 0, .slice none 0 0]) (t := 37) ?hr ?_; (case hd => rfl); (case hg => rfl); (case hr => first | (go_simp; done) | (go_simp; rfl)); intro gb198 hg w8 hbox hb; have n0_ := Aside0.mk (bb BK196 hb); have n1_ := Aside0.mk (bb BK197 hb); have n2_ := Aside0.mk (qG bl hb); have n3_ := Aside0.mk (hbox); have n4_ := Aside0.mk ((gg hg)); have n5_ := Aside0.mk ((gg hg)); have n6_ := Aside0.mk ((nl BK196 hg)); have n7_ := Aside0.mk ((nr BK196 hg)); have n8_ := Aside0.mk ((nl BK197 hg)); have n9_ := Aside0.mk ((nr BK197 hg)); clear BK196; clear BK197; clear HB; have BK196 := n0_; have BK197 := n1_; have HB := n2_; have BK198 := n3_; have GW198 := n4_; have GE198 := n5_; have NB196_198 := n6_; have NB198_196 := n7_; have NB197_198 := n8_; have NB198_197 := n9_; clear n0_ n1_ n2_ n3_ n4_ n5_ n6_ n7_ n8_ n9_; clear hb hbox hg; have hnb9 := NB196_197.out; have hnc9 := NB197_196.out; have hnb10 := NB196_198.out; have hnc10 := NB198_196.out; have hcz11_0 := bc BK196 0; have hcz11_1 := bc BK196 1; have hcz11_2 := bc BK196 2; have hfz11_0 := qC BK196.out 0; have hfz11_1 := qC BK196.out 1; have hfz11_2 := qC BK196.out 2) | ((with_reducible refine qS (f := 16) rfl ?_); refine qt (some 14) rfl rfl Tryd.func16 (by kernel_rfl) rfl #[.string a0, .agg #[.int .i64 a1_0, .int .i64 a1_1, .int .i64 a1_2]] rfl (by (try simp only [List.map_toArray, List.map_cons, List.map_nil]); first | done | rfl | (simp only [List.length_drop, List.length_take]; rfl)) ?_; (with_reducible refine (qJA.calls k a0 a1_0 a1_1 a1_2 t199 t200 t201 true _ A3.out).mono ?_); rintro e w12 ⟨v202, rfl, ho0, hb⟩; refine ⟨_, rfl, ?_⟩; have n0_ := Aside0.mk (Kd.qHA ho0 (qg bl)); have n1_ := Aside0.mk (bb BK196 hb); have n2_ := Aside0.mk (bb BK197 hb); have n3_ := Aside0.mk (bb BK198 hb); have n4_ := Aside0.mk (qG bl hb); clear BK196; clear BK197; clear BK198; clear HB; have HO203 := n0_; have BK196 := n1_; have BK197 := n2_; have BK198 := n3_; have HB := n4_; clear n0_ n1_ n2_ n3_ n4_; (try clear hb); (try clear hb2); (try clear hk); (try clear hi); (try clear ho0)) | ((with_reducible refine qd (N := 7) rfl ?_); refine qY ?hg (N := 7) ?hd (cs := #[.int .i64 0, .int .i64 0, .slice none 0 0]) (t := 34) ?hr ?_; (case hd => rfl); (case hg => rfl); (case hr => first | (go_simp; done) | (go_simp; rfl)); intro gb205 hg w13 hbox hb; have n0_ := Aside0.mk (Kd.qa (by (with_reducible repeat (first | apply Kd.qF | apply Kd.qE | apply Kd.qH)); exact HO203.out) hb); have n1_ := Aside0.mk (bb BK196 hb); have n2_ := Aside0.mk (bb BK197 hb); have n3_ := Aside0.mk (bb BK198 hb); have n4_ := Aside0.mk (qG bl hb); have n5_ := Aside0.mk (hbox); have n6_ := Aside0.mk ((gg hg)); have n7_ := Aside0.mk ((gg hg)); have n8_ := Aside0.mk ((nl BK196 hg)); have n9_ := Aside0.mk ((nr BK196 hg)); have n10_ := Aside0.mk ((nl BK197 hg)); have n11_ := Aside0.mk ((nr BK197 hg)); have n12_ := Aside0.mk ((nl BK198 hg)); have n13_ := Aside0.mk ((nr BK198 hg)); clear HO203; clear BK196; clear BK197; clear BK198; clear HB; have HO203 := n0_; have BK196 := n1_; have BK197 := n2_; have BK198 := n3_; have HB := n4_; have BK205 := n5_; have GW205 := n6_; have GE205 := n7_; have NB196_205 := n8_; have NB205_196 := n9_; have NB197_205 := n10_; have NB205_197 := n11_; have NB198_205 := n12_; have NB205_198 := n13_; clear n0_ n1_ n2_ n3_ n4_ n5_ n6_ n7_ n8_ n9_ n10_ n11_ n12_ n13_; clear hb hbox hg; have hnb14 := NB205_196.out; have hnc14 := NB196_205.out; have hnb15 := NB205_197.out; have hnc15 := NB197_205.out; have hnb16 := NB205_198.out; have hnc16 := NB198_205.out; have hcz17_0 := bc BK205 0; have hcz17_1 := bc BK205 1; have hcz17_2 := bc BK205 2; have hfz17_0 := qC BK205.out 0; have hfz17_1 := qC BK205.out 1; have hfz17_2 := qC BK205.out 2; obtain ⟨Ao18, co18, eo18⟩ := Kd.qo HO203.out; subst eo18; have hcz19_0 := bc BK196 0; have hcz19_1 := bc BK196 1; have hcz19_2 := bc BK196 2; have hfz19_0 := qC BK196.out 0; have hfz19_1 := qC BK196.out 1; have hfz19_2 := qC BK196.out 2) | ((with_reducible refine qS (f := 17) rfl ?_); refine qt (some 24) rfl rfl Tryd.func17 (by kernel_rfl) rfl #[.agg #[.int .i64 t199, .int .i64 t200, .slice Ao18 t201.length co18], .agg #[.int .i64 a1_0, .int .i64 a1_1, .int .i64 a1_2]] rfl (by (try simp only [List.map_toArray, List.map_cons, List.map_nil]); first | done | rfl | (simp only [List.length_drop, List.length_take]; rfl)) ?_; (with_reducible refine (qZ.calls k t199 t200 _ _ t201 a1_0 a1_1 a1_2 t206 t209 t212 _ ?side1 ?side2 A5.out).mono ?_); (case side1 => refine (Kd.qT (e := 5) (base := w.heap.size) (ok := fun k_ => True) (n := t201.length) (c := co18) ?_).2.2; exact (by (with_reducible repeat (first | apply Kd.qF | apply Kd.qE | apply Kd.qH)); exact (Kd.qh (Kd.R_far (p := ⟨gb205, 2, none⟩) (Kd.R_far (p := ⟨gb205, 1, none⟩) (Kd.R_far (p := ⟨gb205, 0, none⟩) (Kd.qEA HO203.out BK205.out (by decide)) (fun _ hk => hk.2) (.int .i64 t199)) (fun _ hk => hk.2) (.int .i64 t200)) (fun _ hk => hk.2) (.slice Ao18 t201.length co18)) (fun _ h_ => h_.1)))); (case side2 => exact (Kd.qT HO203.out).2.1); rintro e w20 ⟨v207, v210, rfl, ho0, ho1, hb⟩; refine ⟨_, rfl, ?_⟩; have n0_ := Aside0.mk (Kd.qa (by (with_reducible repeat (first | apply Kd.qF | apply Kd.qE | apply Kd.qH)); exact (Kd.qh (Kd.R_far (p := ⟨gb205, 2, none⟩) (Kd.R_far (p := ⟨gb205, 1, none⟩) (Kd.R_far (p := ⟨gb205, 0, none⟩) (Kd.qEA HO203.out BK205.out (by decide)) (fun _ hk => hk.2) (.int .i64 t199)) (fun _ hk => hk.2) (.int .i64 t200)) (fun _ hk => hk.2) (.slice Ao18 t201.length co18)) (fun _ h_ => h_.1))) hb); have n1_ := Aside0.mk (Kd.qHA (Kd.qgB ho0 (g := gb196) (o := .cells #[.int .i64 a1_0, .int .i64 a1_1, .int .i64 a1_2] 27 (0, 0)) (by (with_reducible repeat (first | refine qB ?_ _ | refine qD ?_ | refine qA ?_ _)); refine qN ?_ NB196_205.out _; (with_reducible repeat (first | refine qB ?_ _ | refine qD ?_ | refine qA ?_ _)); refine qN ?_ NB196_205.out _; (with_reducible repeat (first | refine qB ?_ _ | refine qD ?_ | refine qA ?_ _)); refine qN ?_ NB196_205.out _; (with_reducible repeat (first | refine qB ?_ _ | refine qD ?_ | refine qA ?_ _)); exact BK196.out)) (qg bl)); have n2_ := Aside0.mk (Kd.qHA ho1 (qg bl)); have n3_ := Aside0.mk (qUA (g := gb196) (o := .cells #[.int .i64 a1_0, .int .i64 a1_1, .int .i64 a1_2] 27 (0, 0)) (by (with_reducible repeat (first | refine qB ?_ _ | refine qD ?_ | refine qA ?_ _)); refine qN ?_ NB196_205.out _; (with_reducible repeat (first | refine qB ?_ _ | refine qD ?_ | refine qA ?_ _)); refine qN ?_ NB196_205.out _; (with_reducible repeat (first | refine qB ?_ _ | refine qD ?_ | refine qA ?_ _)); refine qN ?_ NB196_205.out _; (with_reducible repeat (first | refine qB ?_ _ | refine qD ?_ | refine qA ?_ _)); exact BK196.out) hb); have n4_ := Aside0.mk (qUA (g := gb197) (o := .cells #[.int .i64 0, .int .i64 0, .slice none 0 0] 34 (0, 0)) (by (with_reducible repeat (first | refine qB ?_ _ | refine qD ?_ | refine qA ?_ _)); refine qN ?_ NB197_205.out _; (with_reducible repeat (first | refine qB ?_ _ | refine qD ?_ | refine qA ?_ _)); refine qN ?_ NB197_205.out _; (with_reducible repeat (first | refine qB ?_ _ | refine qD ?_ | refine qA ?_ _)); refine qN ?_ NB197_205.out _; (with_reducible repeat (first | refine qB ?_ _ | refine qD ?_ | refine qA ?_ _)); exact BK197.out) hb); have n5_ := Aside0.mk (qUA (g := gb198) (o := .cells #[.slice none 0 0, .slice none 0 0] 37 (0, 0)) (by (with_reducible repeat (first | refine qB ?_ _ | refine qD ?_ | refine qA ?_ _)); refine qN ?_ NB198_205.out _; (with_reducible repeat (first | refine qB ?_ _ | refine qD ?_ | refine qA ?_ _)); refine qN ?_ NB198_205.out _; (with_reducible repeat (first | refine qB ?_ _ | refine qD ?_ | refine qA ?_ _)); refine qN ?_ NB198_205.out _; (with_reducible repeat (first | refine qB ?_ _ | refine qD ?_ | refine qA ?_ _)); exact BK198.out) hb); have n6_ := Aside0.mk (qUA (g := gb205) (o := .cells #[.int .i64 t199, .int .i64 t200, .slice Ao18 t201.length co18] 34 (0, 0)) (by (with_reducible repeat (first | refine qB ?_ _ | refine qD ?_ | refine qA ?_ _)); refine qQ (cs := #[.int .i64 t199, .int .i64 t200, .slice none 0 0]) ?_ 2 _ rfl; (with_reducible repeat (first | refine qB ?_ _ | refine qD ?_ | refine qA ?_ _)); refine qQ (cs := #[.int .i64 t199, .int .i64 0, .slice none 0 0]) ?_ 1 _ rfl; (with_reducible repeat (first | refine qB ?_ _ | refine qD ?_ | refine qA ?_ _)); refine qQ (cs := #[.int .i64 0, .int .i64 0, .slice none 0 0]) ?_ 0 _ rfl; (with_reducible repeat (first | refine qB ?_ _ | refine qD ?_ | refine qA ?_ _)); exact BK205.out) hb); have n7_ := Aside0.mk (qG bl hb); clear HO203; clear BK196; clear BK197; clear BK198; clear BK205; clear HB; have HO203 := n0_; have HO208 := n1_; have HO211 := n2_; have BK196 := n3_; have BK197 := n4_; have BK198 := n5_; have BK205 := n6_; have HB := n7_; clear n0_ n1_ n2_ n3_ n4_ n5_ n6_ n7_; (try clear hb); (try clear hb2); (try clear hk); (try clear hi); (try clear ho0); (try clear ho1)) | ((with_reducible refine qd (N := 9) rfl ?_); refine qY ?hg (N := 9) ?hd (cs := #[.slice none 0 0, .slice none 0 0]) (t := 37) ?hr ?_; (case hd => rfl); (case hg => rfl); (case hr => first | (go_simp; done) | (go_simp; rfl)); intro gb213 hg w21 hbox hb; have n0_ := Aside0.mk (Kd.qa (by (with_reducible repeat (first | apply Kd.qF | apply Kd.qE | apply Kd.qH)); exact HO203.out) hb); have n1_ := Aside0.mk (Kd.qa (by (with_reducible repeat (first | apply Kd.qF | apply Kd.qE | apply Kd.qH)); exact HO208.out) hb); have n2_ := Aside0.mk (Kd.qa (by (with_reducible repeat (first | apply Kd.qF | apply Kd.qE | apply Kd.qH)); exact HO211.out) hb); have n3_ := Aside0.mk (bb BK196 hb); have n4_ := Aside0.mk (bb BK197 hb); have n5_ := Aside0.mk (bb BK198 hb); have n6_ := Aside0.mk (bb BK205 hb); have n7_ := Aside0.mk (qG bl hb); have n8_ := Aside0.mk (hbox); have n9_ := Aside0.mk ((gg hg)); have n10_ := Aside0.mk ((gg hg)); have n11_ := Aside0.mk ((nl BK196 hg)); have n12_ := Aside0.mk ((nr BK196 hg)); have n13_ := Aside0.mk ((nl BK197 hg)); have n14_ := Aside0.mk ((nr BK197 hg)); have n15_ := Aside0.mk ((nl BK198 hg)); have n16_ := Aside0.mk ((nr BK198 hg)); have n17_ := Aside0.mk ((nl BK205 hg)); have n18_ := Aside0.mk ((nr BK205 hg)); clear HO203; clear HO208; clear HO211; clear BK196; clear BK197; clear BK198; clear BK205; clear HB; have HO203 := n0_; have HO208 := n1_; have HO211 := n2_; have BK196 := n3_; have BK197 := n4_; have BK198 := n5_; have BK205 := n6_; have HB := n7_; have BK213 := n8_; have GW213 := n9_; have GE213 := n10_; have NB196_213 := n11_; have NB213_196 := n12_; have NB197_213 := n13_; have NB213_197 := n14_; have NB198_213 := n15_; have NB213_198 := n16_; have NB205_213 := n17_; have NB213_205 := n18_; clear n0_ n1_ n2_ n3_ n4_ n5_ n6_ n7_ n8_ n9_ n10_ n11_ n12_ n13_ n14_ n15_ n16_ n17_ n18_; clear hb hbox hg; obtain ⟨Ao22, co22, eo22⟩ := Kd.qo HO208.out; subst eo22; have hnb23 := NB213_196.out; have hnc23 := NB196_213.out; have hnb24 := NB213_197.out; have hnc24 := NB197_213.out; have hnb25 := NB213_198.out; have hnc25 := NB198_213.out; have hnb26 := NB213_205.out; have hnc26 := NB205_213.out; have hcz27_0 := bc BK213 0; have hcz27_1 := bc BK213 1; have hfz27_0 := qC BK213.out 0; have hfz27_1 := qC BK213.out 1; obtain ⟨Ao28, co28, eo28⟩ := Kd.qo HO211.out; subst eo28))
  have n0_ : Aside0 (Kd.R (Kd.int .u8) 5 ((w21.setCell ⟨gb213, 0, none⟩ (.slice Ao22 t206.length co22)).setCell ⟨gb213, 1, none⟩ (.slice Ao28 t209.length co28)) w.heap.size (fun _ => True) (.slice Ao18 t201.length co18) t201) := ⟨by (with_reducible repeat (first | apply Kd.qF | apply Kd.qE | apply Kd.qH)); exact Kd.qh (Kd.R_far (p := ⟨gb213, 1, none⟩) (Kd.R_far (p := ⟨gb213, 0, none⟩) (Kd.qEA HO203.out BK213.out (by decide)) (fun _ hk => hk.2) (.slice Ao22 t206.length co22)) (fun _ hk => hk.2) (.slice Ao28 t209.length co28)) (fun _ hk => trivial)⟩
  have n1_ : Aside0 (Kd.R k27 27 ((w21.setCell ⟨gb213, 0, none⟩ (.slice Ao22 t206.length co22)).setCell ⟨gb213, 1, none⟩ (.slice Ao28 t209.length co28)) w.heap.size (fun k_ => k_ ≠ gb196) (.slice Ao22 t206.length co22) t206) := ⟨by (with_reducible repeat (first | apply Kd.qF | apply Kd.qE | apply Kd.qH)); exact Kd.qh (Kd.R_far (p := ⟨gb213, 1, none⟩) (Kd.R_far (p := ⟨gb213, 0, none⟩) (Kd.qEA HO208.out BK213.out (by decide)) (fun _ hk => hk.2) (.slice Ao22 t206.length co22)) (fun _ hk => hk.2) (.slice Ao28 t209.length co28)) (fun _ hk => hk.1.2)⟩
  have n2_ : Aside0 (Kd.R Kd.string 9 ((w21.setCell ⟨gb213, 0, none⟩ (.slice Ao22 t206.length co22)).setCell ⟨gb213, 1, none⟩ (.slice Ao28 t209.length co28)) w.heap.size (fun _ => True) (.slice Ao28 t209.length co28) t209) := ⟨by (with_reducible repeat (first | apply Kd.qF | apply Kd.qE | apply Kd.qH)); exact Kd.qh (Kd.R_far (p := ⟨gb213, 1, none⟩) (Kd.R_far (p := ⟨gb213, 0, none⟩) (Kd.qEA HO211.out BK213.out (by decide)) (fun _ hk => hk.2) (.slice Ao22 t206.length co22)) (fun _ hk => hk.2) (.slice Ao28 t209.length co28)) (fun _ hk => trivial)⟩
  have n3_ : Aside0 (((w21.setCell ⟨gb213, 0, none⟩ (.slice Ao22 t206.length co22)).setCell ⟨gb213, 1, none⟩ (.slice Ao28 t209.length co28)).heap[gb196]? = some (.cells #[.int .i64 a1_0, .int .i64 a1_1, .int .i64 a1_2] 27 (0, 0))) := ⟨by (with_reducible repeat (first | refine qB ?_ _ | refine qD ?_ | refine qA ?_ _)); refine qN ?_ NB196_213.out _; (with_reducible repeat (first | refine qB ?_ _ | refine qD ?_ | refine qA ?_ _)); refine qN ?_ NB196_213.out _; (with_reducible repeat (first | refine qB ?_ _ | refine qD ?_ | refine qA ?_ _)); exact BK196.out⟩
  have n4_ : Aside0 (((w21.setCell ⟨gb213, 0, none⟩ (.slice Ao22 t206.length co22)).setCell ⟨gb213, 1, none⟩ (.slice Ao28 t209.length co28)).heap[gb197]? = some (.cells #[.int .i64 0, .int .i64 0, .slice none 0 0] 34 (0, 0))) := ⟨by (with_reducible repeat (first | refine qB ?_ _ | refine qD ?_ | refine qA ?_ _)); refine qN ?_ NB197_213.out _; (with_reducible repeat (first | refine qB ?_ _ | refine qD ?_ | refine qA ?_ _)); refine qN ?_ NB197_213.out _; (with_reducible repeat (first | refine qB ?_ _ | refine qD ?_ | refine qA ?_ _)); exact BK197.out⟩
  have n5_ : Aside0 (((w21.setCell ⟨gb213, 0, none⟩ (.slice Ao22 t206.length co22)).setCell ⟨gb213, 1, none⟩ (.slice Ao28 t209.length co28)).heap[gb198]? = some (.cells #[.slice none 0 0, .slice none 0 0] 37 (0, 0))) := ⟨by (with_reducible repeat (first | refine qB ?_ _ | refine qD ?_ | refine qA ?_ _)); refine qN ?_ NB198_213.out _; (with_reducible repeat (first | refine qB ?_ _ | refine qD ?_ | refine qA ?_ _)); refine qN ?_ NB198_213.out _; (with_reducible repeat (first | refine qB ?_ _ | refine qD ?_ | refine qA ?_ _)); exact BK198.out⟩
  have n6_ : Aside0 (((w21.setCell ⟨gb213, 0, none⟩ (.slice Ao22 t206.length co22)).setCell ⟨gb213, 1, none⟩ (.slice Ao28 t209.length co28)).heap[gb205]? = some (.cells #[.int .i64 t199, .int .i64 t200, .slice Ao18 t201.length co18] 34 (0, 0))) := ⟨by (with_reducible repeat (first | refine qB ?_ _ | refine qD ?_ | refine qA ?_ _)); refine qN ?_ NB205_213.out _; (with_reducible repeat (first | refine qB ?_ _ | refine qD ?_ | refine qA ?_ _)); refine qN ?_ NB205_213.out _; (with_reducible repeat (first | refine qB ?_ _ | refine qD ?_ | refine qA ?_ _)); exact BK205.out⟩
  have n7_ : Aside0 (((w21.setCell ⟨gb213, 0, none⟩ (.slice Ao22 t206.length co22)).setCell ⟨gb213, 1, none⟩ (.slice Ao28 t209.length co28)).heap[gb213]? = some (.cells #[.slice Ao22 t206.length co22, .slice Ao28 t209.length co28] 37 (0, 0))) := ⟨by (with_reducible repeat (first | refine qB ?_ _ | refine qD ?_ | refine qA ?_ _)); refine qQ (cs := #[.slice Ao22 t206.length co22, .slice none 0 0]) ?_ 1 _ rfl; (with_reducible repeat (first | refine qB ?_ _ | refine qD ?_ | refine qA ?_ _)); refine qQ (cs := #[.slice none 0 0, .slice none 0 0]) ?_ 0 _ rfl; (with_reducible repeat (first | refine qB ?_ _ | refine qD ?_ | refine qA ?_ _)); exact BK213.out⟩
  have n8_ : Aside0 (Below w.heap.size w ((w21.setCell ⟨gb213, 0, none⟩ (.slice Ao22 t206.length co22)).setCell ⟨gb213, 1, none⟩ (.slice Ao28 t209.length co28))) := ⟨bl⟩
  (try clear HO203)
  (try clear HO208)
  (try clear HO211)
  (try clear BK196)
  (try clear BK197)
  (try clear BK198)
  (try clear BK205)
  (try clear BK213)
  (try clear HB)
  generalize ((w21.setCell ⟨gb213, 0, none⟩ (.slice Ao22 t206.length co22)).setCell ⟨gb213, 1, none⟩ (.slice Ao28 t209.length co28)) = w29 at n0_ n1_ n2_ n3_ n4_ n5_ n6_ n7_ n8_ ⊢
  have HO203 := n0_
  have HO208 := n1_
  have HO211 := n2_
  have BK196 := n3_
  have BK197 := n4_
  have BK198 := n5_
  have BK205 := n6_
  have BK213 := n7_
  have HB := n8_
  clear n0_ n1_ n2_ n3_ n4_ n5_ n6_ n7_ n8_
  have n0_ := Aside0.mk (Kd.qH HO203.out)
  have n1_ := Aside0.mk (Kd.qH HO208.out)
  have n2_ := Aside0.mk (Kd.qH HO211.out)
  have n3_ := Aside0.mk (qD BK196.out)
  have n4_ := Aside0.mk (qD BK197.out)
  have n5_ := Aside0.mk (qD BK198.out)
  have n6_ := Aside0.mk (qD BK205.out)
  have n7_ := Aside0.mk (qD BK213.out)
  have n8_ := Aside0.mk (qm HB.out)
  clear HO203
  clear HO208
  clear HO211
  clear BK196
  clear BK197
  clear BK198
  clear BK205
  clear BK213
  clear HB
  have HO203 := n0_
  have HO208 := n1_
  have HO211 := n2_
  have BK196 := n3_
  have BK197 := n4_
  have BK198 := n5_
  have BK205 := n6_
  have BK213 := n7_
  have HB := n8_
  clear n0_ n1_ n2_ n3_ n4_ n5_ n6_ n7_ n8_
  refine qyA (n := 6) (S := fun w' => w'.cell? ⟨gb205, 0, none⟩ = some (.int .i64 t199) ∧ w'.cell? ⟨gb205, 1, none⟩ = some (.int .i64 t200) ∧ w'.cell? ⟨gb205, 2, none⟩ = some (.slice Ao18 t201.length co18) ∧ w'.cell? ⟨gb213, 0, none⟩ = some (.slice Ao22 t206.length co22) ∧ w'.cell? ⟨gb213, 1, none⟩ = some (.slice Ao28 t209.length co28)) (ds := []) #[false, false, false, false, false, false] (by kernel_rfl) rfl rfl ⟨(qL BK205.out 0).trans rfl, (qL BK205.out 1).trans rfl, (qL BK205.out 2).trans rfl, (qL BK213.out 0).trans rfl, (qL BK213.out 1).trans rfl⟩ (fun hHeld => ?_)
  generalize w29.drew = w30 at HO203 HO208 HO211 BK196 BK197 BK198 BK205 BK213 HB hHeld ⊢
  refine pure_ (i := 2) (N := some 29) (v := ?_) (a' := ?_) #[false, false, true, false, false, false] rfl rfl (by kernel_rfl) (fun _ _ _ h => h) (Or.inl ⟨by rfl, ?_⟩) ?_ ?_
  rotate_left
  ·intro w'
   go_simp
   first | (with_reducible rfl) | (rw [if_neg (by simp only [ByteArray.size_extract, ByteArray.size_append] at * <;> omega)]; try with_reducible rfl)
  rotate_left
  ·simp only [Act.put, List.setIfInBounds_toArray, List.set_cons_zero, List.set_cons_succ, i64_w, i32_w]
   rfl
  refine take_ (i := 0) (N := some 27) (v := ?_) (a' := ?_) #[true, false, true, false, false, false] rfl rfl (by kernel_rfl) (fun _ _ _ h => h) (Or.inl ⟨by rfl, ?_⟩) hHeld ?_ ?_
  rotate_left
  ·rintro w' ⟨s0, s1, s2, s3, s4⟩
   go_simp
   first | (with_reducible rfl) | (rw [if_neg (by simp only [ByteArray.size_extract, ByteArray.size_append] at * <;> omega)]; try with_reducible rfl)
  rotate_left
  ·simp only [Act.put, List.setIfInBounds_toArray, List.set_cons_zero, List.set_cons_succ, i64_w, i32_w]
   rfl
  refine take_ (i := 1) (N := some 28) (v := ?_) (a' := ?_) #[true, true, true, false, false, false] rfl rfl (by kernel_rfl) (fun _ _ _ h => h) (Or.inl ⟨by rfl, ?_⟩) hHeld ?_ ?_
  rotate_left
  ·rintro w' ⟨s0, s1, s2, s3, s4⟩
   go_simp
   first | (with_reducible rfl) | (rw [if_neg (by simp only [ByteArray.size_extract, ByteArray.size_append] at * <;> omega)]; try with_reducible rfl)
  rotate_left
  ·simp only [Act.put, List.setIfInBounds_toArray, List.set_cons_zero, List.set_cons_succ, i64_w, i32_w]
   rfl
  refine one_ (i := 3) (N := none) #[true, true, true, true, false, false] rfl rfl (by kernel_rfl) (by decide) (fun K hK => ?_)
  have hs31 : w30.cell? ⟨gb197, 0, none⟩ = some (.int .i64 0) := (qL BK197.out 0).trans rfl
  have hfs31 := qC BK197.out 0
  have hns31_0 := NB196_197.out
  have hns31_2 := NB198_197.out
  have hns31_3 := NB205_197.out
  have hns31_4 := NB213_197.out
  have hms31_0 := NB197_196.out
  have hms31_2 := NB197_198.out
  have hms31_3 := NB197_205.out
  have hms31_4 := NB197_213.out
  have hs32 : w30.cell? ⟨gb197, 1, none⟩ = some (.int .i64 0) := (qL BK197.out 1).trans rfl
  have hfs32 := qC BK197.out 1
  have hns32_0 := NB196_197.out
  have hns32_2 := NB198_197.out
  have hns32_3 := NB205_197.out
  have hns32_4 := NB213_197.out
  have hms32_0 := NB197_196.out
  have hms32_2 := NB197_198.out
  have hms32_3 := NB197_205.out
  have hms32_4 := NB197_213.out
  have hs33 : w30.cell? ⟨gb197, 2, none⟩ = some (.slice none 0 0) := (qL BK197.out 2).trans rfl
  have hfs33 := qC BK197.out 2
  have hns33_0 := NB196_197.out
  have hns33_2 := NB198_197.out
  have hns33_3 := NB205_197.out
  have hns33_4 := NB213_197.out
  have hms33_0 := NB197_196.out
  have hms33_2 := NB197_198.out
  have hms33_3 := NB197_205.out
  have hms33_4 := NB197_213.out
  refine skip_ (w1 := ?_) (by rfl) rfl ?_ ?_
  rotate_left
  ·go_simp
   rfl
  refine hK.out _ _ ⟨((qR (p := ⟨gb197, _, none⟩) NB205_197.out _).trans (((qR (p := ⟨gb197, _, none⟩) NB205_197.out _).trans (((qR (p := ⟨gb197, _, none⟩) NB205_197.out _).trans (hHeld.1)))))), ((qR (p := ⟨gb197, _, none⟩) NB205_197.out _).trans (((qR (p := ⟨gb197, _, none⟩) NB205_197.out _).trans (((qR (p := ⟨gb197, _, none⟩) NB205_197.out _).trans (hHeld.2.1)))))), ((qR (p := ⟨gb197, _, none⟩) NB205_197.out _).trans (((qR (p := ⟨gb197, _, none⟩) NB205_197.out _).trans (((qR (p := ⟨gb197, _, none⟩) NB205_197.out _).trans (hHeld.2.2.1)))))), ((qR (p := ⟨gb197, _, none⟩) NB213_197.out _).trans (((qR (p := ⟨gb197, _, none⟩) NB213_197.out _).trans (((qR (p := ⟨gb197, _, none⟩) NB213_197.out _).trans (hHeld.2.2.2.1)))))), ((qR (p := ⟨gb197, _, none⟩) NB213_197.out _).trans (((qR (p := ⟨gb197, _, none⟩) NB213_197.out _).trans (((qR (p := ⟨gb197, _, none⟩) NB213_197.out _).trans (hHeld.2.2.2.2))))))⟩ (fun hHeld => ?_)
  clear hK K
  refine one_ (i := 4) (N := none) #[true, true, true, true, true, false] rfl rfl (by kernel_rfl) (by decide) (fun K hK => ?_)
  have hs34 : w30.cell? ⟨gb198, 0, none⟩ = some (.slice none 0 0) := (qL BK198.out 0).trans rfl
  have hfs34 := qC BK198.out 0
  have hns34_0 := NB196_198.out
  have hns34_1 := NB197_198.out
  have hns34_3 := NB205_198.out
  have hns34_4 := NB213_198.out
  have hms34_0 := NB198_196.out
  have hms34_1 := NB198_197.out
  have hms34_3 := NB198_205.out
  have hms34_4 := NB198_213.out
  have hs35 : w30.cell? ⟨gb198, 1, none⟩ = some (.slice none 0 0) := (qL BK198.out 1).trans rfl
  have hfs35 := qC BK198.out 1
  have hns35_0 := NB196_198.out
  have hns35_1 := NB197_198.out
  have hns35_3 := NB205_198.out
  have hns35_4 := NB213_198.out
  have hms35_0 := NB198_196.out
  have hms35_1 := NB198_197.out
  have hms35_3 := NB198_205.out
  have hms35_4 := NB198_213.out
  refine skip_ (w1 := ?_) (by rfl) rfl ?_ ?_
  rotate_left
  ·go_simp
   rfl
  refine hK.out _ _ ⟨((qR (p := ⟨gb198, _, none⟩) NB205_198.out _).trans (((qR (p := ⟨gb198, _, none⟩) NB205_198.out _).trans (hHeld.1)))), ((qR (p := ⟨gb198, _, none⟩) NB205_198.out _).trans (((qR (p := ⟨gb198, _, none⟩) NB205_198.out _).trans (hHeld.2.1)))), ((qR (p := ⟨gb198, _, none⟩) NB205_198.out _).trans (((qR (p := ⟨gb198, _, none⟩) NB205_198.out _).trans (hHeld.2.2.1)))), ((qR (p := ⟨gb198, _, none⟩) NB213_198.out _).trans (((qR (p := ⟨gb198, _, none⟩) NB213_198.out _).trans (hHeld.2.2.2.1)))), ((qR (p := ⟨gb198, _, none⟩) NB213_198.out _).trans (((qR (p := ⟨gb198, _, none⟩) NB213_198.out _).trans (hHeld.2.2.2.2))))⟩ (fun hHeld => ?_)
  clear hK K
  refine pure_ (i := 5) (N := some 6) (v := ?_) (a' := ?_) #[true, true, true, true, true, true] rfl rfl (by kernel_rfl) (fun _ _ _ h => h) (Or.inl ⟨by rfl, ?_⟩) ?_ ?_
  rotate_left
  ·intro w'
   go_simp
   first | (with_reducible rfl) | (rw [if_neg (by simp only [ByteArray.size_extract, ByteArray.size_append] at * <;> omega)]; try with_reducible rfl)
  rotate_left
  ·simp only [Act.put, List.setIfInBounds_toArray, List.set_cons_zero, List.set_cons_succ, i64_w, i32_w]
   rfl
  refine done_ (by kernel_rfl) ?_
  try go_wp2
  refine bodyPost_ret (results_list (rs := [.cell 4 34, .cell 5 37, .tmp 6]) rfl (by simp) (.cell gb197 34 #[.int .i64 t199, .int .i64 t200, .slice Ao18 t201.length co18] (0, 0) _ rfl (by (with_reducible repeat (first | refine qB ?_ _ | refine qD ?_ | refine qA ?_ _)); refine qN ?_ NB197_198.out _; (with_reducible repeat (first | refine qB ?_ _ | refine qD ?_ | refine qA ?_ _)); refine qN ?_ NB197_198.out _; (with_reducible repeat (first | refine qB ?_ _ | refine qD ?_ | refine qA ?_ _)); refine qQ (cs := #[.int .i64 t199, .int .i64 t200, .slice none 0 0]) ?_ 2 _ rfl; (with_reducible repeat (first | refine qB ?_ _ | refine qD ?_ | refine qA ?_ _)); refine qQ (cs := #[.int .i64 t199, .int .i64 0, .slice none 0 0]) ?_ 1 _ rfl; (with_reducible repeat (first | refine qB ?_ _ | refine qD ?_ | refine qA ?_ _)); refine qQ (cs := #[.int .i64 0, .int .i64 0, .slice none 0 0]) ?_ 0 _ rfl; (with_reducible repeat (first | refine qB ?_ _ | refine qD ?_ | refine qA ?_ _)); exact BK197.out) Tryd.underlying34 rfl (by kernel_rfl) (.cell gb198 37 #[.slice Ao22 t206.length co22, .slice Ao28 t209.length co28] (0, 0) _ rfl (by (with_reducible repeat (first | refine qB ?_ _ | refine qD ?_ | refine qA ?_ _)); refine qQ (cs := #[.slice Ao22 t206.length co22, .slice none 0 0]) ?_ 1 _ rfl; (with_reducible repeat (first | refine qB ?_ _ | refine qD ?_ | refine qA ?_ _)); refine qQ (cs := #[.slice none 0 0, .slice none 0 0]) ?_ 0 _ rfl; (with_reducible repeat (first | refine qB ?_ _ | refine qD ?_ | refine qA ?_ _)); refine qN ?_ NB198_197.out _; (with_reducible repeat (first | refine qB ?_ _ | refine qD ?_ | refine qA ?_ _)); refine qN ?_ NB198_197.out _; (with_reducible repeat (first | refine qB ?_ _ | refine qD ?_ | refine qA ?_ _)); refine qN ?_ NB198_197.out _; (with_reducible repeat (first | refine qB ?_ _ | refine qD ?_ | refine qA ?_ _)); exact BK198.out) Tryd.underlying37 rfl (by kernel_rfl) (.tmp .nil)))) rfl ?_
  exact ⟨_, _, _, by first | rfl | (simp [qJ, qI] <;> rfl) | (simp [*, qJ, qI] <;> rfl), by (with_reducible repeat (first | apply Kd.qF | apply Kd.qE | apply Kd.qH)); exact Kd.qh (Kd.R_far (p := ⟨gb198, 1, none⟩) (Kd.R_far (p := ⟨gb198, 0, none⟩) (Kd.R_far (p := ⟨gb197, 2, none⟩) (Kd.R_far (p := ⟨gb197, 1, none⟩) (Kd.R_far (p := ⟨gb197, 0, none⟩) (Kd.qEA (Kd.qEA HO203.out BK197.out (by decide)) BK198.out (by decide)) (fun _ hk => hk.1.2) (.int .i64 t199)) (fun _ hk => hk.1.2) (.int .i64 t200)) (fun _ hk => hk.1.2) (.slice Ao18 t201.length co18)) (fun _ hk => hk.2) (.slice Ao22 t206.length co22)) (fun _ hk => hk.2) (.slice Ao28 t209.length co28)) (fun _ hk => trivial), by (with_reducible repeat (first | apply Kd.qF | apply Kd.qE | apply Kd.qH)); exact Kd.qh (Kd.R_far (p := ⟨gb198, 1, none⟩) (Kd.R_far (p := ⟨gb198, 0, none⟩) (Kd.R_far (p := ⟨gb197, 2, none⟩) (Kd.R_far (p := ⟨gb197, 1, none⟩) (Kd.R_far (p := ⟨gb197, 0, none⟩) (Kd.qEA (Kd.qEA HO208.out BK197.out (by decide)) BK198.out (by decide)) (fun _ hk => hk.1.2) (.int .i64 t199)) (fun _ hk => hk.1.2) (.int .i64 t200)) (fun _ hk => hk.1.2) (.slice Ao18 t201.length co18)) (fun _ hk => hk.2) (.slice Ao22 t206.length co22)) (fun _ hk => hk.2) (.slice Ao28 t209.length co28)) (fun _ hk => trivial), by (with_reducible repeat (first | apply Kd.qF | apply Kd.qE | apply Kd.qH)); exact Kd.qh (Kd.R_far (p := ⟨gb198, 1, none⟩) (Kd.R_far (p := ⟨gb198, 0, none⟩) (Kd.R_far (p := ⟨gb197, 2, none⟩) (Kd.R_far (p := ⟨gb197, 1, none⟩) (Kd.R_far (p := ⟨gb197, 0, none⟩) (Kd.qEA (Kd.qEA HO211.out BK197.out (by decide)) BK198.out (by decide)) (fun _ hk => hk.1.2) (.int .i64 t199)) (fun _ hk => hk.1.2) (.int .i64 t200)) (fun _ hk => hk.1.2) (.slice Ao18 t201.length co18)) (fun _ hk => hk.2) (.slice Ao22 t206.length co22)) (fun _ hk => hk.2) (.slice Ao28 t209.length co28)) (fun _ hk => trivial), bl⟩
 ·replace c4 := Bool.eq_false_iff.mpr c4
  subst c4
  have H1 : (some (t199, t200, t201, ([] : List (S27)), ([] : List ByteArray), false)) = some (r1, r2, r3, r4, r5, r6) := by rw [if_neg (show ¬ (false = true) by decide)] at H; exact H
  clear H
  have H := H1
  clear H1
  simp only [Option.some.injEq, Prod.mk.injEq] at H
  obtain ⟨rfl, rfl, rfl, rfl, rfl, rfl⟩ := H
  go_enter Tryd.func10, Tryd.ntmps10
  go_wp2_with (first | ((with_reducible refine qd (N := 3) rfl ?_); refine qY ?hg (N := 3) ?hd (cs := #[.int .i64 a1_0, .int .i64 a1_1, .int .i64 a1_2]) (t := 27) ?hr ?_; (case hd => rfl); (case hg => rfl); (case hr => first | (go_simp; done) | (go_simp; rfl)); intro gb196 hg w36 hbox hb; have n0_ := Aside0.mk (qG bl hb); have n1_ := Aside0.mk (hbox); have n2_ := Aside0.mk ((gg hg)); have n3_ := Aside0.mk ((gg hg)); clear HB; have HB := n0_; have BK196 := n1_; have GW196 := n2_; have GE196 := n3_; clear n0_ n1_ n2_ n3_; clear hb hbox hg) | ((with_reducible refine qd (N := 4) rfl ?_); refine qY ?hg (N := 4) ?hd (cs := #[.int .i64 0, .int .i64 0, .slice none 0 0]) (t := 34) ?hr ?_; (case hd => rfl); (case hg => rfl); (case hr => first | (go_simp; done) | (go_simp; rfl)); intro gb197 hg w37 hbox hb; have n0_ := Aside0.mk (bb BK196 hb); have n1_ := Aside0.mk (qG bl hb); have n2_ := Aside0.mk (hbox); have n3_ := Aside0.mk ((gg hg)); have n4_ := Aside0.mk ((gg hg)); have n5_ := Aside0.mk ((nl BK196 hg)); have n6_ := Aside0.mk ((nr BK196 hg)); clear BK196; clear HB; have BK196 := n0_; have HB := n1_; have BK197 := n2_; have GW197 := n3_; have GE197 := n4_; have NB196_197 := n5_; have NB197_196 := n6_; clear n0_ n1_ n2_ n3_ n4_ n5_ n6_; clear hb hbox hg) | ((with_reducible refine qd (N := 5) rfl ?_); refine qY ?hg (N := 5) ?hd (cs := #[.slice none 0 0, .slice none 0 0]) (t := 37) ?hr ?_; (case hd => rfl); (case hg => rfl); (case hr => first | (go_simp; done) | (go_simp; rfl)); intro gb198 hg w38 hbox hb; have n0_ := Aside0.mk (bb BK196 hb); have n1_ := Aside0.mk (bb BK197 hb); have n2_ := Aside0.mk (qG bl hb); have n3_ := Aside0.mk (hbox); have n4_ := Aside0.mk ((gg hg)); have n5_ := Aside0.mk ((gg hg)); have n6_ := Aside0.mk ((nl BK196 hg)); have n7_ := Aside0.mk ((nr BK196 hg)); have n8_ := Aside0.mk ((nl BK197 hg)); have n9_ := Aside0.mk ((nr BK197 hg)); clear BK196; clear BK197; clear HB; have BK196 := n0_; have BK197 := n1_; have HB := n2_; have BK198 := n3_; have GW198 := n4_; have GE198 := n5_; have NB196_198 := n6_; have NB198_196 := n7_; have NB197_198 := n8_; have NB198_197 := n9_; clear n0_ n1_ n2_ n3_ n4_ n5_ n6_ n7_ n8_ n9_; clear hb hbox hg; have hnb39 := NB196_197.out; have hnc39 := NB197_196.out; have hnb40 := NB196_198.out; have hnc40 := NB198_196.out; have hcz41_0 := bc BK196 0; have hcz41_1 := bc BK196 1; have hcz41_2 := bc BK196 2; have hfz41_0 := qC BK196.out 0; have hfz41_1 := qC BK196.out 1; have hfz41_2 := qC BK196.out 2) | ((with_reducible refine qS (f := 16) rfl ?_); refine qt (some 14) rfl rfl Tryd.func16 (by kernel_rfl) rfl #[.string a0, .agg #[.int .i64 a1_0, .int .i64 a1_1, .int .i64 a1_2]] rfl (by (try simp only [List.map_toArray, List.map_cons, List.map_nil]); first | done | rfl | (simp only [List.length_drop, List.length_take]; rfl)) ?_; (with_reducible refine (qJA.calls k a0 a1_0 a1_1 a1_2 t199 t200 t201 false _ A3.out).mono ?_); rintro e w42 ⟨v202, rfl, ho0, hb⟩; refine ⟨_, rfl, ?_⟩; have n0_ := Aside0.mk (Kd.qHA ho0 (qg bl)); have n1_ := Aside0.mk (bb BK196 hb); have n2_ := Aside0.mk (bb BK197 hb); have n3_ := Aside0.mk (bb BK198 hb); have n4_ := Aside0.mk (qG bl hb); clear BK196; clear BK197; clear BK198; clear HB; have HO203 := n0_; have BK196 := n1_; have BK197 := n2_; have BK198 := n3_; have HB := n4_; clear n0_ n1_ n2_ n3_ n4_; (try clear hb); (try clear hb2); (try clear hk); (try clear hi); (try clear ho0)) | ((with_reducible refine qd (N := 7) rfl ?_); refine qY ?hg (N := 7) ?hd (cs := #[.int .i64 0, .int .i64 0, .slice none 0 0]) (t := 34) ?hr ?_; (case hd => rfl); (case hg => rfl); (case hr => first | (go_simp; done) | (go_simp; rfl)); intro gb205 hg w43 hbox hb; have n0_ := Aside0.mk (Kd.qa (by (with_reducible repeat (first | apply Kd.qF | apply Kd.qE | apply Kd.qH)); exact HO203.out) hb); have n1_ := Aside0.mk (bb BK196 hb); have n2_ := Aside0.mk (bb BK197 hb); have n3_ := Aside0.mk (bb BK198 hb); have n4_ := Aside0.mk (qG bl hb); have n5_ := Aside0.mk (hbox); have n6_ := Aside0.mk ((gg hg)); have n7_ := Aside0.mk ((gg hg)); have n8_ := Aside0.mk ((nl BK196 hg)); have n9_ := Aside0.mk ((nr BK196 hg)); have n10_ := Aside0.mk ((nl BK197 hg)); have n11_ := Aside0.mk ((nr BK197 hg)); have n12_ := Aside0.mk ((nl BK198 hg)); have n13_ := Aside0.mk ((nr BK198 hg)); clear HO203; clear BK196; clear BK197; clear BK198; clear HB; have HO203 := n0_; have BK196 := n1_; have BK197 := n2_; have BK198 := n3_; have HB := n4_; have BK205 := n5_; have GW205 := n6_; have GE205 := n7_; have NB196_205 := n8_; have NB205_196 := n9_; have NB197_205 := n10_; have NB205_197 := n11_; have NB198_205 := n12_; have NB205_198 := n13_; clear n0_ n1_ n2_ n3_ n4_ n5_ n6_ n7_ n8_ n9_ n10_ n11_ n12_ n13_; clear hb hbox hg; have hnb44 := NB205_196.out; have hnc44 := NB196_205.out; have hnb45 := NB205_197.out; have hnc45 := NB197_205.out; have hnb46 := NB205_198.out; have hnc46 := NB198_205.out; have hcz47_0 := bc BK205 0; have hcz47_1 := bc BK205 1; have hcz47_2 := bc BK205 2; have hfz47_0 := qC BK205.out 0; have hfz47_1 := qC BK205.out 1; have hfz47_2 := qC BK205.out 2; obtain ⟨Ao48, co48, eo48⟩ := Kd.qo HO203.out; subst eo48; have hnb49 := NB197_198.out; have hnc49 := NB198_197.out; have hcz50_0 := bc BK197 0; have hcz50_1 := bc BK197 1; have hcz50_2 := bc BK197 2; have hfz50_0 := qC BK197.out 0; have hfz50_1 := qC BK197.out 1; have hfz50_2 := qC BK197.out 2; have hcz51_0 := bc BK198 0; have hcz51_1 := bc BK198 1; have hfz51_0 := qC BK198.out 0; have hfz51_1 := qC BK198.out 1))
  refine bodyPost_ret (results_list (rs := [.cell 4 34, .cell 5 37, .tmp 6]) rfl (by simp) (.cell gb197 34 #[.int .i64 t199, .int .i64 t200, .slice Ao48 t201.length co48] (0, 0) _ rfl (by (with_reducible repeat (first | refine qB ?_ _ | refine qD ?_ | refine qA ?_ _)); refine qN ?_ NB197_198.out _; (with_reducible repeat (first | refine qB ?_ _ | refine qD ?_ | refine qA ?_ _)); refine qN ?_ NB197_198.out _; (with_reducible repeat (first | refine qB ?_ _ | refine qD ?_ | refine qA ?_ _)); refine qQ (cs := #[.int .i64 t199, .int .i64 t200, .slice none 0 0]) ?_ 2 _ rfl; (with_reducible repeat (first | refine qB ?_ _ | refine qD ?_ | refine qA ?_ _)); refine qQ (cs := #[.int .i64 t199, .int .i64 0, .slice none 0 0]) ?_ 1 _ rfl; (with_reducible repeat (first | refine qB ?_ _ | refine qD ?_ | refine qA ?_ _)); refine qQ (cs := #[.int .i64 0, .int .i64 0, .slice none 0 0]) ?_ 0 _ rfl; (with_reducible repeat (first | refine qB ?_ _ | refine qD ?_ | refine qA ?_ _)); refine qN ?_ NB197_205.out _; (with_reducible repeat (first | refine qB ?_ _ | refine qD ?_ | refine qA ?_ _)); refine qN ?_ NB197_205.out _; (with_reducible repeat (first | refine qB ?_ _ | refine qD ?_ | refine qA ?_ _)); refine qN ?_ NB197_205.out _; (with_reducible repeat (first | refine qB ?_ _ | refine qD ?_ | refine qA ?_ _)); exact BK197.out) Tryd.underlying34 rfl (by kernel_rfl) (.cell gb198 37 #[.slice none 0 0, .slice none 0 0] (0, 0) _ rfl (by (with_reducible repeat (first | refine qB ?_ _ | refine qD ?_ | refine qA ?_ _)); refine qQ (cs := #[.slice none 0 0, .slice none 0 0]) ?_ 1 _ rfl; (with_reducible repeat (first | refine qB ?_ _ | refine qD ?_ | refine qA ?_ _)); refine qQ (cs := #[.slice none 0 0, .slice none 0 0]) ?_ 0 _ rfl; (with_reducible repeat (first | refine qB ?_ _ | refine qD ?_ | refine qA ?_ _)); refine qN ?_ NB198_197.out _; (with_reducible repeat (first | refine qB ?_ _ | refine qD ?_ | refine qA ?_ _)); refine qN ?_ NB198_197.out _; (with_reducible repeat (first | refine qB ?_ _ | refine qD ?_ | refine qA ?_ _)); refine qN ?_ NB198_197.out _; (with_reducible repeat (first | refine qB ?_ _ | refine qD ?_ | refine qA ?_ _)); refine qN ?_ NB198_205.out _; (with_reducible repeat (first | refine qB ?_ _ | refine qD ?_ | refine qA ?_ _)); refine qN ?_ NB198_205.out _; (with_reducible repeat (first | refine qB ?_ _ | refine qD ?_ | refine qA ?_ _)); refine qN ?_ NB198_205.out _; (with_reducible repeat (first | refine qB ?_ _ | refine qD ?_ | refine qA ?_ _)); exact BK198.out) Tryd.underlying37 rfl (by kernel_rfl) (.tmp .nil)))) rfl ?_
  exact ⟨_, _, _, by first | rfl | (simp [qJ, qI] <;> rfl) | (simp [*, qJ, qI] <;> rfl), by (with_reducible repeat (first | apply Kd.qF | apply Kd.qE | apply Kd.qH)); exact Kd.qh (Kd.R_far (p := ⟨gb198, 1, none⟩) (Kd.R_far (p := ⟨gb198, 0, none⟩) (Kd.R_far (p := ⟨gb197, 2, none⟩) (Kd.R_far (p := ⟨gb197, 1, none⟩) (Kd.R_far (p := ⟨gb197, 0, none⟩) (Kd.R_far (p := ⟨gb205, 2, none⟩) (Kd.R_far (p := ⟨gb205, 1, none⟩) (Kd.R_far (p := ⟨gb205, 0, none⟩) (Kd.qEA (Kd.qEA (Kd.qEA HO203.out BK205.out (by decide)) BK197.out (by decide)) BK198.out (by decide)) (fun _ hk => hk.1.1.2) (.int .i64 t199)) (fun _ hk => hk.1.1.2) (.int .i64 t200)) (fun _ hk => hk.1.1.2) (.slice Ao48 t201.length co48)) (fun _ hk => hk.1.2) (.int .i64 t199)) (fun _ hk => hk.1.2) (.int .i64 t200)) (fun _ hk => hk.1.2) (.slice Ao48 t201.length co48)) (fun _ hk => hk.2) (.slice none 0 0)) (fun _ hk => hk.2) (.slice none 0 0)) (fun _ hk => trivial), by first | exact Kd.R_nil _ _ _ _ _ | exact Kd.N_nil _ _ _ _ _ | exact Kd.V_nil _ _ _ _ _ | exact Kd.Q_nil _ _ _ _ _ | exact Kd.S_nil _ _ _ _ _, by first | exact Kd.R_nil _ _ _ _ _ | exact Kd.N_nil _ _ _ _ _ | exact Kd.V_nil _ _ _ _ _ | exact Kd.Q_nil _ _ _ _ _ | exact Kd.S_nil _ _ _ _ _, bl⟩
def qcA.f (a0_0 : Int) (a0_1 : Int) (a0_2 : Int) : Option (Int) := some (wrap64 ((wrap64 ((wrap64 ((wrap64 (a0_1 * 7)) + a0_0)) * 3)) + a0_2))
set_option maxHeartbeats 8000000 in
set_option maxRecDepth 100000 in
theorem qcA.calls (a0_0 : Int) (a0_1 : Int) (a0_2 : Int) (r : Int) (w : World) (h : qcA.f a0_0 a0_1 a0_2 = some r) :
  Calls Tryd.prog 18 #[.agg #[.int .i64 a0_0, .int .i64 a0_1, .int .i64 a0_2]] w fun e w' => e = .returned (.int .i64 r) ∧ Below w.heap.size w w' := by
 have hu27 := Tryd.underlying27
 have HB := Aside0.mk (Below.refl w.heap.size w)
 have H : (some (wrap64 ((wrap64 ((wrap64 ((wrap64 (a0_1 * 7)) + a0_0)) * 3)) + a0_2))) = some r := h
 clear h
 obtain rfl := Option.some.inj H
 go_enter Tryd.func18, Tryd.ntmps18
 go_wp2_with (first | ((with_reducible refine qd (N := 1) rfl ?_); refine qY ?hg (N := 1) ?hd (cs := #[.int .i64 a0_0, .int .i64 a0_1, .int .i64 a0_2]) (t := 27) ?hr ?_; (case hd => rfl); (case hg => rfl); (case hr => first | (go_simp; done) | (go_simp; rfl)); intro gb214 hg w2 hbox hb; have n0_ := Aside0.mk (qG bl hb); have n1_ := Aside0.mk (hbox); have n2_ := Aside0.mk ((gg hg)); have n3_ := Aside0.mk ((gg hg)); clear HB; have HB := n0_; have BK214 := n1_; have GW214 := n2_; have GE214 := n3_; clear n0_ n1_ n2_ n3_; clear hb hbox hg; have hcz3_0 := bc BK214 0; have hcz3_1 := bc BK214 1; have hcz3_2 := bc BK214 2; have hfz3_0 := qC BK214.out 0; have hfz3_1 := qC BK214.out 1; have hfz3_2 := qC BK214.out 2))
 go_ret
 exact ⟨by first | rfl | (simp [qJ, qI] <;> rfl) | (simp [*, qJ, qI] <;> rfl), bl⟩
def qeA.f (l0 : List Int) : Option (List Int) := (some (([] : List Int) : List Int)).bind fun y215 => (if y215.length + l0.length < 17592186044416 then (some (y215 ++ l0)) else (none))
set_option maxHeartbeats 8000000 in
set_option maxRecDepth 100000 in
theorem qeA.calls (A0 : Option Addr) (c0 : Nat) (l0 : List Int) (r : List Int) (w : World) (hr0 : Kd.C (Kd.int .i64) w A0 l0.length l0) (hc0 : l0.length ≤ c0) (h : qeA.f l0 = some r) :
  Calls Tryd.prog 19 #[.slice A0 l0.length c0] w fun e w' => ∃ v0_ : Value, e = .returned (v0_) ∧ Kd.R (Kd.int .i64) 3 w' w.heap.size (fun _ => True) v0_ r ∧ Below w.heap.size w w' := by
 have HR0 := Aside0.mk hr0
 have HC0 := Aside0.mk hc0
 clear hr0 hc0
 have HB := Aside0.mk (Below.refl w.heap.size w)
 have H : ((some (([] : List Int) : List Int)).bind fun y215 => (if y215.length + l0.length < 17592186044416 then (some (y215 ++ l0)) else (none))) = some r := h
 clear h
 obtain ⟨y215, hy215⟩ : ∃ y_ : List Int, y_ = (([] : List Int)) := ⟨_, rfl⟩
 replace H : (if y215.length + l0.length < 17592186044416 then (some (y215 ++ l0)) else (none)) = some r := by first | (rw [hy215]; with_reducible exact H) | (have H2_ := (Option.bind_some _ _).symm.trans H; rw [hy215]; with_reducible exact H2_) | (have H2_ := (Option.bind_some _ _).symm.trans H; with_reducible exact H2_) | with_reducible exact H | (rw [hy215]; exact H) | exact H
 have Ny215 := Aside0.mk hy215
 clear hy215
 by_cases c2 : y215.length + l0.length < 17592186044416
 ·rw [if_pos c2] at H
  have LMc2 := Aside0.mk c2
  clear c2
  obtain ⟨y218, hy218⟩ : ∃ y_ : List Int, y_ = (y215 ++ l0) := ⟨_, rfl⟩
  replace H : (some y218) = some r := by first | (rw [hy218]; with_reducible exact H) | (have H2_ := (Option.bind_some _ _).symm.trans H; rw [hy218]; with_reducible exact H2_) | (have H2_ := (Option.bind_some _ _).symm.trans H; with_reducible exact H2_) | with_reducible exact H | (rw [hy218]; exact H) | exact H
  have Ny218 := Aside0.mk hy218
  clear hy218
  obtain rfl := Option.some.inj H
  go_enter Tryd.func19, Tryd.ntmps19
  go_wp2_with (first | ((with_reducible refine qd (N := 3) rfl ?_); refine Kd.R_lit (Kd.int .i64) _ 3 ?hg (N := 3) ?hd (xs := ([] : List Int)) (inner := []) (ok := fun _ => True) (okp := fun _ => True) ?hr ?hp (fun _ hk => hk) trivial (Below.refl _ _) (Nat.le_refl _) (by simp) ?_; (case hd => rfl); (case hg => rfl); (case hr => first | (go_simp; done) | (go_simp; rfl)); (case hp => exact (Reps.none _ _)); intro v216 w3 ho4 hb hg_ hnew_; clear hg_ hnew_; (first | rw [← Ny215.out] at ho4 | (simp only [Int.reduceToNat] at ho4; rw [← Ny215.out] at ho4)); have n0_ := Aside0.mk (Kd.qHA ho4 (qg bl)); have n1_ := Aside0.mk (qG bl hb); clear HB; have HO217 := n0_; have HB := n1_; clear n0_ n1_; clear hb ho4) | ((with_reducible refine qiA (b := .append) (xs := #[.tmp 3, .tmp 4]) rfl ?_); at_builtin; refine Kd.qEB (Kd.int .i64) (w0 := w) w.heap.size rfl (.tmp 3) (.tmp 4) 40 3 (.int .i64 0) 8 rfl Tryd.underlying40 info3 rfl (by decide) (by omega) v216 y215 l0 _ _ _ (fun _ => True) (fun _ => False) rfl rfl ?aO ?aR (fun _ _ h => h) (fun _ h => h.elim) ?aF ?aB ?aS ?aL ?_; (case aR => repeat (first | exact (Kd.qYA HR0.out HB.out) | (with_reducible refine Kd.qz ?_ _) | (with_reducible refine Kd.qy ?_ _) | (with_reducible refine Kd.qNA ?_))); (case aB => exact bl); (case aF => exact (fun _ _ => trivial)); (case aO => exact (by (with_reducible repeat (first | apply Kd.qF | apply Kd.qE | apply Kd.qH)); exact HO217.out)); (case aS => exact (qg bl)); (case aL => have := LMc2.out; omega); intro v219 w5 ho hb hg hat; rw [← Ny218.out] at ho; have n0_ := Aside0.mk (hb); have n1_ := Aside0.mk (ho); clear HB; clear HO217; have HB := n0_; have HO220 := n1_; clear n0_ n1_; clear ho hb hg hat))
  go_ret
  exact ⟨_, by first | rfl | (simp [qJ, qI] <;> rfl) | (simp [*, qJ, qI] <;> rfl), by (with_reducible repeat (first | apply Kd.qF | apply Kd.qE | apply Kd.qH)); exact HO220.out, bl⟩
 ·rw [if_neg c2] at H
  exact absurd H (by simp)
mutual
def qb.l0 : Nat → List Int → List (S27) → Int → Int → List (S27) → List ByteArray → Option (List Int)
 | 0, _, _, _, _, _, _ => none
 | k + 1, x3, x9, x10, x11, x222000, x222001 => if x11 < x10 then (if 0 ≤ x11 then (if x11 < (x9.length : Int) then (qb.l1 k x3 x11 0 x9 x10 x11 x222000 x222001 ((qK x9 x11).f0) ((qK x9 x11).f1) ((qK x9 x11).f2)) else (none)) else (none)) else (some x3)
def qb.l1 : Nat → List Int → Int → Int → List (S27) → Int → Int → List (S27) → List ByteArray → Int → Int → Int → Option (List Int)
 | 0, _, _, _, _, _, _, _, _, _, _, _ => none
 | k + 1, x3, x4, x6, x9, x10, x11, x222000, x222001, x224000, x224001, x224002 => if x6 < (x3.length : Int) then (if 0 ≤ x6 then (if 0 ≤ (rd x3 x6) then (if (rd x3 x6) < (x222000.length : Int) then ((qcA.f ((qK x222000 (rd x3 x6)).f0) ((qK x222000 (rd x3 x6)).f1) ((qK x222000 (rd x3 x6)).f2)).bind fun t226 => ((qcA.f x224000 x224001 x224002).bind fun t227 => (if t226 < t227 then (qb.l1 k x3 x4 (wrap64 (x6 + 1)) x9 x10 x11 x222000 x222001 x224000 x224001 x224002) else (if x6 ≤ (x3.length : Int) then ((qeA.f (x3.take (x6 : Int).toNat)).bind fun t232 => (if t232.length < 17592186044416 then ((some (t232 ++ [x4] : List Int)).bind fun y235 => ((some (x3.drop (x6 : Int).toNat : List Int)).bind fun y238 => (if y235.length + y238.length < 17592186044416 then (qb.l0 k (y235 ++ y238) x9 x10 (wrap64 (x11 + 1)) x222000 x222001) else (none)))) else (none))) else (none))))) else (none)) else (none)) else (none)) else (if 0 ≤ x6 then (if x6 ≤ (x3.length : Int) then ((qeA.f (x3.take (x6 : Int).toNat)).bind fun t249 => (if t249.length < 17592186044416 then ((some (t249 ++ [x4] : List Int)).bind fun y252 => ((some (x3.drop (x6 : Int).toNat : List Int)).bind fun y255 => (if y252.length + y255.length < 17592186044416 then (qb.l0 k (y252 ++ y255) x9 x10 (wrap64 (x11 + 1)) x222000 x222001) else (none)))) else (none))) else (none)) else (none))
end
def qb.f (k : Nat) (l0_0 : List (S27)) (l0_1 : List ByteArray) : Option (List Int) := qb.l0 k ([] : List Int) l0_0 (l0_0.length : Int) 0 l0_0 l0_1
def qb.T6 : Bool × List (List Nat × List Nat) := (true, [([], []), ([], []), ([1], [1]), ([0, 2], [0, 2]), ([3], [3]), ([4], [4]), ([5, 4], [4, 5]), ([4], [4]), ([4], [4]), ([7, 8, 4], [4, 7, 8]), ([9, 4], [4, 9]), ([6, 10, 4], [4, 6, 10]), ([11, 4], [4, 11]), ([12, 4, 4], [4, 12]), ([4], [4]), ([14, 13, 4], [4, 14]), ([13, 15, 4], [4, 13, 15]), ([4, 16], [4, 16])])
def qb.B6 : List Nat := [0, 0, 2, 7, 15, 31, 63, 31, 31, 415, 927, 2047, 4095, 8191, 31, 32767, 65535, 131071]
theorem qb.tab6 : rtab .any (opsOf Tryd.f11 6) = qb.T6 := by kernel_rfl
theorem qb.bits6 : waitsOk qb.T6.2 qb.B6 = true := by kernel_rfl
set_option maxHeartbeats 8000000 in
set_option maxRecDepth 100000 in
theorem qb.calls (k : Nat) (A0_0 : Option Addr) (c0_0 : Nat) (l0_0 : List (S27)) (A0_1 : Option Addr) (c0_1 : Nat) (l0_1 : List ByteArray) (r : List Int) (w : World) (hr0_0 : Kd.C k27 w A0_0 l0_0.length l0_0) (hc0_0 : l0_0.length ≤ c0_0) (hr0_1 : Kd.C Kd.string w A0_1 l0_1.length l0_1) (hc0_1 : l0_1.length ≤ c0_1) (h : qb.f k l0_0 l0_1 = some r) :
  Calls Tryd.prog 11 #[.agg #[.slice A0_0 l0_0.length c0_0, .slice A0_1 l0_1.length c0_1]] w fun e w' => ∃ v0_ : Value, e = .returned (v0_) ∧ Kd.R (Kd.int .i64) 3 w' w.heap.size (fun _ => True) v0_ r ∧ Below w.heap.size w w' := by
 have hu37 := Tryd.underlying37
 have hu27 := Tryd.underlying27
 have HR0_0 := Aside0.mk hr0_0
 have HC0_0 := Aside0.mk hc0_0
 clear hr0_0 hc0_0
 have HR0_1 := Aside0.mk hr0_1
 have HC0_1 := Aside0.mk hc0_1
 clear hr0_1 hc0_1
 have HB := Aside0.mk (Below.refl w.heap.size w)
 have H : (qb.l0 k ([] : List Int) l0_0 (l0_0.length : Int) 0 l0_0 l0_1) = some r := h
 clear h
 have H' := Aside0.mk H
 clear H
 go_enter Tryd.func11, Tryd.ntmps11
 go_wp2_with (first | ((with_reducible refine qd (N := 1) rfl ?_); refine qY ?hg (N := 1) ?hd (cs := #[.slice A0_0 l0_0.length c0_0, .slice A0_1 l0_1.length c0_1]) (t := 37) ?hr ?_; (case hd => rfl); (case hg => rfl); (case hr => first | (go_simp; done) | (go_simp; rfl)); intro gb221 hg w2 hbox hb; have n0_ := Aside0.mk (qG bl hb); have n1_ := Aside0.mk (hbox); have n2_ := Aside0.mk ((gg hg)); have n3_ := Aside0.mk ((gg hg)); clear HB; have HB := n0_; have BK221 := n1_; have GW221 := n2_; have GE221 := n3_; clear n0_ n1_ n2_ n3_; clear hb hbox hg; have hcz3_0 := bc BK221 0; have hcz3_1 := bc BK221 1; have hfz3_0 := qC BK221.out 0; have hfz3_1 := qC BK221.out 1))
 go_loopg [3, 11] k (fun kq v3 v11 w' => ∃ (x3_1 : List Int) (x11_1 : Int), v11 = .int .i64 x11_1 ∧ Aside0 (qb.l0 kq x3_1 l0_0 (l0_0.length : Int) x11_1 l0_0 l0_1 = some r) ∧ Aside0 (kq ≤ k) ∧ Aside0 (Kd.R (Kd.int .i64) 3 w' w.heap.size (fun _ => True) v3 x3_1) ∧ Aside0 (w'.heap[gb221]? = some (.cells #[(.slice A0_0 l0_0.length c0_0), (.slice A0_1 l0_1.length c0_1)] 37 (0, 0))) ∧ Aside0 (Below w.heap.size w w'))
 case atStart => exact ⟨(([] : List Int)), (0), (by first | rfl | (simp; done) | (simp [*]; done)), H', ⟨Nat.le_refl _⟩, ⟨by first | exact Kd.R_nil _ _ _ _ _ | exact Kd.N_nil _ _ _ _ _ | exact Kd.V_nil _ _ _ _ _ | exact Kd.Q_nil _ _ _ _ _ | exact Kd.S_nil _ _ _ _ _⟩, ⟨by (with_reducible repeat (first | refine qB ?_ _ | refine qD ?_ | refine qA ?_ _)); exact BK221.out⟩, ⟨bl⟩⟩
 case round =>
  clear H'
  try clear c1
  try clear p2
  try clear hcz3_0
  try clear hcz3_1
  try clear hfz3_0
  try clear hfz3_1
  obtain ⟨x3_1, x11_1, rfl, HA, HK1, HO_3, BK221, HB⟩ := hrel
  cases gk with
  | zero => exact absurd HA.out (by simp [qb.l0])
  | succ k1 =>
   have H := HA.out
   clear HA
   simp only [qb.l0] at H
   by_cases c4 : x11_1 < (l0_0.length : Int)
   ·rw [if_pos c4] at H
    have c4b0 : decide (x11_1 < (l0_0.length : Int)) = true := decide_eq_true c4
    clear c4
    by_cases c5 : 0 ≤ x11_1
    ·rw [if_pos c5] at H
     have c5b0 : decide (0 ≤ x11_1) = true := decide_eq_true c5
     clear c5
     by_cases c6 : x11_1 < (l0_0.length : Int)
     ·rw [if_pos c6] at H
      have c6b0 : decide (x11_1 < (l0_0.length : Int)) = true := decide_eq_true c6
      clear c6
      have H' := Aside0.mk H
      clear H
      have p222 : 0 ≤ (x11_1 : Int) := of_decide_eq_true (by first | (with_reducible assumption) | assumption)
      have q222 : x11_1 < (l0_0.length : Int) := of_decide_eq_true (by first | (with_reducible assumption) | assumption)
      obtain ⟨ad222, e222, hx222_0, hx222_1, hx222_2⟩ := qnA HR0_0.out x11_1 p222 q222
      cases e222
      replace hx222_0 := (HB.out.cell (World.block_lt_of_cell? w _ hx222_0)).trans hx222_0
      replace hx222_1 := (HB.out.cell (World.block_lt_of_cell? w _ hx222_1)).trans hx222_1
      replace hx222_2 := (HB.out.cell (World.block_lt_of_cell? w _ hx222_2)).trans hx222_2
      replace p222 := eq_true p222
      replace q222 := eq_true q222
      go_wp2_with (first | ((with_reducible refine qd (N := 5) rfl ?_); refine qY ?hg (N := 5) ?hd (cs := #[.int .i64 0, .int .i64 0, .int .i64 0]) (t := 27) ?hr ?_; (case hd => rfl); (case hg => rfl); (case hr => first | (go_simp; done) | (go_simp; rfl)); intro gb223 hg w7 hbox hb; have n0_ := Aside0.mk (Kd.qa (by (with_reducible repeat (first | apply Kd.qF | apply Kd.qE | apply Kd.qH)); exact HO_3.out) hb); have n1_ := Aside0.mk (bb BK221 hb); have n2_ := Aside0.mk (qG bl hb); have n3_ := Aside0.mk (hbox); have n4_ := Aside0.mk ((gg hg)); have n5_ := Aside0.mk ((gg hg)); have n6_ := Aside0.mk ((nl BK221 hg)); have n7_ := Aside0.mk ((nr BK221 hg)); clear HO_3; clear BK221; clear HB; have HO_3 := n0_; have BK221 := n1_; have HB := n2_; have BK223 := n3_; have GW223 := n4_; have GE223 := n5_; have NB221_223 := n6_; have NB223_221 := n7_; clear n0_ n1_ n2_ n3_ n4_ n5_ n6_ n7_; clear hb hbox hg; have hnb8 := NB223_221.out; have hnc8 := NB221_223.out; have hcz9_0 := bc BK223 0; have hcz9_1 := bc BK223 1; have hcz9_2 := bc BK223 2; have hfz9_0 := qC BK223.out 0; have hfz9_1 := qC BK223.out 1; have hfz9_2 := qC BK223.out 2))
      go_loopg [6] k1 (fun kq v6 w' => ∃ (x6_2 : Int), v6 = .int .i64 x6_2 ∧ Aside0 (qb.l1 kq x3_1 x11_1 x6_2 l0_0 (l0_0.length : Int) x11_1 l0_0 l0_1 ((qK l0_0 x11_1).f0) ((qK l0_0 x11_1).f1) ((qK l0_0 x11_1).f2) = some r) ∧ Aside0 (kq ≤ k1) ∧ Aside0 (Kd.R (Kd.int .i64) 3 w' w.heap.size (fun _ => True) u3 x3_1) ∧ Aside0 (w'.heap[gb221]? = some (.cells #[(.slice (some ad222) l0_0.length c0_0), (.slice A0_1 l0_1.length c0_1)] 37 (0, 0))) ∧ Aside0 (w'.heap[gb223]? = some (.cells #[.int .i64 ((qK l0_0 x11_1).f0), .int .i64 ((qK l0_0 x11_1).f1), .int .i64 ((qK l0_0 x11_1).f2)] 27 (0, 0))) ∧ Aside0 (Below w.heap.size w w'))
      case atStart => exact ⟨(0), (by first | rfl | (simp; done) | (simp [*]; done)), H', ⟨Nat.le_refl _⟩, ⟨by (with_reducible repeat (first | apply Kd.qF | apply Kd.qE | apply Kd.qH)); exact Kd.qh (Kd.R_far (p := ⟨gb223, 2, none⟩) (Kd.R_far (p := ⟨gb223, 1, none⟩) (Kd.R_far (p := ⟨gb223, 0, none⟩) (Kd.qEA HO_3.out BK223.out (by decide)) (fun _ hk => hk.2) (.int .i64 ((qK l0_0 x11_1).f0))) (fun _ hk => hk.2) (.int .i64 ((qK l0_0 x11_1).f1))) (fun _ hk => hk.2) (.int .i64 ((qK l0_0 x11_1).f2))) (fun _ hk => trivial)⟩, ⟨by (with_reducible repeat (first | refine qB ?_ _ | refine qD ?_ | refine qA ?_ _)); refine qN ?_ NB221_223.out _; (with_reducible repeat (first | refine qB ?_ _ | refine qD ?_ | refine qA ?_ _)); refine qN ?_ NB221_223.out _; (with_reducible repeat (first | refine qB ?_ _ | refine qD ?_ | refine qA ?_ _)); refine qN ?_ NB221_223.out _; (with_reducible repeat (first | refine qB ?_ _ | refine qD ?_ | refine qA ?_ _)); exact BK221.out⟩, ⟨by (with_reducible repeat (first | refine qB ?_ _ | refine qD ?_ | refine qA ?_ _)); refine qQ (cs := #[.int .i64 ((qK l0_0 x11_1).f0), .int .i64 ((qK l0_0 x11_1).f1), .int .i64 0]) ?_ 2 _ rfl; (with_reducible repeat (first | refine qB ?_ _ | refine qD ?_ | refine qA ?_ _)); refine qQ (cs := #[.int .i64 ((qK l0_0 x11_1).f0), .int .i64 0, .int .i64 0]) ?_ 1 _ rfl; (with_reducible repeat (first | refine qB ?_ _ | refine qD ?_ | refine qA ?_ _)); refine qQ (cs := #[.int .i64 0, .int .i64 0, .int .i64 0]) ?_ 0 _ rfl; (with_reducible repeat (first | refine qB ?_ _ | refine qD ?_ | refine qA ?_ _)); exact BK223.out⟩, ⟨bl⟩⟩
      case round =>
       clear H'
       try clear c1
       try clear p2
       try clear q2
       try clear hx2
       try clear c4
       try clear c4b0
       try clear c5
       try clear c5b0
       try clear c6
       try clear c6b0
       try clear c8
       try clear hcz3_0
       try clear hcz3_1
       try clear hcz9_0
       try clear hcz9_1
       try clear hcz9_2
       try clear hfz3_0
       try clear hfz3_1
       try clear hfz9_0
       try clear hfz9_1
       try clear hfz9_2
       try clear hx222_0
       try clear hx222_1
       try clear hx222_2
       try clear p2
       try clear p222
       try clear q222
       obtain ⟨x6_2, rfl, HA, HK2, HO_3, BK221, BK223, HB⟩ := hrel
       cases gk with
       | zero => exact absurd HA.out (by simp [qb.l1])
       | succ k2 =>
        have H := HA.out
        clear HA
        simp only [qb.l1] at H
        by_cases c10 : x6_2 < (x3_1.length : Int)
        ·rw [if_pos c10] at H
         have c10b0 : decide (x6_2 < (x3_1.length : Int)) = true := decide_eq_true c10
         clear c10
         by_cases c11 : 0 ≤ x6_2
         ·rw [if_pos c11] at H
          have c11b0 : decide (0 ≤ x6_2) = true := decide_eq_true c11
          clear c11
          by_cases c12 : 0 ≤ (rd x3_1 x6_2)
          ·rw [if_pos c12] at H
           have c12b0 : decide (0 ≤ (rd x3_1 x6_2)) = true := decide_eq_true c12
           clear c12
           by_cases c13 : (rd x3_1 x6_2) < (l0_0.length : Int)
           ·rw [if_pos c13] at H
            have c13b0 : decide ((rd x3_1 x6_2) < (l0_0.length : Int)) = true := decide_eq_true c13
            clear c13
            replace H := Option.bind_eq_some_iff.mp H
            obtain ⟨t226, A140, H⟩ := H
            replace H : ((qcA.f ((qK l0_0 x11_1).f0) ((qK l0_0 x11_1).f1) ((qK l0_0 x11_1).f2)).bind fun t227 => (if t226 < t227 then (qb.l1 k2 x3_1 x11_1 (wrap64 (x6_2 + 1)) l0_0 (l0_0.length : Int) x11_1 l0_0 l0_1 ((qK l0_0 x11_1).f0) ((qK l0_0 x11_1).f1) ((qK l0_0 x11_1).f2)) else (if x6_2 ≤ (x3_1.length : Int) then ((qeA.f (x3_1.take (x6_2 : Int).toNat)).bind fun t232 => (if t232.length < 17592186044416 then ((some (t232 ++ [x11_1] : List Int)).bind fun y235 => ((some (x3_1.drop (x6_2 : Int).toNat : List Int)).bind fun y238 => (if y235.length + y238.length < 17592186044416 then (qb.l0 k2 (y235 ++ y238) l0_0 (l0_0.length : Int) (wrap64 (x11_1 + 1)) l0_0 l0_1) else (none)))) else (none))) else (none)))) = some r := H
            have A14 := Aside0.mk A140
            clear A140
            replace H := Option.bind_eq_some_iff.mp H
            obtain ⟨t227, A150, H⟩ := H
            replace H : (if t226 < t227 then (qb.l1 k2 x3_1 x11_1 (wrap64 (x6_2 + 1)) l0_0 (l0_0.length : Int) x11_1 l0_0 l0_1 ((qK l0_0 x11_1).f0) ((qK l0_0 x11_1).f1) ((qK l0_0 x11_1).f2)) else (if x6_2 ≤ (x3_1.length : Int) then ((qeA.f (x3_1.take (x6_2 : Int).toNat)).bind fun t232 => (if t232.length < 17592186044416 then ((some (t232 ++ [x11_1] : List Int)).bind fun y235 => ((some (x3_1.drop (x6_2 : Int).toNat : List Int)).bind fun y238 => (if y235.length + y238.length < 17592186044416 then (qb.l0 k2 (y235 ++ y238) l0_0 (l0_0.length : Int) (wrap64 (x11_1 + 1)) l0_0 l0_1) else (none)))) else (none))) else (none))) = some r := H
            have A15 := Aside0.mk A150
            clear A150
            by_cases c16 : t226 < t227
            ·rw [if_pos c16] at H
             have c16b0 : decide (t226 < t227) = true := decide_eq_true c16
             clear c16
             have H' := Aside0.mk H
             clear H
             try go_wp2
             have n0_ := Aside0.mk (Kd.qH HO_3.out)
             have n1_ := Aside0.mk (qD BK221.out)
             have n2_ := Aside0.mk (qD BK223.out)
             have n3_ := Aside0.mk (qm HB.out)
             clear HO_3
             clear BK221
             clear BK223
             clear HB
             have HO_3 := n0_
             have BK221 := n1_
             have BK223 := n2_
             have HB := n3_
             clear n0_ n1_ n2_ n3_
             obtain ⟨Ao18, co18, eo18⟩ := Kd.qo HO_3.out
             (first | subst eo18 | (injection eo18 with f1_ f2_ f3_; have f4_ := f1_.symm; have f5_ := f3_.symm; clear f1_ f2_ f3_; subst f4_; subst f5_))
             have p224 : 0 ≤ (x6_2 : Int) := of_decide_eq_true (by first | (with_reducible assumption) | assumption)
             have q224 : x6_2 < (x3_1.length : Int) := of_decide_eq_true (by first | (with_reducible assumption) | assumption)
             obtain ⟨ad224, e224, hx224_0⟩ := Kd.qAB (Kd.qT HO_3.out).2.2 x6_2 p224 q224
             cases e224
             replace p224 := eq_true p224
             replace q224 := eq_true q224
             have p225 : 0 ≤ ((rd x3_1 x6_2) : Int) := of_decide_eq_true (by first | (with_reducible assumption) | assumption)
             have q225 : (rd x3_1 x6_2) < (l0_0.length : Int) := of_decide_eq_true (by first | (with_reducible assumption) | assumption)
             obtain ⟨ad225, e225, hx225_0, hx225_1, hx225_2⟩ := qnA HR0_0.out (rd x3_1 x6_2) p225 q225
             have hw225_2 := hx225_2
             have hw225_1 := hx225_1
             have hw225_0 := hx225_0
             obtain rfl : ad222 = ad225 := (by injection e225)
             replace hx225_0 := (HB.out.cell (World.block_lt_of_cell? w _ hx225_0)).trans hx225_0
             replace hx225_1 := (HB.out.cell (World.block_lt_of_cell? w _ hx225_1)).trans hx225_1
             replace hx225_2 := (HB.out.cell (World.block_lt_of_cell? w _ hx225_2)).trans hx225_2
             replace p225 := eq_true p225
             replace q225 := eq_true q225
             refine qyA (n := 18) (S := fun w' => w'.cell? ⟨gb221, 0, none⟩ = some (.slice (some ad222) l0_0.length c0_0) ∧ w'.cell? ⟨gb221, 1, none⟩ = some (.slice A0_1 l0_1.length c0_1) ∧ w'.cell? ⟨gb223, 0, none⟩ = some (.int .i64 ((qK l0_0 x11_1).f0)) ∧ w'.cell? ⟨gb223, 1, none⟩ = some (.int .i64 ((qK l0_0 x11_1).f1)) ∧ w'.cell? ⟨gb223, 2, none⟩ = some (.int .i64 ((qK l0_0 x11_1).f2)) ∧ w'.cell? (ad224.add (x6_2).toNat) = some (.int .i64 (rd x3_1 x6_2)) ∧ w'.cell? (ad222.add (((rd x3_1 x6_2)).toNat * 3)) = some (.int .i64 ((qK l0_0 (rd x3_1 x6_2)).f0)) ∧ w'.cell? ⟨(ad222.add (((rd x3_1 x6_2)).toNat * 3)).block, (ad222.add (((rd x3_1 x6_2)).toNat * 3)).off + 1, none⟩ = some (.int .i64 ((qK l0_0 (rd x3_1 x6_2)).f1)) ∧ w'.cell? ⟨(ad222.add (((rd x3_1 x6_2)).toNat * 3)).block, (ad222.add (((rd x3_1 x6_2)).toNat * 3)).off + 2, none⟩ = some (.int .i64 ((qK l0_0 (rd x3_1 x6_2)).f2))) (ds := []) #[false, false, false, false, false, false, false, false, false, false, false, false, false, false, false, false, false, false] (by kernel_rfl) rfl rfl ⟨(qL BK221.out 0).trans rfl, (qL BK221.out 1).trans rfl, (qL BK223.out 0).trans rfl, (qL BK223.out 1).trans rfl, (qL BK223.out 2).trans rfl, hx224_0, ((HB.out.cell (World.block_lt_of_cell? w _ hw225_0)).trans hw225_0), ((HB.out.cell (World.block_lt_of_cell? w _ hw225_1)).trans hw225_1), ((HB.out.cell (World.block_lt_of_cell? w _ hw225_2)).trans hw225_2)⟩ (fun hHeld => ?_); refine qWA qb.tab6 qb.bits6 (fun HT_ HW_ => ?_)
             generalize wr.drew = w17 at HO_3 BK221 BK223 HB hx224_0 hx225_0 hx225_1 hx225_2 hHeld ⊢
             refine pS (i := 0) (N := some 16) #[true, false, false, false, false, false, false, false, false, false, false, false, false, false, false, false, false, false] HT_ ?_
             refine pS (i := 1) (N := some 17) #[true, true, false, false, false, false, false, false, false, false, false, false, false, false, false, false, false, false] HT_ ?_
             refine pS (i := 2) (N := some 18) #[true, true, true, false, false, false, false, false, false, false, false, false, false, false, false, false, false, false] HT_ ?_
             refine pS (i := 3) (N := some 19) #[true, true, true, true, false, false, false, false, false, false, false, false, false, false, false, false, false, false] HT_ ?_
             refine pS (i := 4) (N := some 20) #[true, true, true, true, true, false, false, false, false, false, false, false, false, false, false, false, false, false] HT_ ?_
             refine pS (i := 5) (N := some 21) #[true, true, true, true, true, true, false, false, false, false, false, false, false, false, false, false, false, false] HT_ ?_
             refine pS (i := 7) (N := some 23) #[true, true, true, true, true, true, false, true, false, false, false, false, false, false, false, false, false, false] HT_ ?_
             refine pS (i := 8) (N := some 24) #[true, true, true, true, true, true, false, true, true, false, false, false, false, false, false, false, false, false] HT_ ?_
             refine pS (i := 9) (N := some 25) #[true, true, true, true, true, true, false, true, true, true, false, false, false, false, false, false, false, false] HT_ ?_
             refine tS (i := 6) (N := some 22) #[true, true, true, true, true, true, true, true, true, true, false, false, false, false, false, false, false, false] HT_ HW_ hHeld ?_
             refine tS (i := 10) (N := some 26) #[true, true, true, true, true, true, true, true, true, true, true, false, false, false, false, false, false, false] HT_ HW_ hHeld ?_
             refine pS (i := 11) (N := some 27) #[true, true, true, true, true, true, true, true, true, true, true, true, false, false, false, false, false, false] HT_ ?_
             refine tS (i := 12) (N := some 28) #[true, true, true, true, true, true, true, true, true, true, true, true, true, false, false, false, false, false] HT_ HW_ hHeld ?_
             refine tS (i := 14) (N := some 30) #[true, true, true, true, true, true, true, true, true, true, true, true, true, false, true, false, false, false] HT_ HW_ hHeld ?_
             refine one_ (i := 13) (N := some 29) #[true, true, true, true, true, true, true, true, true, true, true, true, true, true, true, false, false, false] rfl rfl (qQA HT_.out (by kernel_rfl)) (by decide) (fun K hK => ?_)
             refine goes_ Tryd.func18 (by kernel_rfl) rfl #[.agg #[.int .i64 ((qK l0_0 (rd x3_1 x6_2)).f0), .int .i64 ((qK l0_0 (rd x3_1 x6_2)).f1), .int .i64 ((qK l0_0 (rd x3_1 x6_2)).f2)]] (by rfl) rfl rfl (by (try simp only [List.map_toArray, List.map_cons, List.map_nil]); first | done | rfl | (simp only [List.length_drop, List.length_take]; rfl)) ?_
             with_reducible refine (qcA.calls ((qK l0_0 (rd x3_1 x6_2)).f0) ((qK l0_0 (rd x3_1 x6_2)).f1) ((qK l0_0 (rd x3_1 x6_2)).f2) t226 _ A14.out).mono ?_
             rintro e w19 ⟨rfl, hb⟩
             have HS5_ := (hb.cell (World.block_lt_of_cell? _ _ (hHeld.2.2.2.2.2.1))).trans (hHeld.2.2.2.2.2.1)
             refine ⟨_, rfl, ?_⟩
             have n0_ := Aside0.mk (Kd.qa (by (with_reducible repeat (first | apply Kd.qF | apply Kd.qE | apply Kd.qH)); exact HO_3.out) hb)
             have n1_ := Aside0.mk (bb BK221 hb)
             have n2_ := Aside0.mk (bb BK223 hb)
             have n3_ := Aside0.mk (qG bl hb)
             clear HO_3
             clear BK221
             clear BK223
             clear HB
             have HO_3 := n0_
             have BK221 := n1_
             have BK223 := n2_
             have HB := n3_
             clear n0_ n1_ n2_ n3_
             (try clear hb)
             (try clear hb2)
             (try clear hk)
             (try clear hi)
             refine hK.out _ _ ⟨(qL BK221.out 0).trans rfl, (qL BK221.out 1).trans rfl, (qL BK223.out 0).trans rfl, (qL BK223.out 1).trans rfl, (qL BK223.out 2).trans rfl, HS5_, ((HB.out.cell (World.block_lt_of_cell? w _ hw225_0)).trans hw225_0), ((HB.out.cell (World.block_lt_of_cell? w _ hw225_1)).trans hw225_1), ((HB.out.cell (World.block_lt_of_cell? w _ hw225_2)).trans hw225_2)⟩ (fun hHeld => ?_)
             clear hK K
             refine norm_ (a' := ?_) ?_ ?_
             rotate_left
             ·show Act.put _ (some 29) _ = _
              simp only [Act.put, List.setIfInBounds_toArray, List.set_cons_zero, List.set_cons_succ, i64_w, i32_w]
              rfl
             refine one_ (i := 15) (N := some 31) #[true, true, true, true, true, true, true, true, true, true, true, true, true, true, true, true, false, false] rfl rfl (qQA HT_.out (by kernel_rfl)) (by decide) (fun K hK => ?_)
             refine goes_ Tryd.func18 (by kernel_rfl) rfl #[.agg #[.int .i64 ((qK l0_0 x11_1).f0), .int .i64 ((qK l0_0 x11_1).f1), .int .i64 ((qK l0_0 x11_1).f2)]] (by rfl) rfl rfl (by (try simp only [List.map_toArray, List.map_cons, List.map_nil]); first | done | rfl | (simp only [List.length_drop, List.length_take]; rfl)) ?_
             with_reducible refine (qcA.calls ((qK l0_0 x11_1).f0) ((qK l0_0 x11_1).f1) ((qK l0_0 x11_1).f2) t227 _ A15.out).mono ?_
             rintro e w20 ⟨rfl, hb⟩
             have HS5_ := (hb.cell (World.block_lt_of_cell? _ _ (hHeld.2.2.2.2.2.1))).trans (hHeld.2.2.2.2.2.1)
             refine ⟨_, rfl, ?_⟩
             have n0_ := Aside0.mk (Kd.qa (by (with_reducible repeat (first | apply Kd.qF | apply Kd.qE | apply Kd.qH)); exact HO_3.out) hb)
             have n1_ := Aside0.mk (bb BK221 hb)
             have n2_ := Aside0.mk (bb BK223 hb)
             have n3_ := Aside0.mk (qG bl hb)
             clear HO_3
             clear BK221
             clear BK223
             clear HB
             have HO_3 := n0_
             have BK221 := n1_
             have BK223 := n2_
             have HB := n3_
             clear n0_ n1_ n2_ n3_
             (try clear hb)
             (try clear hb2)
             (try clear hk)
             (try clear hi)
             refine hK.out _ _ ⟨(qL BK221.out 0).trans rfl, (qL BK221.out 1).trans rfl, (qL BK223.out 0).trans rfl, (qL BK223.out 1).trans rfl, (qL BK223.out 2).trans rfl, HS5_, ((HB.out.cell (World.block_lt_of_cell? w _ hw225_0)).trans hw225_0), ((HB.out.cell (World.block_lt_of_cell? w _ hw225_1)).trans hw225_1), ((HB.out.cell (World.block_lt_of_cell? w _ hw225_2)).trans hw225_2)⟩ (fun hHeld => ?_)
             clear hK K
             refine norm_ (a' := ?_) ?_ ?_
             rotate_left
             ·show Act.put _ (some 31) _ = _
              simp only [Act.put, List.setIfInBounds_toArray, List.set_cons_zero, List.set_cons_succ, i64_w, i32_w]
              rfl
             refine pS (i := 16) (N := some 32) #[true, true, true, true, true, true, true, true, true, true, true, true, true, true, true, true, true, false] HT_ ?_
             refine pS (i := 17) (N := some 33) #[true, true, true, true, true, true, true, true, true, true, true, true, true, true, true, true, true, true] HT_ ?_
             refine done_ (qqA HT_.out (by kernel_rfl)) ?_
             try go_wp2
             go_roundg k2
             case measure => have := HK1.out; have := HK2.out; omega
             case rel => exact ⟨(wrap64 (x6_2 + 1)), (by first | rfl | (simp; done) | (simp [*]; done)), H', ⟨by have := HK1.out; have := HK2.out; omega⟩, ⟨by (with_reducible repeat (first | apply Kd.qF | apply Kd.qE | apply Kd.qH)); exact HO_3.out⟩, ⟨by (with_reducible repeat (first | refine qB ?_ _ | refine qD ?_ | refine qA ?_ _)); exact BK221.out⟩, ⟨by (with_reducible repeat (first | refine qB ?_ _ | refine qD ?_ | refine qA ?_ _)); exact BK223.out⟩, ⟨bl⟩⟩
            ·rw [if_neg c16] at H
             have c16b0 : decide (t226 < t227) = false := decide_eq_false c16
             clear c16
             have c21b0 := eq_true (of_decide_eq_true (by first | (with_reducible assumption) | assumption) : 0 ≤ x6_2)
             by_cases c22 : x6_2 ≤ (x3_1.length : Int)
             ·rw [if_pos c22] at H
              have c22b0 := eq_true c22
              have c22b1 : decide (x6_2 ≤ (x3_1.length : Int)) = true := decide_eq_true c22
              clear c22
              obtain ⟨y228, hy228⟩ : ∃ y_ : List Int, y_ = (x3_1.take (x6_2 : Int).toNat) := ⟨_, rfl⟩
              replace H : ((qeA.f y228).bind fun t232 => (if t232.length < 17592186044416 then ((some (t232 ++ [x11_1] : List Int)).bind fun y235 => ((some (x3_1.drop (x6_2 : Int).toNat : List Int)).bind fun y238 => (if y235.length + y238.length < 17592186044416 then (qb.l0 k2 (y235 ++ y238) l0_0 (l0_0.length : Int) (wrap64 (x11_1 + 1)) l0_0 l0_1) else (none)))) else (none))) = some r := by first | (rw [hy228]; with_reducible exact H) | (have H2_ := (Option.bind_some _ _).symm.trans H; rw [hy228]; with_reducible exact H2_) | (have H2_ := (Option.bind_some _ _).symm.trans H; with_reducible exact H2_) | with_reducible exact H | (rw [hy228]; exact H) | exact H
              have Ny228 := Aside0.mk hy228
              clear hy228
              replace H := Option.bind_eq_some_iff.mp H
              obtain ⟨t232, A230, H⟩ := H
              replace H : (if t232.length < 17592186044416 then ((some (t232 ++ [x11_1] : List Int)).bind fun y235 => ((some (x3_1.drop (x6_2 : Int).toNat : List Int)).bind fun y238 => (if y235.length + y238.length < 17592186044416 then (qb.l0 k2 (y235 ++ y238) l0_0 (l0_0.length : Int) (wrap64 (x11_1 + 1)) l0_0 l0_1) else (none)))) else (none)) = some r := H
              have A23 := Aside0.mk A230
              clear A230
              by_cases c24 : t232.length < 17592186044416
              ·rw [if_pos c24] at H
               have LMc24 := Aside0.mk c24
               clear c24
               obtain ⟨y235, hy235⟩ : ∃ y_ : List Int, y_ = (t232 ++ [x11_1]) := ⟨_, rfl⟩
               replace H : ((some (x3_1.drop (x6_2 : Int).toNat : List Int)).bind fun y238 => (if y235.length + y238.length < 17592186044416 then (qb.l0 k2 (y235 ++ y238) l0_0 (l0_0.length : Int) (wrap64 (x11_1 + 1)) l0_0 l0_1) else (none))) = some r := by first | (rw [hy235]; with_reducible exact H) | (have H2_ := (Option.bind_some _ _).symm.trans H; rw [hy235]; with_reducible exact H2_) | (have H2_ := (Option.bind_some _ _).symm.trans H; with_reducible exact H2_) | with_reducible exact H | (rw [hy235]; exact H) | exact H
               have Ny235 := Aside0.mk hy235
               clear hy235
               have c25b0 := eq_true (of_decide_eq_true (by first | (with_reducible assumption) | assumption) : 0 ≤ x6_2)
               have c26b0 := eq_true (of_decide_eq_true (by first | (with_reducible assumption) | assumption) : x6_2 ≤ (x3_1.length : Int))
               obtain ⟨y238, hy238⟩ : ∃ y_ : List Int, y_ = (x3_1.drop (x6_2 : Int).toNat) := ⟨_, rfl⟩
               replace H : (if y235.length + y238.length < 17592186044416 then (qb.l0 k2 (y235 ++ y238) l0_0 (l0_0.length : Int) (wrap64 (x11_1 + 1)) l0_0 l0_1) else (none)) = some r := by first | (rw [hy238]; with_reducible exact H) | (have H2_ := (Option.bind_some _ _).symm.trans H; rw [hy238]; with_reducible exact H2_) | (have H2_ := (Option.bind_some _ _).symm.trans H; with_reducible exact H2_) | with_reducible exact H | (rw [hy238]; exact H) | exact H
               have Ny238 := Aside0.mk hy238
               clear hy238
               by_cases c27 : y235.length + y238.length < 17592186044416
               ·rw [if_pos c27] at H
                have LMc27 := Aside0.mk c27
                clear c27
                obtain ⟨y242, hy242⟩ : ∃ y_ : List Int, y_ = (y235 ++ y238) := ⟨_, rfl⟩
                replace H : (qb.l0 k2 y242 l0_0 (l0_0.length : Int) (wrap64 (x11_1 + 1)) l0_0 l0_1) = some r := by first | (rw [hy242]; with_reducible exact H) | (have H2_ := (Option.bind_some _ _).symm.trans H; rw [hy242]; with_reducible exact H2_) | (have H2_ := (Option.bind_some _ _).symm.trans H; with_reducible exact H2_) | with_reducible exact H | (rw [hy242]; exact H) | exact H
                have Ny242 := Aside0.mk hy242
                clear hy242
                have H' := Aside0.mk H
                clear H
                try go_wp2
                have n0_ := Aside0.mk (Kd.qH HO_3.out)
                have n1_ := Aside0.mk (qD BK221.out)
                have n2_ := Aside0.mk (qD BK223.out)
                have n3_ := Aside0.mk (qm HB.out)
                clear HO_3
                clear BK221
                clear BK223
                clear HB
                have HO_3 := n0_
                have BK221 := n1_
                have BK223 := n2_
                have HB := n3_
                clear n0_ n1_ n2_ n3_
                obtain ⟨Ao29, co29, eo29⟩ := Kd.qo HO_3.out
                (first | subst eo29 | (injection eo29 with f1_ f2_ f3_; have f4_ := f1_.symm; have f5_ := f3_.symm; clear f1_ f2_ f3_; subst f4_; subst f5_))
                have p224 : 0 ≤ (x6_2 : Int) := of_decide_eq_true (by first | (with_reducible assumption) | assumption)
                have q224 : x6_2 < (x3_1.length : Int) := of_decide_eq_true (by first | (with_reducible assumption) | assumption)
                obtain ⟨ad224, e224, hx224_0⟩ := Kd.qAB (Kd.qT HO_3.out).2.2 x6_2 p224 q224
                cases e224
                replace p224 := eq_true p224
                replace q224 := eq_true q224
                have p225 : 0 ≤ ((rd x3_1 x6_2) : Int) := of_decide_eq_true (by first | (with_reducible assumption) | assumption)
                have q225 : (rd x3_1 x6_2) < (l0_0.length : Int) := of_decide_eq_true (by first | (with_reducible assumption) | assumption)
                obtain ⟨ad225, e225, hx225_0, hx225_1, hx225_2⟩ := qnA HR0_0.out (rd x3_1 x6_2) p225 q225
                have hw225_2 := hx225_2
                have hw225_1 := hx225_1
                have hw225_0 := hx225_0
                obtain rfl : ad222 = ad225 := (by injection e225)
                replace hx225_0 := (HB.out.cell (World.block_lt_of_cell? w _ hx225_0)).trans hx225_0
                replace hx225_1 := (HB.out.cell (World.block_lt_of_cell? w _ hx225_1)).trans hx225_1
                replace hx225_2 := (HB.out.cell (World.block_lt_of_cell? w _ hx225_2)).trans hx225_2
                replace p225 := eq_true p225
                replace q225 := eq_true q225
                refine qyA (n := 18) (S := fun w' => w'.cell? ⟨gb221, 0, none⟩ = some (.slice (some ad222) l0_0.length c0_0) ∧ w'.cell? ⟨gb221, 1, none⟩ = some (.slice A0_1 l0_1.length c0_1) ∧ w'.cell? ⟨gb223, 0, none⟩ = some (.int .i64 ((qK l0_0 x11_1).f0)) ∧ w'.cell? ⟨gb223, 1, none⟩ = some (.int .i64 ((qK l0_0 x11_1).f1)) ∧ w'.cell? ⟨gb223, 2, none⟩ = some (.int .i64 ((qK l0_0 x11_1).f2)) ∧ w'.cell? (ad224.add (x6_2).toNat) = some (.int .i64 (rd x3_1 x6_2)) ∧ w'.cell? (ad222.add (((rd x3_1 x6_2)).toNat * 3)) = some (.int .i64 ((qK l0_0 (rd x3_1 x6_2)).f0)) ∧ w'.cell? ⟨(ad222.add (((rd x3_1 x6_2)).toNat * 3)).block, (ad222.add (((rd x3_1 x6_2)).toNat * 3)).off + 1, none⟩ = some (.int .i64 ((qK l0_0 (rd x3_1 x6_2)).f1)) ∧ w'.cell? ⟨(ad222.add (((rd x3_1 x6_2)).toNat * 3)).block, (ad222.add (((rd x3_1 x6_2)).toNat * 3)).off + 2, none⟩ = some (.int .i64 ((qK l0_0 (rd x3_1 x6_2)).f2))) (ds := []) #[false, false, false, false, false, false, false, false, false, false, false, false, false, false, false, false, false, false] (by kernel_rfl) rfl rfl ⟨(qL BK221.out 0).trans rfl, (qL BK221.out 1).trans rfl, (qL BK223.out 0).trans rfl, (qL BK223.out 1).trans rfl, (qL BK223.out 2).trans rfl, hx224_0, ((HB.out.cell (World.block_lt_of_cell? w _ hw225_0)).trans hw225_0), ((HB.out.cell (World.block_lt_of_cell? w _ hw225_1)).trans hw225_1), ((HB.out.cell (World.block_lt_of_cell? w _ hw225_2)).trans hw225_2)⟩ (fun hHeld => ?_); refine qWA qb.tab6 qb.bits6 (fun HT_ HW_ => ?_)
                generalize wr.drew = w28 at HO_3 BK221 BK223 HB hx224_0 hx225_0 hx225_1 hx225_2 hHeld ⊢
                refine pS (i := 0) (N := some 16) #[true, false, false, false, false, false, false, false, false, false, false, false, false, false, false, false, false, false] HT_ ?_
                refine pS (i := 1) (N := some 17) #[true, true, false, false, false, false, false, false, false, false, false, false, false, false, false, false, false, false] HT_ ?_
                refine pS (i := 2) (N := some 18) #[true, true, true, false, false, false, false, false, false, false, false, false, false, false, false, false, false, false] HT_ ?_
                refine pS (i := 3) (N := some 19) #[true, true, true, true, false, false, false, false, false, false, false, false, false, false, false, false, false, false] HT_ ?_
                refine pS (i := 4) (N := some 20) #[true, true, true, true, true, false, false, false, false, false, false, false, false, false, false, false, false, false] HT_ ?_
                refine pS (i := 5) (N := some 21) #[true, true, true, true, true, true, false, false, false, false, false, false, false, false, false, false, false, false] HT_ ?_
                refine pS (i := 7) (N := some 23) #[true, true, true, true, true, true, false, true, false, false, false, false, false, false, false, false, false, false] HT_ ?_
                refine pS (i := 8) (N := some 24) #[true, true, true, true, true, true, false, true, true, false, false, false, false, false, false, false, false, false] HT_ ?_
                refine pS (i := 9) (N := some 25) #[true, true, true, true, true, true, false, true, true, true, false, false, false, false, false, false, false, false] HT_ ?_
                refine tS (i := 6) (N := some 22) #[true, true, true, true, true, true, true, true, true, true, false, false, false, false, false, false, false, false] HT_ HW_ hHeld ?_
                refine tS (i := 10) (N := some 26) #[true, true, true, true, true, true, true, true, true, true, true, false, false, false, false, false, false, false] HT_ HW_ hHeld ?_
                refine pS (i := 11) (N := some 27) #[true, true, true, true, true, true, true, true, true, true, true, true, false, false, false, false, false, false] HT_ ?_
                refine tS (i := 12) (N := some 28) #[true, true, true, true, true, true, true, true, true, true, true, true, true, false, false, false, false, false] HT_ HW_ hHeld ?_
                refine tS (i := 14) (N := some 30) #[true, true, true, true, true, true, true, true, true, true, true, true, true, false, true, false, false, false] HT_ HW_ hHeld ?_
                refine one_ (i := 13) (N := some 29) #[true, true, true, true, true, true, true, true, true, true, true, true, true, true, true, false, false, false] rfl rfl (qQA HT_.out (by kernel_rfl)) (by decide) (fun K hK => ?_)
                refine goes_ Tryd.func18 (by kernel_rfl) rfl #[.agg #[.int .i64 ((qK l0_0 (rd x3_1 x6_2)).f0), .int .i64 ((qK l0_0 (rd x3_1 x6_2)).f1), .int .i64 ((qK l0_0 (rd x3_1 x6_2)).f2)]] (by rfl) rfl rfl (by (try simp only [List.map_toArray, List.map_cons, List.map_nil]); first | done | rfl | (simp only [List.length_drop, List.length_take]; rfl)) ?_
                with_reducible refine (qcA.calls ((qK l0_0 (rd x3_1 x6_2)).f0) ((qK l0_0 (rd x3_1 x6_2)).f1) ((qK l0_0 (rd x3_1 x6_2)).f2) t226 _ A14.out).mono ?_
                rintro e w30 ⟨rfl, hb⟩
                have HS5_ := (hb.cell (World.block_lt_of_cell? _ _ (hHeld.2.2.2.2.2.1))).trans (hHeld.2.2.2.2.2.1)
                refine ⟨_, rfl, ?_⟩
                have n0_ := Aside0.mk (Kd.qa (by (with_reducible repeat (first | apply Kd.qF | apply Kd.qE | apply Kd.qH)); exact HO_3.out) hb)
                have n1_ := Aside0.mk (bb BK221 hb)
                have n2_ := Aside0.mk (bb BK223 hb)
                have n3_ := Aside0.mk (qG bl hb)
                clear HO_3
                clear BK221
                clear BK223
                clear HB
                have HO_3 := n0_
                have BK221 := n1_
                have BK223 := n2_
                have HB := n3_
                clear n0_ n1_ n2_ n3_
                (try clear hb)
                (try clear hb2)
                (try clear hk)
                (try clear hi)
                refine hK.out _ _ ⟨(qL BK221.out 0).trans rfl, (qL BK221.out 1).trans rfl, (qL BK223.out 0).trans rfl, (qL BK223.out 1).trans rfl, (qL BK223.out 2).trans rfl, HS5_, ((HB.out.cell (World.block_lt_of_cell? w _ hw225_0)).trans hw225_0), ((HB.out.cell (World.block_lt_of_cell? w _ hw225_1)).trans hw225_1), ((HB.out.cell (World.block_lt_of_cell? w _ hw225_2)).trans hw225_2)⟩ (fun hHeld => ?_)
                clear hK K
                refine norm_ (a' := ?_) ?_ ?_
                rotate_left
                ·show Act.put _ (some 29) _ = _
                 simp only [Act.put, List.setIfInBounds_toArray, List.set_cons_zero, List.set_cons_succ, i64_w, i32_w]
                 rfl
                refine one_ (i := 15) (N := some 31) #[true, true, true, true, true, true, true, true, true, true, true, true, true, true, true, true, false, false] rfl rfl (qQA HT_.out (by kernel_rfl)) (by decide) (fun K hK => ?_)
                refine goes_ Tryd.func18 (by kernel_rfl) rfl #[.agg #[.int .i64 ((qK l0_0 x11_1).f0), .int .i64 ((qK l0_0 x11_1).f1), .int .i64 ((qK l0_0 x11_1).f2)]] (by rfl) rfl rfl (by (try simp only [List.map_toArray, List.map_cons, List.map_nil]); first | done | rfl | (simp only [List.length_drop, List.length_take]; rfl)) ?_
                with_reducible refine (qcA.calls ((qK l0_0 x11_1).f0) ((qK l0_0 x11_1).f1) ((qK l0_0 x11_1).f2) t227 _ A15.out).mono ?_
                rintro e w31 ⟨rfl, hb⟩
                have HS5_ := (hb.cell (World.block_lt_of_cell? _ _ (hHeld.2.2.2.2.2.1))).trans (hHeld.2.2.2.2.2.1)
                refine ⟨_, rfl, ?_⟩
                have n0_ := Aside0.mk (Kd.qa (by (with_reducible repeat (first | apply Kd.qF | apply Kd.qE | apply Kd.qH)); exact HO_3.out) hb)
                have n1_ := Aside0.mk (bb BK221 hb)
                have n2_ := Aside0.mk (bb BK223 hb)
                have n3_ := Aside0.mk (qG bl hb)
                clear HO_3
                clear BK221
                clear BK223
                clear HB
                have HO_3 := n0_
                have BK221 := n1_
                have BK223 := n2_
                have HB := n3_
                clear n0_ n1_ n2_ n3_
                (try clear hb)
                (try clear hb2)
                (try clear hk)
                (try clear hi)
                refine hK.out _ _ ⟨(qL BK221.out 0).trans rfl, (qL BK221.out 1).trans rfl, (qL BK223.out 0).trans rfl, (qL BK223.out 1).trans rfl, (qL BK223.out 2).trans rfl, HS5_, ((HB.out.cell (World.block_lt_of_cell? w _ hw225_0)).trans hw225_0), ((HB.out.cell (World.block_lt_of_cell? w _ hw225_1)).trans hw225_1), ((HB.out.cell (World.block_lt_of_cell? w _ hw225_2)).trans hw225_2)⟩ (fun hHeld => ?_)
                clear hK K
                refine norm_ (a' := ?_) ?_ ?_
                rotate_left
                ·show Act.put _ (some 31) _ = _
                 simp only [Act.put, List.setIfInBounds_toArray, List.set_cons_zero, List.set_cons_succ, i64_w, i32_w]
                 rfl
                refine pS (i := 16) (N := some 32) #[true, true, true, true, true, true, true, true, true, true, true, true, true, true, true, true, true, false] HT_ ?_
                refine pS (i := 17) (N := some 33) #[true, true, true, true, true, true, true, true, true, true, true, true, true, true, true, true, true, true] HT_ ?_
                refine done_ (qqA HT_.out (by kernel_rfl)) ?_
                have q32 : (x6_2 : Int) ≤ ((x3_1.length : Int) : Int) := of_decide_eq_true (by first | (with_reducible assumption) | assumption)
                obtain ⟨i032, hi032, _, hsz32, _⟩ := info_parts info3
                have hroom32 : x3_1.length ≤ co29 := (Kd.qT HO_3.out).2.1
                have hC32 : Kd.C (Kd.int .i64) _ (some ad224) x3_1.length x3_1 := (Kd.qT HO_3.out).2.2
                have hcut32 := cut_to (P := Tryd.prog) 40 3 .i64 Tryd.underlying40 hi032 (some ad224) x3_1.length co29 x6_2 (of_decide_eq_true (by first | (with_reducible assumption) | assumption)) q32 hroom32
                have hr32 := Kd.qUC (m := (x6_2 : Int).toNat) hC32 (by omega)
                have hy32 : y228.length = (x6_2 : Int).toNat := (by rw [Ny228.out, List.length_take]; omega)
                rw [← Ny228.out] at hr32
                rw [← hy32] at hcut32
                have HR231 := Aside0.mk hr32
                have HC231 := Aside0.mk (show y228.length ≤ co29 from by omega)
                clear hr32 hC32 hroom32 hi032 hsz32
                have KY32 := Aside0.mk hy32
                clear hy32
                have KL32 := Aside0.mk (show (x6_2 : Int).toNat ≤ x3_1.length from by omega)
                replace q32 := eq_true q32
                try go_wp2_with (first | ((with_reducible refine qS (f := 19) rfl ?_); refine qt (some 39) rfl rfl Tryd.func19 (by kernel_rfl) rfl #[.slice (some ad224) y228.length co29] rfl (by (try simp only [List.map_toArray, List.map_cons, List.map_nil]); first | done | rfl | (simp only [List.length_drop, List.length_take]; rfl)) ?_; (with_reducible refine (qeA.calls _ _ y228 t232 _ ?side1 ?side2 A23.out).mono ?_); (case side1 => repeat (first | exact (by repeat (first | (with_reducible exact HR231.out) | (with_reducible refine Kd.qz ?_ _) | (with_reducible refine Kd.qy ?_ _) | (with_reducible refine Kd.qNA ?_) | exact HR231.out)) | (with_reducible refine Kd.qz ?_ _) | (with_reducible refine Kd.qy ?_ _) | (with_reducible refine Kd.qNA ?_))); (case side2 => exact HC231.out); rintro e w33 ⟨v233, rfl, ho0, hb⟩; refine ⟨_, rfl, ?_⟩; have n0_ := Aside0.mk (Kd.qkA (by (with_reducible repeat (first | apply Kd.qF | apply Kd.qE | apply Kd.qH)); exact HO_3.out) (Kd.qMB ho0) hb); have n1_ := Aside0.mk (Kd.qHA (Kd.qLB ho0 (Kd.R_lt (by (with_reducible repeat (first | apply Kd.qF | apply Kd.qE | apply Kd.qH)); exact HO_3.out))) (qg bl)); have n2_ := Aside0.mk (bb BK221 hb); have n3_ := Aside0.mk (bb BK223 hb); have n4_ := Aside0.mk (Kd.qYA (by repeat (first | (with_reducible exact HR231.out) | (with_reducible refine Kd.qz ?_ _) | (with_reducible refine Kd.qy ?_ _) | (with_reducible refine Kd.qNA ?_) | exact HR231.out)) hb); have n5_ := Aside0.mk (qG bl hb); clear HO_3; clear BK221; clear BK223; clear HR231; clear HB; have HO_3 := n0_; have HO234 := n1_; have BK221 := n2_; have BK223 := n3_; have HR231 := n4_; have HB := n5_; clear n0_ n1_ n2_ n3_ n4_ n5_; (try clear hb); (try clear hb2); (try clear hk); (try clear hi); (try clear ho0)) | ((with_reducible refine qiA (b := .append) (xs := #[.tmp 39, .tmp 41]) rfl ?_); at_builtin; refine Kd.qJC (Kd.int .i64) (w0 := w) w.heap.size rfl (.tmp 39) (.tmp 41) 40 3 (.int .i64 0) 8 rfl Tryd.underlying40 info3 rfl (by decide) (by omega) v233 t232 x11_1 [.int .i64 x11_1] (fun k_ => some k_ ≠ (.slice (some ad224) x3_1.length co29 : Value).ownBlock) (fun _ => False) rfl rfl ?aP (fun _ hk => hk.elim) ?aF ?aO ?aB ?aS ?aL ?_; (case aP => exact rfl); (case aB => exact bl); (case aF => exact (fun k_ hk => Kd.fresh' (Kd.R_lt (by (with_reducible repeat (first | apply Kd.qF | apply Kd.qE | apply Kd.qH)); exact HO_3.out)) k_ hk)); (case aO => exact (by (with_reducible repeat (first | apply Kd.qF | apply Kd.qE | apply Kd.qH)); exact Kd.qh HO234.out (fun _ hk => hk.2))); (case aS => exact (qg bl)); (case aL => have := LMc24.out; omega); intro v236 w34 ho hb hg hat; rw [← Ny235.out] at ho; have n0_ := Aside0.mk (Kd.qlA (ok := (fun _ => True)) (by (with_reducible repeat (first | apply Kd.qF | apply Kd.qE | apply Kd.qH)); exact HO_3.out) hg hat); have n1_ := Aside0.mk (qFA (g := gb221) (o := .cells #[.slice (some ad222) l0_0.length c0_0, .slice A0_1 l0_1.length c0_1] 37 (0, 0)) (by (with_reducible repeat (first | refine qB ?_ _ | refine qD ?_ | refine qA ?_ _)); exact BK221.out) hg (Kd.R_ne HO234.out BK221.out (by decide))); have n2_ := Aside0.mk (qFA (g := gb223) (o := .cells #[.int .i64 ((qK l0_0 x11_1).f0), .int .i64 ((qK l0_0 x11_1).f1), .int .i64 ((qK l0_0 x11_1).f2)] 27 (0, 0)) (by (with_reducible repeat (first | refine qB ?_ _ | refine qD ?_ | refine qA ?_ _)); exact BK223.out) hg (Kd.R_ne HO234.out BK223.out (by decide))); have n3_ := Aside0.mk (hb); have n4_ := Aside0.mk ((show Kd.C (Kd.int .i64) w34 (some ad224) y228.length y228 from by rw [Ny228.out]; exact Kd.qUC (m := (x6_2 : Int).toNat) ((Kd.qT (Kd.qlA (ok := (fun _ => True)) (by (with_reducible repeat (first | apply Kd.qF | apply Kd.qE | apply Kd.qH)); exact HO_3.out) hg hat)).2.2) KL32.out)); have n5_ := Aside0.mk (ho); clear HO_3; clear BK221; clear BK223; clear HB; clear HR231; clear HO234; have HO_3 := n0_; have BK221 := n1_; have BK223 := n2_; have HB := n3_; have HR231 := n4_; have HO237 := n5_; clear n0_ n1_ n2_ n3_ n4_ n5_; clear ho hb hg hat; have q35 : (x6_2 : Int) ≤ ((x3_1.length : Int) : Int) := of_decide_eq_true (by first | (with_reducible assumption) | assumption); obtain ⟨i035, hi035, _, hsz35, _⟩ := info_parts info3; have hroom35 : x3_1.length ≤ co29 := (Kd.qT HO_3.out).2.1; have hC35 : Kd.C (Kd.int .i64) _ (some ad224) x3_1.length x3_1 := (Kd.qT HO_3.out).2.2; have q035 : (0 : Int) ≤ (x6_2 : Int) := of_decide_eq_true (by first | (with_reducible assumption) | assumption); have hcut35 := cut_from (P := Tryd.prog) 40 3 .i64 Tryd.underlying40 hi035 1 hsz35 (some ad224) x3_1.length co29 x6_2 q035 q35; have hr35 := Kd.qiC (m := (x6_2 : Int).toNat) (c := co29) hC35 (by omega) hroom35; obtain ⟨A35, hA35⟩ : ∃ A1, A1 = (if co29 = (x6_2 : Int).toNat then (some ad224) else ((some ad224) : Option Addr).map (·.add ((x6_2 : Int).toNat * 1))) := ⟨_, rfl⟩; obtain ⟨c35, hc35⟩ : ∃ c1, c1 = co29 - (x6_2 : Int).toNat := ⟨_, rfl⟩; have hy35 : y238.length = x3_1.length - (x6_2 : Int).toNat := (by rw [Ny238.out, List.length_drop] <;> omega); rw [show (x3_1).drop (x6_2 : Int).toNat = y238 from Ny238.out.symm] at hr35; replace hr35 : Kd.C (Kd.int .i64) _ A35 y238.length y238 := (by rw [hA35]; exact hr35); rw [← hy35, ← hA35, ← hc35] at hcut35; have HR241 := Aside0.mk hr35; have HC241 := Aside0.mk (show y238.length ≤ c35 from by rw [hy35, hc35]; exact Nat.sub_le_sub_right hroom35 _); clear hr35 hC35 hroom35 hi035 hsz35 hc35; have KY35 := Aside0.mk hy35; have KA35 := Aside0.mk hA35; clear hy35 hA35; have KL35 := Aside0.mk (show (x6_2 : Int).toNat ≤ x3_1.length from by omega); replace q35 := eq_true q35) | ((with_reducible refine qiA (b := .append) (xs := #[.tmp 43, .tmp 46]) rfl ?_); at_builtin; refine Kd.qEB (Kd.int .i64) (w0 := w) w.heap.size rfl (.tmp 43) (.tmp 46) 40 3 (.int .i64 0) 8 rfl Tryd.underlying40 info3 rfl (by decide) (by omega) v236 y235 y238 _ _ _ (fun k_ => some k_ ≠ (.slice (some ad224) x3_1.length co29 : Value).ownBlock) (fun _ => False) rfl rfl ?aO ?aR (fun _ _ h => h) (fun _ h => h.elim) ?aF ?aB ?aS ?aL ?_; (case aR => repeat (first | exact (by repeat (first | (with_reducible exact HR241.out) | (with_reducible refine Kd.qz ?_ _) | (with_reducible refine Kd.qy ?_ _) | (with_reducible refine Kd.qNA ?_) | exact HR241.out)) | (with_reducible refine Kd.qz ?_ _) | (with_reducible refine Kd.qy ?_ _) | (with_reducible refine Kd.qNA ?_))); (case aB => exact bl); (case aF => exact (fun k_ hk => Kd.fresh' (Kd.R_lt (by (with_reducible repeat (first | apply Kd.qF | apply Kd.qE | apply Kd.qH)); exact HO_3.out)) k_ hk)); (case aO => exact (by (with_reducible repeat (first | apply Kd.qF | apply Kd.qE | apply Kd.qH)); exact HO237.out)); (case aS => exact (qg bl)); (case aL => have := LMc27.out; omega); intro v243 w36 ho hb hg hat; rw [← Ny242.out] at ho; have n0_ := Aside0.mk (Kd.qlA (ok := (fun _ => True)) (by (with_reducible repeat (first | apply Kd.qF | apply Kd.qE | apply Kd.qH)); exact HO_3.out) hg hat); have n1_ := Aside0.mk (qFA (g := gb221) (o := .cells #[.slice (some ad222) l0_0.length c0_0, .slice A0_1 l0_1.length c0_1] 37 (0, 0)) (by (with_reducible repeat (first | refine qB ?_ _ | refine qD ?_ | refine qA ?_ _)); exact BK221.out) hg (Kd.R_ne HO237.out BK221.out (by decide))); have n2_ := Aside0.mk (qFA (g := gb223) (o := .cells #[.int .i64 ((qK l0_0 x11_1).f0), .int .i64 ((qK l0_0 x11_1).f1), .int .i64 ((qK l0_0 x11_1).f2)] 27 (0, 0)) (by (with_reducible repeat (first | refine qB ?_ _ | refine qD ?_ | refine qA ?_ _)); exact BK223.out) hg (Kd.R_ne HO237.out BK223.out (by decide))); have n3_ := Aside0.mk (hb); have n4_ := Aside0.mk ((show Kd.C (Kd.int .i64) w36 (some ad224) y228.length y228 from by rw [Ny228.out]; exact Kd.qUC (m := (x6_2 : Int).toNat) ((Kd.qT (Kd.qlA (ok := (fun _ => True)) (by (with_reducible repeat (first | apply Kd.qF | apply Kd.qE | apply Kd.qH)); exact HO_3.out) hg hat)).2.2) KL32.out)); have n5_ := Aside0.mk ((show Kd.C (Kd.int .i64) w36 A35 y238.length y238 from by rw [Ny238.out, KA35.out]; exact Kd.qiC (m := (x6_2 : Int).toNat) (c := co29) ((Kd.qT (Kd.qlA (ok := (fun _ => True)) (by (with_reducible repeat (first | apply Kd.qF | apply Kd.qE | apply Kd.qH)); exact HO_3.out) hg hat)).2.2) KL35.out ((Kd.qT (Kd.qlA (ok := (fun _ => True)) (by (with_reducible repeat (first | apply Kd.qF | apply Kd.qE | apply Kd.qH)); exact HO_3.out) hg hat)).2.1))); have n6_ := Aside0.mk (ho); clear HO_3; clear BK221; clear BK223; clear HB; clear HR231; clear HR241; clear HO237; have HO_3 := n0_; have BK221 := n1_; have BK223 := n2_; have HB := n3_; have HR231 := n4_; have HR241 := n5_; have HO244 := n6_; clear n0_ n1_ n2_ n3_ n4_ n5_ n6_; clear ho hb hg hat))
                go_roundg k2
                case measure => have := HK1.out; have := HK2.out; omega
                case rel => exact ⟨(y242), (wrap64 (x11_1 + 1)), (by first | rfl | (simp; done) | (simp [*]; done)), H', ⟨by have := HK1.out; have := HK2.out; omega⟩, ⟨by (with_reducible repeat (first | apply Kd.qF | apply Kd.qE | apply Kd.qH)); exact Kd.qh HO244.out (fun _ hk => trivial)⟩, ⟨by (with_reducible repeat (first | refine qB ?_ _ | refine qD ?_ | refine qA ?_ _)); exact BK221.out⟩, ⟨bl⟩⟩
               ·rw [if_neg c27] at H
                exact absurd H (by simp)
              ·rw [if_neg c24] at H
               exact absurd H (by simp)
             ·rw [if_neg c22] at H
              exact absurd H (by simp)
           ·rw [if_neg c13] at H
            exact absurd H (by simp)
          ·rw [if_neg c12] at H
           exact absurd H (by simp)
         ·rw [if_neg c11] at H
          exact absurd H (by simp)
        ·rw [if_neg c10] at H
         have c10b0 : decide (x6_2 < (x3_1.length : Int)) = false := decide_eq_false c10
         clear c10
         by_cases c37 : 0 ≤ x6_2
         ·rw [if_pos c37] at H
          have c37b0 := eq_true c37
          have c37b1 : decide (0 ≤ x6_2) = true := decide_eq_true c37
          clear c37
          by_cases c38 : x6_2 ≤ (x3_1.length : Int)
          ·rw [if_pos c38] at H
           have c38b0 := eq_true c38
           have c38b1 : decide (x6_2 ≤ (x3_1.length : Int)) = true := decide_eq_true c38
           clear c38
           obtain ⟨y245, hy245⟩ : ∃ y_ : List Int, y_ = (x3_1.take (x6_2 : Int).toNat) := ⟨_, rfl⟩
           replace H : ((qeA.f y245).bind fun t249 => (if t249.length < 17592186044416 then ((some (t249 ++ [x11_1] : List Int)).bind fun y252 => ((some (x3_1.drop (x6_2 : Int).toNat : List Int)).bind fun y255 => (if y252.length + y255.length < 17592186044416 then (qb.l0 k2 (y252 ++ y255) l0_0 (l0_0.length : Int) (wrap64 (x11_1 + 1)) l0_0 l0_1) else (none)))) else (none))) = some r := by first | (rw [hy245]; with_reducible exact H) | (have H2_ := (Option.bind_some _ _).symm.trans H; rw [hy245]; with_reducible exact H2_) | (have H2_ := (Option.bind_some _ _).symm.trans H; with_reducible exact H2_) | with_reducible exact H | (rw [hy245]; exact H) | exact H
           have Ny245 := Aside0.mk hy245
           clear hy245
           replace H := Option.bind_eq_some_iff.mp H
           obtain ⟨t249, A390, H⟩ := H
           replace H : (if t249.length < 17592186044416 then ((some (t249 ++ [x11_1] : List Int)).bind fun y252 => ((some (x3_1.drop (x6_2 : Int).toNat : List Int)).bind fun y255 => (if y252.length + y255.length < 17592186044416 then (qb.l0 k2 (y252 ++ y255) l0_0 (l0_0.length : Int) (wrap64 (x11_1 + 1)) l0_0 l0_1) else (none)))) else (none)) = some r := H
           have A39 := Aside0.mk A390
           clear A390
           by_cases c40 : t249.length < 17592186044416
           ·rw [if_pos c40] at H
            have LMc40 := Aside0.mk c40
            clear c40
            obtain ⟨y252, hy252⟩ : ∃ y_ : List Int, y_ = (t249 ++ [x11_1]) := ⟨_, rfl⟩
            replace H : ((some (x3_1.drop (x6_2 : Int).toNat : List Int)).bind fun y255 => (if y252.length + y255.length < 17592186044416 then (qb.l0 k2 (y252 ++ y255) l0_0 (l0_0.length : Int) (wrap64 (x11_1 + 1)) l0_0 l0_1) else (none))) = some r := by first | (rw [hy252]; with_reducible exact H) | (have H2_ := (Option.bind_some _ _).symm.trans H; rw [hy252]; with_reducible exact H2_) | (have H2_ := (Option.bind_some _ _).symm.trans H; with_reducible exact H2_) | with_reducible exact H | (rw [hy252]; exact H) | exact H
            have Ny252 := Aside0.mk hy252
            clear hy252
            have c41b0 := eq_true (of_decide_eq_true (by first | (with_reducible assumption) | assumption) : 0 ≤ x6_2)
            have c42b0 := eq_true (of_decide_eq_true (by first | (with_reducible assumption) | assumption) : x6_2 ≤ (x3_1.length : Int))
            obtain ⟨y255, hy255⟩ : ∃ y_ : List Int, y_ = (x3_1.drop (x6_2 : Int).toNat) := ⟨_, rfl⟩
            replace H : (if y252.length + y255.length < 17592186044416 then (qb.l0 k2 (y252 ++ y255) l0_0 (l0_0.length : Int) (wrap64 (x11_1 + 1)) l0_0 l0_1) else (none)) = some r := by first | (rw [hy255]; with_reducible exact H) | (have H2_ := (Option.bind_some _ _).symm.trans H; rw [hy255]; with_reducible exact H2_) | (have H2_ := (Option.bind_some _ _).symm.trans H; with_reducible exact H2_) | with_reducible exact H | (rw [hy255]; exact H) | exact H
            have Ny255 := Aside0.mk hy255
            clear hy255
            by_cases c43 : y252.length + y255.length < 17592186044416
            ·rw [if_pos c43] at H
             have LMc43 := Aside0.mk c43
             clear c43
             obtain ⟨y259, hy259⟩ : ∃ y_ : List Int, y_ = (y252 ++ y255) := ⟨_, rfl⟩
             replace H : (qb.l0 k2 y259 l0_0 (l0_0.length : Int) (wrap64 (x11_1 + 1)) l0_0 l0_1) = some r := by first | (rw [hy259]; with_reducible exact H) | (have H2_ := (Option.bind_some _ _).symm.trans H; rw [hy259]; with_reducible exact H2_) | (have H2_ := (Option.bind_some _ _).symm.trans H; with_reducible exact H2_) | with_reducible exact H | (rw [hy259]; exact H) | exact H
             have Ny259 := Aside0.mk hy259
             clear hy259
             have H' := Aside0.mk H
             clear H
             try go_wp2
             have n0_ := Aside0.mk (Kd.qH HO_3.out)
             have n1_ := Aside0.mk (qD BK221.out)
             have n2_ := Aside0.mk (qD BK223.out)
             have n3_ := Aside0.mk (qm HB.out)
             clear HO_3
             clear BK221
             clear BK223
             clear HB
             have HO_3 := n0_
             have BK221 := n1_
             have BK223 := n2_
             have HB := n3_
             clear n0_ n1_ n2_ n3_
             obtain ⟨Ao45, co45, eo45⟩ := Kd.qo HO_3.out
             (first | subst eo45 | (injection eo45 with f1_ f2_ f3_; have f4_ := f1_.symm; have f5_ := f3_.symm; clear f1_ f2_ f3_; subst f4_; subst f5_))
             refine qyA (n := 18) (S := fun w' => True) (ds := []) #[false, false, false, false, false, false, false, false, false, false, false, false, false, false, false, false, false, false] (by kernel_rfl) rfl rfl trivial (fun hHeld => ?_); refine qWA qb.tab6 qb.bits6 (fun HT_ HW_ => ?_)
             generalize wr.drew = w44 at HO_3 BK221 BK223 HB hHeld ⊢
             refine pS (i := 0) (N := some 16) #[true, false, false, false, false, false, false, false, false, false, false, false, false, false, false, false, false, false] HT_ ?_
             refine pS (i := 1) (N := some 17) #[true, true, false, false, false, false, false, false, false, false, false, false, false, false, false, false, false, false] HT_ ?_
             refine pS (i := 2) (N := some 18) #[true, true, true, false, false, false, false, false, false, false, false, false, false, false, false, false, false, false] HT_ ?_
             refine pS (i := 3) (N := some 19) #[true, true, true, true, false, false, false, false, false, false, false, false, false, false, false, false, false, false] HT_ ?_
             refine pS (i := 4) (N := some 20) #[true, true, true, true, true, false, false, false, false, false, false, false, false, false, false, false, false, false] HT_ ?_
             refine pure_ (i := 5) (N := some 21) (v := undef) (a' := ?_) #[true, true, true, true, true, true, false, false, false, false, false, false, false, false, false, false, false, false] rfl rfl (qZA HT_.out (by kernel_rfl)) (fun _ _ _ h => h) (Or.inr ⟨by rfl, rfl⟩) ?_ ?_
             rotate_left
             ·simp only [Act.put, List.setIfInBounds_toArray, List.set_cons_zero, List.set_cons_succ, i64_w, i32_w]
              rfl
             refine pure_ (i := 6) (N := some 22) (v := undef) (a' := ?_) #[true, true, true, true, true, true, true, false, false, false, false, false, false, false, false, false, false, false] rfl rfl (qZA HT_.out (by kernel_rfl)) (fun _ _ _ h => h) (Or.inr ⟨by rfl, rfl⟩) ?_ ?_
             rotate_left
             ·simp only [Act.put, List.setIfInBounds_toArray, List.set_cons_zero, List.set_cons_succ, i64_w, i32_w]
              rfl
             refine pure_ (i := 7) (N := some 23) (v := undef) (a' := ?_) #[true, true, true, true, true, true, true, true, false, false, false, false, false, false, false, false, false, false] rfl rfl (qZA HT_.out (by kernel_rfl)) (fun _ _ _ h => h) (Or.inr ⟨by rfl, rfl⟩) ?_ ?_
             rotate_left
             ·simp only [Act.put, List.setIfInBounds_toArray, List.set_cons_zero, List.set_cons_succ, i64_w, i32_w]
              rfl
             refine pure_ (i := 8) (N := some 24) (v := undef) (a' := ?_) #[true, true, true, true, true, true, true, true, true, false, false, false, false, false, false, false, false, false] rfl rfl (qZA HT_.out (by kernel_rfl)) (fun _ _ _ h => h) (Or.inr ⟨by rfl, rfl⟩) ?_ ?_
             rotate_left
             ·simp only [Act.put, List.setIfInBounds_toArray, List.set_cons_zero, List.set_cons_succ, i64_w, i32_w]
              rfl
             refine pure_ (i := 9) (N := some 25) (v := undef) (a' := ?_) #[true, true, true, true, true, true, true, true, true, true, false, false, false, false, false, false, false, false] rfl rfl (qZA HT_.out (by kernel_rfl)) (fun _ _ _ h => h) (Or.inr ⟨by rfl, rfl⟩) ?_ ?_
             rotate_left
             ·simp only [Act.put, List.setIfInBounds_toArray, List.set_cons_zero, List.set_cons_succ, i64_w, i32_w]
              rfl
             refine pure_ (i := 10) (N := some 26) (v := undef) (a' := ?_) #[true, true, true, true, true, true, true, true, true, true, true, false, false, false, false, false, false, false] rfl rfl (qZA HT_.out (by kernel_rfl)) (fun _ _ _ h => h) (Or.inr ⟨by rfl, rfl⟩) ?_ ?_
             rotate_left
             ·simp only [Act.put, List.setIfInBounds_toArray, List.set_cons_zero, List.set_cons_succ, i64_w, i32_w]
              rfl
             refine pure_ (i := 11) (N := some 27) (v := undef) (a' := ?_) #[true, true, true, true, true, true, true, true, true, true, true, true, false, false, false, false, false, false] rfl rfl (qZA HT_.out (by kernel_rfl)) (fun _ _ _ h => h) (Or.inr ⟨by rfl, rfl⟩) ?_ ?_
             rotate_left
             ·simp only [Act.put, List.setIfInBounds_toArray, List.set_cons_zero, List.set_cons_succ, i64_w, i32_w]
              rfl
             refine pure_ (i := 12) (N := some 28) (v := undef) (a' := ?_) #[true, true, true, true, true, true, true, true, true, true, true, true, true, false, false, false, false, false] rfl rfl (qZA HT_.out (by kernel_rfl)) (fun _ _ _ h => h) (Or.inr ⟨by rfl, rfl⟩) ?_ ?_
             rotate_left
             ·simp only [Act.put, List.setIfInBounds_toArray, List.set_cons_zero, List.set_cons_succ, i64_w, i32_w]
              rfl
             refine pure_ (i := 13) (N := some 29) (v := undef) (a' := ?_) #[true, true, true, true, true, true, true, true, true, true, true, true, true, true, false, false, false, false] rfl rfl (qZA HT_.out (by kernel_rfl)) (fun _ _ _ h => h) (Or.inr ⟨by rfl, rfl⟩) ?_ ?_
             rotate_left
             ·simp only [Act.put, List.setIfInBounds_toArray, List.set_cons_zero, List.set_cons_succ, i64_w, i32_w]
              rfl
             refine pure_ (i := 14) (N := some 30) (v := undef) (a' := ?_) #[true, true, true, true, true, true, true, true, true, true, true, true, true, true, true, false, false, false] rfl rfl (qZA HT_.out (by kernel_rfl)) (fun _ _ _ h => h) (Or.inr ⟨by rfl, rfl⟩) ?_ ?_
             rotate_left
             ·simp only [Act.put, List.setIfInBounds_toArray, List.set_cons_zero, List.set_cons_succ, i64_w, i32_w]
              rfl
             refine pure_ (i := 15) (N := some 31) (v := undef) (a' := ?_) #[true, true, true, true, true, true, true, true, true, true, true, true, true, true, true, true, false, false] rfl rfl (qZA HT_.out (by kernel_rfl)) (fun _ _ _ h => h) (Or.inr ⟨by rfl, rfl⟩) ?_ ?_
             rotate_left
             ·simp only [Act.put, List.setIfInBounds_toArray, List.set_cons_zero, List.set_cons_succ, i64_w, i32_w]
              rfl
             refine pure_ (i := 16) (N := some 32) (v := undef) (a' := ?_) #[true, true, true, true, true, true, true, true, true, true, true, true, true, true, true, true, true, false] rfl rfl (qZA HT_.out (by kernel_rfl)) (fun _ _ _ h => h) (Or.inr ⟨by rfl, rfl⟩) ?_ ?_
             rotate_left
             ·simp only [Act.put, List.setIfInBounds_toArray, List.set_cons_zero, List.set_cons_succ, i64_w, i32_w]
              rfl
             refine pS (i := 17) (N := some 33) #[true, true, true, true, true, true, true, true, true, true, true, true, true, true, true, true, true, true] HT_ ?_
             refine done_ (qqA HT_.out (by kernel_rfl)) ?_
             have q46 : (x6_2 : Int) ≤ ((x3_1.length : Int) : Int) := of_decide_eq_true (by first | (with_reducible assumption) | assumption)
             obtain ⟨i046, hi046, _, hsz46, _⟩ := info_parts info3
             have hroom46 : x3_1.length ≤ co45 := (Kd.qT HO_3.out).2.1
             have hC46 : Kd.C (Kd.int .i64) _ Ao45 x3_1.length x3_1 := (Kd.qT HO_3.out).2.2
             have hcut46 := cut_to (P := Tryd.prog) 40 3 .i64 Tryd.underlying40 hi046 Ao45 x3_1.length co45 x6_2 (of_decide_eq_true (by first | (with_reducible assumption) | assumption)) q46 hroom46
             have hr46 := Kd.qUC (m := (x6_2 : Int).toNat) hC46 (by omega)
             have hy46 : y245.length = (x6_2 : Int).toNat := (by rw [Ny245.out, List.length_take]; omega)
             rw [← Ny245.out] at hr46
             rw [← hy46] at hcut46
             have HR248 := Aside0.mk hr46
             have HC248 := Aside0.mk (show y245.length ≤ co45 from by omega)
             clear hr46 hC46 hroom46 hi046 hsz46
             have KY46 := Aside0.mk hy46
             clear hy46
             have KL46 := Aside0.mk (show (x6_2 : Int).toNat ≤ x3_1.length from by omega)
             replace q46 := eq_true q46
             try go_wp2_with (first | ((with_reducible refine qS (f := 19) rfl ?_); refine qt (some 39) rfl rfl Tryd.func19 (by kernel_rfl) rfl #[.slice Ao45 y245.length co45] rfl (by (try simp only [List.map_toArray, List.map_cons, List.map_nil]); first | done | rfl | (simp only [List.length_drop, List.length_take]; rfl)) ?_; (with_reducible refine (qeA.calls _ _ y245 t249 _ ?side1 ?side2 A39.out).mono ?_); (case side1 => repeat (first | exact (by repeat (first | (with_reducible exact HR248.out) | (with_reducible refine Kd.qz ?_ _) | (with_reducible refine Kd.qy ?_ _) | (with_reducible refine Kd.qNA ?_) | exact HR248.out)) | (with_reducible refine Kd.qz ?_ _) | (with_reducible refine Kd.qy ?_ _) | (with_reducible refine Kd.qNA ?_))); (case side2 => exact HC248.out); rintro e w47 ⟨v250, rfl, ho0, hb⟩; refine ⟨_, rfl, ?_⟩; have n0_ := Aside0.mk (Kd.qkA (by (with_reducible repeat (first | apply Kd.qF | apply Kd.qE | apply Kd.qH)); exact HO_3.out) (Kd.qMB ho0) hb); have n1_ := Aside0.mk (Kd.qHA (Kd.qLB ho0 (Kd.R_lt (by (with_reducible repeat (first | apply Kd.qF | apply Kd.qE | apply Kd.qH)); exact HO_3.out))) (qg bl)); have n2_ := Aside0.mk (bb BK221 hb); have n3_ := Aside0.mk (bb BK223 hb); have n4_ := Aside0.mk (Kd.qYA (by repeat (first | (with_reducible exact HR248.out) | (with_reducible refine Kd.qz ?_ _) | (with_reducible refine Kd.qy ?_ _) | (with_reducible refine Kd.qNA ?_) | exact HR248.out)) hb); have n5_ := Aside0.mk (qG bl hb); clear HO_3; clear BK221; clear BK223; clear HR248; clear HB; have HO_3 := n0_; have HO251 := n1_; have BK221 := n2_; have BK223 := n3_; have HR248 := n4_; have HB := n5_; clear n0_ n1_ n2_ n3_ n4_ n5_; (try clear hb); (try clear hb2); (try clear hk); (try clear hi); (try clear ho0)) | ((with_reducible refine qiA (b := .append) (xs := #[.tmp 39, .tmp 41]) rfl ?_); at_builtin; refine Kd.qJC (Kd.int .i64) (w0 := w) w.heap.size rfl (.tmp 39) (.tmp 41) 40 3 (.int .i64 0) 8 rfl Tryd.underlying40 info3 rfl (by decide) (by omega) v250 t249 x11_1 [.int .i64 x11_1] (fun k_ => some k_ ≠ (.slice Ao45 x3_1.length co45 : Value).ownBlock) (fun _ => False) rfl rfl ?aP (fun _ hk => hk.elim) ?aF ?aO ?aB ?aS ?aL ?_; (case aP => exact rfl); (case aB => exact bl); (case aF => exact (fun k_ hk => Kd.fresh' (Kd.R_lt (by (with_reducible repeat (first | apply Kd.qF | apply Kd.qE | apply Kd.qH)); exact HO_3.out)) k_ hk)); (case aO => exact (by (with_reducible repeat (first | apply Kd.qF | apply Kd.qE | apply Kd.qH)); exact Kd.qh HO251.out (fun _ hk => hk.2))); (case aS => exact (qg bl)); (case aL => have := LMc40.out; omega); intro v253 w48 ho hb hg hat; rw [← Ny252.out] at ho; have n0_ := Aside0.mk (Kd.qlA (ok := (fun _ => True)) (by (with_reducible repeat (first | apply Kd.qF | apply Kd.qE | apply Kd.qH)); exact HO_3.out) hg hat); have n1_ := Aside0.mk (qFA (g := gb221) (o := .cells #[.slice (some ad222) l0_0.length c0_0, .slice A0_1 l0_1.length c0_1] 37 (0, 0)) (by (with_reducible repeat (first | refine qB ?_ _ | refine qD ?_ | refine qA ?_ _)); exact BK221.out) hg (Kd.R_ne HO251.out BK221.out (by decide))); have n2_ := Aside0.mk (qFA (g := gb223) (o := .cells #[.int .i64 ((qK l0_0 x11_1).f0), .int .i64 ((qK l0_0 x11_1).f1), .int .i64 ((qK l0_0 x11_1).f2)] 27 (0, 0)) (by (with_reducible repeat (first | refine qB ?_ _ | refine qD ?_ | refine qA ?_ _)); exact BK223.out) hg (Kd.R_ne HO251.out BK223.out (by decide))); have n3_ := Aside0.mk (hb); have n4_ := Aside0.mk ((show Kd.C (Kd.int .i64) w48 Ao45 y245.length y245 from by rw [Ny245.out]; exact Kd.qUC (m := (x6_2 : Int).toNat) ((Kd.qT (Kd.qlA (ok := (fun _ => True)) (by (with_reducible repeat (first | apply Kd.qF | apply Kd.qE | apply Kd.qH)); exact HO_3.out) hg hat)).2.2) KL46.out)); have n5_ := Aside0.mk (ho); clear HO_3; clear BK221; clear BK223; clear HB; clear HR248; clear HO251; have HO_3 := n0_; have BK221 := n1_; have BK223 := n2_; have HB := n3_; have HR248 := n4_; have HO254 := n5_; clear n0_ n1_ n2_ n3_ n4_ n5_; clear ho hb hg hat; have q49 : (x6_2 : Int) ≤ ((x3_1.length : Int) : Int) := of_decide_eq_true (by first | (with_reducible assumption) | assumption); obtain ⟨i049, hi049, _, hsz49, _⟩ := info_parts info3; have hroom49 : x3_1.length ≤ co45 := (Kd.qT HO_3.out).2.1; have hC49 : Kd.C (Kd.int .i64) _ Ao45 x3_1.length x3_1 := (Kd.qT HO_3.out).2.2; have q049 : (0 : Int) ≤ (x6_2 : Int) := of_decide_eq_true (by first | (with_reducible assumption) | assumption); have hcut49 := cut_from (P := Tryd.prog) 40 3 .i64 Tryd.underlying40 hi049 1 hsz49 Ao45 x3_1.length co45 x6_2 q049 q49; have hr49 := Kd.qiC (m := (x6_2 : Int).toNat) (c := co45) hC49 (by omega) hroom49; obtain ⟨A49, hA49⟩ : ∃ A1, A1 = (if co45 = (x6_2 : Int).toNat then Ao45 else (Ao45 : Option Addr).map (·.add ((x6_2 : Int).toNat * 1))) := ⟨_, rfl⟩; obtain ⟨c49, hc49⟩ : ∃ c1, c1 = co45 - (x6_2 : Int).toNat := ⟨_, rfl⟩; have hy49 : y255.length = x3_1.length - (x6_2 : Int).toNat := (by rw [Ny255.out, List.length_drop] <;> omega); rw [show (x3_1).drop (x6_2 : Int).toNat = y255 from Ny255.out.symm] at hr49; replace hr49 : Kd.C (Kd.int .i64) _ A49 y255.length y255 := (by rw [hA49]; exact hr49); rw [← hy49, ← hA49, ← hc49] at hcut49; have HR258 := Aside0.mk hr49; have HC258 := Aside0.mk (show y255.length ≤ c49 from by rw [hy49, hc49]; exact Nat.sub_le_sub_right hroom49 _); clear hr49 hC49 hroom49 hi049 hsz49 hc49; have KY49 := Aside0.mk hy49; have KA49 := Aside0.mk hA49; clear hy49 hA49; have KL49 := Aside0.mk (show (x6_2 : Int).toNat ≤ x3_1.length from by omega); replace q49 := eq_true q49) | ((with_reducible refine qiA (b := .append) (xs := #[.tmp 43, .tmp 46]) rfl ?_); at_builtin; refine Kd.qEB (Kd.int .i64) (w0 := w) w.heap.size rfl (.tmp 43) (.tmp 46) 40 3 (.int .i64 0) 8 rfl Tryd.underlying40 info3 rfl (by decide) (by omega) v253 y252 y255 _ _ _ (fun k_ => some k_ ≠ (.slice Ao45 x3_1.length co45 : Value).ownBlock) (fun _ => False) rfl rfl ?aO ?aR (fun _ _ h => h) (fun _ h => h.elim) ?aF ?aB ?aS ?aL ?_; (case aR => repeat (first | exact (by repeat (first | (with_reducible exact HR258.out) | (with_reducible refine Kd.qz ?_ _) | (with_reducible refine Kd.qy ?_ _) | (with_reducible refine Kd.qNA ?_) | exact HR258.out)) | (with_reducible refine Kd.qz ?_ _) | (with_reducible refine Kd.qy ?_ _) | (with_reducible refine Kd.qNA ?_))); (case aB => exact bl); (case aF => exact (fun k_ hk => Kd.fresh' (Kd.R_lt (by (with_reducible repeat (first | apply Kd.qF | apply Kd.qE | apply Kd.qH)); exact HO_3.out)) k_ hk)); (case aO => exact (by (with_reducible repeat (first | apply Kd.qF | apply Kd.qE | apply Kd.qH)); exact HO254.out)); (case aS => exact (qg bl)); (case aL => have := LMc43.out; omega); intro v260 w50 ho hb hg hat; rw [← Ny259.out] at ho; have n0_ := Aside0.mk (Kd.qlA (ok := (fun _ => True)) (by (with_reducible repeat (first | apply Kd.qF | apply Kd.qE | apply Kd.qH)); exact HO_3.out) hg hat); have n1_ := Aside0.mk (qFA (g := gb221) (o := .cells #[.slice (some ad222) l0_0.length c0_0, .slice A0_1 l0_1.length c0_1] 37 (0, 0)) (by (with_reducible repeat (first | refine qB ?_ _ | refine qD ?_ | refine qA ?_ _)); exact BK221.out) hg (Kd.R_ne HO254.out BK221.out (by decide))); have n2_ := Aside0.mk (qFA (g := gb223) (o := .cells #[.int .i64 ((qK l0_0 x11_1).f0), .int .i64 ((qK l0_0 x11_1).f1), .int .i64 ((qK l0_0 x11_1).f2)] 27 (0, 0)) (by (with_reducible repeat (first | refine qB ?_ _ | refine qD ?_ | refine qA ?_ _)); exact BK223.out) hg (Kd.R_ne HO254.out BK223.out (by decide))); have n3_ := Aside0.mk (hb); have n4_ := Aside0.mk ((show Kd.C (Kd.int .i64) w50 Ao45 y245.length y245 from by rw [Ny245.out]; exact Kd.qUC (m := (x6_2 : Int).toNat) ((Kd.qT (Kd.qlA (ok := (fun _ => True)) (by (with_reducible repeat (first | apply Kd.qF | apply Kd.qE | apply Kd.qH)); exact HO_3.out) hg hat)).2.2) KL46.out)); have n5_ := Aside0.mk ((show Kd.C (Kd.int .i64) w50 A49 y255.length y255 from by rw [Ny255.out, KA49.out]; exact Kd.qiC (m := (x6_2 : Int).toNat) (c := co45) ((Kd.qT (Kd.qlA (ok := (fun _ => True)) (by (with_reducible repeat (first | apply Kd.qF | apply Kd.qE | apply Kd.qH)); exact HO_3.out) hg hat)).2.2) KL49.out ((Kd.qT (Kd.qlA (ok := (fun _ => True)) (by (with_reducible repeat (first | apply Kd.qF | apply Kd.qE | apply Kd.qH)); exact HO_3.out) hg hat)).2.1))); have n6_ := Aside0.mk (ho); clear HO_3; clear BK221; clear BK223; clear HB; clear HR248; clear HR258; clear HO254; have HO_3 := n0_; have BK221 := n1_; have BK223 := n2_; have HB := n3_; have HR248 := n4_; have HR258 := n5_; have HO261 := n6_; clear n0_ n1_ n2_ n3_ n4_ n5_ n6_; clear ho hb hg hat))
             go_roundg k2
             case measure => have := HK1.out; have := HK2.out; omega
             case rel => exact ⟨(y259), (wrap64 (x11_1 + 1)), (by first | rfl | (simp; done) | (simp [*]; done)), H', ⟨by have := HK1.out; have := HK2.out; omega⟩, ⟨by (with_reducible repeat (first | apply Kd.qF | apply Kd.qE | apply Kd.qH)); exact Kd.qh HO261.out (fun _ hk => trivial)⟩, ⟨by (with_reducible repeat (first | refine qB ?_ _ | refine qD ?_ | refine qA ?_ _)); exact BK221.out⟩, ⟨bl⟩⟩
            ·rw [if_neg c43] at H
             exact absurd H (by simp)
           ·rw [if_neg c40] at H
            exact absurd H (by simp)
          ·rw [if_neg c38] at H
           exact absurd H (by simp)
         ·rw [if_neg c37] at H
          exact absurd H (by simp)
     ·rw [if_neg c6] at H
      exact absurd H (by simp)
    ·rw [if_neg c5] at H
     exact absurd H (by simp)
   ·rw [if_neg c4] at H
    have c4b0 : decide (x11_1 < (l0_0.length : Int)) = false := decide_eq_false c4
    clear c4
    obtain rfl := Option.some.inj H
    go_wp2
    go_ret
    exact ⟨_, by first | rfl | (simp [qJ, qI] <;> rfl) | (simp [*, qJ, qI] <;> rfl), by (with_reducible repeat (first | apply Kd.qF | apply Kd.qE | apply Kd.qH)); exact HO_3.out, bl⟩
end Go.Proofs.YtdagdhmcebeadaaDoor.P
