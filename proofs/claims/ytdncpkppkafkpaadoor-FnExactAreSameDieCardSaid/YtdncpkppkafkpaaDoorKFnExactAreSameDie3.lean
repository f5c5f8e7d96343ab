/- The program's AreSameDie returns what the reference's returns, for all texts (the law lets longer texts by). No further condition. -/
import Derived.Test.YtdncpkppkafkpaaDoorKFnExactAreSameDie2
import Derived.Shelf.SlGeneric
import Derived.Shelf.SortM.Plain
import Derived.Ground.SlgmProg
import Derived.Test.YtdncpkppkafkpaaDoorProg
import Derived.Shelf.SortM.SortNone
import Derived.RangeFuncBox
import Derived.RangeFuncLeaves
import Derived.Shelf.Abstract
import Derived.WalkKit
import Derived.OwnWalkIn
import Derived.TacticsInMore
import Derived.LoopNIn
import Derived.LoopIn
import Derived.Maps.AppendAt
import Derived.Shelf.Slices.CompactI
import Derived.Ground.Names2Prog
import Derived.Maps.OwnSet
import Derived.DeepKeys4
import Derived.KernelRfl
import Derived.Maps.Keyed
import Derived.Shelf.Small.Strs
import Derived.Shelf.Strings.Search1
import Derived.Ground.NamesProg
import Derived.Shelf.Strings.Split
import Derived.Shelf.Strings.Count
import Derived.Shelf.Strings.SlTrimAscii

namespace Go.Proofs.YtdncpkppkafkpaaDoor.P
open Go.RowKit Go.Proofs.YtdncpkppkafkpaaDoorW.PrintWords Go.Proofs.YtdncpkppkafkpaaDoorW.PrintLast Go.Proofs.YtdncpkppkafkpaaDoorW.PrintMore
attribute [local go_sem] qz qx qJA qIA qo qn qy qw
set_option linter.unusedVariables false
set_option linter.unusedSimpArgs false
def qY.j0 : Nat → List Int → List Int → Bool → Int → Int → List Int → Int → Int → List Int → Option (Bool × Bool)
 | 0, _, _, _, _, _, _, _, _, _ => none
 | k + 1, x7, x10, x31, x841000, x841001, x841002, x851000, x851001, x851002 => if x31 = true then (some (false, false)) else ((qj.f k x841000 x841001 x841002 x7).bind fun bt851 => ((qj.f k x851000 x851001 x851002 x10).bind fun bt857 => ((qv.f k bt851.1 bt851.2.1 bt851.2.2.1 bt851.2.2.2.1 bt851.2.2.2.2.1 bt851.2.2.2.2.2 bt857.1 bt857.2.1 bt857.2.2.1 bt857.2.2.2.1 bt857.2.2.2.2.1 bt857.2.2.2.2.2).bind fun bt863 => (some (bt863.2, true)))))
def qY.f (k : Nat) (a0 : ByteArray) (a1 : ByteArray) : Option (Bool × Bool) := (qsA.f k a0).bind fun bt831 => ((qsA.f k a1).bind fun bt841 => (if bt831.2.2.2.2 = true then (qY.j0 k bt831.2.2.2.1 bt841.2.2.2.1 (!bt841.2.2.2.2) bt831.1 bt831.2.1 bt831.2.2.1 bt841.1 bt841.2.1 bt841.2.2.1) else (qY.j0 k bt831.2.2.2.1 bt841.2.2.2.1 true bt831.1 bt831.2.1 bt831.2.2.1 bt841.1 bt841.2.1 bt841.2.2.1)))
def qY.T5 : Bool × List (List Nat × List Nat) := (true, [([], []), ([], []), ([0, 1], [0, 1]), ([], []), ([], []), ([3, 4, 2], [3, 4]), ([2, 5, 5], [2, 5]), ([6], [6]), ([7], [7]), ([7], [7]), ([8, 6, 0, 1, 2, 3, 4, 5, 6, 7, 8], [8]), ([9, 10, 0, 1, 2, 3, 4, 5, 6, 7, 8, 9, 10], [9])])
def qY.B5 : List Nat := [0, 0, 3, 0, 0, 31, 63, 127, 255, 255, 511, 2047]
theorem qY.tab5 : rtab .any (opsOf Tryd.f29 5) = qY.T5 := by kernel_rfl
theorem qY.bits5 : waitsOk qY.T5.2 qY.B5 = true := by kernel_rfl
set_option maxHeartbeats 8000000 in
set_option maxRecDepth 100000 in
theorem qY.calls (k : Nat) (a0 : ByteArray) (a1 : ByteArray) (r1 : Bool) (r2 : Bool) (w : World) (h : qY.f k a0 a1 = some (r1, r2)) :
  Calls Tryd.prog 29 #[.string a0, .string a1] w fun e w' => e = .returned (.tuple #[.bool r1, .bool r2]) ∧ Below w.heap.size w w' := by
 have hu45 := Tryd.underlying45
 have HB := Aside0.mk (Below.refl w.heap.size w)
 have H : ((qsA.f k a0).bind fun bt831 => ((qsA.f k a1).bind fun bt841 => (if bt831.2.2.2.2 = true then (qY.j0 k bt831.2.2.2.1 bt841.2.2.2.1 (!bt841.2.2.2.2) bt831.1 bt831.2.1 bt831.2.2.1 bt841.1 bt841.2.1 bt841.2.2.1) else (qY.j0 k bt831.2.2.2.1 bt841.2.2.2.1 true bt831.1 bt831.2.1 bt831.2.2.1 bt841.1 bt841.2.1 bt841.2.2.1)))) = some (r1, r2) := h
 clear h
 replace H := Option.bind_eq_some_iff.mp H
 obtain ⟨⟨t831, t832, t833, t836, t839⟩, A30, H⟩ := H
 replace H : ((qsA.f k a1).bind fun bt841 => (if t839 = true then (qY.j0 k t836 bt841.2.2.2.1 (!bt841.2.2.2.2) t831 t832 t833 bt841.1 bt841.2.1 bt841.2.2.1) else (qY.j0 k t836 bt841.2.2.2.1 true t831 t832 t833 bt841.1 bt841.2.1 bt841.2.2.1))) = some (r1, r2) := H
 have A3 := Aside0.mk A30
 clear A30
 replace H := Option.bind_eq_some_iff.mp H
 obtain ⟨⟨t841, t842, t843, t846, t849⟩, A40, H⟩ := H
 replace H : (if t839 = true then (qY.j0 k t836 t846 (!t849) t831 t832 t833 t841 t842 t843) else (qY.j0 k t836 t846 true t831 t832 t833 t841 t842 t843)) = some (r1, r2) := H
 have A4 := Aside0.mk A40
 clear A40
 have HC5 := Aside0.mk H
 clear H
 go_enter Tryd.func29, Tryd.ntmps29
 go_upto_region 3 with (first | ((with_reducible refine qa (f := 34) rfl ?_); refine qQA (some 16) rfl rfl Tryd.func34 (by kernel_rfl) rfl #[.string a0] rfl (by (try simp only [List.map_toArray, List.map_cons, List.map_nil]); first | done | rfl | (simp only [List.length_drop, List.length_take]; rfl)) ?_; (with_reducible refine (qsA.calls k a0 t831 t832 t833 t836 t839 _ A3.out).mono ?_); rintro e w6 ⟨v834, v837, rfl, ho0, ho1, hb⟩; refine ⟨_, rfl, ?_⟩; have n0_ := Aside0.mk (Kd.qEA ho0 (qb bl)); have n1_ := Aside0.mk (Kd.qEA ho1 (qb bl)); have n2_ := Aside0.mk (qJ bl hb); clear HB; have HO835 := n0_; have HO838 := n1_; have HB := n2_; clear n0_ n1_ n2_; (try clear hb); (try clear hb2); (try clear hk); (try clear hi); (try clear ho0); (try clear ho1)) | ((with_reducible refine qX (N := 6) rfl ?_); refine qW ?hg (N := 6) ?hd (cs := #[.int .i64 0, .int .i64 0, .slice none 0 0]) (t := 45) ?hr ?_; (case hd => rfl); (case hg => rfl); (case hr => first | (go_simp; done) | (go_simp; rfl)); intro gb840 hg w7 hbox hb; have n0_ := Aside0.mk (Kd.qU (by (with_reducible repeat (first | apply Kd.qF | apply Kd.qG | apply Kd.qH)); exact HO835.out) hb); have n1_ := Aside0.mk (Kd.qU (by (with_reducible repeat (first | apply Kd.qF | apply Kd.qG | apply Kd.qH)); exact HO838.out) hb); have n2_ := Aside0.mk (qJ bl hb); have n3_ := Aside0.mk (hbox); have n4_ := Aside0.mk ((gg hg)); have n5_ := Aside0.mk ((gg hg)); clear HO835; clear HO838; clear HB; have HO835 := n0_; have HO838 := n1_; have HB := n2_; have BK840 := n3_; have GW840 := n4_; have GE840 := n5_; clear n0_ n1_ n2_ n3_ n4_ n5_; clear hb hbox hg; have hcz8_0 := bc BK840 0; have hcz8_1 := bc BK840 1; have hcz8_2 := bc BK840 2; have hfz8_0 := qA BK840.out 0; have hfz8_1 := qA BK840.out 1; have hfz8_2 := qA BK840.out 2; obtain ⟨Ao9, co9, eo9⟩ := Kd.qr HO835.out; subst eo9) | ((with_reducible refine qa (f := 34) rfl ?_); refine qQA (some 22) rfl rfl Tryd.func34 (by kernel_rfl) rfl #[.string a1] rfl (by (try simp only [List.map_toArray, List.map_cons, List.map_nil]); first | done | rfl | (simp only [List.length_drop, List.length_take]; rfl)) ?_; (with_reducible refine (qsA.calls k a1 t841 t842 t843 t846 t849 _ A4.out).mono ?_); rintro e w10 ⟨v844, v847, rfl, ho0, ho1, hb⟩; refine ⟨_, rfl, ?_⟩; have n0_ := Aside0.mk (Kd.qmA (by (with_reducible repeat (first | apply Kd.qF | apply Kd.qG | apply Kd.qH)); exact (Kd.qd (Kd.R_far (p := ⟨gb840, 2, none⟩) (Kd.R_far (p := ⟨gb840, 1, none⟩) (Kd.R_far (p := ⟨gb840, 0, none⟩) (Kd.qRA HO835.out BK840.out (by decide)) (fun _ hk => hk.2) (.int .i64 t831)) (fun _ hk => hk.2) (.int .i64 t832)) (fun _ hk => hk.2) (.slice Ao9 t833.length co9)) (fun _ h_ => h_.1))) (Kd.qLB ho0) hb); have n1_ := Aside0.mk (Kd.qmA (by (with_reducible repeat (first | apply Kd.qF | apply Kd.qG | apply Kd.qH)); exact (Kd.qd (Kd.R_far (p := ⟨gb840, 2, none⟩) (Kd.R_far (p := ⟨gb840, 1, none⟩) (Kd.R_far (p := ⟨gb840, 0, none⟩) (Kd.qRA HO838.out BK840.out (by decide)) (fun _ hk => hk.2) (.int .i64 t831)) (fun _ hk => hk.2) (.int .i64 t832)) (fun _ hk => hk.2) (.slice Ao9 t833.length co9)) (fun _ h_ => h_.1))) (Kd.qLB ho1) hb); have n2_ := Aside0.mk (Kd.qEA (Kd.qKB ho0 (Kd.R_lt (by (with_reducible repeat (first | apply Kd.qF | apply Kd.qG | apply Kd.qH)); exact (Kd.qd (Kd.R_far (p := ⟨gb840, 2, none⟩) (Kd.R_far (p := ⟨gb840, 1, none⟩) (Kd.R_far (p := ⟨gb840, 0, none⟩) (Kd.qRA HO835.out BK840.out (by decide)) (fun _ hk => hk.2) (.int .i64 t831)) (fun _ hk => hk.2) (.int .i64 t832)) (fun _ hk => hk.2) (.slice Ao9 t833.length co9)) (fun _ h_ => h_.1))))) (qb bl)); have n3_ := Aside0.mk (Kd.qEA (Kd.qKB ho1 (Kd.R_lt (by (with_reducible repeat (first | apply Kd.qF | apply Kd.qG | apply Kd.qH)); exact (Kd.qd (Kd.R_far (p := ⟨gb840, 2, none⟩) (Kd.R_far (p := ⟨gb840, 1, none⟩) (Kd.R_far (p := ⟨gb840, 0, none⟩) (Kd.qRA HO838.out BK840.out (by decide)) (fun _ hk => hk.2) (.int .i64 t831)) (fun _ hk => hk.2) (.int .i64 t832)) (fun _ hk => hk.2) (.slice Ao9 t833.length co9)) (fun _ h_ => h_.1))))) (qb bl)); have n4_ := Aside0.mk (qEB (g := gb840) (o := .cells #[.int .i64 t831, .int .i64 t832, .slice Ao9 t833.length co9] 45 (0, 0)) (by (with_reducible repeat (first | refine qD ?_ _ | refine qE ?_ | refine qC ?_ _)); refine qO (cs := #[.int .i64 t831, .int .i64 t832, .slice none 0 0]) ?_ 2 _ rfl; (with_reducible repeat (first | refine qD ?_ _ | refine qE ?_ | refine qC ?_ _)); refine qO (cs := #[.int .i64 t831, .int .i64 0, .slice none 0 0]) ?_ 1 _ rfl; (with_reducible repeat (first | refine qD ?_ _ | refine qE ?_ | refine qC ?_ _)); refine qO (cs := #[.int .i64 0, .int .i64 0, .slice none 0 0]) ?_ 0 _ rfl; (with_reducible repeat (first | refine qD ?_ _ | refine qE ?_ | refine qC ?_ _)); exact BK840.out) hb); have n5_ := Aside0.mk (qJ bl hb); clear HO835; clear HO838; clear BK840; clear HB; have HO835 := n0_; have HO838 := n1_; have HO845 := n2_; have HO848 := n3_; have BK840 := n4_; have HB := n5_; clear n0_ n1_ n2_ n3_ n4_ n5_; (try clear hb); (try clear hb2); (try clear hk); (try clear hi); (try clear ho0); (try clear ho1)) | ((with_reducible refine qX (N := 9) rfl ?_); refine qW ?hg (N := 9) ?hd (cs := #[.int .i64 0, .int .i64 0, .slice none 0 0]) (t := 45) ?hr ?_; (case hd => rfl); (case hg => rfl); (case hr => first | (go_simp; done) | (go_simp; rfl)); intro gb850 hg w11 hbox hb; have n0_ := Aside0.mk (Kd.qU (by (with_reducible repeat (first | apply Kd.qF | apply Kd.qG | apply Kd.qH)); exact HO835.out) hb); have n1_ := Aside0.mk (Kd.qU (by (with_reducible repeat (first | apply Kd.qF | apply Kd.qG | apply Kd.qH)); exact HO838.out) hb); have n2_ := Aside0.mk (Kd.qU (by (with_reducible repeat (first | apply Kd.qF | apply Kd.qG | apply Kd.qH)); exact HO845.out) hb); have n3_ := Aside0.mk (Kd.qU (by (with_reducible repeat (first | apply Kd.qF | apply Kd.qG | apply Kd.qH)); exact HO848.out) hb); have n4_ := Aside0.mk (bb BK840 hb); have n5_ := Aside0.mk (qJ bl hb); have n6_ := Aside0.mk (hbox); have n7_ := Aside0.mk ((gg hg)); have n8_ := Aside0.mk ((gg hg)); have n9_ := Aside0.mk ((nl BK840 hg)); have n10_ := Aside0.mk ((nr BK840 hg)); clear HO835; clear HO838; clear HO845; clear HO848; clear BK840; clear HB; have HO835 := n0_; have HO838 := n1_; have HO845 := n2_; have HO848 := n3_; have BK840 := n4_; have HB := n5_; have BK850 := n6_; have GW850 := n7_; have GE850 := n8_; have NB840_850 := n9_; have NB850_840 := n10_; clear n0_ n1_ n2_ n3_ n4_ n5_ n6_ n7_ n8_ n9_ n10_; clear hb hbox hg; have hnb12 := NB850_840.out; have hnc12 := NB840_850.out; have hcz13_0 := bc BK850 0; have hcz13_1 := bc BK850 1; have hcz13_2 := bc BK850 2; have hfz13_0 := qA BK850.out 0; have hfz13_1 := qA BK850.out 1; have hfz13_2 := qA BK850.out 2; obtain ⟨Ao14, co14, eo14⟩ := Kd.qr HO845.out; subst eo14))
 (try simp only [Act.put, List.setIfInBounds_toArray, List.set_cons_zero, List.set_cons_succ])
 go_cut [31] (fun v31 wc => ∃ (kq : Nat) (x31_4 : Bool), v31 = .bool x31_4 ∧ Aside0 (qY.j0 kq t836 t846 x31_4 t831 t832 t833 t841 t842 t843 = some (r1, r2)) ∧ Aside0 (kq ≤ k) ∧ Aside0 (Kd.R (Kd.int .i64) 3 wc w.heap.size (fun k_ => some k_ ≠ (v847 : Value).ownBlock) v837 t836) ∧ Aside0 (Kd.R (Kd.int .i64) 3 wc w.heap.size (fun k_ => some k_ ≠ (v837 : Value).ownBlock) v847 t846) ∧ Aside0 (Kd.R (Kd.int .u8) 5 wc w.heap.size (fun k_ => some k_ ≠ ((.slice Ao14 t843.length co14) : Value).ownBlock) (.slice Ao9 t833.length co9) t833) ∧ Aside0 (Kd.R (Kd.int .u8) 5 wc w.heap.size (fun k_ => some k_ ≠ ((.slice Ao9 t833.length co9) : Value).ownBlock) (.slice Ao14 t843.length co14) t843) ∧ Aside0 (wc.heap[gb840]? = some (.cells #[.int .i64 t831, .int .i64 t832, (.slice Ao9 t833.length co9)] 45 (0, 0))) ∧ Aside0 (wc.heap[gb850]? = some (.cells #[.int .i64 t841, .int .i64 t842, (.slice Ao14 t843.length co14)] 45 (0, 0))) ∧ Aside0 (Below w.heap.size w wc))
 case first =>
  have H := HC5.out
  clear HC5
  by_cases c15 : t839 = true
  ·subst c15
   have H1 : (qY.j0 k t836 t846 (!t849) t831 t832 t833 t841 t842 t843) = some (r1, r2) := by rw [if_pos rfl] at H; exact H
   clear H
   have H := H1
   clear H1
   have H' := Aside0.mk H
   clear H
   go_wp2
   go_meet
   case rel => exact ⟨_, (!t849), (by first | rfl | (simp; done) | (simp [*]; done)), H', ⟨by first | omega | exact Nat.le_refl _⟩, ⟨by (with_reducible repeat (first | apply Kd.qF | apply Kd.qG | apply Kd.qH)); exact Kd.qd (Kd.R_far (p := ⟨gb850, 2, none⟩) (Kd.R_far (p := ⟨gb850, 1, none⟩) (Kd.R_far (p := ⟨gb850, 0, none⟩) (Kd.qRA HO838.out BK850.out (by decide)) (fun _ hk => hk.2) (.int .i64 t841)) (fun _ hk => hk.2) (.int .i64 t842)) (fun _ hk => hk.2) (.slice Ao14 t843.length co14)) (fun _ hk => hk.1.2)⟩, ⟨by (with_reducible repeat (first | apply Kd.qF | apply Kd.qG | apply Kd.qH)); exact Kd.qd (Kd.R_far (p := ⟨gb850, 2, none⟩) (Kd.R_far (p := ⟨gb850, 1, none⟩) (Kd.R_far (p := ⟨gb850, 0, none⟩) (Kd.qRA HO848.out BK850.out (by decide)) (fun _ hk => hk.2) (.int .i64 t841)) (fun _ hk => hk.2) (.int .i64 t842)) (fun _ hk => hk.2) (.slice Ao14 t843.length co14)) (fun _ hk => hk.1.2)⟩, ⟨by (with_reducible repeat (first | apply Kd.qF | apply Kd.qG | apply Kd.qH)); exact Kd.qd (Kd.R_far (p := ⟨gb850, 2, none⟩) (Kd.R_far (p := ⟨gb850, 1, none⟩) (Kd.R_far (p := ⟨gb850, 0, none⟩) (Kd.qRA HO835.out BK850.out (by decide)) (fun _ hk => hk.2) (.int .i64 t841)) (fun _ hk => hk.2) (.int .i64 t842)) (fun _ hk => hk.2) (.slice Ao14 t843.length co14)) (fun _ hk => hk.1.2)⟩, ⟨by (with_reducible repeat (first | apply Kd.qF | apply Kd.qG | apply Kd.qH)); exact Kd.qd (Kd.R_far (p := ⟨gb850, 2, none⟩) (Kd.R_far (p := ⟨gb850, 1, none⟩) (Kd.R_far (p := ⟨gb850, 0, none⟩) (Kd.qRA HO845.out BK850.out (by decide)) (fun _ hk => hk.2) (.int .i64 t841)) (fun _ hk => hk.2) (.int .i64 t842)) (fun _ hk => hk.2) (.slice Ao14 t843.length co14)) (fun _ hk => hk.1.2)⟩, ⟨by (with_reducible repeat (first | refine qD ?_ _ | refine qE ?_ | refine qC ?_ _)); refine qc ?_ NB840_850.out _; (with_reducible repeat (first | refine qD ?_ _ | refine qE ?_ | refine qC ?_ _)); refine qc ?_ NB840_850.out _; (with_reducible repeat (first | refine qD ?_ _ | refine qE ?_ | refine qC ?_ _)); refine qc ?_ NB840_850.out _; (with_reducible repeat (first | refine qD ?_ _ | refine qE ?_ | refine qC ?_ _)); exact BK840.out⟩, ⟨by (with_reducible repeat (first | refine qD ?_ _ | refine qE ?_ | refine qC ?_ _)); refine qO (cs := #[.int .i64 t841, .int .i64 t842, .slice none 0 0]) ?_ 2 _ rfl; (with_reducible repeat (first | refine qD ?_ _ | refine qE ?_ | refine qC ?_ _)); refine qO (cs := #[.int .i64 t841, .int .i64 0, .slice none 0 0]) ?_ 1 _ rfl; (with_reducible repeat (first | refine qD ?_ _ | refine qE ?_ | refine qC ?_ _)); refine qO (cs := #[.int .i64 0, .int .i64 0, .slice none 0 0]) ?_ 0 _ rfl; (with_reducible repeat (first | refine qD ?_ _ | refine qE ?_ | refine qC ?_ _)); exact BK850.out⟩, ⟨bl⟩⟩
  ·replace c15 := Bool.eq_false_iff.mpr c15
   subst c15
   have H1 : (qY.j0 k t836 t846 true t831 t832 t833 t841 t842 t843) = some (r1, r2) := by rw [if_neg (show ¬ (false = true) by decide)] at H; exact H
   clear H
   have H := H1
   clear H1
   have H' := Aside0.mk H
   clear H
   go_wp2
   go_meet
   case rel => exact ⟨_, (true), (by first | rfl | (simp; done) | (simp [*]; done)), H', ⟨by first | omega | exact Nat.le_refl _⟩, ⟨by (with_reducible repeat (first | apply Kd.qF | apply Kd.qG | apply Kd.qH)); exact Kd.qd (Kd.R_far (p := ⟨gb850, 2, none⟩) (Kd.R_far (p := ⟨gb850, 1, none⟩) (Kd.R_far (p := ⟨gb850, 0, none⟩) (Kd.qRA HO838.out BK850.out (by decide)) (fun _ hk => hk.2) (.int .i64 t841)) (fun _ hk => hk.2) (.int .i64 t842)) (fun _ hk => hk.2) (.slice Ao14 t843.length co14)) (fun _ hk => hk.1.2)⟩, ⟨by (with_reducible repeat (first | apply Kd.qF | apply Kd.qG | apply Kd.qH)); exact Kd.qd (Kd.R_far (p := ⟨gb850, 2, none⟩) (Kd.R_far (p := ⟨gb850, 1, none⟩) (Kd.R_far (p := ⟨gb850, 0, none⟩) (Kd.qRA HO848.out BK850.out (by decide)) (fun _ hk => hk.2) (.int .i64 t841)) (fun _ hk => hk.2) (.int .i64 t842)) (fun _ hk => hk.2) (.slice Ao14 t843.length co14)) (fun _ hk => hk.1.2)⟩, ⟨by (with_reducible repeat (first | apply Kd.qF | apply Kd.qG | apply Kd.qH)); exact Kd.qd (Kd.R_far (p := ⟨gb850, 2, none⟩) (Kd.R_far (p := ⟨gb850, 1, none⟩) (Kd.R_far (p := ⟨gb850, 0, none⟩) (Kd.qRA HO835.out BK850.out (by decide)) (fun _ hk => hk.2) (.int .i64 t841)) (fun _ hk => hk.2) (.int .i64 t842)) (fun _ hk => hk.2) (.slice Ao14 t843.length co14)) (fun _ hk => hk.1.2)⟩, ⟨by (with_reducible repeat (first | apply Kd.qF | apply Kd.qG | apply Kd.qH)); exact Kd.qd (Kd.R_far (p := ⟨gb850, 2, none⟩) (Kd.R_far (p := ⟨gb850, 1, none⟩) (Kd.R_far (p := ⟨gb850, 0, none⟩) (Kd.qRA HO845.out BK850.out (by decide)) (fun _ hk => hk.2) (.int .i64 t841)) (fun _ hk => hk.2) (.int .i64 t842)) (fun _ hk => hk.2) (.slice Ao14 t843.length co14)) (fun _ hk => hk.1.2)⟩, ⟨by (with_reducible repeat (first | refine qD ?_ _ | refine qE ?_ | refine qC ?_ _)); refine qc ?_ NB840_850.out _; (with_reducible repeat (first | refine qD ?_ _ | refine qE ?_ | refine qC ?_ _)); refine qc ?_ NB840_850.out _; (with_reducible repeat (first | refine qD ?_ _ | refine qE ?_ | refine qC ?_ _)); refine qc ?_ NB840_850.out _; (with_reducible repeat (first | refine qD ?_ _ | refine qE ?_ | refine qC ?_ _)); exact BK840.out⟩, ⟨by (with_reducible repeat (first | refine qD ?_ _ | refine qE ?_ | refine qC ?_ _)); refine qO (cs := #[.int .i64 t841, .int .i64 t842, .slice none 0 0]) ?_ 2 _ rfl; (with_reducible repeat (first | refine qD ?_ _ | refine qE ?_ | refine qC ?_ _)); refine qO (cs := #[.int .i64 t841, .int .i64 0, .slice none 0 0]) ?_ 1 _ rfl; (with_reducible repeat (first | refine qD ?_ _ | refine qE ?_ | refine qC ?_ _)); refine qO (cs := #[.int .i64 0, .int .i64 0, .slice none 0 0]) ?_ 0 _ rfl; (with_reducible repeat (first | refine qD ?_ _ | refine qE ?_ | refine qC ?_ _)); exact BK850.out⟩, ⟨bl⟩⟩
 case rest =>
  clear HC5
  try clear c1
  try clear c2
  try clear p2
  try clear c3
  try clear c12
  try clear c15
  try clear hcz13_0
  try clear hcz13_1
  try clear hcz13_2
  try clear hcz8_0
  try clear hcz8_1
  try clear hcz8_2
  try clear hfz13_0
  try clear hfz13_1
  try clear hfz13_2
  try clear hfz8_0
  try clear hfz8_1
  try clear hfz8_2
  obtain ⟨kq, x31_4, rfl, HA, HJ4, HO_7, HO_10, HO_841002, HO_851002, BK840, BK850, HB⟩ := hcut
  cases kq with
  | zero => exact absurd HA.out (by simp [qY.j0])
  | succ kj4 =>
   have H := HA.out
   clear HA
   simp only [qY.j0] at H
   by_cases c16 : x31_4 = true
   ·subst c16
    have H1 : (some (false, false)) = some (r1, r2) := by rw [if_pos rfl] at H; exact H
    clear H
    have H := H1
    clear H1
    simp only [Option.some.injEq, Prod.mk.injEq] at H
    obtain ⟨rfl, rfl⟩ := H
    go_wp2
    go_ret2
    exact ⟨by first | rfl | (simp [qN, qM] <;> rfl) | (simp [*, qN, qM] <;> rfl), bl⟩
   ·replace c16 := Bool.eq_false_iff.mpr c16
    subst c16
    have H1 : ((qj.f kj4 t831 t832 t833 t836).bind fun bt851 => ((qj.f kj4 t841 t842 t843 t846).bind fun bt857 => ((qv.f kj4 bt851.1 bt851.2.1 bt851.2.2.1 bt851.2.2.2.1 bt851.2.2.2.2.1 bt851.2.2.2.2.2 bt857.1 bt857.2.1 bt857.2.2.1 bt857.2.2.2.1 bt857.2.2.2.2.1 bt857.2.2.2.2.2).bind fun bt863 => (some (bt863.2, true))))) = some (r1, r2) := by rw [if_neg (show ¬ (false = true) by decide)] at H; exact H
    clear H
    have H := H1
    clear H1
    replace H := Option.bind_eq_some_iff.mp H
    obtain ⟨⟨t851, t852, t853, t854, t855, t856⟩, A170, H⟩ := H
    replace H : ((qj.f kj4 t841 t842 t843 t846).bind fun bt857 => ((qv.f kj4 t851 t852 t853 t854 t855 t856 bt857.1 bt857.2.1 bt857.2.2.1 bt857.2.2.2.1 bt857.2.2.2.2.1 bt857.2.2.2.2.2).bind fun bt863 => (some (bt863.2, true)))) = some (r1, r2) := H
    have A17 := Aside0.mk A170
    clear A170
    replace H := Option.bind_eq_some_iff.mp H
    obtain ⟨⟨t857, t858, t859, t860, t861, t862⟩, A180, H⟩ := H
    replace H : ((qv.f kj4 t851 t852 t853 t854 t855 t856 t857 t858 t859 t860 t861 t862).bind fun bt863 => (some (bt863.2, true))) = some (r1, r2) := H
    have A18 := Aside0.mk A180
    clear A180
    replace H := Option.bind_eq_some_iff.mp H
    obtain ⟨⟨t863, t864⟩, A190, H⟩ := H
    replace H : (some (t864, true)) = some (r1, r2) := H
    have A19 := Aside0.mk A190
    clear A190
    simp only [Option.some.injEq, Prod.mk.injEq] at H
    obtain ⟨rfl, rfl⟩ := H
    try go_wp2
    have n0_ := Aside0.mk (Kd.qH HO_7.out)
    have n1_ := Aside0.mk (Kd.qH HO_10.out)
    have n2_ := Aside0.mk (Kd.qH HO_841002.out)
    have n3_ := Aside0.mk (Kd.qH HO_851002.out)
    have n4_ := Aside0.mk (qE BK840.out)
    have n5_ := Aside0.mk (qE BK850.out)
    have n6_ := Aside0.mk (qk HB.out)
    clear HO_7
    clear HO_10
    clear HO_841002
    clear HO_851002
    clear BK840
    clear BK850
    clear HB
    have HO_7 := n0_
    have HO_10 := n1_
    have HO_841002 := n2_
    have HO_851002 := n3_
    have BK840 := n4_
    have BK850 := n5_
    have HB := n6_
    clear n0_ n1_ n2_ n3_ n4_ n5_ n6_
    obtain ⟨Ao21, co21, eo21⟩ := Kd.qr HO_7.out
    (first | subst eo21 | (injection eo21 with f1_ f2_ f3_; have f4_ := f1_.symm; have f5_ := f3_.symm; clear f1_ f2_ f3_; subst f4_; subst f5_))
    refine qwA (n := 12) (S := fun w' => w'.cell? ⟨gb840, 0, none⟩ = some (.int .i64 t831) ∧ w'.cell? ⟨gb840, 1, none⟩ = some (.int .i64 t832) ∧ w'.cell? ⟨gb840, 2, none⟩ = some (.slice Ao9 t833.length co9) ∧ w'.cell? ⟨gb850, 0, none⟩ = some (.int .i64 t841) ∧ w'.cell? ⟨gb850, 1, none⟩ = some (.int .i64 t842) ∧ w'.cell? ⟨gb850, 2, none⟩ = some (.slice Ao14 t843.length co14)) (ds := []) #[false, false, false, false, false, false, false, false, false, false, false, false] (by kernel_rfl) rfl rfl ⟨(qL BK840.out 0).trans rfl, (qL BK840.out 1).trans rfl, (qL BK840.out 2).trans rfl, (qL BK850.out 0).trans rfl, (qL BK850.out 1).trans rfl, (qL BK850.out 2).trans rfl⟩ (fun hHeld => ?_); refine qTA qY.tab5 qY.bits5 (fun HT_ HW_ => ?_)
    generalize wc.drew = w20 at HO_7 HO_10 HO_841002 HO_851002 BK840 BK850 HB hHeld ⊢
    refine pS (i := 1) (N := some 34) #[false, true, false, false, false, false, false, false, false, false, false, false] HT_ ?_
    refine pS (i := 4) (N := some 37) #[false, true, false, false, true, false, false, false, false, false, false, false] HT_ ?_
    refine tS (i := 0) (N := some 33) #[true, true, false, false, true, false, false, false, false, false, false, false] HT_ HW_ hHeld ?_
    refine tS (i := 3) (N := some 36) #[true, true, false, true, true, false, false, false, false, false, false, false] HT_ HW_ hHeld ?_
    refine one_ (i := 2) (N := some 35) #[true, true, true, true, true, false, false, false, false, false, false, false] rfl rfl (qnA HT_.out (by kernel_rfl)) (by decide) (fun K hK => ?_)
    refine goes_ Tryd.func40 (by kernel_rfl) rfl #[.agg #[.int .i64 t831, .int .i64 t832, .slice Ao9 t833.length co9], .slice Ao21 t836.length co21] (by rfl) rfl rfl (by (try simp only [List.map_toArray, List.map_cons, List.map_nil]); first | done | rfl | (simp only [List.length_drop, List.length_take]; rfl)) ?_
    with_reducible refine (qj.calls kj4 t831 t832 _ _ t833 _ _ t836 t851 t852 t853 t854 t855 t856 _ ?side1 ?side2 ?side3 ?side4 A17.out).mono ?_
    (case side1 => repeat (first | exact (Kd.qS HO_841002.out).2.2 | (with_reducible refine Kd.qZA ?_ _) | (with_reducible refine Kd.qYA ?_ _) | (with_reducible refine Kd.qpA ?_)))
    (case side2 => exact (Kd.qS HO_841002.out).2.1)
    (case side3 => repeat (first | exact (Kd.qS HO_7.out).2.2 | (with_reducible refine Kd.qZA ?_ _) | (with_reducible refine Kd.qYA ?_ _) | (with_reducible refine Kd.qpA ?_)))
    (case side4 => exact (Kd.qS HO_7.out).2.1)
    rintro e w22 ⟨rfl, hb⟩
    refine ⟨_, rfl, ?_⟩
    have n0_ := Aside0.mk (Kd.qU (by (with_reducible repeat (first | apply Kd.qF | apply Kd.qG | apply Kd.qH)); exact HO_7.out) hb)
    have n1_ := Aside0.mk (Kd.qU (by (with_reducible repeat (first | apply Kd.qF | apply Kd.qG | apply Kd.qH)); exact HO_10.out) hb)
    have n2_ := Aside0.mk (Kd.qU (by (with_reducible repeat (first | apply Kd.qF | apply Kd.qG | apply Kd.qH)); exact HO_841002.out) hb)
    have n3_ := Aside0.mk (Kd.qU (by (with_reducible repeat (first | apply Kd.qF | apply Kd.qG | apply Kd.qH)); exact HO_851002.out) hb)
    have n4_ := Aside0.mk (bb BK840 hb)
    have n5_ := Aside0.mk (bb BK850 hb)
    have n6_ := Aside0.mk (qJ bl hb)
    clear HO_7
    clear HO_10
    clear HO_841002
    clear HO_851002
    clear BK840
    clear BK850
    clear HB
    have HO_7 := n0_
    have HO_10 := n1_
    have HO_841002 := n2_
    have HO_851002 := n3_
    have BK840 := n4_
    have BK850 := n5_
    have HB := n6_
    clear n0_ n1_ n2_ n3_ n4_ n5_ n6_
    (try clear hb)
    (try clear hb2)
    (try clear hk)
    (try clear hi)
    obtain ⟨Ao23, co23, eo23⟩ := Kd.qr HO_10.out
    (first | subst eo23 | (injection eo23 with f1_ f2_ f3_; have f4_ := f1_.symm; have f5_ := f3_.symm; clear f1_ f2_ f3_; subst f4_; subst f5_))
    refine hK.out _ _ ⟨(qL BK840.out 0).trans rfl, (qL BK840.out 1).trans rfl, (qL BK840.out 2).trans rfl, (qL BK850.out 0).trans rfl, (qL BK850.out 1).trans rfl, (qL BK850.out 2).trans rfl⟩ (fun hHeld => ?_)
    clear hK K
    refine norm_ (a' := ?_) ?_ ?_
    rotate_left
    ·show Act.put _ (some 35) _ = _
     simp only [Act.put, List.setIfInBounds_toArray, List.set_cons_zero, List.set_cons_succ, i64_w, i32_w]
     rfl
    refine one_ (i := 5) (N := some 38) #[true, true, true, true, true, true, false, false, false, false, false, false] rfl rfl (qnA HT_.out (by kernel_rfl)) (by decide) (fun K hK => ?_)
    refine goes_ Tryd.func40 (by kernel_rfl) rfl #[.agg #[.int .i64 t841, .int .i64 t842, .slice Ao14 t843.length co14], .slice Ao23 t846.length co23] (by rfl) rfl rfl (by (try simp only [List.map_toArray, List.map_cons, List.map_nil]); first | done | rfl | (simp only [List.length_drop, List.length_take]; rfl)) ?_
    with_reducible refine (qj.calls kj4 t841 t842 _ _ t843 _ _ t846 t857 t858 t859 t860 t861 t862 _ ?side1 ?side2 ?side3 ?side4 A18.out).mono ?_
    (case side1 => repeat (first | exact (Kd.qS HO_851002.out).2.2 | (with_reducible refine Kd.qZA ?_ _) | (with_reducible refine Kd.qYA ?_ _) | (with_reducible refine Kd.qpA ?_)))
    (case side2 => exact (Kd.qS HO_851002.out).2.1)
    (case side3 => repeat (first | exact (Kd.qS HO_10.out).2.2 | (with_reducible refine Kd.qZA ?_ _) | (with_reducible refine Kd.qYA ?_ _) | (with_reducible refine Kd.qpA ?_)))
    (case side4 => exact (Kd.qS HO_10.out).2.1)
    rintro e w24 ⟨rfl, hb⟩
    refine ⟨_, rfl, ?_⟩
    have n0_ := Aside0.mk (Kd.qU (by (with_reducible repeat (first | apply Kd.qF | apply Kd.qG | apply Kd.qH)); exact HO_7.out) hb)
    have n1_ := Aside0.mk (Kd.qU (by (with_reducible repeat (first | apply Kd.qF | apply Kd.qG | apply Kd.qH)); exact HO_10.out) hb)
    have n2_ := Aside0.mk (Kd.qU (by (with_reducible repeat (first | apply Kd.qF | apply Kd.qG | apply Kd.qH)); exact HO_841002.out) hb)
    have n3_ := Aside0.mk (Kd.qU (by (with_reducible repeat (first | apply Kd.qF | apply Kd.qG | apply Kd.qH)); exact HO_851002.out) hb)
    have n4_ := Aside0.mk (bb BK840 hb)
    have n5_ := Aside0.mk (bb BK850 hb)
    have n6_ := Aside0.mk (qJ bl hb)
    clear HO_7
    clear HO_10
    clear HO_841002
    clear HO_851002
    clear BK840
    clear BK850
    clear HB
    have HO_7 := n0_
    have HO_10 := n1_
    have HO_841002 := n2_
    have HO_851002 := n3_
    have BK840 := n4_
    have BK850 := n5_
    have HB := n6_
    clear n0_ n1_ n2_ n3_ n4_ n5_ n6_
    (try clear hb)
    (try clear hb2)
    (try clear hk)
    (try clear hi)
    refine hK.out _ _ ⟨(qL BK840.out 0).trans rfl, (qL BK840.out 1).trans rfl, (qL BK840.out 2).trans rfl, (qL BK850.out 0).trans rfl, (qL BK850.out 1).trans rfl, (qL BK850.out 2).trans rfl⟩ (fun hHeld => ?_)
    clear hK K
    refine norm_ (a' := ?_) ?_ ?_
    rotate_left
    ·show Act.put _ (some 38) _ = _
     simp only [Act.put, List.setIfInBounds_toArray, List.set_cons_zero, List.set_cons_succ, i64_w, i32_w]
     rfl
    refine one_ (i := 6) (N := some 39) #[true, true, true, true, true, true, true, false, false, false, false, false] rfl rfl (qnA HT_.out (by kernel_rfl)) (by decide) (fun K hK => ?_)
    refine goes_ Tryd.func44 (by kernel_rfl) rfl #[.agg #[.int .i64 t851, .int .i64 t852, .int .i64 t853, .int .i64 t854, .int .i64 t855, .int .i64 t856], .agg #[.int .i64 t857, .int .i64 t858, .int .i64 t859, .int .i64 t860, .int .i64 t861, .int .i64 t862]] (by rfl) rfl rfl (by (try simp only [List.map_toArray, List.map_cons, List.map_nil]); first | done | rfl | (simp only [List.length_drop, List.length_take]; rfl)) ?_
    with_reducible refine (qv.calls kj4 t851 t852 t853 t854 t855 t856 t857 t858 t859 t860 t861 t862 t863 t864 _ A19.out).mono ?_
    rintro e w25 ⟨rfl, hb⟩
    refine ⟨_, rfl, ?_⟩
    have n0_ := Aside0.mk (Kd.qU (by (with_reducible repeat (first | apply Kd.qF | apply Kd.qG | apply Kd.qH)); exact HO_7.out) hb)
    have n1_ := Aside0.mk (Kd.qU (by (with_reducible repeat (first | apply Kd.qF | apply Kd.qG | apply Kd.qH)); exact HO_10.out) hb)
    have n2_ := Aside0.mk (Kd.qU (by (with_reducible repeat (first | apply Kd.qF | apply Kd.qG | apply Kd.qH)); exact HO_841002.out) hb)
    have n3_ := Aside0.mk (Kd.qU (by (with_reducible repeat (first | apply Kd.qF | apply Kd.qG | apply Kd.qH)); exact HO_851002.out) hb)
    have n4_ := Aside0.mk (bb BK840 hb)
    have n5_ := Aside0.mk (bb BK850 hb)
    have n6_ := Aside0.mk (qJ bl hb)
    clear HO_7
    clear HO_10
    clear HO_841002
    clear HO_851002
    clear BK840
    clear BK850
    clear HB
    have HO_7 := n0_
    have HO_10 := n1_
    have HO_841002 := n2_
    have HO_851002 := n3_
    have BK840 := n4_
    have BK850 := n5_
    have HB := n6_
    clear n0_ n1_ n2_ n3_ n4_ n5_ n6_
    (try clear hb)
    (try clear hb2)
    (try clear hk)
    (try clear hi)
    refine hK.out _ _ ⟨(qL BK840.out 0).trans rfl, (qL BK840.out 1).trans rfl, (qL BK840.out 2).trans rfl, (qL BK850.out 0).trans rfl, (qL BK850.out 1).trans rfl, (qL BK850.out 2).trans rfl⟩ (fun hHeld => ?_)
    clear hK K
    refine norm_ (a' := ?_) ?_ ?_
    rotate_left
    ·show Act.put _ (some 39) _ = _
     simp only [Act.put, List.setIfInBounds_toArray, List.set_cons_zero, List.set_cons_succ, i64_w, i32_w]
     rfl
    refine pS (i := 7) (N := some 32) #[true, true, true, true, true, true, true, true, false, false, false, false] HT_ ?_
    refine pS (i := 8) (N := some 40) #[true, true, true, true, true, true, true, true, true, false, false, false] HT_ ?_
    refine pS (i := 9) (N := some 41) #[true, true, true, true, true, true, true, true, true, true, false, false] HT_ ?_
    refine pS (i := 10) (N := some 12) #[true, true, true, true, true, true, true, true, true, true, true, false] HT_ ?_
    refine pS (i := 11) (N := some 13) #[true, true, true, true, true, true, true, true, true, true, true, true] HT_ ?_
    refine done_ (qDB HT_.out (by kernel_rfl)) ?_
    try go_wp2
    go_ret2
    exact ⟨by first | rfl | (simp [qN, qM] <;> rfl) | (simp [*, qN, qM] <;> rfl), bl⟩
def qIB.f  : Option (Int × Int × Int × Int × Int × Int) := some (0, 1, 2, 3, 4, 5)
set_option maxHeartbeats 8000000 in
set_option maxRecDepth 100000 in
theorem qIB.calls  (r1 : Int) (r2 : Int) (r3 : Int) (r4 : Int) (r5 : Int) (r6 : Int) (w : World) (h : qIB.f  = some (r1, r2, r3, r4, r5, r6)) :
  Calls Tryd.prog 52 #[] w fun e w' => e = .returned (.agg #[.int .i64 r1, .int .i64 r2, .int .i64 r3, .int .i64 r4, .int .i64 r5, .int .i64 r6]) ∧ Below w.heap.size w w' := by
 have hu31 := Tryd.underlying31
 have HB := Aside0.mk (Below.refl w.heap.size w)
 have H : (some (0, 1, 2, 3, 4, 5)) = some (r1, r2, r3, r4, r5, r6) := h
 clear h
 simp only [Option.some.injEq, Prod.mk.injEq] at H
 obtain ⟨rfl, rfl, rfl, rfl, rfl, rfl⟩ := H
 go_enter Tryd.func52, Tryd.ntmps52
 go_wp2_with (first | ((with_reducible refine qX (N := 0) rfl ?_); refine qW ?hg (N := 0) ?hd (cs := #[.int .i64 0, .int .i64 0, .int .i64 0, .int .i64 0, .int .i64 0, .int .i64 0]) (t := 31) ?hr ?_; (case hd => rfl); (case hg => rfl); (case hr => first | (go_simp; done) | (go_simp; rfl)); intro gb161 hg w1 hbox hb; have n0_ := Aside0.mk (qJ bl hb); have n1_ := Aside0.mk (hbox); have n2_ := Aside0.mk ((gg hg)); have n3_ := Aside0.mk ((gg hg)); clear HB; have HB := n0_; have BK161 := n1_; have GW161 := n2_; have GE161 := n3_; clear n0_ n1_ n2_ n3_; clear hb hbox hg; have hcz2_0 := bc BK161 0; have hcz2_1 := bc BK161 1; have hcz2_2 := bc BK161 2; have hcz2_3 := bc BK161 3; have hcz2_4 := bc BK161 4; have hcz2_5 := bc BK161 5; have hfz2_0 := qA BK161.out 0; have hfz2_1 := qA BK161.out 1; have hfz2_2 := qA BK161.out 2; have hfz2_3 := qA BK161.out 3; have hfz2_4 := qA BK161.out 4; have hfz2_5 := qA BK161.out 5))
 refine bodyPost_ret (results_cell_row rfl _ _ gb161 31 #[.int .i64 0, .int .i64 1, .int .i64 2, .int .i64 3, .int .i64 4, .int .i64 5] (0, 0) _ rfl (by (with_reducible repeat (first | refine qD ?_ _ | refine qE ?_ | refine qC ?_ _)); refine qO (cs := #[.int .i64 0, .int .i64 1, .int .i64 2, .int .i64 3, .int .i64 4, .int .i64 0]) ?_ 5 _ rfl; (with_reducible repeat (first | refine qD ?_ _ | refine qE ?_ | refine qC ?_ _)); refine qO (cs := #[.int .i64 0, .int .i64 1, .int .i64 2, .int .i64 3, .int .i64 0, .int .i64 0]) ?_ 4 _ rfl; (with_reducible repeat (first | refine qD ?_ _ | refine qE ?_ | refine qC ?_ _)); refine qO (cs := #[.int .i64 0, .int .i64 1, .int .i64 2, .int .i64 0, .int .i64 0, .int .i64 0]) ?_ 3 _ rfl; (with_reducible repeat (first | refine qD ?_ _ | refine qE ?_ | refine qC ?_ _)); refine qO (cs := #[.int .i64 0, .int .i64 1, .int .i64 0, .int .i64 0, .int .i64 0, .int .i64 0]) ?_ 2 _ rfl; (with_reducible repeat (first | refine qD ?_ _ | refine qE ?_ | refine qC ?_ _)); refine qO (cs := #[.int .i64 0, .int .i64 0, .int .i64 0, .int .i64 0, .int .i64 0, .int .i64 0]) ?_ 1 _ rfl; (with_reducible repeat (first | refine qD ?_ _ | refine qE ?_ | refine qC ?_ _)); refine qO (cs := #[.int .i64 0, .int .i64 0, .int .i64 0, .int .i64 0, .int .i64 0, .int .i64 0]) ?_ 0 _ rfl; (with_reducible repeat (first | refine qD ?_ _ | refine qE ?_ | refine qC ?_ _)); exact BK161.out) Tryd.underlying31 rfl (by kernel_rfl)) rfl ?_
 exact ⟨by first | rfl | (simp [qN, qM] <;> rfl) | (simp [*, qN, qM] <;> rfl), bl⟩
theorem eqA61 (d : Nat) (w : World) (x0 y0 : Int) (x1 y1 : Int) :
  (Op.equalIn (d + 2) 61 (.agg #[.int .i64 x0, .int .i64 x1]) (.agg #[.int .i64 y0, .int .i64 y1])).run Tryd.prog w = .ok (x0 == y0 && (x1 == y1)) w := by
 have e : ∀ a b : Int, (Op.equalIn (d + 1) 3 (.int .i64 a) (.int .i64 b)).run Tryd.prog w = .ok (a == b) w := fun a b => run_equalIn_int (P := Tryd.prog) w d 3 .i64 .i64 a b Tryd.underlying3
 have p0 : ∀ a0 a1 : Int, (part 3 #[.int .i64 a0, .int .i64 a1] 0).run Tryd.prog w = .ok (.int .i64 a0) w := fun a0 a1 => by go_simp; try rfl
 have p1 : ∀ a0 a1 : Int, (part 3 #[.int .i64 a0, .int .i64 a1] 1).run Tryd.prog w = .ok (.int .i64 a1) w := fun a0 a1 => by go_simp; try rfl
 have hs : (Go.sizeOf 3).run Tryd.prog w = .ok 1 w := by go_simp; try rfl
 have hr : List.range' 0 2 = [0, 1] := by decide
 rw [Op.equalIn]
 simp only [Sem.run_bind, run_underlying Tryd.underlying61, Result.andThen_ok, hs]
 simp only [Std.Legacy.Range.forIn_eq_forIn_range', Std.Legacy.Range.size]
 simp [hr, List.forIn_cons, p0, p1, e, Sem.run_bind, Sem.run_ite]
 by_cases h0 : x0 = y0 <;> by_cases h1 : x1 = y1 <;> simp [h0, h1]
end Go.Proofs.YtdncpkppkafkpaaDoor.P
namespace Go.Proofs.YtdncpkppkafkpaaDoor.P
open Go.RowKit Go.Proofs.YtdncpkppkafkpaaDoorW.PrintWords Go.Proofs.YtdncpkppkafkpaaDoorW.PrintLast Go.Proofs.YtdncpkppkafkpaaDoorW.PrintMore
attribute [local go_sem] qz qx qJA qIA qo qn qy qw
set_option linter.unusedVariables false
set_option linter.unusedSimpArgs false
attribute [local go_sem high] eqA61
def qT.l0 : Nat → List (S61) → Int → Int → Int → Int → Option (Int)
 | 0, _, _, _, _, _ => none
 | k + 1, x0, x7, x8, x163000, x163001 => if x8 < x7 then (if 0 ≤ x8 then (if x8 < (x0.length : Int) then (if (x163000 == ((qPA x0 x8).f0) && (x163001 == ((qPA x0 x8).f1))) = true then (some x8) else (qT.l0 k x0 x7 (wrap64 (x8 + 1)) x163000 x163001)) else (none)) else (none)) else (some (-1))
def qT.f (k : Nat) (l0 : List (S61)) (a1_0 : Int) (a1_1 : Int) : Option (Int) := qT.l0 k l0 (l0.length : Int) 0 a1_0 a1_1
set_option maxHeartbeats 8000000 in
set_option maxRecDepth 100000 in
theorem qT.calls (k : Nat) (A0 : Option Addr) (c0 : Nat) (l0 : List (S61)) (a1_0 : Int) (a1_1 : Int) (r : Int) (w : World) (hr0 : Kd.C k61 w A0 l0.length l0) (hc0 : l0.length ≤ c0) (h : qT.f k l0 a1_0 a1_1 = some r) :
  Calls Tryd.prog 77 #[.slice A0 l0.length c0, .agg #[.int .i64 a1_0, .int .i64 a1_1]] w fun e w' => e = .returned (.int .i64 r) ∧ Below w.heap.size w w' := by
 have hu61 := Tryd.underlying61
 have HR0 := Aside0.mk hr0
 have HC0 := Aside0.mk hc0
 clear hr0 hc0
 have HB := Aside0.mk (Below.refl w.heap.size w)
 have H : (qT.l0 k l0 (l0.length : Int) 0 a1_0 a1_1) = some r := h
 clear h
 have H' := Aside0.mk H
 clear H
 go_enter Tryd.func77, Tryd.ntmps77
 go_wp2_with (first | ((with_reducible refine qX (N := 3) rfl ?_); refine qW ?hg (N := 3) ?hd (cs := #[.int .i64 a1_0, .int .i64 a1_1]) (t := 61) ?hr ?_; (case hd => rfl); (case hg => rfl); (case hr => first | (go_simp; done) | (go_simp; rfl)); intro gb162 hg w3 hbox hb; have n0_ := Aside0.mk (qJ bl hb); have n1_ := Aside0.mk (hbox); have n2_ := Aside0.mk ((gg hg)); have n3_ := Aside0.mk ((gg hg)); clear HB; have HB := n0_; have BK162 := n1_; have GW162 := n2_; have GE162 := n3_; clear n0_ n1_ n2_ n3_; clear hb hbox hg))
 repeat (go_quiet (first | ((with_reducible refine qX (N := 3) rfl ?_); refine qW ?hg (N := 3) ?hd (cs := #[.int .i64 a1_0, .int .i64 a1_1]) (t := 61) ?hr ?_; (case hd => rfl); (case hg => rfl); (case hr => first | (go_simp; done) | (go_simp; rfl)); intro gb162 hg w3 hbox hb; have n0_ := Aside0.mk (qJ bl hb); have n1_ := Aside0.mk (hbox); have n2_ := Aside0.mk ((gg hg)); have n3_ := Aside0.mk ((gg hg)); clear HB; have HB := n0_; have BK162 := n1_; have GW162 := n2_; have GE162 := n3_; clear n0_ n1_ n2_ n3_; clear hb hbox hg)); try go_wp2_with (first | ((with_reducible refine qX (N := 3) rfl ?_); refine qW ?hg (N := 3) ?hd (cs := #[.int .i64 a1_0, .int .i64 a1_1]) (t := 61) ?hr ?_; (case hd => rfl); (case hg => rfl); (case hr => first | (go_simp; done) | (go_simp; rfl)); intro gb162 hg w3 hbox hb; have n0_ := Aside0.mk (qJ bl hb); have n1_ := Aside0.mk (hbox); have n2_ := Aside0.mk ((gg hg)); have n3_ := Aside0.mk ((gg hg)); clear HB; have HB := n0_; have BK162 := n1_; have GW162 := n2_; have GE162 := n3_; clear n0_ n1_ n2_ n3_; clear hb hbox hg)))
 go_loopg [8] k (fun kq v8 w' => ∃ (x8_1 : Int), v8 = .int .i64 x8_1 ∧ Aside0 (qT.l0 kq l0 (l0.length : Int) x8_1 a1_0 a1_1 = some r) ∧ Aside0 (kq ≤ k) ∧ Aside0 (w'.heap[gb162]? = some (.cells #[.int .i64 a1_0, .int .i64 a1_1] 61 (0, 0))) ∧ Aside0 (Below w.heap.size w w'))
 case atStart => exact ⟨(0), (by first | rfl | (simp; done) | (simp [*]; done)), H', ⟨Nat.le_refl _⟩, ⟨by (with_reducible repeat (first | refine qD ?_ _ | refine qE ?_ | refine qC ?_ _)); exact BK162.out⟩, ⟨bl⟩⟩
 case round =>
  clear H'
  try clear p2
  obtain ⟨x8_1, rfl, HA, HK1, BK162, HB⟩ := hrel
  cases gk with
  | zero => exact absurd HA.out (by simp [qT.l0])
  | succ k1 =>
   have H := HA.out
   clear HA
   simp only [qT.l0] at H
   by_cases c4 : x8_1 < (l0.length : Int)
   ·rw [if_pos c4] at H
    have c4b0 : decide (x8_1 < (l0.length : Int)) = true := decide_eq_true c4
    clear c4
    by_cases c5 : 0 ≤ x8_1
    ·rw [if_pos c5] at H
     have c5b0 : decide (0 ≤ x8_1) = true := decide_eq_true c5
     clear c5
     by_cases c6 : x8_1 < (l0.length : Int)
     ·rw [if_pos c6] at H
      have c6b0 : decide (x8_1 < (l0.length : Int)) = true := decide_eq_true c6
      clear c6
      by_cases c7 : (a1_0 == ((qPA l0 x8_1).f0) && (a1_1 == ((qPA l0 x8_1).f1))) = true
      ·rw [if_pos c7] at H
       have c7b0 : (a1_0 == ((qPA l0 x8_1).f0) && (a1_1 == ((qPA l0 x8_1).f1))) = true := c7
       (try (have c7b1 : decide (a1_0 = ((qPA l0 x8_1).f0) && (a1_1 == ((qPA l0 x8_1).f1))) = true := by simpa using c7))
       (try (have c7b2 : (a1_0 == ((qPA l0 x8_1).f0) && (a1_1 == ((qPA l0 x8_1).f1))) = true := by simpa using c7))
       clear c7
       obtain rfl := Option.some.inj H
       have hcz8_0 := bc BK162 0
       have hcz8_1 := bc BK162 1
       have hfz8_0 := qA BK162.out 0
       have hfz8_1 := qA BK162.out 1
       have p163 : 0 ≤ (x8_1 : Int) := of_decide_eq_true (by first | (with_reducible assumption) | assumption)
       have q163 : x8_1 < (l0.length : Int) := of_decide_eq_true (by first | (with_reducible assumption) | assumption)
       obtain ⟨ad163, e163, hx163_0, hx163_1⟩ := qjC HR0.out x8_1 p163 q163
       cases e163
       replace hx163_0 := (HB.out.cell (World.block_lt_of_cell? w _ hx163_0)).trans hx163_0
       replace hx163_1 := (HB.out.cell (World.block_lt_of_cell? w _ hx163_1)).trans hx163_1
       replace p163 := eq_true p163
       replace q163 := eq_true q163
       go_wp2
       repeat (go_quiet (fail); try go_wp2)
       go_ret
       exact ⟨by first | rfl | (simp [qN, qM] <;> rfl) | (simp [*, qN, qM] <;> rfl), bl⟩
      ·rw [if_neg c7] at H
       have c7b0 : (a1_0 == ((qPA l0 x8_1).f0) && (a1_1 == ((qPA l0 x8_1).f1))) = false := by simpa using c7
       (try (have c7b1 : decide (a1_0 = ((qPA l0 x8_1).f0) && (a1_1 == ((qPA l0 x8_1).f1))) = false := by simpa using c7))
       (try (have c7b2 : (a1_0 == ((qPA l0 x8_1).f0) && (a1_1 == ((qPA l0 x8_1).f1))) = false := by simpa using c7))
       (try (have c7b3 : ¬ (a1_0 = ((qPA l0 x8_1).f0) && (a1_1 == ((qPA l0 x8_1).f1))) := by simpa using c7))
       clear c7
       have H' := Aside0.mk H
       clear H
       have hcz9_0 := bc BK162 0
       have hcz9_1 := bc BK162 1
       have hfz9_0 := qA BK162.out 0
       have hfz9_1 := qA BK162.out 1
       have p163 : 0 ≤ (x8_1 : Int) := of_decide_eq_true (by first | (with_reducible assumption) | assumption)
       have q163 : x8_1 < (l0.length : Int) := of_decide_eq_true (by first | (with_reducible assumption) | assumption)
       obtain ⟨ad163, e163, hx163_0, hx163_1⟩ := qjC HR0.out x8_1 p163 q163
       cases e163
       replace hx163_0 := (HB.out.cell (World.block_lt_of_cell? w _ hx163_0)).trans hx163_0
       replace hx163_1 := (HB.out.cell (World.block_lt_of_cell? w _ hx163_1)).trans hx163_1
       replace p163 := eq_true p163
       replace q163 := eq_true q163
       go_wp2
       repeat (go_quiet (fail); try go_wp2)
       go_roundg k1
       case measure => have := HK1.out; omega
       case rel => exact ⟨(wrap64 (x8_1 + 1)), (by first | rfl | (simp; done) | (simp [*]; done)), H', ⟨by have := HK1.out; omega⟩, ⟨by (with_reducible repeat (first | refine qD ?_ _ | refine qE ?_ | refine qC ?_ _)); exact BK162.out⟩, ⟨bl⟩⟩
     ·rw [if_neg c6] at H
      exact absurd H (by simp)
    ·rw [if_neg c5] at H
     exact absurd H (by simp)
   ·rw [if_neg c4] at H
    have c4b0 : decide (x8_1 < (l0.length : Int)) = false := decide_eq_false c4
    clear c4
    obtain rfl := Option.some.inj H
    go_wp2
    repeat (go_quiet (fail); try go_wp2)
    go_ret
    exact ⟨by first | rfl | (simp [qN, qM] <;> rfl) | (simp [*, qN, qM] <;> rfl), bl⟩
end Go.Proofs.YtdncpkppkafkpaaDoor.P
namespace Go.Proofs.YtdncpkppkafkpaaDoor.P
open Go.RowKit Go.Proofs.YtdncpkppkafkpaaDoorW.PrintWords Go.Proofs.YtdncpkppkafkpaaDoorW.PrintLast Go.Proofs.YtdncpkppkafkpaaDoorW.PrintMore
attribute [local go_sem] qz qx qJA qIA qo qn qy qw
set_option linter.unusedVariables false
set_option linter.unusedSimpArgs false
def qVA.f (k : Nat) (l0 : List (S61)) (a1 : Int) (a2 : Int) : Option (Int) := (qT.f k l0 a1 a2).bind fun t164 => (some t164)
set_option maxHeartbeats 8000000 in
set_option maxRecDepth 100000 in
theorem qVA.calls (k : Nat) (A0 : Option Addr) (c0 : Nat) (l0 : List (S61)) (a1 : Int) (a2 : Int) (r : Int) (w : World) (hr0 : Kd.C k61 w A0 l0.length l0) (hc0 : l0.length ≤ c0) (h : qVA.f k l0 a1 a2 = some r) :
  Calls Tryd.prog 53 #[.slice A0 l0.length c0, .int .i64 a1, .int .i64 a2] w fun e w' => e = .returned (.int .i64 r) ∧ Below w.heap.size w w' := by
 have hu61 := Tryd.underlying61
 have HR0 := Aside0.mk hr0
 have HC0 := Aside0.mk hc0
 clear hr0 hc0
 have HB := Aside0.mk (Below.refl w.heap.size w)
 have H : ((qT.f k l0 a1 a2).bind fun t164 => (some t164)) = some r := h
 clear h
 replace H := Option.bind_eq_some_iff.mp H
 obtain ⟨t164, A40, H⟩ := H
 replace H : (some t164) = some r := H
 have A4 := Aside0.mk A40
 clear A40
 obtain rfl := Option.some.inj H
 go_enter Tryd.func53, Tryd.ntmps53
 go_wp2_with (first | ((with_reducible refine qa (f := 77) rfl ?_); refine qQA (some 11) rfl rfl Tryd.func77 (by kernel_rfl) rfl #[.slice A0 l0.length c0, .agg #[.int .i64 a1, .int .i64 a2]] rfl (by (try simp only [List.map_toArray, List.map_cons, List.map_nil]); first | done | rfl | (simp only [List.length_drop, List.length_take]; rfl)) ?_; (with_reducible refine (qT.calls k _ _ l0 a1 a2 t164 _ ?side1 ?side2 A4.out).mono ?_); (case side1 => repeat (first | exact HR0.out | (with_reducible refine Kd.qZA ?_ _) | (with_reducible refine Kd.qYA ?_ _) | (with_reducible refine Kd.qpA ?_))); (case side2 => exact HC0.out); rintro e w5 ⟨rfl, hb⟩; refine ⟨_, rfl, ?_⟩; have n0_ := Aside0.mk (qJ bl hb); clear HB; have HB := n0_; clear n0_; (try clear hb); (try clear hb2); (try clear hk); (try clear hi)))
 go_ret
 exact ⟨by first | rfl | (simp [qN, qM] <;> rfl) | (simp [*, qN, qM] <;> rfl), bl⟩
def qNB.f (a0 : Int) (a1 : Int) (a2 : Int) : Option (Int × Int) := if a2 = 110 then (some (a0, wrap64 (a1 - 1))) else (if a2 = 101 then (some (wrap64 (a0 + 1), a1)) else (if a2 = 115 then (some (a0, wrap64 (a1 + 1))) else (some (wrap64 (a0 - 1), a1))))
set_option maxHeartbeats 8000000 in
set_option maxRecDepth 100000 in
theorem qNB.calls (a0 : Int) (a1 : Int) (a2 : Int) (r1 : Int) (r2 : Int) (w : World) (h : qNB.f a0 a1 a2 = some (r1, r2)) :
  Calls Tryd.prog 54 #[.int .i64 a0, .int .i64 a1, .int .u8 a2] w fun e w' => e = .returned (.tuple #[.int .i64 r1, .int .i64 r2]) ∧ Drawn0 w w' := by
 have H : (if a2 = 110 then (some (a0, wrap64 (a1 - 1))) else (if a2 = 101 then (some (wrap64 (a0 + 1), a1)) else (if a2 = 115 then (some (a0, wrap64 (a1 + 1))) else (some (wrap64 (a0 - 1), a1))))) = some (r1, r2) := h
 clear h
 by_cases c4 : a2 = 110
 ·rw [if_pos c4] at H
  have c4b0 : (a2 == 110) = true := beq_iff_eq.mpr c4
  have c4b1 : (a2 != 110) = false := bne_eq_false_iff_eq.mpr c4
  clear c4
  simp only [Option.some.injEq, Prod.mk.injEq] at H
  obtain ⟨rfl, rfl⟩ := H
  go_enter Tryd.func54, Tryd.ntmps54
  go_wp2
  go_ret2
  exact ⟨by first | rfl | (simp; done) | (simp [*]; done), by repeat (first | exact Drawn0.refl _ | apply Drawn0.step)⟩
 ·rw [if_neg c4] at H
  have c4b0 : (a2 == 110) = false := beq_eq_false_iff_ne.mpr c4
  have c4b1 : (a2 != 110) = true := bne_iff_ne.mpr c4
  by_cases c5 : a2 = 101
  ·rw [if_pos c5] at H
   have c5b0 : (a2 == 101) = true := beq_iff_eq.mpr c5
   have c5b1 : (a2 != 101) = false := bne_eq_false_iff_eq.mpr c5
   clear c5
   simp only [Option.some.injEq, Prod.mk.injEq] at H
   obtain ⟨rfl, rfl⟩ := H
   go_enter Tryd.func54, Tryd.ntmps54
   go_wp2
   go_ret2
   exact ⟨by first | rfl | (simp; done) | (simp [*]; done), by repeat (first | exact Drawn0.refl _ | apply Drawn0.step)⟩
  ·rw [if_neg c5] at H
   have c5b0 : (a2 == 101) = false := beq_eq_false_iff_ne.mpr c5
   have c5b1 : (a2 != 101) = true := bne_iff_ne.mpr c5
   by_cases c6 : a2 = 115
   ·rw [if_pos c6] at H
    have c6b0 : (a2 == 115) = true := beq_iff_eq.mpr c6
    have c6b1 : (a2 != 115) = false := bne_eq_false_iff_eq.mpr c6
    clear c6
    simp only [Option.some.injEq, Prod.mk.injEq] at H
    obtain ⟨rfl, rfl⟩ := H
    go_enter Tryd.func54, Tryd.ntmps54
    go_wp2
    go_ret2
    exact ⟨by first | rfl | (simp; done) | (simp [*]; done), by repeat (first | exact Drawn0.refl _ | apply Drawn0.step)⟩
   ·rw [if_neg c6] at H
    have c6b0 : (a2 == 115) = false := beq_eq_false_iff_ne.mpr c6
    have c6b1 : (a2 != 115) = true := bne_iff_ne.mpr c6
    simp only [Option.some.injEq, Prod.mk.injEq] at H
    obtain ⟨rfl, rfl⟩ := H
    go_enter Tryd.func54, Tryd.ntmps54
    go_wp2
    go_ret2
    exact ⟨by first | rfl | (simp; done) | (simp [*]; done), by repeat (first | exact Drawn0.refl _ | apply Drawn0.step)⟩
def qMA.f (a0_0 : Int) (a0_1 : Int) (a0_2 : Int) (a0_3 : Int) (a0_4 : Int) (a0_5 : Int) (a1 : Int) : Option (Int × Int × Int × Int × Int × Int) := if a1 = 110 then (some (a0_3, a0_0, a0_2, a0_5, a0_4, a0_1)) else (if a1 = 101 then (some (a0_4, a0_1, a0_0, a0_3, a0_5, a0_2)) else (if a1 = 115 then (some (a0_1, a0_5, a0_2, a0_0, a0_4, a0_3)) else (some (a0_2, a0_1, a0_5, a0_3, a0_0, a0_4))))
set_option maxHeartbeats 8000000 in
set_option maxRecDepth 100000 in
theorem qMA.calls (a0_0 : Int) (a0_1 : Int) (a0_2 : Int) (a0_3 : Int) (a0_4 : Int) (a0_5 : Int) (a1 : Int) (r1 : Int) (r2 : Int) (r3 : Int) (r4 : Int) (r5 : Int) (r6 : Int) (w : World) (h : qMA.f a0_0 a0_1 a0_2 a0_3 a0_4 a0_5 a1 = some (r1, r2, r3, r4, r5, r6)) :
  Calls Tryd.prog 55 #[.agg #[.int .i64 a0_0, .int .i64 a0_1, .int .i64 a0_2, .int .i64 a0_3, .int .i64 a0_4, .int .i64 a0_5], .int .u8 a1] w fun e w' => e = .returned (.agg #[.int .i64 r1, .int .i64 r2, .int .i64 r3, .int .i64 r4, .int .i64 r5, .int .i64 r6]) ∧ Below w.heap.size w w' := by
 have hu31 := Tryd.underlying31
 have HB := Aside0.mk (Below.refl w.heap.size w)
 have H : (if a1 = 110 then (some (a0_3, a0_0, a0_2, a0_5, a0_4, a0_1)) else (if a1 = 101 then (some (a0_4, a0_1, a0_0, a0_3, a0_5, a0_2)) else (if a1 = 115 then (some (a0_1, a0_5, a0_2, a0_0, a0_4, a0_3)) else (some (a0_2, a0_1, a0_5, a0_3, a0_0, a0_4))))) = some (r1, r2, r3, r4, r5, r6) := h
 clear h
 by_cases c3 : a1 = 110
 ·rw [if_pos c3] at H
  have c3b0 : (a1 == 110) = true := beq_iff_eq.mpr c3
  have c3b1 : (a1 != 110) = false := bne_eq_false_iff_eq.mpr c3
  clear c3
  simp only [Option.some.injEq, Prod.mk.injEq] at H
  obtain ⟨rfl, rfl, rfl, rfl, rfl, rfl⟩ := H
  go_enter Tryd.func55, Tryd.ntmps55
  go_wp2_with (first | ((with_reducible refine qX (N := 2) rfl ?_); refine qW ?hg (N := 2) ?hd (cs := #[.int .i64 a0_0, .int .i64 a0_1, .int .i64 a0_2, .int .i64 a0_3, .int .i64 a0_4, .int .i64 a0_5]) (t := 31) ?hr ?_; (case hd => rfl); (case hg => rfl); (case hr => first | (go_simp; done) | (go_simp; rfl)); intro gb165 hg w4 hbox hb; have n0_ := Aside0.mk (qJ bl hb); have n1_ := Aside0.mk (hbox); have n2_ := Aside0.mk ((gg hg)); have n3_ := Aside0.mk ((gg hg)); clear HB; have HB := n0_; have BK165 := n1_; have GW165 := n2_; have GE165 := n3_; clear n0_ n1_ n2_ n3_; clear hb hbox hg) | ((with_reducible refine qX (N := 4) rfl ?_); refine qW ?hg (N := 4) ?hd (cs := #[.int .i64 0, .int .i64 0, .int .i64 0, .int .i64 0, .int .i64 0, .int .i64 0]) (t := 31) ?hr ?_; (case hd => rfl); (case hg => rfl); (case hr => first | (go_simp; done) | (go_simp; rfl)); intro gb166 hg w5 hbox hb; have n0_ := Aside0.mk (bb BK165 hb); have n1_ := Aside0.mk (qJ bl hb); have n2_ := Aside0.mk (hbox); have n3_ := Aside0.mk ((gg hg)); have n4_ := Aside0.mk ((gg hg)); have n5_ := Aside0.mk ((nl BK165 hg)); have n6_ := Aside0.mk ((nr BK165 hg)); clear BK165; clear HB; have BK165 := n0_; have HB := n1_; have BK166 := n2_; have GW166 := n3_; have GE166 := n4_; have NB165_166 := n5_; have NB166_165 := n6_; clear n0_ n1_ n2_ n3_ n4_ n5_ n6_; clear hb hbox hg; have hnb6 := NB165_166.out; have hnc6 := NB166_165.out; have hcz7_0 := bc BK165 0; have hcz7_1 := bc BK165 1; have hcz7_2 := bc BK165 2; have hcz7_3 := bc BK165 3; have hcz7_4 := bc BK165 4; have hcz7_5 := bc BK165 5; have hfz7_0 := qA BK165.out 0; have hfz7_1 := qA BK165.out 1; have hfz7_2 := qA BK165.out 2; have hfz7_3 := qA BK165.out 3; have hfz7_4 := qA BK165.out 4; have hfz7_5 := qA BK165.out 5; have hcz8_0 := bc BK166 0; have hcz8_1 := bc BK166 1; have hcz8_2 := bc BK166 2; have hcz8_3 := bc BK166 3; have hcz8_4 := bc BK166 4; have hcz8_5 := bc BK166 5; have hfz8_0 := qA BK166.out 0; have hfz8_1 := qA BK166.out 1; have hfz8_2 := qA BK166.out 2; have hfz8_3 := qA BK166.out 3; have hfz8_4 := qA BK166.out 4; have hfz8_5 := qA BK166.out 5))
  refine bodyPost_ret (results_cell_row rfl _ _ gb166 31 #[.int .i64 a0_3, .int .i64 a0_0, .int .i64 a0_2, .int .i64 a0_5, .int .i64 a0_4, .int .i64 a0_1] (0, 0) _ rfl (by (with_reducible repeat (first | refine qD ?_ _ | refine qE ?_ | refine qC ?_ _)); refine qO (cs := #[.int .i64 a0_3, .int .i64 a0_0, .int .i64 a0_2, .int .i64 a0_5, .int .i64 a0_4, .int .i64 0]) ?_ 5 _ rfl; (with_reducible repeat (first | refine qD ?_ _ | refine qE ?_ | refine qC ?_ _)); refine qO (cs := #[.int .i64 a0_3, .int .i64 a0_0, .int .i64 a0_2, .int .i64 a0_5, .int .i64 0, .int .i64 0]) ?_ 4 _ rfl; (with_reducible repeat (first | refine qD ?_ _ | refine qE ?_ | refine qC ?_ _)); refine qO (cs := #[.int .i64 a0_3, .int .i64 a0_0, .int .i64 a0_2, .int .i64 0, .int .i64 0, .int .i64 0]) ?_ 3 _ rfl; (with_reducible repeat (first | refine qD ?_ _ | refine qE ?_ | refine qC ?_ _)); refine qO (cs := #[.int .i64 a0_3, .int .i64 a0_0, .int .i64 0, .int .i64 0, .int .i64 0, .int .i64 0]) ?_ 2 _ rfl; (with_reducible repeat (first | refine qD ?_ _ | refine qE ?_ | refine qC ?_ _)); refine qO (cs := #[.int .i64 a0_3, .int .i64 0, .int .i64 0, .int .i64 0, .int .i64 0, .int .i64 0]) ?_ 1 _ rfl; (with_reducible repeat (first | refine qD ?_ _ | refine qE ?_ | refine qC ?_ _)); refine qO (cs := #[.int .i64 0, .int .i64 0, .int .i64 0, .int .i64 0, .int .i64 0, .int .i64 0]) ?_ 0 _ rfl; (with_reducible repeat (first | refine qD ?_ _ | refine qE ?_ | refine qC ?_ _)); exact BK166.out) Tryd.underlying31 rfl (by kernel_rfl)) rfl ?_
  exact ⟨by first | rfl | (simp [qN, qM] <;> rfl) | (simp [*, qN, qM] <;> rfl), bl⟩
 ·rw [if_neg c3] at H
  have c3b0 : (a1 == 110) = false := beq_eq_false_iff_ne.mpr c3
  have c3b1 : (a1 != 110) = true := bne_iff_ne.mpr c3
  by_cases c9 : a1 = 101
  ·rw [if_pos c9] at H
   have c9b0 : (a1 == 101) = true := beq_iff_eq.mpr c9
   have c9b1 : (a1 != 101) = false := bne_eq_false_iff_eq.mpr c9
   clear c9
   simp only [Option.some.injEq, Prod.mk.injEq] at H
   obtain ⟨rfl, rfl, rfl, rfl, rfl, rfl⟩ := H
   go_enter Tryd.func55, Tryd.ntmps55
   go_wp2_with (first | ((with_reducible refine qX (N := 2) rfl ?_); refine qW ?hg (N := 2) ?hd (cs := #[.int .i64 a0_0, .int .i64 a0_1, .int .i64 a0_2, .int .i64 a0_3, .int .i64 a0_4, .int .i64 a0_5]) (t := 31) ?hr ?_; (case hd => rfl); (case hg => rfl); (case hr => first | (go_simp; done) | (go_simp; rfl)); intro gb165 hg w10 hbox hb; have n0_ := Aside0.mk (qJ bl hb); have n1_ := Aside0.mk (hbox); have n2_ := Aside0.mk ((gg hg)); have n3_ := Aside0.mk ((gg hg)); clear HB; have HB := n0_; have BK165 := n1_; have GW165 := n2_; have GE165 := n3_; clear n0_ n1_ n2_ n3_; clear hb hbox hg) | ((with_reducible refine qX (N := 4) rfl ?_); refine qW ?hg (N := 4) ?hd (cs := #[.int .i64 0, .int .i64 0, .int .i64 0, .int .i64 0, .int .i64 0, .int .i64 0]) (t := 31) ?hr ?_; (case hd => rfl); (case hg => rfl); (case hr => first | (go_simp; done) | (go_simp; rfl)); intro gb166 hg w11 hbox hb; have n0_ := Aside0.mk (bb BK165 hb); have n1_ := Aside0.mk (qJ bl hb); have n2_ := Aside0.mk (hbox); have n3_ := Aside0.mk ((gg hg)); have n4_ := Aside0.mk ((gg hg)); have n5_ := Aside0.mk ((nl BK165 hg)); have n6_ := Aside0.mk ((nr BK165 hg)); clear BK165; clear HB; have BK165 := n0_; have HB := n1_; have BK166 := n2_; have GW166 := n3_; have GE166 := n4_; have NB165_166 := n5_; have NB166_165 := n6_; clear n0_ n1_ n2_ n3_ n4_ n5_ n6_; clear hb hbox hg; have hnb12 := NB165_166.out; have hnc12 := NB166_165.out; have hcz13_0 := bc BK165 0; have hcz13_1 := bc BK165 1; have hcz13_2 := bc BK165 2; have hcz13_3 := bc BK165 3; have hcz13_4 := bc BK165 4; have hcz13_5 := bc BK165 5; have hfz13_0 := qA BK165.out 0; have hfz13_1 := qA BK165.out 1; have hfz13_2 := qA BK165.out 2; have hfz13_3 := qA BK165.out 3; have hfz13_4 := qA BK165.out 4; have hfz13_5 := qA BK165.out 5; have hcz14_0 := bc BK166 0; have hcz14_1 := bc BK166 1; have hcz14_2 := bc BK166 2; have hcz14_3 := bc BK166 3; have hcz14_4 := bc BK166 4; have hcz14_5 := bc BK166 5; have hfz14_0 := qA BK166.out 0; have hfz14_1 := qA BK166.out 1; have hfz14_2 := qA BK166.out 2; have hfz14_3 := qA BK166.out 3; have hfz14_4 := qA BK166.out 4; have hfz14_5 := qA BK166.out 5))
   refine bodyPost_ret (results_cell_row rfl _ _ gb166 31 #[.int .i64 a0_4, .int .i64 a0_1, .int .i64 a0_0, .int .i64 a0_3, .int .i64 a0_5, .int .i64 a0_2] (0, 0) _ rfl (by (with_reducible repeat (first | refine qD ?_ _ | refine qE ?_ | refine qC ?_ _)); refine qO (cs := #[.int .i64 a0_4, .int .i64 a0_1, .int .i64 a0_0, .int .i64 a0_3, .int .i64 a0_5, .int .i64 0]) ?_ 5 _ rfl; (with_reducible repeat (first | refine qD ?_ _ | refine qE ?_ | refine qC ?_ _)); refine qO (cs := #[.int .i64 a0_4, .int .i64 a0_1, .int .i64 a0_0, .int .i64 a0_3, .int .i64 0, .int .i64 0]) ?_ 4 _ rfl; (with_reducible repeat (first | refine qD ?_ _ | refine qE ?_ | refine qC ?_ _)); refine qO (cs := #[.int .i64 a0_4, .int .i64 a0_1, .int .i64 a0_0, .int .i64 0, .int .i64 0, .int .i64 0]) ?_ 3 _ rfl; (with_reducible repeat (first | refine qD ?_ _ | refine qE ?_ | refine qC ?_ _)); refine qO (cs := #[.int .i64 a0_4, .int .i64 a0_1, .int .i64 0, .int .i64 0, .int .i64 0, .int .i64 0]) ?_ 2 _ rfl; (with_reducible repeat (first | refine qD ?_ _ | refine qE ?_ | refine qC ?_ _)); refine qO (cs := #[.int .i64 a0_4, .int .i64 0, .int .i64 0, .int .i64 0, .int .i64 0, .int .i64 0]) ?_ 1 _ rfl; (with_reducible repeat (first | refine qD ?_ _ | refine qE ?_ | refine qC ?_ _)); refine qO (cs := #[.int .i64 0, .int .i64 0, .int .i64 0, .int .i64 0, .int .i64 0, .int .i64 0]) ?_ 0 _ rfl; (with_reducible repeat (first | refine qD ?_ _ | refine qE ?_ | refine qC ?_ _)); exact BK166.out) Tryd.underlying31 rfl (by kernel_rfl)) rfl ?_
   exact ⟨by first | rfl | (simp [qN, qM] <;> rfl) | (simp [*, qN, qM] <;> rfl), bl⟩
  ·rw [if_neg c9] at H
   have c9b0 : (a1 == 101) = false := beq_eq_false_iff_ne.mpr c9
   have c9b1 : (a1 != 101) = true := bne_iff_ne.mpr c9
   by_cases c15 : a1 = 115
   ·rw [if_pos c15] at H
    have c15b0 : (a1 == 115) = true := beq_iff_eq.mpr c15
    have c15b1 : (a1 != 115) = false := bne_eq_false_iff_eq.mpr c15
    clear c15
    simp only [Option.some.injEq, Prod.mk.injEq] at H
    obtain ⟨rfl, rfl, rfl, rfl, rfl, rfl⟩ := H
    go_enter Tryd.func55, Tryd.ntmps55
    go_wp2_with (first | ((with_reducible refine qX (N := 2) rfl ?_); refine qW ?hg (N := 2) ?hd (cs := #[.int .i64 a0_0, .int .i64 a0_1, .int .i64 a0_2, .int .i64 a0_3, .int .i64 a0_4, .int .i64 a0_5]) (t := 31) ?hr ?_; (case hd => rfl); (case hg => rfl); (case hr => first | (go_simp; done) | (go_simp; rfl)); intro gb165 hg w16 hbox hb; have n0_ := Aside0.mk (qJ bl hb); have n1_ := Aside0.mk (hbox); have n2_ := Aside0.mk ((gg hg)); have n3_ := Aside0.mk ((gg hg)); clear HB; have HB := n0_; have BK165 := n1_; have GW165 := n2_; have GE165 := n3_; clear n0_ n1_ n2_ n3_; clear hb hbox hg) | ((with_reducible refine qX (N := 4) rfl ?_); refine qW ?hg (N := 4) ?hd (cs := #[.int .i64 0, .int .i64 0, .int .i64 0, .int .i64 0, .int .i64 0, .int .i64 0]) (t := 31) ?hr ?_; (case hd => rfl); (case hg => rfl); (case hr => first | (go_simp; done) | (go_simp; rfl)); intro gb166 hg w17 hbox hb; have n0_ := Aside0.mk (bb BK165 hb); have n1_ := Aside0.mk (qJ bl hb); have n2_ := Aside0.mk (hbox); have n3_ := Aside0.mk ((gg hg)); have n4_ := Aside0.mk ((gg hg)); have n5_ := Aside0.mk ((nl BK165 hg)); have n6_ := Aside0.mk ((nr BK165 hg)); clear BK165; clear HB; have BK165 := n0_; have HB := n1_; have BK166 := n2_; have GW166 := n3_; have GE166 := n4_; have NB165_166 := n5_; have NB166_165 := n6_; clear n0_ n1_ n2_ n3_ n4_ n5_ n6_; clear hb hbox hg; have hnb18 := NB165_166.out; have hnc18 := NB166_165.out; have hcz19_0 := bc BK165 0; have hcz19_1 := bc BK165 1; have hcz19_2 := bc BK165 2; have hcz19_3 := bc BK165 3; have hcz19_4 := bc BK165 4; have hcz19_5 := bc BK165 5; have hfz19_0 := qA BK165.out 0; have hfz19_1 := qA BK165.out 1; have hfz19_2 := qA BK165.out 2; have hfz19_3 := qA BK165.out 3; have hfz19_4 := qA BK165.out 4; have hfz19_5 := qA BK165.out 5; have hcz20_0 := bc BK166 0; have hcz20_1 := bc BK166 1; have hcz20_2 := bc BK166 2; have hcz20_3 := bc BK166 3; have hcz20_4 := bc BK166 4; have hcz20_5 := bc BK166 5; have hfz20_0 := qA BK166.out 0; have hfz20_1 := qA BK166.out 1; have hfz20_2 := qA BK166.out 2; have hfz20_3 := qA BK166.out 3; have hfz20_4 := qA BK166.out 4; have hfz20_5 := qA BK166.out 5))
    refine bodyPost_ret (results_cell_row rfl _ _ gb166 31 #[.int .i64 a0_1, .int .i64 a0_5, .int .i64 a0_2, .int .i64 a0_0, .int .i64 a0_4, .int .i64 a0_3] (0, 0) _ rfl (by (with_reducible repeat (first | refine qD ?_ _ | refine qE ?_ | refine qC ?_ _)); refine qO (cs := #[.int .i64 a0_1, .int .i64 a0_5, .int .i64 a0_2, .int .i64 a0_0, .int .i64 a0_4, .int .i64 0]) ?_ 5 _ rfl; (with_reducible repeat (first | refine qD ?_ _ | refine qE ?_ | refine qC ?_ _)); refine qO (cs := #[.int .i64 a0_1, .int .i64 a0_5, .int .i64 a0_2, .int .i64 a0_0, .int .i64 0, .int .i64 0]) ?_ 4 _ rfl; (with_reducible repeat (first | refine qD ?_ _ | refine qE ?_ | refine qC ?_ _)); refine qO (cs := #[.int .i64 a0_1, .int .i64 a0_5, .int .i64 a0_2, .int .i64 0, .int .i64 0, .int .i64 0]) ?_ 3 _ rfl; (with_reducible repeat (first | refine qD ?_ _ | refine qE ?_ | refine qC ?_ _)); refine qO (cs := #[.int .i64 a0_1, .int .i64 a0_5, .int .i64 0, .int .i64 0, .int .i64 0, .int .i64 0]) ?_ 2 _ rfl; (with_reducible repeat (first | refine qD ?_ _ | refine qE ?_ | refine qC ?_ _)); refine qO (cs := #[.int .i64 a0_1, .int .i64 0, .int .i64 0, .int .i64 0, .int .i64 0, .int .i64 0]) ?_ 1 _ rfl; (with_reducible repeat (first | refine qD ?_ _ | refine qE ?_ | refine qC ?_ _)); refine qO (cs := #[.int .i64 0, .int .i64 0, .int .i64 0, .int .i64 0, .int .i64 0, .int .i64 0]) ?_ 0 _ rfl; (with_reducible repeat (first | refine qD ?_ _ | refine qE ?_ | refine qC ?_ _)); exact BK166.out) Tryd.underlying31 rfl (by kernel_rfl)) rfl ?_
    exact ⟨by first | rfl | (simp [qN, qM] <;> rfl) | (simp [*, qN, qM] <;> rfl), bl⟩
   ·rw [if_neg c15] at H
    have c15b0 : (a1 == 115) = false := beq_eq_false_iff_ne.mpr c15
    have c15b1 : (a1 != 115) = true := bne_iff_ne.mpr c15
    simp only [Option.some.injEq, Prod.mk.injEq] at H
    obtain ⟨rfl, rfl, rfl, rfl, rfl, rfl⟩ := H
    go_enter Tryd.func55, Tryd.ntmps55
    go_wp2_with (first | ((with_reducible refine qX (N := 2) rfl ?_); refine qW ?hg (N := 2) ?hd (cs := #[.int .i64 a0_0, .int .i64 a0_1, .int .i64 a0_2, .int .i64 a0_3, .int .i64 a0_4, .int .i64 a0_5]) (t := 31) ?hr ?_; (case hd => rfl); (case hg => rfl); (case hr => first | (go_simp; done) | (go_simp; rfl)); intro gb165 hg w21 hbox hb; have n0_ := Aside0.mk (qJ bl hb); have n1_ := Aside0.mk (hbox); have n2_ := Aside0.mk ((gg hg)); have n3_ := Aside0.mk ((gg hg)); clear HB; have HB := n0_; have BK165 := n1_; have GW165 := n2_; have GE165 := n3_; clear n0_ n1_ n2_ n3_; clear hb hbox hg) | ((with_reducible refine qX (N := 4) rfl ?_); refine qW ?hg (N := 4) ?hd (cs := #[.int .i64 0, .int .i64 0, .int .i64 0, .int .i64 0, .int .i64 0, .int .i64 0]) (t := 31) ?hr ?_; (case hd => rfl); (case hg => rfl); (case hr => first | (go_simp; done) | (go_simp; rfl)); intro gb166 hg w22 hbox hb; have n0_ := Aside0.mk (bb BK165 hb); have n1_ := Aside0.mk (qJ bl hb); have n2_ := Aside0.mk (hbox); have n3_ := Aside0.mk ((gg hg)); have n4_ := Aside0.mk ((gg hg)); have n5_ := Aside0.mk ((nl BK165 hg)); have n6_ := Aside0.mk ((nr BK165 hg)); clear BK165; clear HB; have BK165 := n0_; have HB := n1_; have BK166 := n2_; have GW166 := n3_; have GE166 := n4_; have NB165_166 := n5_; have NB166_165 := n6_; clear n0_ n1_ n2_ n3_ n4_ n5_ n6_; clear hb hbox hg; have hnb23 := NB165_166.out; have hnc23 := NB166_165.out; have hcz24_0 := bc BK165 0; have hcz24_1 := bc BK165 1; have hcz24_2 := bc BK165 2; have hcz24_3 := bc BK165 3; have hcz24_4 := bc BK165 4; have hcz24_5 := bc BK165 5; have hfz24_0 := qA BK165.out 0; have hfz24_1 := qA BK165.out 1; have hfz24_2 := qA BK165.out 2; have hfz24_3 := qA BK165.out 3; have hfz24_4 := qA BK165.out 4; have hfz24_5 := qA BK165.out 5; have hcz25_0 := bc BK166 0; have hcz25_1 := bc BK166 1; have hcz25_2 := bc BK166 2; have hcz25_3 := bc BK166 3; have hcz25_4 := bc BK166 4; have hcz25_5 := bc BK166 5; have hfz25_0 := qA BK166.out 0; have hfz25_1 := qA BK166.out 1; have hfz25_2 := qA BK166.out 2; have hfz25_3 := qA BK166.out 3; have hfz25_4 := qA BK166.out 4; have hfz25_5 := qA BK166.out 5))
    refine bodyPost_ret (results_cell_row rfl _ _ gb166 31 #[.int .i64 a0_2, .int .i64 a0_1, .int .i64 a0_5, .int .i64 a0_3, .int .i64 a0_0, .int .i64 a0_4] (0, 0) _ rfl (by (with_reducible repeat (first | refine qD ?_ _ | refine qE ?_ | refine qC ?_ _)); refine qO (cs := #[.int .i64 a0_2, .int .i64 a0_1, .int .i64 a0_5, .int .i64 a0_3, .int .i64 a0_0, .int .i64 0]) ?_ 5 _ rfl; (with_reducible repeat (first | refine qD ?_ _ | refine qE ?_ | refine qC ?_ _)); refine qO (cs := #[.int .i64 a0_2, .int .i64 a0_1, .int .i64 a0_5, .int .i64 a0_3, .int .i64 0, .int .i64 0]) ?_ 4 _ rfl; (with_reducible repeat (first | refine qD ?_ _ | refine qE ?_ | refine qC ?_ _)); refine qO (cs := #[.int .i64 a0_2, .int .i64 a0_1, .int .i64 a0_5, .int .i64 0, .int .i64 0, .int .i64 0]) ?_ 3 _ rfl; (with_reducible repeat (first | refine qD ?_ _ | refine qE ?_ | refine qC ?_ _)); refine qO (cs := #[.int .i64 a0_2, .int .i64 a0_1, .int .i64 0, .int .i64 0, .int .i64 0, .int .i64 0]) ?_ 2 _ rfl; (with_reducible repeat (first | refine qD ?_ _ | refine qE ?_ | refine qC ?_ _)); refine qO (cs := #[.int .i64 a0_2, .int .i64 0, .int .i64 0, .int .i64 0, .int .i64 0, .int .i64 0]) ?_ 1 _ rfl; (with_reducible repeat (first | refine qD ?_ _ | refine qE ?_ | refine qC ?_ _)); refine qO (cs := #[.int .i64 0, .int .i64 0, .int .i64 0, .int .i64 0, .int .i64 0, .int .i64 0]) ?_ 0 _ rfl; (with_reducible repeat (first | refine qD ?_ _ | refine qE ?_ | refine qC ?_ _)); exact BK166.out) Tryd.underlying31 rfl (by kernel_rfl)) rfl ?_
    exact ⟨by first | rfl | (simp [qN, qM] <;> rfl) | (simp [*, qN, qM] <;> rfl), bl⟩
mutual
def qI.l0 : Nat → List (S61) → List Int → List Int → Int → Int → Option (List Int × List Int)
 | 0, _, _, _, _, _ => none
 | k + 1, x0, x15, x18, x20, x21 => if x21 < x20 then (if 0 ≤ x21 then (if x21 < (x18.length : Int) then (qI.l0 k x0 x15 (x18.set (x21 : Int).toNat (-1)) x20 (wrap64 (x21 + 1))) else (none)) else (none)) else (if 0 ≤ (x0.length : Int) then (if ((x0.length : Int) : Int).toNat ≤ 5864062014805 then ((some (List.replicate ((x0.length : Int) : Int).toNat z31 : List (S31))).bind fun y174 => ((qIB.f).bind fun bt180 => (if 0 < (y174.length : Int) then (if 0 < (x15.length : Int) then (if 0 < (x18.length : Int) then (qI.l1 k x0 (([0] : List Int)) 0 (x15.set (0 : Int).toNat 5) (x18.set (0 : Int).toNat 0) (y174.set (0 : Int).toNat (⟨bt180.1, bt180.2.1, bt180.2.2.1, bt180.2.2.2.1, bt180.2.2.2.2.1, bt180.2.2.2.2.2⟩ : S31))) else (none)) else (none)) else (none)))) else (none)) else (none))
def qI.l1 : Nat → List (S61) → List Int → Int → List Int → List Int → List (S31) → Option (List Int × List Int)
 | 0, _, _, _, _, _, _ => none
 | k + 1, x0, x8, x9, x15, x18, x30 => if x9 < (x8.length : Int) then (if 0 ≤ x9 then (qI.l2 k x0 x8 x9 (rd x8 x9) x15 x18 x30 0) else (none)) else (some (x15, x18))
def qI.l2 : Nat → List (S61) → List Int → Int → Int → List Int → List Int → List (S31) → Int → Option (List Int × List Int)
 | 0, _, _, _, _, _, _, _, _ => none
 | k + 1, x0, x8, x9, x10, x15, x18, x30, x49 => if x49 < 4 then (if 0 ≤ x10 then (if x10 < (x0.length : Int) then (if 0 ≤ x49 then ((qNB.f ((qPA x0 x10).f0) ((qPA x0 x10).f1) (bt (⟨#[110, 101, 115, 119]⟩ : ByteArray) x49)).bind fun bt192 => ((qVA.f k x0 bt192.1 bt192.2).bind fun t194 => (if t194 < 0 then (qI.l2 k x0 x8 x9 x10 x15 x18 x30 (wrap64 (x49 + 1))) else (if 0 ≤ t194 then (if t194 < (x18.length : Int) then (if (rd x18 t194) ≥ 0 then (qI.l2 k x0 x8 x9 x10 x15 x18 x30 (wrap64 (x49 + 1))) else (if x10 < (x30.length : Int) then ((qMA.f ((qP x30 x10).f0) ((qP x30 x10).f1) ((qP x30 x10).f2) ((qP x30 x10).f3) ((qP x30 x10).f4) ((qP x30 x10).f5) (bt (⟨#[110, 101, 115, 119]⟩ : ByteArray) x49)).bind fun bt197 => (if x10 < (x18.length : Int) then (if t194 < (x30.length : Int) then (if t194 < (x15.length : Int) then (if x8.length < 17592186044416 then (qI.l2 k x0 (x8 ++ [t194]) x9 x10 (x15.set (t194 : Int).toNat bt197.2.2.2.2.2) (x18.set (t194 : Int).toNat (wrap64 ((rd x18 x10) + 1))) (x30.set (t194 : Int).toNat (⟨bt197.1, bt197.2.1, bt197.2.2.1, bt197.2.2.2.1, bt197.2.2.2.2.1, bt197.2.2.2.2.2⟩ : S31)) (wrap64 (x49 + 1))) else (none)) else (none)) else (none)) else (none))) else (none))) else (none)) else (none))))) else (none)) else (none)) else (none)) else (qI.l1 k x0 x8 (wrap64 (x9 + 1)) x15 x18 x30)
end
def qI.f (k : Nat) (l0 : List (S61)) : Option (List Int × List Int) := if 0 ≤ (l0.length : Int) then (if ((l0.length : Int) : Int).toNat ≤ 35184372088832 then ((some (List.replicate ((l0.length : Int) : Int).toNat 0 : List Int)).bind fun y170 => (qI.l0 k l0 (List.replicate ((l0.length : Int) : Int).toNat 0) y170 (y170.length : Int) 0)) else (none)) else (none)
def qI.T1 : Bool × List (List Nat × List Nat) := (true, [([], []), ([0], [0]), ([1, 1], [1]), ([], []), ([3], [3]), ([4, 4], [4]), ([2, 0, 1, 2], [2]), ([5, 6, 0, 1, 2, 3, 4, 5, 6], [5])])
def qI.B1 : List Nat := [0, 1, 3, 0, 8, 24, 7, 127]
theorem qI.tab1 : rtab .any (opsOf Tryd.f38 1) = qI.T1 := by kernel_rfl
theorem qI.bits1 : waitsOk qI.T1.2 qI.B1 = true := by kernel_rfl
def qI.T16 : Bool × List (List Nat × List Nat) := (true, [([], []), ([], []), ([], []), ([1, 2], [1, 2]), ([3], [3]), ([4], [4]), ([], []), ([], []), ([6, 7], [6, 7]), ([8], [8]), ([9], [9]), ([], []), ([11], [11]), ([5, 10, 12], [5, 10, 12]), ([13], [13]), ([13], [13]), ([0, 14, 15, 13], [0, 14, 15]), ([16, 16, 0, 1, 2, 3, 4, 5, 6, 7, 8, 9, 10, 11, 12, 13, 14, 15, 16], [16])])
def qI.B16 : List Nat := [0, 0, 0, 6, 14, 30, 0, 0, 192, 448, 960, 0, 2048, 8190, 16382, 16382, 65535, 131071]
theorem qI.tab16 : rtab .any (opsOf Tryd.f38 16) = qI.T16 := by kernel_rfl
theorem qI.bits16 : waitsOk qI.T16.2 qI.B16 = true := by kernel_rfl
def qI.T18 : Bool × List (List Nat × List Nat) := (true, [([], []), ([], []), ([], []), ([], []), ([], []), ([], []), ([4, 5], [4, 5]), ([6], [6]), ([], []), ([8], [8]), ([7, 9], [7, 9]), ([], []), ([], []), ([11, 12], [11, 12]), ([13], [13]), ([14], [14]), ([0, 1, 0, 1, 4, 5, 6, 7, 8, 9, 10, 14], [0, 1]), ([16, 10, 10, 0, 1, 4, 5, 6, 7, 8, 9, 10, 14], [10, 16]), ([2, 3, 0, 1, 2, 3, 4, 5, 6, 7, 8, 9, 10, 11, 12, 13, 14, 15, 16, 17], [2, 3]), ([18, 15, 17, 0, 1, 2, 3, 4, 5, 6, 7, 8, 9, 10, 11, 12, 13, 14, 15, 16, 17], [15, 18])])
def qI.B18 : List Nat := [0, 0, 0, 0, 0, 0, 48, 112, 0, 256, 1008, 0, 0, 6144, 14336, 30720, 32755, 98291, 262143, 524287]
theorem qI.tab18 : rtab .any (opsOf Tryd.f38 18) = qI.T18 := by kernel_rfl
theorem qI.bits18 : waitsOk qI.T18.2 qI.B18 = true := by kernel_rfl
set_option maxHeartbeats 8000000 in
set_option maxRecDepth 100000 in
theorem qI.calls (k : Nat) (A0 : Option Addr) (c0 : Nat) (l0 : List (S61)) (r1 : List Int) (r2 : List Int) (w : World) (hr0 : Kd.C k61 w A0 l0.length l0) (hc0 : l0.length ≤ c0) (h : qI.f k l0 = some (r1, r2)) :
  Calls Tryd.prog 38 #[.slice A0 l0.length c0] w fun e w' => ∃ v0_ v1_ : Value, e = .returned (.tuple #[v0_, v1_]) ∧ Kd.R (Kd.int .i64) 3 w' w.heap.size (fun k_ => some k_ ≠ (v1_ : Value).ownBlock) v0_ r1 ∧ Kd.R (Kd.int .i64) 3 w' w.heap.size (fun k_ => some k_ ≠ (v0_ : Value).ownBlock) v1_ r2 ∧ Below w.heap.size w w' := by
 have hu31 := Tryd.underlying31
 have HR0 := Aside0.mk hr0
 have HC0 := Aside0.mk hc0
 clear hr0 hc0
 have HB := Aside0.mk (Below.refl w.heap.size w)
 have H : (if 0 ≤ (l0.length : Int) then (if ((l0.length : Int) : Int).toNat ≤ 35184372088832 then ((some (List.replicate ((l0.length : Int) : Int).toNat 0 : List Int)).bind fun y170 => (qI.l0 k l0 (List.replicate ((l0.length : Int) : Int).toNat 0) y170 (y170.length : Int) 0)) else (none)) else (none)) = some (r1, r2) := h
 clear h
 by_cases c2 : 0 ≤ (l0.length : Int)
 ·rw [if_pos c2] at H
  have c2b0 := eq_true c2
  have c2b1 : decide (0 ≤ (l0.length : Int)) = true := decide_eq_true c2
  clear c2
  by_cases c3 : ((l0.length : Int) : Int).toNat ≤ 35184372088832
  ·rw [if_pos c3] at H
   have c3b0 := eq_true c3
   have c3b1 : decide (((l0.length : Int) : Int).toNat ≤ 35184372088832) = true := decide_eq_true c3
   clear c3
   obtain ⟨y167, hy167⟩ : ∃ y_ : List Int, y_ = (List.replicate ((l0.length : Int) : Int).toNat 0) := ⟨_, rfl⟩
   replace H : ((some (List.replicate ((l0.length : Int) : Int).toNat 0 : List Int)).bind fun y170 => (qI.l0 k l0 y167 y170 (y170.length : Int) 0)) = some (r1, r2) := by first | (rw [hy167]; with_reducible exact H) | (have H2_ := (Option.bind_some _ _).symm.trans H; rw [hy167]; with_reducible exact H2_) | (have H2_ := (Option.bind_some _ _).symm.trans H; with_reducible exact H2_) | with_reducible exact H | (rw [hy167]; exact H) | exact H
   have Ny167 := Aside0.mk hy167
   clear hy167
   obtain ⟨y170, hy170⟩ : ∃ y_ : List Int, y_ = (List.replicate ((l0.length : Int) : Int).toNat 0) := ⟨_, rfl⟩
   replace H : (qI.l0 k l0 y167 y170 (y170.length : Int) 0) = some (r1, r2) := by first | (rw [hy170]; with_reducible exact H) | (have H2_ := (Option.bind_some _ _).symm.trans H; rw [hy170]; with_reducible exact H2_) | (have H2_ := (Option.bind_some _ _).symm.trans H; with_reducible exact H2_) | with_reducible exact H | (rw [hy170]; exact H) | exact H
   have Ny170 := Aside0.mk hy170
   clear hy170
   have H' := Aside0.mk H
   clear H
   go_enter Tryd.func38, Tryd.ntmps38
   try go_wp2
   have n0_ := Aside0.mk (qk HB.out)
   clear HB
   have HB := n0_
   clear n0_
   refine qwA (n := 8) (S := fun w' => True) (ds := []) #[false, false, false, false, false, false, false, false] (by kernel_rfl) rfl rfl trivial (fun hHeld => ?_); refine qTA qI.tab1 qI.bits1 (fun HT_ HW_ => ?_)
   generalize w.drew = w4 at HB hHeld ⊢
   refine pS (i := 0) (N := some 13) #[true, false, false, false, false, false, false, false] HT_ ?_
   refine pS (i := 1) (N := some 14) #[true, true, false, false, false, false, false, false] HT_ ?_
   refine pS (i := 3) (N := some 16) #[true, true, false, true, false, false, false, false] HT_ ?_
   refine pS (i := 4) (N := some 17) #[true, true, false, true, true, false, false, false] HT_ ?_
   refine join_ (σ := Value × Value) 1 #[true, true, true, true, true, true, true, false] (fun s_ => [(15, s_.1), (18, s_.2), (4, s_.1)]) (fun s_ w' => (Kd.R (Kd.int .i64) 3 w' w.heap.size (fun k_ => some k_ ≠ (s_.2 : Value).ownBlock) s_.1 y167) ∧ (Kd.R (Kd.int .i64) 3 w' w.heap.size (fun k_ => some k_ ≠ (s_.1 : Value).ownBlock) s_.2 y170) ∧ (Below w.heap.size w w')) ?_ ?_
   rotate_left
   ·intro hCont
    refine two_ (i := 2) (j := 5) (Ni := some 15) (Nj := some 18) #[true, true, true, true, true, false, false, false] #[true, true, false, true, true, true, false, false] rfl rfl rfl rfl (two_of HT_.out (by kernel_rfl)) (by decide) (by decide) (fun K hK => ?_) (fun K hK => ?_)
    ·skip
     refine Kd.qlB (Kd.int .i64) _ 3 (by rfl) (N := 15) rfl 25 _ _ rfl (l0.length : Int) rfl rfl Tryd.underlying25 (.int .i64 0) 8 info3 rfl (by decide) (by omega) 0 (ok := fun _ => True) (okp := fun _ => True) rfl (fun _ hk => hk) trivial (of_decide_eq_true (by first | (with_reducible assumption) | assumption)) (Nat.le_trans (Nat.mul_le_mul_right _ (of_decide_eq_true (by first | (with_reducible assumption) | assumption) : (l0.length : Int).toNat ≤ 35184372088832)) (by omega)) (Below.refl _ _) (Nat.le_refl _) ?_
     intro v168 w5 ho6 hb hg_ hnew_
     clear hg_ hnew_
     (first | rw [← Ny167.out] at ho6 | (simp only [Int.reduceToNat] at ho6; rw [← Ny167.out] at ho6))
     have n0_ := Aside0.mk (Kd.qEA ho6 (qb bl))
     have n1_ := Aside0.mk (qJ bl hb)
     clear HB
     have HO169 := n0_
     have HB := n1_
     clear n0_ n1_
     clear hb ho6
     refine hK.out _ _ trivial (fun hHeld => ?_)
     clear hK K
     refine norm_ (a' := ?_) ?_ ?_
     rotate_left
     ·show Act.put _ (some 15) _ = _
      simp only [Act.put, List.setIfInBounds_toArray, List.set_cons_zero, List.set_cons_succ, i64_w, i32_w]
      rfl
     refine pS (i := 6) (N := some 4) #[true, true, true, true, true, false, true, false] HT_ ?_
     refine one_ (i := 5) (N := some 18) #[true, true, true, true, true, true, true, false] rfl rfl (qnA HT_.out (by kernel_rfl)) (by decide) (fun K hK => ?_)
     refine Kd.qlB (Kd.int .i64) _ 3 (by rfl) (N := 18) rfl 25 _ _ rfl (l0.length : Int) rfl rfl Tryd.underlying25 (.int .i64 0) 8 info3 rfl (by decide) (by omega) 0 (ok := fun _ => True) (okp := fun _ => True) rfl (fun _ hk => hk) trivial (of_decide_eq_true (by first | (with_reducible assumption) | assumption)) (Nat.le_trans (Nat.mul_le_mul_right _ (of_decide_eq_true (by first | (with_reducible assumption) | assumption) : (l0.length : Int).toNat ≤ 35184372088832)) (by omega)) (Below.refl _ _) (Nat.le_refl _) ?_
     intro v171 w7 ho8 hb hg_ hnew_
     clear hg_ hnew_
     (first | rw [← Ny170.out] at ho8 | (simp only [Int.reduceToNat] at ho8; rw [← Ny170.out] at ho8))
     have n0_ := Aside0.mk (Kd.qmA (by (with_reducible repeat (first | apply Kd.qF | apply Kd.qG | apply Kd.qH)); exact HO169.out) (Kd.qLB ho8) hb)
     have n1_ := Aside0.mk (Kd.qEA (Kd.qKB ho8 (Kd.R_lt (by (with_reducible repeat (first | apply Kd.qF | apply Kd.qG | apply Kd.qH)); exact HO169.out))) (qb bl))
     have n2_ := Aside0.mk (qJ bl hb)
     clear HO169
     clear HB
     have HO169 := n0_
     have HO172 := n1_
     have HB := n2_
     clear n0_ n1_ n2_
     clear hb ho8
     refine hK.out _ _ trivial (fun hHeld => ?_)
     clear hK K
     refine norm_ (a' := ?_) ?_ ?_
     rotate_left
     ·show Act.put _ (some 18) _ = _
      simp only [Act.put, List.setIfInBounds_toArray, List.set_cons_zero, List.set_cons_succ, i64_w, i32_w]
      rfl
     exact norm_ (by simp only [putAll, Act.put, List.setIfInBounds_toArray, List.set_cons_zero, List.set_cons_succ]) (hCont (v168, v171) _ ⟨(by (with_reducible repeat (first | apply Kd.qF | apply Kd.qG | apply Kd.qH)); exact Kd.qd HO169.out (fun _ hk => hk.2)), (by (with_reducible repeat (first | apply Kd.qF | apply Kd.qG | apply Kd.qH)); exact Kd.qd HO172.out (fun _ hk => hk.2)), bl⟩)
    ·skip
     refine Kd.qlB (Kd.int .i64) _ 3 (by rfl) (N := 18) rfl 25 _ _ rfl (l0.length : Int) rfl rfl Tryd.underlying25 (.int .i64 0) 8 info3 rfl (by decide) (by omega) 0 (ok := fun _ => True) (okp := fun _ => True) rfl (fun _ hk => hk) trivial (of_decide_eq_true (by first | (with_reducible assumption) | assumption)) (Nat.le_trans (Nat.mul_le_mul_right _ (of_decide_eq_true (by first | (with_reducible assumption) | assumption) : (l0.length : Int).toNat ≤ 35184372088832)) (by omega)) (Below.refl _ _) (Nat.le_refl _) ?_
     intro v171 w5 ho6 hb hg_ hnew_
     clear hg_ hnew_
     (first | rw [← Ny170.out] at ho6 | (simp only [Int.reduceToNat] at ho6; rw [← Ny170.out] at ho6))
     have n0_ := Aside0.mk (Kd.qEA ho6 (qb bl))
     have n1_ := Aside0.mk (qJ bl hb)
     clear HB
     have HO172 := n0_
     have HB := n1_
     clear n0_ n1_
     clear hb ho6
     refine hK.out _ _ trivial (fun hHeld => ?_)
     clear hK K
     refine norm_ (a' := ?_) ?_ ?_
     rotate_left
     ·show Act.put _ (some 18) _ = _
      simp only [Act.put, List.setIfInBounds_toArray, List.set_cons_zero, List.set_cons_succ, i64_w, i32_w]
      rfl
     refine one_ (i := 2) (N := some 15) #[true, true, true, true, true, true, false, false] rfl rfl (qnA HT_.out (by kernel_rfl)) (by decide) (fun K hK => ?_)
     refine Kd.qlB (Kd.int .i64) _ 3 (by rfl) (N := 15) rfl 25 _ _ rfl (l0.length : Int) rfl rfl Tryd.underlying25 (.int .i64 0) 8 info3 rfl (by decide) (by omega) 0 (ok := fun _ => True) (okp := fun _ => True) rfl (fun _ hk => hk) trivial (of_decide_eq_true (by first | (with_reducible assumption) | assumption)) (Nat.le_trans (Nat.mul_le_mul_right _ (of_decide_eq_true (by first | (with_reducible assumption) | assumption) : (l0.length : Int).toNat ≤ 35184372088832)) (by omega)) (Below.refl _ _) (Nat.le_refl _) ?_
     intro v168 w7 ho8 hb hg_ hnew_
     clear hg_ hnew_
     (first | rw [← Ny167.out] at ho8 | (simp only [Int.reduceToNat] at ho8; rw [← Ny167.out] at ho8))
     have n0_ := Aside0.mk (Kd.qmA (by (with_reducible repeat (first | apply Kd.qF | apply Kd.qG | apply Kd.qH)); exact HO172.out) (Kd.qLB ho8) hb)
     have n1_ := Aside0.mk (Kd.qEA (Kd.qKB ho8 (Kd.R_lt (by (with_reducible repeat (first | apply Kd.qF | apply Kd.qG | apply Kd.qH)); exact HO172.out))) (qb bl))
     have n2_ := Aside0.mk (qJ bl hb)
     clear HO172
     clear HB
     have HO172 := n0_
     have HO169 := n1_
     have HB := n2_
     clear n0_ n1_ n2_
     clear hb ho8
     refine hK.out _ _ trivial (fun hHeld => ?_)
     clear hK K
     refine norm_ (a' := ?_) ?_ ?_
     rotate_left
     ·show Act.put _ (some 15) _ = _
      simp only [Act.put, List.setIfInBounds_toArray, List.set_cons_zero, List.set_cons_succ, i64_w, i32_w]
      rfl
     refine pS (i := 6) (N := some 4) #[true, true, true, true, true, true, true, false] HT_ ?_
     exact norm_ (by simp only [putAll, Act.put, List.setIfInBounds_toArray, List.set_cons_zero, List.set_cons_succ]) (hCont (v168, v171) _ ⟨(by (with_reducible repeat (first | apply Kd.qF | apply Kd.qG | apply Kd.qH)); exact Kd.qd HO169.out (fun _ hk => hk.2)), (by (with_reducible repeat (first | apply Kd.qF | apply Kd.qG | apply Kd.qH)); exact Kd.qd HO172.out (fun _ hk => hk.2)), bl⟩)
   rintro ⟨v168, v171⟩ w9 ⟨h0_, h1_, h2_⟩
   have n0_ : Aside0 (Kd.R (Kd.int .i64) 3 w9 w.heap.size (fun k_ => some k_ ≠ (v171 : Value).ownBlock) v168 y167) := ⟨h0_⟩
   have n1_ : Aside0 (Kd.R (Kd.int .i64) 3 w9 w.heap.size (fun k_ => some k_ ≠ (v168 : Value).ownBlock) v171 y170) := ⟨h1_⟩
   have n2_ : Aside0 (Below w.heap.size w w9) := ⟨h2_⟩
   clear HB
   clear h0_ h1_ h2_
   have HO169 := n0_
   have HO172 := n1_
   have HB := n2_
   clear n0_ n1_ n2_
   have hHeld := trivial
   refine norm_ (a' := ?_) ?_ ?_
   rotate_left
   ·simp only [putAll, Act.put, List.setIfInBounds_toArray, List.set_cons_zero, List.set_cons_succ]
    rfl
   refine pS (i := 7) (N := some 5) #[true, true, true, true, true, true, true, true] HT_ ?_
   refine done_ (qDB HT_.out (by kernel_rfl)) ?_
   obtain ⟨Ao10, co10, eo10⟩ := Kd.qr HO172.out
   subst eo10
   try go_wp2
   go_loopg [21] k (fun kq v21 w' => ∃ (x18_1 : List Int) (x21_1 : Int), v21 = .int .i64 x21_1 ∧ Aside0 (qI.l0 kq l0 y167 x18_1 (y170.length : Int) x21_1 = some (r1, r2)) ∧ Aside0 (kq ≤ k) ∧ Aside0 (Kd.R (Kd.int .i64) 3 w' w.heap.size (fun k_ => some k_ ≠ ((.slice Ao10 y170.length co10) : Value).ownBlock) v168 y167) ∧ Aside0 (Kd.R (Kd.int .i64) 3 w' w.heap.size (fun k_ => some k_ ≠ (v168 : Value).ownBlock) (.slice Ao10 y170.length co10) x18_1) ∧ Aside0 (Below w.heap.size w w'))
   case atStart => exact ⟨(y170), (0), (by first | rfl | (simp; done) | (simp [*]; done)), H', ⟨Nat.le_refl _⟩, ⟨by (with_reducible repeat (first | apply Kd.qF | apply Kd.qG | apply Kd.qH)); exact HO169.out⟩, ⟨by (with_reducible repeat (first | apply Kd.qF | apply Kd.qG | apply Kd.qH)); exact HO172.out⟩, ⟨bl⟩⟩
   case round =>
    clear H'
    try clear c2
    try clear c2b0
    try clear c2b1
    try clear p2
    try clear c3
    try clear c3b0
    try clear c3b1
    obtain ⟨x18_1, x21_1, rfl, HA, HK1, HO_15, HO_18, HB⟩ := hrel
    have hl18_1 := (Kd.qS HO_18.out).1
    rw [hl18_1] at HO_18
    (try simp only [hl18_1])
    (try simp only [hl18_1] at HO_15)
    cases gk with
    | zero => exact absurd HA.out (by simp [qI.l0])
    | succ k1 =>
     have H := HA.out
     clear HA
     simp only [qI.l0] at H
     by_cases c11 : x21_1 < (y170.length : Int)
     ·rw [if_pos c11] at H
      have c11b0 : decide (x21_1 < (y170.length : Int)) = true := decide_eq_true c11
      (try (have c11b0_hl18_1 := c11b0; simp only [hl18_1] at c11b0_hl18_1))
      clear c11
      by_cases c12 : 0 ≤ x21_1
      ·rw [if_pos c12] at H
       have c12b0 : decide (0 ≤ x21_1) = true := decide_eq_true c12
       clear c12
       by_cases c13 : x21_1 < (x18_1.length : Int)
       ·rw [if_pos c13] at H
        have c13b0 : decide (x21_1 < (x18_1.length : Int)) = true := decide_eq_true c13
        (try (have c13b0_hl18_1 := c13b0; simp only [hl18_1] at c13b0_hl18_1))
        clear c13
        obtain ⟨y173, hy173⟩ : ∃ y_ : List Int, y_ = (x18_1.set (x21_1 : Int).toNat (-1)) := ⟨_, rfl⟩
        replace H : (qI.l0 k1 l0 y167 y173 (y170.length : Int) (wrap64 (x21_1 + 1))) = some (r1, r2) := by first | (rw [hy173]; with_reducible exact H) | (have H2_ := (Option.bind_some _ _).symm.trans H; rw [hy173]; with_reducible exact H2_) | (have H2_ := (Option.bind_some _ _).symm.trans H; with_reducible exact H2_) | with_reducible exact H | (rw [hy173]; exact H) | exact H
        have Ny173 := Aside0.mk hy173
        clear hy173
        have H' := Aside0.mk H
        clear H
        have p14 : 0 ≤ (x21_1 : Int) := of_decide_eq_true (by first | (with_reducible assumption) | assumption)
        have q14 : (x21_1 : Int) < ((x18_1.length : Int) : Int) := of_decide_eq_true (by first | (with_reducible assumption) | assumption)
        obtain ⟨go14, co14, eo14, gb14, gl14, cl14, HG14⟩ := Kd.qtB HO_18.out (by omega)
        (first | cases eo14 | (injection eo14 with ea_ en_ ec_; (first | subst ea_ | (injection ea_ with ea_; subst ea_)); subst ec_; clear en_))
        have GB14 := Aside0.mk gb14
        have GG14 := Aside0.mk HG14
        clear gb14 gl14 HG14
        obtain ⟨hx14_0, hf14_0⟩ := Kd.quA 0 HO_18.out (x21_1 : Int) p14 q14
        replace p14 := eq_true p14
        replace q14 := eq_true q14
        have HP15 := Kd.qsB HO_18.out (x21_1 : Int) (-1)
        go_wp2_with (first | ((with_reducible refine qiA (t := 3) (p := 26) rfl ?_); refine qcA (t := 3) (p := 26) (v := ?vo_w16) (w1 := (wr.setCell ⟨go14, (x21_1 : Int).toNat, none⟩ (.int .i64 (-1)))) ?hg ?ho ?hn ?hr ?_; (case ho => rfl); (case hg => rfl); (case hn => rfl); (case hr => first | (go_simp; done) | (go_simp; rfl)); intro w16 hw; have hg : wr.grownBy w16 (some go14) := (by rw [hw]; exact HP15.2); have hp_ : Kd.R (Kd.int .i64) 3 w16 w.heap.size (fun k_ => some k_ ≠ (v168 : Value).ownBlock) (.slice (some ⟨go14, 0, none⟩) x18_1.length co10) y173 := (by rw [hw, Ny173.out]; exact HP15.1); clear HP15; have n0_ := Aside0.mk (Kd.qxA (v := (.slice (some ⟨go14, 0, none⟩) x18_1.length co10)) (v1 := (.slice (some ⟨go14, 0, none⟩) x18_1.length co10)) (ok := (fun _ => True)) (by (with_reducible repeat (first | apply Kd.qF | apply Kd.qG | apply Kd.qH)); exact Kd.qd HO_15.out (fun _ hk => ⟨trivial, hk⟩)) hg (.inl rfl)); have n1_ := Aside0.mk (hp_); have n2_ := Aside0.mk ((by rw [hw]; exact ql (HB.out) GB14.out : Below w.heap.size w w16)); clear HO_15; clear HO_18; clear HB; have HO_15 := n0_; have HO_18 := n1_; have HB := n2_; clear n0_ n1_ n2_; clear hg hw hp_))
        (try simp only [← hl18_1])
        go_roundg k1
        case measure => have := HK1.out; omega
        case rel => exact ⟨(y173), (wrap64 (x21_1 + 1)), (by first | rfl | (simp; done) | (simp [*]; done)), H', ⟨by have := HK1.out; omega⟩, ⟨by (try simp only [hl18_1]); (with_reducible repeat (first | apply Kd.qF | apply Kd.qG | apply Kd.qH)); exact Kd.qd HO_15.out (fun _ hk => hk.2)⟩, ⟨by (try simp only [hl18_1]); (with_reducible repeat (first | apply Kd.qF | apply Kd.qG | apply Kd.qH)); exact HO_18.out⟩, ⟨bl⟩⟩
       ·rw [if_neg c13] at H
        exact absurd H (by simp)
      ·rw [if_neg c12] at H
       exact absurd H (by simp)
     ·rw [if_neg c11] at H
      have c11b0 : decide (x21_1 < (y170.length : Int)) = false := decide_eq_false c11
      (try (have c11b0_hl18_1 := c11b0; simp only [hl18_1] at c11b0_hl18_1))
      clear c11
      by_cases c17 : 0 ≤ (l0.length : Int)
      ·rw [if_pos c17] at H
       have c17b0 := eq_true c17
       have c17b1 : decide (0 ≤ (l0.length : Int)) = true := decide_eq_true c17
       (try (have c17b1_hl18_1 := c17b1; simp only [hl18_1] at c17b1_hl18_1))
       clear c17
       by_cases c18 : ((l0.length : Int) : Int).toNat ≤ 5864062014805
       ·rw [if_pos c18] at H
        have c18b0 := eq_true c18
        have c18b1 : decide (((l0.length : Int) : Int).toNat ≤ 5864062014805) = true := decide_eq_true c18
        clear c18
        obtain ⟨y174, hy174⟩ : ∃ y_ : List (S31), y_ = (List.replicate ((l0.length : Int) : Int).toNat z31) := ⟨_, rfl⟩
        replace H : ((qIB.f).bind fun bt180 => (if 0 < (y174.length : Int) then (if 0 < (y167.length : Int) then (if 0 < (x18_1.length : Int) then (qI.l1 k1 l0 (([0] : List Int)) 0 (y167.set (0 : Int).toNat 5) (x18_1.set (0 : Int).toNat 0) (y174.set (0 : Int).toNat (⟨bt180.1, bt180.2.1, bt180.2.2.1, bt180.2.2.2.1, bt180.2.2.2.2.1, bt180.2.2.2.2.2⟩ : S31))) else (none)) else (none)) else (none))) = some (r1, r2) := by first | (rw [hy174]; with_reducible exact H) | (have H2_ := (Option.bind_some _ _).symm.trans H; rw [hy174]; with_reducible exact H2_) | (have H2_ := (Option.bind_some _ _).symm.trans H; with_reducible exact H2_) | with_reducible exact H | (rw [hy174]; exact H) | exact H
        have Ny174 := Aside0.mk hy174
        clear hy174
        obtain ⟨y177, hy177⟩ : ∃ y_ : List Int, y_ = (([0] : List Int)) := ⟨_, rfl⟩
        replace H : ((qIB.f).bind fun bt180 => (if 0 < (y174.length : Int) then (if 0 < (y167.length : Int) then (if 0 < (x18_1.length : Int) then (qI.l1 k1 l0 y177 0 (y167.set (0 : Int).toNat 5) (x18_1.set (0 : Int).toNat 0) (y174.set (0 : Int).toNat (⟨bt180.1, bt180.2.1, bt180.2.2.1, bt180.2.2.2.1, bt180.2.2.2.2.1, bt180.2.2.2.2.2⟩ : S31))) else (none)) else (none)) else (none))) = some (r1, r2) := by first | (rw [hy177]; with_reducible exact H) | (have H2_ := (Option.bind_some _ _).symm.trans H; rw [hy177]; with_reducible exact H2_) | (have H2_ := (Option.bind_some _ _).symm.trans H; with_reducible exact H2_) | with_reducible exact H | (rw [hy177]; exact H) | exact H
        have Ny177 := Aside0.mk hy177
        clear hy177
        replace H := Option.bind_eq_some_iff.mp H
        obtain ⟨⟨t180, t181, t182, t183, t184, t185⟩, A190, H⟩ := H
        replace H : (if 0 < (y174.length : Int) then (if 0 < (y167.length : Int) then (if 0 < (x18_1.length : Int) then (qI.l1 k1 l0 y177 0 (y167.set (0 : Int).toNat 5) (x18_1.set (0 : Int).toNat 0) (y174.set (0 : Int).toNat (⟨t180, t181, t182, t183, t184, t185⟩ : S31))) else (none)) else (none)) else (none)) = some (r1, r2) := H
        have A19 := Aside0.mk A190
        clear A190
        by_cases c20 : 0 < (y174.length : Int)
        ·rw [if_pos c20] at H
         have c20b0 : decide (0 < (y174.length : Int)) = true := decide_eq_true c20
         (try (have c20b0_hl18_1 := c20b0; simp only [hl18_1] at c20b0_hl18_1))
         have c20b1 : decide (0 < y174.length) = true := decide_eq_true (by omega)
         clear c20
         obtain ⟨y186, hy186⟩ : ∃ y_ : List (S31), y_ = (y174.set (0 : Int).toNat (⟨t180, t181, t182, t183, t184, t185⟩ : S31)) := ⟨_, rfl⟩
         replace H : (if 0 < (y167.length : Int) then (if 0 < (x18_1.length : Int) then (qI.l1 k1 l0 y177 0 (y167.set (0 : Int).toNat 5) (x18_1.set (0 : Int).toNat 0) y186) else (none)) else (none)) = some (r1, r2) := by first | (rw [hy186]; with_reducible exact H) | (have H2_ := (Option.bind_some _ _).symm.trans H; rw [hy186]; with_reducible exact H2_) | (have H2_ := (Option.bind_some _ _).symm.trans H; with_reducible exact H2_) | with_reducible exact H | (rw [hy186]; exact H) | exact H
         have Ny186 := Aside0.mk hy186
         clear hy186
         by_cases c22 : 0 < (y167.length : Int)
         ·rw [if_pos c22] at H
          have c22b0 : decide (0 < (y167.length : Int)) = true := decide_eq_true c22
          (try (have c22b0_hl18_1 := c22b0; simp only [hl18_1] at c22b0_hl18_1))
          have c22b1 : decide (0 < y167.length) = true := decide_eq_true (by omega)
          clear c22
          obtain ⟨y187, hy187⟩ : ∃ y_ : List Int, y_ = (y167.set (0 : Int).toNat 5) := ⟨_, rfl⟩
          replace H : (if 0 < (x18_1.length : Int) then (qI.l1 k1 l0 y177 0 y187 (x18_1.set (0 : Int).toNat 0) y186) else (none)) = some (r1, r2) := by first | (rw [hy187]; with_reducible exact H) | (have H2_ := (Option.bind_some _ _).symm.trans H; rw [hy187]; with_reducible exact H2_) | (have H2_ := (Option.bind_some _ _).symm.trans H; with_reducible exact H2_) | with_reducible exact H | (rw [hy187]; exact H) | exact H
          have Ny187 := Aside0.mk hy187
          clear hy187
          by_cases c24 : 0 < (x18_1.length : Int)
          ·rw [if_pos c24] at H
           have c24b0 : decide (0 < (x18_1.length : Int)) = true := decide_eq_true c24
           (try (have c24b0_hl18_1 := c24b0; simp only [hl18_1] at c24b0_hl18_1))
           have c24b1 : decide (0 < x18_1.length) = true := decide_eq_true (by omega)
           clear c24
           obtain ⟨y188, hy188⟩ : ∃ y_ : List Int, y_ = (x18_1.set (0 : Int).toNat 0) := ⟨_, rfl⟩
           replace H : (qI.l1 k1 l0 y177 0 y187 y188 y186) = some (r1, r2) := by first | (rw [hy188]; with_reducible exact H) | (have H2_ := (Option.bind_some _ _).symm.trans H; rw [hy188]; with_reducible exact H2_) | (have H2_ := (Option.bind_some _ _).symm.trans H; with_reducible exact H2_) | with_reducible exact H | (rw [hy188]; exact H) | exact H
           have Ny188 := Aside0.mk hy188
           clear hy188
           have H' := Aside0.mk H
           clear H
           go_wp2_with (first | ((with_reducible refine qX (N := 30) rfl ?_); refine Kd.qBD k31 _ 31 rfl (N := 30) rfl 69 _ _ rfl (l0.length : Int) rfl rfl Tryd.underlying69 (.agg #[(.int .i64 0), (.int .i64 0), (.int .i64 0), (.int .i64 0), (.int .i64 0), (.int .i64 0)]) 48 info31 rfl (by decide) (by omega) z31 (ok := fun _ => True) (okp := fun _ => True) (qrB _ _ _ z31 ) (fun _ hk => hk) trivial (of_decide_eq_true (by first | (with_reducible assumption) | assumption)) (Nat.le_trans (Nat.mul_le_mul_right _ (of_decide_eq_true (by first | (with_reducible assumption) | assumption) : (l0.length : Int).toNat ≤ 5864062014805)) (by omega)) (Below.refl _ _) (Nat.le_refl _) ?_; intro v175 w26 ho27 hb hg_ hnew_; clear hg_ hnew_; (first | rw [← Ny174.out] at ho27 | (simp only [Int.reduceToNat] at ho27; rw [← Ny174.out] at ho27)); have n0_ := Aside0.mk (Kd.qU (by (with_reducible repeat (first | apply Kd.qF | apply Kd.qG | apply Kd.qH)); exact HO_15.out) hb); have n1_ := Aside0.mk (Kd.qU (by (with_reducible repeat (first | apply Kd.qF | apply Kd.qG | apply Kd.qH)); exact HO_18.out) hb); have n2_ := Aside0.mk (Kd.qEA ho27 (qb bl)); have n3_ := Aside0.mk (qJ bl hb); clear HO_15; clear HO_18; clear HB; have HO_15 := n0_; have HO_18 := n1_; have HO176 := n2_; have HB := n3_; clear n0_ n1_ n2_ n3_; clear hb ho27) | ((with_reducible refine qX (N := 31) rfl ?_); refine Kd.R_lit (Kd.int .i64) _ 3 ?hg (N := 31) ?hd (xs := ([0] : List Int)) (inner := [.int .i64 0]) (ok := fun _ => True) (okp := fun _ => True) ?hr ?hp (fun _ hk => hk) trivial (Below.refl _ _) (Nat.le_refl _) (by simp) ?_; (case hd => rfl); (case hg => rfl); (case hr => first | (go_simp; done) | (go_simp; rfl)); (case hp => exact (Reps.one (show Kd.M (Kd.int .i64) _ _ _ 0 [.int .i64 0] from rfl) (Reps.none _ _))); intro v178 w28 ho29 hb hg_ hnew_; clear hg_ hnew_; (first | rw [← Ny177.out] at ho29 | (simp only [Int.reduceToNat] at ho29; rw [← Ny177.out] at ho29)); have n0_ := Aside0.mk (Kd.qmA (by (with_reducible repeat (first | apply Kd.qF | apply Kd.qG | apply Kd.qH)); exact HO_15.out) (Kd.qLB ho29) hb); have n1_ := Aside0.mk (Kd.qmA (by (with_reducible repeat (first | apply Kd.qF | apply Kd.qG | apply Kd.qH)); exact HO_18.out) (Kd.qLB ho29) hb); have n2_ := Aside0.mk (Kd.qU (by (with_reducible repeat (first | apply Kd.qF | apply Kd.qG | apply Kd.qH)); exact HO176.out) hb); have n3_ := Aside0.mk (Kd.qEA (Kd.qKB (Kd.qKB ho29 (Kd.R_lt (by (with_reducible repeat (first | apply Kd.qF | apply Kd.qG | apply Kd.qH)); exact HO_15.out))) (Kd.R_lt (by (with_reducible repeat (first | apply Kd.qF | apply Kd.qG | apply Kd.qH)); exact HO_18.out))) (qb bl)); have n4_ := Aside0.mk (qJ bl hb); clear HO_15; clear HO_18; clear HO176; clear HB; have HO_15 := n0_; have HO_18 := n1_; have HO176 := n2_; have HO179 := n3_; have HB := n4_; clear n0_ n1_ n2_ n3_ n4_; clear hb ho29) | ((with_reducible refine qa (f := 52) rfl ?_); refine qQA (some 35) rfl rfl Tryd.func52 (by kernel_rfl) rfl #[] rfl (by (try simp only [List.map_toArray, List.map_cons, List.map_nil]); first | done | rfl | (simp only [List.length_drop, List.length_take]; rfl)) ?_; (with_reducible refine (qIB.calls  t180 t181 t182 t183 t184 t185 _ A19.out).mono ?_); rintro e w30 ⟨rfl, hb⟩; refine ⟨_, rfl, ?_⟩; have n0_ := Aside0.mk (Kd.qU (by (with_reducible repeat (first | apply Kd.qF | apply Kd.qG | apply Kd.qH)); exact HO_15.out) hb); have n1_ := Aside0.mk (Kd.qU (by (with_reducible repeat (first | apply Kd.qF | apply Kd.qG | apply Kd.qH)); exact HO_18.out) hb); have n2_ := Aside0.mk (Kd.qU (by (with_reducible repeat (first | apply Kd.qF | apply Kd.qG | apply Kd.qH)); exact HO176.out) hb); have n3_ := Aside0.mk (Kd.qU (by (with_reducible repeat (first | apply Kd.qF | apply Kd.qG | apply Kd.qH)); exact HO179.out) hb); have n4_ := Aside0.mk (qJ bl hb); clear HO_15; clear HO_18; clear HO176; clear HO179; clear HB; have HO_15 := n0_; have HO_18 := n1_; have HO176 := n2_; have HO179 := n3_; have HB := n4_; clear n0_ n1_ n2_ n3_ n4_; (try clear hb); (try clear hb2); (try clear hk); (try clear hi); have p21 : 0 ≤ (0 : Int) := (by omega); have q21 : (0 : Int) < ((y174.length : Int) : Int) := of_decide_eq_true (by first | (with_reducible assumption) | assumption); have qi21 : (0 < y174.length) = True := eq_true (by omega); obtain ⟨go21, co21, eo21, gb21, gl21, cl21, HG21⟩ := Kd.qtB HO176.out (by omega); (first | cases eo21 | (injection eo21 with ea_ en_ ec_; (first | subst ea_ | (injection ea_ with ea_; subst ea_)); subst ec_; clear en_)); have GB21 := Aside0.mk gb21; have GG21 := Aside0.mk HG21; clear gb21 gl21 HG21; obtain ⟨ce21, hcl21, hM21, hcc21, hfr21⟩ := Kd.qXC HO176.out z31 (0 : Int) p21 q21; obtain rfl := qMB hM21; have hx21_0 : w30.cell? ⟨go21, (0 : Int).toNat * 6, none⟩ = some (.int .i64 ((qP y174 0).f0)) := hcc21 0 _ rfl; have hx21_1 : w30.cell? ⟨go21, (0 : Int).toNat * 6 + 1, none⟩ = some (.int .i64 ((qP y174 0).f1)) := hcc21 1 _ rfl; have hx21_2 : w30.cell? ⟨go21, (0 : Int).toNat * 6 + 2, none⟩ = some (.int .i64 ((qP y174 0).f2)) := hcc21 2 _ rfl; have hx21_3 : w30.cell? ⟨go21, (0 : Int).toNat * 6 + 3, none⟩ = some (.int .i64 ((qP y174 0).f3)) := hcc21 3 _ rfl; have hx21_4 : w30.cell? ⟨go21, (0 : Int).toNat * 6 + 4, none⟩ = some (.int .i64 ((qP y174 0).f4)) := hcc21 4 _ rfl; have hx21_5 : w30.cell? ⟨go21, (0 : Int).toNat * 6 + 5, none⟩ = some (.int .i64 ((qP y174 0).f5)) := hcc21 5 _ rfl; have hf21_0 : w30.frozen? ⟨go21, (0 : Int).toNat * 6, none⟩ = false := hfr21 0; have hf21_1 : w30.frozen? ⟨go21, (0 : Int).toNat * 6 + 1, none⟩ = false := hfr21 1; have hf21_2 : w30.frozen? ⟨go21, (0 : Int).toNat * 6 + 2, none⟩ = false := hfr21 2; have hf21_3 : w30.frozen? ⟨go21, (0 : Int).toNat * 6 + 3, none⟩ = false := hfr21 3; have hf21_4 : w30.frozen? ⟨go21, (0 : Int).toNat * 6 + 4, none⟩ = false := hfr21 4; have hf21_5 : w30.frozen? ⟨go21, (0 : Int).toNat * 6 + 5, none⟩ = false := hfr21 5; clear hcl21 hcc21 hfr21 hM21; (try rw [show ((0 : Int)).toNat = 0 from rfl] at hx21_0); (try simp only [Nat.reduceMul, Nat.zero_mul, Nat.zero_add, Nat.reduceAdd] at hx21_0); (try rw [show ((0 : Int)).toNat = 0 from rfl] at hf21_0); (try simp only [Nat.reduceMul, Nat.zero_mul, Nat.zero_add, Nat.reduceAdd] at hf21_0); (try rw [show ((0 : Int)).toNat = 0 from rfl] at hx21_1); (try simp only [Nat.reduceMul, Nat.zero_mul, Nat.zero_add, Nat.reduceAdd] at hx21_1); (try rw [show ((0 : Int)).toNat = 0 from rfl] at hf21_1); (try simp only [Nat.reduceMul, Nat.zero_mul, Nat.zero_add, Nat.reduceAdd] at hf21_1); (try rw [show ((0 : Int)).toNat = 0 from rfl] at hx21_2); (try simp only [Nat.reduceMul, Nat.zero_mul, Nat.zero_add, Nat.reduceAdd] at hx21_2); (try rw [show ((0 : Int)).toNat = 0 from rfl] at hf21_2); (try simp only [Nat.reduceMul, Nat.zero_mul, Nat.zero_add, Nat.reduceAdd] at hf21_2); (try rw [show ((0 : Int)).toNat = 0 from rfl] at hx21_3); (try simp only [Nat.reduceMul, Nat.zero_mul, Nat.zero_add, Nat.reduceAdd] at hx21_3); (try rw [show ((0 : Int)).toNat = 0 from rfl] at hf21_3); (try simp only [Nat.reduceMul, Nat.zero_mul, Nat.zero_add, Nat.reduceAdd] at hf21_3); (try rw [show ((0 : Int)).toNat = 0 from rfl] at hx21_4); (try simp only [Nat.reduceMul, Nat.zero_mul, Nat.zero_add, Nat.reduceAdd] at hx21_4); (try rw [show ((0 : Int)).toNat = 0 from rfl] at hf21_4); (try simp only [Nat.reduceMul, Nat.zero_mul, Nat.zero_add, Nat.reduceAdd] at hf21_4); (try rw [show ((0 : Int)).toNat = 0 from rfl] at hx21_5); (try simp only [Nat.reduceMul, Nat.zero_mul, Nat.zero_add, Nat.reduceAdd] at hx21_5); (try rw [show ((0 : Int)).toNat = 0 from rfl] at hf21_5); (try simp only [Nat.reduceMul, Nat.zero_mul, Nat.zero_add, Nat.reduceAdd] at hf21_5); replace p21 := eq_true p21; replace q21 := eq_true q21; have HX31 := Aside0.mk (show Kd.R k31 31 w30 w.heap.size (fun _ => True) (.slice (some ⟨go21, 0, none⟩) y174.length co21) y174 from (by (with_reducible repeat (first | apply Kd.qF | apply Kd.qG | apply Kd.qH)); exact HO176.out)); obtain ⟨ce31, hcl31, hM31, hcc31, hfr31⟩ := Kd.qXC HX31.out z31 (0 : Int) (by omega) (by have h_ : (0 : Int) < ((y174.length : Int) : Int) := of_decide_eq_true (by first | (with_reducible assumption) | assumption); first | exact h_ | (have e_ := (Kd.qS HO176.out).1; omega) | simpa using h_); obtain rfl := qMB hM31; have HP31 := Kd.R_seg HX31.out (0 : Int) (by omega) (by have h_ : (0 : Int) < ((y174.length : Int) : Int) := of_decide_eq_true (by first | (with_reducible assumption) | assumption); first | exact h_ | (have e_ := (Kd.qS HO176.out).1; omega) | simpa using h_) (seg := [.int .i64 t180, .int .i64 t181, .int .i64 t182, .int .i64 t183, .int .i64 t184, .int .i64 t185]) (j := 0) hcl31 hcc31 (show 6 ≤ 6 from by decide) (x' := (⟨t180, t181, t182, t183, t184, t185⟩ : S31)) (qrB _ _ _ (⟨t180, t181, t182, t183, t184, t185⟩ : S31) ) (fun _ hk => hk); have hx31_0 := hcc31 0 _ rfl; (try simp only [show (k31).sz = 6 from rfl, Nat.mul_one, Nat.add_zero] at hx31_0); (try rw [show ((0 : Int)).toNat = 0 from rfl] at hx31_0); (try simp only [Nat.reduceMul, Nat.zero_mul, Nat.zero_add, Nat.reduceAdd] at hx31_0); have hf31_0 := hfr31 0; (try simp only [show (k31).sz = 6 from rfl, Nat.mul_one, Nat.add_zero] at hf31_0); (try rw [show ((0 : Int)).toNat = 0 from rfl] at hf31_0); (try simp only [Nat.reduceMul, Nat.zero_mul, Nat.zero_add, Nat.reduceAdd] at hf31_0); have hx31_1 := hcc31 1 _ rfl; (try simp only [show (k31).sz = 6 from rfl, Nat.mul_one, Nat.add_zero] at hx31_1); (try rw [show ((0 : Int)).toNat = 0 from rfl] at hx31_1); (try simp only [Nat.reduceMul, Nat.zero_mul, Nat.zero_add, Nat.reduceAdd] at hx31_1); have hf31_1 := hfr31 1; (try simp only [show (k31).sz = 6 from rfl, Nat.mul_one, Nat.add_zero] at hf31_1); (try rw [show ((0 : Int)).toNat = 0 from rfl] at hf31_1); (try simp only [Nat.reduceMul, Nat.zero_mul, Nat.zero_add, Nat.reduceAdd] at hf31_1); have hx31_2 := hcc31 2 _ rfl; (try simp only [show (k31).sz = 6 from rfl, Nat.mul_one, Nat.add_zero] at hx31_2); (try rw [show ((0 : Int)).toNat = 0 from rfl] at hx31_2); (try simp only [Nat.reduceMul, Nat.zero_mul, Nat.zero_add, Nat.reduceAdd] at hx31_2); have hf31_2 := hfr31 2; (try simp only [show (k31).sz = 6 from rfl, Nat.mul_one, Nat.add_zero] at hf31_2); (try rw [show ((0 : Int)).toNat = 0 from rfl] at hf31_2); (try simp only [Nat.reduceMul, Nat.zero_mul, Nat.zero_add, Nat.reduceAdd] at hf31_2); have hx31_3 := hcc31 3 _ rfl; (try simp only [show (k31).sz = 6 from rfl, Nat.mul_one, Nat.add_zero] at hx31_3); (try rw [show ((0 : Int)).toNat = 0 from rfl] at hx31_3); (try simp only [Nat.reduceMul, Nat.zero_mul, Nat.zero_add, Nat.reduceAdd] at hx31_3); have hf31_3 := hfr31 3; (try simp only [show (k31).sz = 6 from rfl, Nat.mul_one, Nat.add_zero] at hf31_3); (try rw [show ((0 : Int)).toNat = 0 from rfl] at hf31_3); (try simp only [Nat.reduceMul, Nat.zero_mul, Nat.zero_add, Nat.reduceAdd] at hf31_3); have hx31_4 := hcc31 4 _ rfl; (try simp only [show (k31).sz = 6 from rfl, Nat.mul_one, Nat.add_zero] at hx31_4); (try rw [show ((0 : Int)).toNat = 0 from rfl] at hx31_4); (try simp only [Nat.reduceMul, Nat.zero_mul, Nat.zero_add, Nat.reduceAdd] at hx31_4); have hf31_4 := hfr31 4; (try simp only [show (k31).sz = 6 from rfl, Nat.mul_one, Nat.add_zero] at hf31_4); (try rw [show ((0 : Int)).toNat = 0 from rfl] at hf31_4); (try simp only [Nat.reduceMul, Nat.zero_mul, Nat.zero_add, Nat.reduceAdd] at hf31_4); have hx31_5 := hcc31 5 _ rfl; (try simp only [show (k31).sz = 6 from rfl, Nat.mul_one, Nat.add_zero] at hx31_5); (try rw [show ((0 : Int)).toNat = 0 from rfl] at hx31_5); (try simp only [Nat.reduceMul, Nat.zero_mul, Nat.zero_add, Nat.reduceAdd] at hx31_5); have hf31_5 := hfr31 5; (try simp only [show (k31).sz = 6 from rfl, Nat.mul_one, Nat.add_zero] at hf31_5); (try rw [show ((0 : Int)).toNat = 0 from rfl] at hf31_5); (try simp only [Nat.reduceMul, Nat.zero_mul, Nat.zero_add, Nat.reduceAdd] at hf31_5); clear hcl31 hcc31 hfr31 hM31) | ((with_reducible refine qiA (t := 31) (p := 36) rfl ?_); refine qcA (t := 31) (p := 36) (v := ?vo_w32) (w1 := ((((((w30.setCell ⟨go21, 0, none⟩ (.int .i64 t180)).setCell ⟨go21, 1, none⟩ (.int .i64 t181)).setCell ⟨go21, 2, none⟩ (.int .i64 t182)).setCell ⟨go21, 3, none⟩ (.int .i64 t183)).setCell ⟨go21, 4, none⟩ (.int .i64 t184)).setCell ⟨go21, 5, none⟩ (.int .i64 t185))) ?hg ?ho ?hn ?hr ?_; (case ho => rfl); (case hg => rfl); (case hn => rfl); (case hr => first | (go_simp; done) | (go_simp; rfl)); intro w32 hw; have hg : w30.grownBy w32 (some go21) := (by rw [hw]; exact HP31.2); have hp_ : Kd.R k31 31 w32 w.heap.size (fun _ => True) (.slice (some ⟨go21, 0, none⟩) y174.length co21) y186 := (by rw [hw, Ny186.out]; exact HP31.1); clear HP31; have n0_ := Aside0.mk (Kd.qqA (v := (.slice (some ⟨go21, 0, none⟩) y174.length co21)) (by (with_reducible repeat (first | apply Kd.qF | apply Kd.qG | apply Kd.qH)); exact HO_15.out) (Kd.qOA HO176.out) (by decide) hg); have n1_ := Aside0.mk (Kd.qqA (v := (.slice (some ⟨go21, 0, none⟩) y174.length co21)) (by (with_reducible repeat (first | apply Kd.qF | apply Kd.qG | apply Kd.qH)); exact HO_18.out) (Kd.qOA HO176.out) (by decide) hg); have n2_ := Aside0.mk (hp_); have n3_ := Aside0.mk (Kd.qqA (v := (.slice (some ⟨go21, 0, none⟩) y174.length co21)) (by (with_reducible repeat (first | apply Kd.qF | apply Kd.qG | apply Kd.qH)); exact HO179.out) (Kd.qOA HO176.out) (by decide) hg); have n4_ := Aside0.mk ((by rw [hw]; exact ql (ql (ql (ql (ql (ql (HB.out) GB21.out) GB21.out) GB21.out) GB21.out) GB21.out) GB21.out : Below w.heap.size w w32)); clear HO_15; clear HO_18; clear HO176; clear HO179; clear HB; have HO_15 := n0_; have HO_18 := n1_; have HO176 := n2_; have HO179 := n3_; have HB := n4_; clear n0_ n1_ n2_ n3_ n4_; clear hg hw hp_; have p23 : 0 ≤ (0 : Int) := (by omega); have q23 : (0 : Int) < ((y167.length : Int) : Int) := of_decide_eq_true (by first | (with_reducible assumption) | assumption); have qi23 : (0 < y167.length) = True := eq_true (by omega); obtain ⟨go23, co23, eo23, gb23, gl23, cl23, HG23⟩ := Kd.qtB HO_15.out (by omega); (first | cases eo23 | (injection eo23 with ea_ en_ ec_; (first | subst ea_ | (injection ea_ with ea_; subst ea_)); subst ec_; clear en_)); have GB23 := Aside0.mk gb23; have GG23 := Aside0.mk HG23; clear gb23 gl23 HG23; obtain ⟨hx23_0, hf23_0⟩ := Kd.quA 0 HO_15.out (0 : Int) p23 q23; (try rw [show ((0 : Int)).toNat = 0 from rfl] at hx23_0); (try simp only [Nat.reduceMul, Nat.zero_mul, Nat.zero_add, Nat.reduceAdd] at hx23_0); (try rw [show ((0 : Int)).toNat = 0 from rfl] at hf23_0); (try simp only [Nat.reduceMul, Nat.zero_mul, Nat.zero_add, Nat.reduceAdd] at hf23_0); replace p23 := eq_true p23; replace q23 := eq_true q23; obtain ⟨hy33_, hz33_⟩ := Kd.quA 0 HO_15.out (0 : Int) (by omega) (of_decide_eq_true (by first | (with_reducible assumption) | assumption)); (try simp only [Int.reduceToNat, Int.toNat_zero, Int.toNat_ofNat, Nat.reduceMul, Nat.zero_mul, Nat.zero_add] at hy33_ hz33_); (try rw [show ((0 : Int)).toNat = 0 from rfl] at hy33_); (try rw [show ((0 : Int)).toNat = 0 from rfl] at hz33_); have HP33 := Kd.qsB HO_15.out (0 : Int) 5) | ((with_reducible refine qiA (t := 3) (p := 37) rfl ?_); refine qcA (t := 3) (p := 37) (v := ?vo_w34) (w1 := (w32.setCell ⟨go23, (0 : Int).toNat, none⟩ (.int .i64 5))) ?hg ?ho ?hn ?hr ?_; (case ho => rfl); (case hg => rfl); (case hn => rfl); (case hr => first | (go_simp; done) | (go_simp; rfl)); intro w34 hw; have hg : w32.grownBy w34 (some go23) := (by rw [hw]; exact HP33.2); have hp_ : Kd.R (Kd.int .i64) 3 w34 w.heap.size (fun k_ => some k_ ≠ (.slice Ao10 x18_1.length co10 : Value).ownBlock ∧ some k_ ≠ (v178 : Value).ownBlock) (.slice (some ⟨go23, 0, none⟩) y167.length co23) y187 := (by rw [hw, Ny187.out]; exact HP33.1); clear HP33; have n0_ := Aside0.mk (hp_); have n1_ := Aside0.mk (Kd.qxA (v := (.slice (some ⟨go23, 0, none⟩) y167.length co23)) (v1 := (.slice (some ⟨go23, 0, none⟩) y167.length co23)) (ok := (fun k_ => some k_ ≠ (v178 : Value).ownBlock)) (by (with_reducible repeat (first | apply Kd.qF | apply Kd.qG | apply Kd.qH)); exact Kd.qd HO_18.out (fun _ hk => ⟨hk.2, hk.1⟩)) hg (.inl rfl)); have n2_ := Aside0.mk (Kd.qqA (v := (.slice (some ⟨go23, 0, none⟩) y167.length co23)) (by (with_reducible repeat (first | apply Kd.qF | apply Kd.qG | apply Kd.qH)); exact HO176.out) (Kd.qOA HO_15.out) (by decide) hg); have n3_ := Aside0.mk (Kd.qxA (v := (.slice (some ⟨go23, 0, none⟩) y167.length co23)) (v1 := (.slice (some ⟨go23, 0, none⟩) y167.length co23)) (ok := (fun k_ => some k_ ≠ (.slice Ao10 x18_1.length co10 : Value).ownBlock)) (by (with_reducible repeat (first | apply Kd.qF | apply Kd.qG | apply Kd.qH)); exact Kd.qd HO179.out (fun _ hk => ⟨hk.2, hk.1.2⟩)) hg (.inl rfl)); have n4_ := Aside0.mk ((by rw [hw]; exact ql (HB.out) GB23.out : Below w.heap.size w w34)); clear HO_15; clear HO_18; clear HO176; clear HO179; clear HB; have HO_15 := n0_; have HO_18 := n1_; have HO176 := n2_; have HO179 := n3_; have HB := n4_; clear n0_ n1_ n2_ n3_ n4_; clear hg hw hp_; have p25 : 0 ≤ (0 : Int) := (by omega); have q25 : (0 : Int) < ((x18_1.length : Int) : Int) := of_decide_eq_true (by first | (with_reducible assumption) | assumption); have qi25 : (0 < x18_1.length) = True := eq_true (by omega); obtain ⟨go25, co25, eo25, gb25, gl25, cl25, HG25⟩ := Kd.qtB HO_18.out (by omega); (first | cases eo25 | (injection eo25 with ea_ en_ ec_; (first | subst ea_ | (injection ea_ with ea_; subst ea_)); subst ec_; clear en_)); have GB25 := Aside0.mk gb25; have GG25 := Aside0.mk HG25; clear gb25 gl25 HG25; obtain ⟨hx25_0, hf25_0⟩ := Kd.quA 0 HO_18.out (0 : Int) p25 q25; (try rw [show ((0 : Int)).toNat = 0 from rfl] at hx25_0); (try simp only [Nat.reduceMul, Nat.zero_mul, Nat.zero_add, Nat.reduceAdd] at hx25_0); (try rw [show ((0 : Int)).toNat = 0 from rfl] at hf25_0); (try simp only [Nat.reduceMul, Nat.zero_mul, Nat.zero_add, Nat.reduceAdd] at hf25_0); replace p25 := eq_true p25; replace q25 := eq_true q25; obtain ⟨hy35_, hz35_⟩ := Kd.quA 0 HO_18.out (0 : Int) (by omega) (of_decide_eq_true (by first | (with_reducible assumption) | assumption)); (try simp only [Int.reduceToNat, Int.toNat_zero, Int.toNat_ofNat, Nat.reduceMul, Nat.zero_mul, Nat.zero_add] at hy35_ hz35_); (try rw [show ((0 : Int)).toNat = 0 from rfl] at hy35_); (try rw [show ((0 : Int)).toNat = 0 from rfl] at hz35_); have HP35 := Kd.qsB HO_18.out (0 : Int) 0) | ((with_reducible refine qiA (t := 3) (p := 38) rfl ?_); refine qcA (t := 3) (p := 38) (v := ?vo_w36) (w1 := (w34.setCell ⟨go25, (0 : Int).toNat, none⟩ (.int .i64 0))) ?hg ?ho ?hn ?hr ?_; (case ho => rfl); (case hg => rfl); (case hn => rfl); (case hr => first | (go_simp; done) | (go_simp; rfl)); intro w36 hw; have hg : w34.grownBy w36 (some go25) := (by rw [hw]; exact HP35.2); have hp_ : Kd.R (Kd.int .i64) 3 w36 w.heap.size (fun k_ => some k_ ≠ (v178 : Value).ownBlock ∧ some k_ ≠ (.slice (some ⟨go23, 0, none⟩) y167.length co23 : Value).ownBlock) (.slice (some ⟨go25, 0, none⟩) x18_1.length co10) y188 := (by rw [hw, Ny188.out]; exact HP35.1); clear HP35; have n0_ := Aside0.mk (Kd.qxA (v := (.slice (some ⟨go25, 0, none⟩) x18_1.length co10)) (v1 := (.slice (some ⟨go25, 0, none⟩) x18_1.length co10)) (ok := (fun k_ => some k_ ≠ (v178 : Value).ownBlock)) (by (with_reducible repeat (first | apply Kd.qF | apply Kd.qG | apply Kd.qH)); exact Kd.qd HO_15.out (fun _ hk => ⟨hk.2, hk.1⟩)) hg (.inl rfl)); have n1_ := Aside0.mk (hp_); have n2_ := Aside0.mk (Kd.qqA (v := (.slice (some ⟨go25, 0, none⟩) x18_1.length co10)) (by (with_reducible repeat (first | apply Kd.qF | apply Kd.qG | apply Kd.qH)); exact HO176.out) (Kd.qOA HO_18.out) (by decide) hg); have n3_ := Aside0.mk (Kd.qxA (v := (.slice (some ⟨go25, 0, none⟩) x18_1.length co10)) (v1 := (.slice (some ⟨go25, 0, none⟩) x18_1.length co10)) (ok := (fun k_ => some k_ ≠ (.slice (some ⟨go23, 0, none⟩) y167.length co23 : Value).ownBlock)) (by (with_reducible repeat (first | apply Kd.qF | apply Kd.qG | apply Kd.qH)); exact Kd.qd HO179.out (fun _ hk => ⟨hk.2, hk.1⟩)) hg (.inl rfl)); have n4_ := Aside0.mk ((by rw [hw]; exact ql (HB.out) GB25.out : Below w.heap.size w w36)); clear HO_15; clear HO_18; clear HO176; clear HO179; clear HB; have HO_15 := n0_; have HO_18 := n1_; have HO176 := n2_; have HO179 := n3_; have HB := n4_; clear n0_ n1_ n2_ n3_ n4_; clear hg hw hp_))
           go_loopg [8, 9] k1 (fun kq v8 v9 w' => ∃ (x8_2 : List Int) (x9_2 : Int) (x15_2 : List Int) (x18_2 : List Int) (x30_2 : List (S31)), v9 = .int .i64 x9_2 ∧ Aside0 (qI.l1 kq l0 x8_2 x9_2 x15_2 x18_2 x30_2 = some (r1, r2)) ∧ Aside0 (kq ≤ k1) ∧ Aside0 (Kd.R (Kd.int .i64) 3 w' w.heap.size (fun k_ => some k_ ≠ ((.slice (some ⟨go23, 0, none⟩) y167.length co23) : Value).ownBlock ∧ some k_ ≠ ((.slice (some ⟨go25, 0, none⟩) x18_1.length co10) : Value).ownBlock) v8 x8_2) ∧ Aside0 (Kd.R (Kd.int .i64) 3 w' w.heap.size (fun k_ => some k_ ≠ (v8 : Value).ownBlock ∧ some k_ ≠ ((.slice (some ⟨go25, 0, none⟩) x18_1.length co10) : Value).ownBlock) (.slice (some ⟨go23, 0, none⟩) y167.length co23) x15_2) ∧ Aside0 (Kd.R (Kd.int .i64) 3 w' w.heap.size (fun k_ => some k_ ≠ (v8 : Value).ownBlock ∧ some k_ ≠ ((.slice (some ⟨go23, 0, none⟩) y167.length co23) : Value).ownBlock) (.slice (some ⟨go25, 0, none⟩) x18_1.length co10) x18_2) ∧ Aside0 (Kd.R k31 31 w' w.heap.size (fun _ => True) (.slice (some ⟨go21, 0, none⟩) y174.length co21) x30_2) ∧ Aside0 (Below w.heap.size w w'))
           case atStart => exact ⟨(y177), (0), (y187), (y188), (y186), (by first | rfl | (simp; done) | (simp [*]; done)), H', ⟨Nat.le_refl _⟩, ⟨by (try simp only [hl18_1]); (with_reducible repeat (first | apply Kd.qF | apply Kd.qG | apply Kd.qH)); exact HO179.out⟩, ⟨by (try simp only [hl18_1]); (with_reducible repeat (first | apply Kd.qF | apply Kd.qG | apply Kd.qH)); exact HO_15.out⟩, ⟨by (try simp only [hl18_1]); (with_reducible repeat (first | apply Kd.qF | apply Kd.qG | apply Kd.qH)); exact HO_18.out⟩, ⟨by (try simp only [hl18_1]); (with_reducible repeat (first | apply Kd.qF | apply Kd.qG | apply Kd.qH)); exact HO176.out⟩, ⟨bl⟩⟩
           case round =>
            clear H'
            try clear c1
            try clear p1
            try clear q1
            try clear hx1
            try clear hf1
            try clear c2
            try clear c2b0
            try clear c2b1
            try clear p2
            try clear q2
            try clear hx2
            try clear qi2
            try clear hf2
            try clear c3
            try clear c3b0
            try clear c3b1
            try clear hx3
            try clear hf3
            try clear c5
            try clear p6
            try clear c11
            try clear c11b0
            try clear c12
            try clear c12b0
            try clear c13
            try clear c13b0
            try clear p14
            try clear q14
            try clear hx14
            try clear hf14
            try clear c17
            try clear c17b0
            try clear c17b1
            try clear c18
            try clear c18b0
            try clear c18b1
            try clear c20
            try clear c20b0
            try clear c20b1
            try clear c21
            try clear p21
            try clear q21
            try clear hx21
            try clear qi21
            try clear hf21
            try clear c22
            try clear c22b0
            try clear c22b1
            try clear p23
            try clear q23
            try clear hx23
            try clear qi23
            try clear hf23
            try clear c24
            try clear c24b0
            try clear c24b1
            try clear p25
            try clear q25
            try clear hx25
            try clear qi25
            try clear hf25
            try clear c31
            try clear hx31
            try clear hf31
            try clear hx14_0
            try clear hx21_0
            try clear hx21_1
            try clear hx21_2
            try clear hx21_3
            try clear hx21_4
            try clear hx21_5
            try clear hx23_0
            try clear hx25_0
            try clear hx31_0
            try clear hx31_1
            try clear hx31_2
            try clear hx31_3
            try clear hx31_4
            try clear hx31_5
            try clear p14
            try clear p2
            try clear p21
            try clear p23
            try clear p25
            try clear q14
            try clear q21
            try clear q23
            try clear q25
            obtain ⟨x8_2, x9_2, x15_2, x18_2, x30_2, rfl, HA, HK2, HO_8, HO_15, HO_18, HO_30, HB⟩ := hrel
            have hl15_2 := (Kd.qS HO_15.out).1
            rw [hl15_2] at HO_15
            (try simp only [hl15_2])
            (try simp only [hl15_2] at HO_8)
            (try simp only [hl15_2] at HO_18)
            (try simp only [hl15_2] at HO_30)
            have hl18_2 := (Kd.qS HO_18.out).1
            rw [hl18_2] at HO_18
            (try simp only [hl18_2])
            (try simp only [hl18_2] at HO_8)
            (try simp only [hl18_2] at HO_15)
            (try simp only [hl18_2] at HO_30)
            have hl30_2 := (Kd.qS HO_30.out).1
            rw [hl30_2] at HO_30
            (try simp only [hl30_2])
            (try simp only [hl30_2] at HO_8)
            (try simp only [hl30_2] at HO_15)
            (try simp only [hl30_2] at HO_18)
            cases gk with
            | zero => exact absurd HA.out (by simp [qI.l1])
            | succ k2 =>
             have H := HA.out
             clear HA
             simp only [qI.l1] at H
             by_cases c37 : x9_2 < (x8_2.length : Int)
             ·rw [if_pos c37] at H
              have c37b0 : decide (x9_2 < (x8_2.length : Int)) = true := decide_eq_true c37
              (try (have c37b0_hl18_1 := c37b0; simp only [hl18_1] at c37b0_hl18_1))
              (try (have c37b0_hl15_2 := c37b0; simp only [hl15_2] at c37b0_hl15_2))
              (try (have c37b0_hl18_2 := c37b0; simp only [hl18_2] at c37b0_hl18_2))
              (try (have c37b0_hl30_2 := c37b0; simp only [hl30_2] at c37b0_hl30_2))
              clear c37
              by_cases c38 : 0 ≤ x9_2
              ·rw [if_pos c38] at H
               have c38b0 : decide (0 ≤ x9_2) = true := decide_eq_true c38
               clear c38
               have H' := Aside0.mk H
               clear H
               obtain ⟨Ao39, co39, eo39⟩ := Kd.qr HO_8.out
               subst eo39
               have p189 : 0 ≤ (x9_2 : Int) := of_decide_eq_true (by first | (with_reducible assumption) | assumption)
               have q189 : x9_2 < (x8_2.length : Int) := of_decide_eq_true (by first | (with_reducible assumption) | assumption)
               obtain ⟨ad189, e189, hx189_0⟩ := Kd.qGA (Kd.qS HO_8.out).2.2 x9_2 p189 q189
               cases e189
               replace p189 := eq_true p189
               replace q189 := eq_true q189
               go_wp2
               go_loopg [8, 49] k2 (fun kq v8 v49 w' => ∃ (x8_3 : List Int) (x15_3 : List Int) (x18_3 : List Int) (x30_3 : List (S31)) (x49_3 : Int), v49 = .int .i64 x49_3 ∧ Aside0 (qI.l2 kq l0 x8_3 x9_2 (rd x8_2 x9_2) x15_3 x18_3 x30_3 x49_3 = some (r1, r2)) ∧ Aside0 (kq ≤ k2) ∧ Aside0 (Kd.R (Kd.int .i64) 3 w' w.heap.size (fun k_ => some k_ ≠ ((.slice (some ⟨go23, 0, none⟩) x15_2.length co23) : Value).ownBlock ∧ some k_ ≠ ((.slice (some ⟨go25, 0, none⟩) x18_2.length co10) : Value).ownBlock) v8 x8_3) ∧ Aside0 (Kd.R (Kd.int .i64) 3 w' w.heap.size (fun k_ => some k_ ≠ (v8 : Value).ownBlock ∧ some k_ ≠ ((.slice (some ⟨go25, 0, none⟩) x18_2.length co10) : Value).ownBlock) (.slice (some ⟨go23, 0, none⟩) x15_2.length co23) x15_3) ∧ Aside0 (Kd.R (Kd.int .i64) 3 w' w.heap.size (fun k_ => some k_ ≠ (v8 : Value).ownBlock ∧ some k_ ≠ ((.slice (some ⟨go23, 0, none⟩) x15_2.length co23) : Value).ownBlock) (.slice (some ⟨go25, 0, none⟩) x18_2.length co10) x18_3) ∧ Aside0 (Kd.R k31 31 w' w.heap.size (fun _ => True) (.slice (some ⟨go21, 0, none⟩) x30_2.length co21) x30_3) ∧ Aside0 (Below w.heap.size w w'))
               case atStart => exact ⟨(x8_2), (x15_2), (x18_2), (x30_2), (0), (by first | rfl | (simp; done) | (simp [*]; done)), H', ⟨Nat.le_refl _⟩, ⟨by (try simp only [hl18_1]); (try simp only [hl15_2]); (try simp only [hl18_2]); (try simp only [hl30_2]); (with_reducible repeat (first | apply Kd.qF | apply Kd.qG | apply Kd.qH)); exact HO_8.out⟩, ⟨by (try simp only [hl18_1]); (try simp only [hl15_2]); (try simp only [hl18_2]); (try simp only [hl30_2]); (with_reducible repeat (first | apply Kd.qF | apply Kd.qG | apply Kd.qH)); exact HO_15.out⟩, ⟨by (try simp only [hl18_1]); (try simp only [hl15_2]); (try simp only [hl18_2]); (try simp only [hl30_2]); (with_reducible repeat (first | apply Kd.qF | apply Kd.qG | apply Kd.qH)); exact HO_18.out⟩, ⟨by (try simp only [hl18_1]); (try simp only [hl15_2]); (try simp only [hl18_2]); (try simp only [hl30_2]); (with_reducible repeat (first | apply Kd.qF | apply Kd.qG | apply Kd.qH)); exact HO_30.out⟩, ⟨bl⟩⟩
               case round =>
                clear H'
                try clear c1
                try clear p1
                try clear q1
                try clear hx1
                try clear hf1
                try clear c2
                try clear c2b0
                try clear c2b1
                try clear p2
                try clear q2
                try clear hx2
                try clear qi2
                try clear hf2
                try clear c3
                try clear c3b0
                try clear c3b1
                try clear hx3
                try clear hf3
                try clear c5
                try clear p6
                try clear c11
                try clear c11b0
                try clear c12
                try clear c12b0
                try clear c13
                try clear c13b0
                try clear p14
                try clear q14
                try clear hx14
                try clear hf14
                try clear c17
                try clear c17b0
                try clear c17b1
                try clear c18
                try clear c18b0
                try clear c18b1
                try clear p18
                try clear q18
                try clear hx18
                try clear c20
                try clear c20b0
                try clear c20b1
                try clear c21
                try clear p21
                try clear q21
                try clear hx21
                try clear qi21
                try clear hf21
                try clear c22
                try clear c22b0
                try clear c22b1
                try clear p23
                try clear q23
                try clear hx23
                try clear qi23
                try clear hf23
                try clear c24
                try clear c24b0
                try clear c24b1
                try clear p25
                try clear q25
                try clear hx25
                try clear qi25
                try clear hf25
                try clear c31
                try clear hx31
                try clear hf31
                try clear c37
                try clear c37b0
                try clear c38
                try clear c38b0
                try clear hx14_0
                try clear hx189_0
                try clear hx21_0
                try clear hx21_1
                try clear hx21_2
                try clear hx21_3
                try clear hx21_4
                try clear hx21_5
                try clear hx23_0
                try clear hx25_0
                try clear hx31_0
                try clear hx31_1
                try clear hx31_2
                try clear hx31_3
                try clear hx31_4
                try clear hx31_5
                try clear p1
                try clear p14
                try clear p189
                try clear p2
                try clear p21
                try clear p23
                try clear p25
                try clear p6
                try clear q1
                try clear q14
                try clear q189
                try clear q2
                try clear q21
                try clear q23
                try clear q25
                obtain ⟨x8_3, x15_3, x18_3, x30_3, x49_3, rfl, HA, HK3, HO_8, HO_15, HO_18, HO_30, HB⟩ := hrel
                have hl15_3 := (Kd.qS HO_15.out).1
                rw [hl15_3] at HO_15
                (try simp only [hl15_3])
                (try simp only [hl15_3] at HO_8)
                (try simp only [hl15_3] at HO_18)
                (try simp only [hl15_3] at HO_30)
                have hl18_3 := (Kd.qS HO_18.out).1
                rw [hl18_3] at HO_18
                (try simp only [hl18_3])
                (try simp only [hl18_3] at HO_8)
                (try simp only [hl18_3] at HO_15)
                (try simp only [hl18_3] at HO_30)
                have hl30_3 := (Kd.qS HO_30.out).1
                rw [hl30_3] at HO_30
                (try simp only [hl30_3])
                (try simp only [hl30_3] at HO_8)
                (try simp only [hl30_3] at HO_15)
                (try simp only [hl30_3] at HO_18)
                cases gk with
                | zero => exact absurd HA.out (by simp [qI.l2])
                | succ k3 =>
                 have H := HA.out
                 clear HA
                 simp only [qI.l2] at H
                 by_cases c40 : x49_3 < 4
                 ·rw [if_pos c40] at H
                  have c40b0 : decide (x49_3 < 4) = true := decide_eq_true c40
                  clear c40
                  by_cases c41 : 0 ≤ (rd x8_2 x9_2)
                  ·rw [if_pos c41] at H
                   have c41b0 : decide (0 ≤ (rd x8_2 x9_2)) = true := decide_eq_true c41
                   clear c41
                   by_cases c42 : (rd x8_2 x9_2) < (l0.length : Int)
                   ·rw [if_pos c42] at H
                    have c42b0 : decide ((rd x8_2 x9_2) < (l0.length : Int)) = true := decide_eq_true c42
                    (try (have c42b0_hl18_1 := c42b0; simp only [hl18_1] at c42b0_hl18_1))
                    (try (have c42b0_hl15_2 := c42b0; simp only [hl15_2] at c42b0_hl15_2))
                    (try (have c42b0_hl18_2 := c42b0; simp only [hl18_2] at c42b0_hl18_2))
                    (try (have c42b0_hl30_2 := c42b0; simp only [hl30_2] at c42b0_hl30_2))
                    (try (have c42b0_hl15_3 := c42b0; simp only [hl15_3] at c42b0_hl15_3))
                    (try (have c42b0_hl18_3 := c42b0; simp only [hl18_3] at c42b0_hl18_3))
                    (try (have c42b0_hl30_3 := c42b0; simp only [hl30_3] at c42b0_hl30_3))
                    clear c42
                    by_cases c43 : 0 ≤ x49_3
                    ·rw [if_pos c43] at H
                     have c43b0 : decide (0 ≤ x49_3) = true := decide_eq_true c43
                     clear c43
                     replace H := Option.bind_eq_some_iff.mp H
                     obtain ⟨⟨t192, t193⟩, A450, H⟩ := H
                     replace H : ((qVA.f k3 l0 t192 t193).bind fun t194 => (if t194 < 0 then (qI.l2 k3 l0 x8_3 x9_2 (rd x8_2 x9_2) x15_3 x18_3 x30_3 (wrap64 (x49_3 + 1))) else (if 0 ≤ t194 then (if t194 < (x18_3.length : Int) then (if (rd x18_3 t194) ≥ 0 then (qI.l2 k3 l0 x8_3 x9_2 (rd x8_2 x9_2) x15_3 x18_3 x30_3 (wrap64 (x49_3 + 1))) else (if (rd x8_2 x9_2) < (x30_3.length : Int) then ((qMA.f ((qP x30_3 (rd x8_2 x9_2)).f0) ((qP x30_3 (rd x8_2 x9_2)).f1) ((qP x30_3 (rd x8_2 x9_2)).f2) ((qP x30_3 (rd x8_2 x9_2)).f3) ((qP x30_3 (rd x8_2 x9_2)).f4) ((qP x30_3 (rd x8_2 x9_2)).f5) (bt (⟨#[110, 101, 115, 119]⟩ : ByteArray) x49_3)).bind fun bt197 => (if (rd x8_2 x9_2) < (x18_3.length : Int) then (if t194 < (x30_3.length : Int) then (if t194 < (x15_3.length : Int) then (if x8_3.length < 17592186044416 then (qI.l2 k3 l0 (x8_3 ++ [t194]) x9_2 (rd x8_2 x9_2) (x15_3.set (t194 : Int).toNat bt197.2.2.2.2.2) (x18_3.set (t194 : Int).toNat (wrap64 ((rd x18_3 (rd x8_2 x9_2)) + 1))) (x30_3.set (t194 : Int).toNat (⟨bt197.1, bt197.2.1, bt197.2.2.1, bt197.2.2.2.1, bt197.2.2.2.2.1, bt197.2.2.2.2.2⟩ : S31)) (wrap64 (x49_3 + 1))) else (none)) else (none)) else (none)) else (none))) else (none))) else (none)) else (none)))) = some (r1, r2) := H
                     have A45 := Aside0.mk A450
                     clear A450
                     replace H := Option.bind_eq_some_iff.mp H
                     obtain ⟨t194, A460, H⟩ := H
                     replace H : (if t194 < 0 then (qI.l2 k3 l0 x8_3 x9_2 (rd x8_2 x9_2) x15_3 x18_3 x30_3 (wrap64 (x49_3 + 1))) else (if 0 ≤ t194 then (if t194 < (x18_3.length : Int) then (if (rd x18_3 t194) ≥ 0 then (qI.l2 k3 l0 x8_3 x9_2 (rd x8_2 x9_2) x15_3 x18_3 x30_3 (wrap64 (x49_3 + 1))) else (if (rd x8_2 x9_2) < (x30_3.length : Int) then ((qMA.f ((qP x30_3 (rd x8_2 x9_2)).f0) ((qP x30_3 (rd x8_2 x9_2)).f1) ((qP x30_3 (rd x8_2 x9_2)).f2) ((qP x30_3 (rd x8_2 x9_2)).f3) ((qP x30_3 (rd x8_2 x9_2)).f4) ((qP x30_3 (rd x8_2 x9_2)).f5) (bt (⟨#[110, 101, 115, 119]⟩ : ByteArray) x49_3)).bind fun bt197 => (if (rd x8_2 x9_2) < (x18_3.length : Int) then (if t194 < (x30_3.length : Int) then (if t194 < (x15_3.length : Int) then (if x8_3.length < 17592186044416 then (qI.l2 k3 l0 (x8_3 ++ [t194]) x9_2 (rd x8_2 x9_2) (x15_3.set (t194 : Int).toNat bt197.2.2.2.2.2) (x18_3.set (t194 : Int).toNat (wrap64 ((rd x18_3 (rd x8_2 x9_2)) + 1))) (x30_3.set (t194 : Int).toNat (⟨bt197.1, bt197.2.1, bt197.2.2.1, bt197.2.2.2.1, bt197.2.2.2.2.1, bt197.2.2.2.2.2⟩ : S31)) (wrap64 (x49_3 + 1))) else (none)) else (none)) else (none)) else (none))) else (none))) else (none)) else (none))) = some (r1, r2) := H
                     have A46 := Aside0.mk A460
                     clear A460
                     by_cases c47 : t194 < 0
                     ·rw [if_pos c47] at H
                      have c47b0 : decide (t194 < 0) = true := decide_eq_true c47
                      clear c47
                      have H' := Aside0.mk H
                      clear H
                      try go_wp2
                      have n0_ := Aside0.mk (Kd.qH HO_8.out)
                      have n1_ := Aside0.mk (Kd.qH HO_15.out)
                      have n2_ := Aside0.mk (Kd.qH HO_18.out)
                      have n3_ := Aside0.mk (Kd.qH HO_30.out)
                      have n4_ := Aside0.mk (qk HB.out)
                      clear HO_8
                      clear HO_15
                      clear HO_18
                      clear HO_30
                      clear HB
                      have HO_8 := n0_
                      have HO_15 := n1_
                      have HO_18 := n2_
                      have HO_30 := n3_
                      have HB := n4_
                      clear n0_ n1_ n2_ n3_ n4_
                      have p190 : 0 ≤ ((rd x8_2 x9_2) : Int) := of_decide_eq_true (by first | (with_reducible assumption) | assumption)
                      have q190 : (rd x8_2 x9_2) < (l0.length : Int) := of_decide_eq_true (by first | (with_reducible assumption) | assumption)
                      obtain ⟨ad190, e190, hx190_0, hx190_1⟩ := qjC HR0.out (rd x8_2 x9_2) p190 q190
                      have hw190_1 := hx190_1
                      have hw190_0 := hx190_0
                      cases e190
                      replace hx190_0 := (HB.out.cell (World.block_lt_of_cell? w _ hx190_0)).trans hx190_0
                      replace hx190_1 := (HB.out.cell (World.block_lt_of_cell? w _ hx190_1)).trans hx190_1
                      replace p190 := eq_true p190
                      replace q190 := eq_true q190
                      have p191 : 0 ≤ ((rd x8_2 x9_2) : Int) := of_decide_eq_true (by first | (with_reducible assumption) | assumption)
                      have q191 : (rd x8_2 x9_2) < (l0.length : Int) := of_decide_eq_true (by first | (with_reducible assumption) | assumption)
                      obtain ⟨ad191, e191, hx191_0, hx191_1⟩ := qjC HR0.out (rd x8_2 x9_2) p191 q191
                      have hw191_1 := hx191_1
                      have hw191_0 := hx191_0
                      obtain rfl : ad190 = ad191 := (by injection e191)
                      replace hx191_0 := (HB.out.cell (World.block_lt_of_cell? w _ hx191_0)).trans hx191_0
                      replace hx191_1 := (HB.out.cell (World.block_lt_of_cell? w _ hx191_1)).trans hx191_1
                      replace p191 := eq_true p191
                      replace q191 := eq_true q191
                      have p44 : 0 ≤ (x49_3 : Int) := of_decide_eq_true (by first | (with_reducible assumption) | assumption)
                      have q44 : x49_3 < (4 : Int) := of_decide_eq_true (by first | (with_reducible assumption) | assumption)
                      have hx44 := bt_at (⟨#[110, 101, 115, 119]⟩ : ByteArray) x49_3
                      replace p44 := eq_true p44
                      replace q44 := eq_true q44
                      refine qwA (n := 18) (S := fun w' => w'.cell? (ad190.add (((rd x8_2 x9_2)).toNat * 2)) = some (.int .i64 ((qPA l0 (rd x8_2 x9_2)).f0)) ∧ w'.cell? ⟨(ad190.add (((rd x8_2 x9_2)).toNat * 2)).block, (ad190.add (((rd x8_2 x9_2)).toNat * 2)).off + 1, none⟩ = some (.int .i64 ((qPA l0 (rd x8_2 x9_2)).f1)) ∧ w'.cell? (ad190.add (((rd x8_2 x9_2)).toNat * 2)) = some (.int .i64 ((qPA l0 (rd x8_2 x9_2)).f0)) ∧ w'.cell? ⟨(ad190.add (((rd x8_2 x9_2)).toNat * 2)).block, (ad190.add (((rd x8_2 x9_2)).toNat * 2)).off + 1, none⟩ = some (.int .i64 ((qPA l0 (rd x8_2 x9_2)).f1))) (ds := []) #[false, false, false, false, false, false, false, false, false, false, false, false, false, false, false, false, false, false] (by kernel_rfl) rfl rfl ⟨((HB.out.cell (World.block_lt_of_cell? w _ hw190_0)).trans hw190_0), ((HB.out.cell (World.block_lt_of_cell? w _ hw190_1)).trans hw190_1), ((HB.out.cell (World.block_lt_of_cell? w _ hw191_0)).trans hw191_0), ((HB.out.cell (World.block_lt_of_cell? w _ hw191_1)).trans hw191_1)⟩ (fun hHeld => ?_); refine qTA qI.tab16 qI.bits16 (fun HT_ HW_ => ?_)
                      generalize wr.drew = w48 at HO_8 HO_15 HO_18 HO_30 HB hx190_0 hx190_1 hx191_0 hx191_1 hHeld ⊢
                      refine pS (i := 0) (N := some 52) #[true, false, false, false, false, false, false, false, false, false, false, false, false, false, false, false, false, false] HT_ ?_
                      refine pS (i := 1) (N := some 53) #[true, true, false, false, false, false, false, false, false, false, false, false, false, false, false, false, false, false] HT_ ?_
                      refine pS (i := 2) (N := some 54) #[true, true, true, false, false, false, false, false, false, false, false, false, false, false, false, false, false, false] HT_ ?_
                      refine pS (i := 3) (N := some 55) #[true, true, true, true, false, false, false, false, false, false, false, false, false, false, false, false, false, false] HT_ ?_
                      refine pS (i := 4) (N := some 56) #[true, true, true, true, true, false, false, false, false, false, false, false, false, false, false, false, false, false] HT_ ?_
                      refine pS (i := 6) (N := some 58) #[true, true, true, true, true, false, true, false, false, false, false, false, false, false, false, false, false, false] HT_ ?_
                      refine pS (i := 7) (N := some 59) #[true, true, true, true, true, false, true, true, false, false, false, false, false, false, false, false, false, false] HT_ ?_
                      refine pS (i := 8) (N := some 60) #[true, true, true, true, true, false, true, true, true, false, false, false, false, false, false, false, false, false] HT_ ?_
                      refine pS (i := 9) (N := some 61) #[true, true, true, true, true, false, true, true, true, true, false, false, false, false, false, false, false, false] HT_ ?_
                      refine pS (i := 11) (N := some 63) #[true, true, true, true, true, false, true, true, true, true, false, true, false, false, false, false, false, false] HT_ ?_
                      refine tS (i := 5) (N := some 57) #[true, true, true, true, true, true, true, true, true, true, false, true, false, false, false, false, false, false] HT_ HW_ hHeld ?_
                      refine tS (i := 10) (N := some 62) #[true, true, true, true, true, true, true, true, true, true, true, true, false, false, false, false, false, false] HT_ HW_ hHeld ?_
                      refine tS (i := 12) (N := some 64) #[true, true, true, true, true, true, true, true, true, true, true, true, true, false, false, false, false, false] HT_ HW_ hHeld ?_
                      refine one_ (i := 13) (N := some 65) #[true, true, true, true, true, true, true, true, true, true, true, true, true, true, false, false, false, false] rfl rfl (qnA HT_.out (by kernel_rfl)) (by decide) (fun K hK => ?_)
                      refine goes_ Tryd.func54 (by kernel_rfl) rfl #[.int .i64 ((qPA l0 (rd x8_2 x9_2)).f0), .int .i64 ((qPA l0 (rd x8_2 x9_2)).f1), .int .u8 (bt (⟨#[110, 101, 115, 119]⟩ : ByteArray) x49_3)] (by rfl) rfl rfl (by (try simp only [List.map_toArray, List.map_cons, List.map_nil]); first | done | rfl | (simp only [List.length_drop, List.length_take]; rfl)) ?_
                      with_reducible refine (qNB.calls ((qPA l0 (rd x8_2 x9_2)).f0) ((qPA l0 (rd x8_2 x9_2)).f1) (bt (⟨#[110, 101, 115, 119]⟩ : ByteArray) x49_3) t192 t193 _ A45.out).mono ?_
                      rintro e w' ⟨rfl, ⟨nd, rfl⟩⟩
                      refine ⟨_, rfl, ?_⟩
                      refine hK.out _ _ ⟨((HB.out.cell (World.block_lt_of_cell? w _ hw190_0)).trans hw190_0), ((HB.out.cell (World.block_lt_of_cell? w _ hw190_1)).trans hw190_1), ((HB.out.cell (World.block_lt_of_cell? w _ hw191_0)).trans hw191_0), ((HB.out.cell (World.block_lt_of_cell? w _ hw191_1)).trans hw191_1)⟩ (fun hHeld => ?_)
                      clear hK K
                      refine norm_ (a' := ?_) ?_ ?_
                      rotate_left
                      ·show Act.put _ (some 65) _ = _
                       simp only [Act.put, List.setIfInBounds_toArray, List.set_cons_zero, List.set_cons_succ, i64_w, i32_w]
                       rfl
                      refine pS (i := 14) (N := some 66) #[true, true, true, true, true, true, true, true, true, true, true, true, true, true, true, false, false, false] HT_ ?_
                      refine pS (i := 15) (N := some 67) #[true, true, true, true, true, true, true, true, true, true, true, true, true, true, true, true, false, false] HT_ ?_
                      refine one_ (i := 16) (N := some 68) #[true, true, true, true, true, true, true, true, true, true, true, true, true, true, true, true, true, false] rfl rfl (qnA HT_.out (by kernel_rfl)) (by decide) (fun K hK => ?_)
                      refine goes_ Tryd.func53 (by kernel_rfl) rfl #[.slice (some ad190) l0.length c0, .int .i64 t192, .int .i64 t193] (by rfl) rfl rfl (by (try simp only [List.map_toArray, List.map_cons, List.map_nil]); first | done | rfl | (simp only [List.length_drop, List.length_take]; rfl)) ?_
                      with_reducible refine (qVA.calls k3 _ _ l0 t192 t193 t194 _ ?side1 ?side2 A46.out).mono ?_
                      (case side1 => repeat (first | exact (Kd.qyA HR0.out bl) | (with_reducible refine Kd.qZA ?_ _) | (with_reducible refine Kd.qYA ?_ _) | (with_reducible refine Kd.qpA ?_)))
                      (case side2 => exact HC0.out)
                      rintro e w49 ⟨rfl, hb⟩
                      refine ⟨_, rfl, ?_⟩
                      have n0_ := Aside0.mk (Kd.qU (by (with_reducible repeat (first | apply Kd.qF | apply Kd.qG | apply Kd.qH)); exact HO_8.out) hb)
                      have n1_ := Aside0.mk (Kd.qU (by (with_reducible repeat (first | apply Kd.qF | apply Kd.qG | apply Kd.qH)); exact HO_15.out) hb)
                      have n2_ := Aside0.mk (Kd.qU (by (with_reducible repeat (first | apply Kd.qF | apply Kd.qG | apply Kd.qH)); exact HO_18.out) hb)
                      have n3_ := Aside0.mk (Kd.qU (by (with_reducible repeat (first | apply Kd.qF | apply Kd.qG | apply Kd.qH)); exact HO_30.out) hb)
                      have n4_ := Aside0.mk (qJ bl hb)
                      clear HO_8
                      clear HO_15
                      clear HO_18
                      clear HO_30
                      clear HB
                      have HO_8 := n0_
                      have HO_15 := n1_
                      have HO_18 := n2_
                      have HO_30 := n3_
                      have HB := n4_
                      clear n0_ n1_ n2_ n3_ n4_
                      (try clear hb)
                      (try clear hb2)
                      (try clear hk)
                      (try clear hi)
                      refine hK.out _ _ ⟨((HB.out.cell (World.block_lt_of_cell? w _ hw190_0)).trans hw190_0), ((HB.out.cell (World.block_lt_of_cell? w _ hw190_1)).trans hw190_1), ((HB.out.cell (World.block_lt_of_cell? w _ hw191_0)).trans hw191_0), ((HB.out.cell (World.block_lt_of_cell? w _ hw191_1)).trans hw191_1)⟩ (fun hHeld => ?_)
                      clear hK K
                      refine norm_ (a' := ?_) ?_ ?_
                      rotate_left
                      ·show Act.put _ (some 68) _ = _
                       simp only [Act.put, List.setIfInBounds_toArray, List.set_cons_zero, List.set_cons_succ, i64_w, i32_w]
                       rfl
                      refine pS (i := 17) (N := some 12) #[true, true, true, true, true, true, true, true, true, true, true, true, true, true, true, true, true, true] HT_ ?_
                      refine done_ (qDB HT_.out (by kernel_rfl)) ?_
                      try go_wp2
                      (try simp only [← hl15_3, ← hl18_3, ← hl30_3])
                      go_roundg k3
                      case measure => have := HK1.out; have := HK2.out; have := HK3.out; omega
                      case rel => exact ⟨(x8_3), (x15_3), (x18_3), (x30_3), (wrap64 (x49_3 + 1)), (by first | rfl | (simp; done) | (simp [*]; done)), H', ⟨by have := HK1.out; have := HK2.out; have := HK3.out; omega⟩, ⟨by (try simp only [hl18_1]); (try simp only [hl15_2]); (try simp only [hl18_2]); (try simp only [hl30_2]); (try simp only [hl15_3]); (try simp only [hl18_3]); (try simp only [hl30_3]); (with_reducible repeat (first | apply Kd.qF | apply Kd.qG | apply Kd.qH)); exact HO_8.out⟩, ⟨by (try simp only [hl18_1]); (try simp only [hl15_2]); (try simp only [hl18_2]); (try simp only [hl30_2]); (try simp only [hl15_3]); (try simp only [hl18_3]); (try simp only [hl30_3]); (with_reducible repeat (first | apply Kd.qF | apply Kd.qG | apply Kd.qH)); exact HO_15.out⟩, ⟨by (try simp only [hl18_1]); (try simp only [hl15_2]); (try simp only [hl18_2]); (try simp only [hl30_2]); (try simp only [hl15_3]); (try simp only [hl18_3]); (try simp only [hl30_3]); (with_reducible repeat (first | apply Kd.qF | apply Kd.qG | apply Kd.qH)); exact HO_18.out⟩, ⟨by (try simp only [hl18_1]); (try simp only [hl15_2]); (try simp only [hl18_2]); (try simp only [hl30_2]); (try simp only [hl15_3]); (try simp only [hl18_3]); (try simp only [hl30_3]); (with_reducible repeat (first | apply Kd.qF | apply Kd.qG | apply Kd.qH)); exact HO_30.out⟩, ⟨bl⟩⟩
                     ·rw [if_neg c47] at H
                      have c47b0 : decide (t194 < 0) = false := decide_eq_false c47
                      clear c47
                      by_cases c50 : 0 ≤ t194
                      ·rw [if_pos c50] at H
                       have c50b0 : decide (0 ≤ t194) = true := decide_eq_true c50
                       clear c50
                       by_cases c51 : t194 < (x18_3.length : Int)
                       ·rw [if_pos c51] at H
                        have c51b0 : decide (t194 < (x18_3.length : Int)) = true := decide_eq_true c51
                        (try (have c51b0_hl18_1 := c51b0; simp only [hl18_1] at c51b0_hl18_1))
                        (try (have c51b0_hl15_2 := c51b0; simp only [hl15_2] at c51b0_hl15_2))
                        (try (have c51b0_hl18_2 := c51b0; simp only [hl18_2] at c51b0_hl18_2))
                        (try (have c51b0_hl30_2 := c51b0; simp only [hl30_2] at c51b0_hl30_2))
                        (try (have c51b0_hl15_3 := c51b0; simp only [hl15_3] at c51b0_hl15_3))
                        (try (have c51b0_hl18_3 := c51b0; simp only [hl18_3] at c51b0_hl18_3))
                        (try (have c51b0_hl30_3 := c51b0; simp only [hl30_3] at c51b0_hl30_3))
                        clear c51
                        by_cases c52 : (rd x18_3 t194) ≥ 0
                        ·rw [if_pos c52] at H
                         have c52b0 : decide (0 ≤ (rd x18_3 t194)) = true := decide_eq_true c52
                         clear c52
                         have H' := Aside0.mk H
                         clear H
                         try go_wp2
                         have n0_ := Aside0.mk (Kd.qH HO_8.out)
                         have n1_ := Aside0.mk (Kd.qH HO_15.out)
                         have n2_ := Aside0.mk (Kd.qH HO_18.out)
                         have n3_ := Aside0.mk (Kd.qH HO_30.out)
                         have n4_ := Aside0.mk (qk HB.out)
                         clear HO_8
                         clear HO_15
                         clear HO_18
                         clear HO_30
                         clear HB
                         have HO_8 := n0_
                         have HO_15 := n1_
                         have HO_18 := n2_
                         have HO_30 := n3_
                         have HB := n4_
                         clear n0_ n1_ n2_ n3_ n4_
                         have p190 : 0 ≤ ((rd x8_2 x9_2) : Int) := of_decide_eq_true (by first | (with_reducible assumption) | assumption)
                         have q190 : (rd x8_2 x9_2) < (l0.length : Int) := of_decide_eq_true (by first | (with_reducible assumption) | assumption)
                         obtain ⟨ad190, e190, hx190_0, hx190_1⟩ := qjC HR0.out (rd x8_2 x9_2) p190 q190
                         have hw190_1 := hx190_1
                         have hw190_0 := hx190_0
                         cases e190
                         replace hx190_0 := (HB.out.cell (World.block_lt_of_cell? w _ hx190_0)).trans hx190_0
                         replace hx190_1 := (HB.out.cell (World.block_lt_of_cell? w _ hx190_1)).trans hx190_1
                         replace p190 := eq_true p190
                         replace q190 := eq_true q190
                         have p191 : 0 ≤ ((rd x8_2 x9_2) : Int) := of_decide_eq_true (by first | (with_reducible assumption) | assumption)
                         have q191 : (rd x8_2 x9_2) < (l0.length : Int) := of_decide_eq_true (by first | (with_reducible assumption) | assumption)
                         obtain ⟨ad191, e191, hx191_0, hx191_1⟩ := qjC HR0.out (rd x8_2 x9_2) p191 q191
                         have hw191_1 := hx191_1
                         have hw191_0 := hx191_0
                         obtain rfl : ad190 = ad191 := (by injection e191)
                         replace hx191_0 := (HB.out.cell (World.block_lt_of_cell? w _ hx191_0)).trans hx191_0
                         replace hx191_1 := (HB.out.cell (World.block_lt_of_cell? w _ hx191_1)).trans hx191_1
                         replace p191 := eq_true p191
                         replace q191 := eq_true q191
                         have p44 : 0 ≤ (x49_3 : Int) := of_decide_eq_true (by first | (with_reducible assumption) | assumption)
                         have q44 : x49_3 < (4 : Int) := of_decide_eq_true (by first | (with_reducible assumption) | assumption)
                         have hx44 := bt_at (⟨#[110, 101, 115, 119]⟩ : ByteArray) x49_3
                         replace p44 := eq_true p44
                         replace q44 := eq_true q44
                         refine qwA (n := 18) (S := fun w' => w'.cell? (ad190.add (((rd x8_2 x9_2)).toNat * 2)) = some (.int .i64 ((qPA l0 (rd x8_2 x9_2)).f0)) ∧ w'.cell? ⟨(ad190.add (((rd x8_2 x9_2)).toNat * 2)).block, (ad190.add (((rd x8_2 x9_2)).toNat * 2)).off + 1, none⟩ = some (.int .i64 ((qPA l0 (rd x8_2 x9_2)).f1)) ∧ w'.cell? (ad190.add (((rd x8_2 x9_2)).toNat * 2)) = some (.int .i64 ((qPA l0 (rd x8_2 x9_2)).f0)) ∧ w'.cell? ⟨(ad190.add (((rd x8_2 x9_2)).toNat * 2)).block, (ad190.add (((rd x8_2 x9_2)).toNat * 2)).off + 1, none⟩ = some (.int .i64 ((qPA l0 (rd x8_2 x9_2)).f1))) (ds := []) #[false, false, false, false, false, false, false, false, false, false, false, false, false, false, false, false, false, false] (by kernel_rfl) rfl rfl ⟨((HB.out.cell (World.block_lt_of_cell? w _ hw190_0)).trans hw190_0), ((HB.out.cell (World.block_lt_of_cell? w _ hw190_1)).trans hw190_1), ((HB.out.cell (World.block_lt_of_cell? w _ hw191_0)).trans hw191_0), ((HB.out.cell (World.block_lt_of_cell? w _ hw191_1)).trans hw191_1)⟩ (fun hHeld => ?_); refine qTA qI.tab16 qI.bits16 (fun HT_ HW_ => ?_)
                         generalize wr.drew = w53 at HO_8 HO_15 HO_18 HO_30 HB hx190_0 hx190_1 hx191_0 hx191_1 hHeld ⊢
                         refine pS (i := 0) (N := some 52) #[true, false, false, false, false, false, false, false, false, false, false, false, false, false, false, false, false, false] HT_ ?_
                         refine pS (i := 1) (N := some 53) #[true, true, false, false, false, false, false, false, false, false, false, false, false, false, false, false, false, false] HT_ ?_
                         refine pS (i := 2) (N := some 54) #[true, true, true, false, false, false, false, false, false, false, false, false, false, false, false, false, false, false] HT_ ?_
                         refine pS (i := 3) (N := some 55) #[true, true, true, true, false, false, false, false, false, false, false, false, false, false, false, false, false, false] HT_ ?_
                         refine pS (i := 4) (N := some 56) #[true, true, true, true, true, false, false, false, false, false, false, false, false, false, false, false, false, false] HT_ ?_
                         refine pS (i := 6) (N := some 58) #[true, true, true, true, true, false, true, false, false, false, false, false, false, false, false, false, false, false] HT_ ?_
                         refine pS (i := 7) (N := some 59) #[true, true, true, true, true, false, true, true, false, false, false, false, false, false, false, false, false, false] HT_ ?_
                         refine pS (i := 8) (N := some 60) #[true, true, true, true, true, false, true, true, true, false, false, false, false, false, false, false, false, false] HT_ ?_
                         refine pS (i := 9) (N := some 61) #[true, true, true, true, true, false, true, true, true, true, false, false, false, false, false, false, false, false] HT_ ?_
                         refine pS (i := 11) (N := some 63) #[true, true, true, true, true, false, true, true, true, true, false, true, false, false, false, false, false, false] HT_ ?_
                         refine tS (i := 5) (N := some 57) #[true, true, true, true, true, true, true, true, true, true, false, true, false, false, false, false, false, false] HT_ HW_ hHeld ?_
                         refine tS (i := 10) (N := some 62) #[true, true, true, true, true, true, true, true, true, true, true, true, false, false, false, false, false, false] HT_ HW_ hHeld ?_
                         refine tS (i := 12) (N := some 64) #[true, true, true, true, true, true, true, true, true, true, true, true, true, false, false, false, false, false] HT_ HW_ hHeld ?_
                         refine one_ (i := 13) (N := some 65) #[true, true, true, true, true, true, true, true, true, true, true, true, true, true, false, false, false, false] rfl rfl (qnA HT_.out (by kernel_rfl)) (by decide) (fun K hK => ?_)
                         refine goes_ Tryd.func54 (by kernel_rfl) rfl #[.int .i64 ((qPA l0 (rd x8_2 x9_2)).f0), .int .i64 ((qPA l0 (rd x8_2 x9_2)).f1), .int .u8 (bt (⟨#[110, 101, 115, 119]⟩ : ByteArray) x49_3)] (by rfl) rfl rfl (by (try simp only [List.map_toArray, List.map_cons, List.map_nil]); first | done | rfl | (simp only [List.length_drop, List.length_take]; rfl)) ?_
                         with_reducible refine (qNB.calls ((qPA l0 (rd x8_2 x9_2)).f0) ((qPA l0 (rd x8_2 x9_2)).f1) (bt (⟨#[110, 101, 115, 119]⟩ : ByteArray) x49_3) t192 t193 _ A45.out).mono ?_
                         rintro e w' ⟨rfl, ⟨nd, rfl⟩⟩
                         refine ⟨_, rfl, ?_⟩
                         refine hK.out _ _ ⟨((HB.out.cell (World.block_lt_of_cell? w _ hw190_0)).trans hw190_0), ((HB.out.cell (World.block_lt_of_cell? w _ hw190_1)).trans hw190_1), ((HB.out.cell (World.block_lt_of_cell? w _ hw191_0)).trans hw191_0), ((HB.out.cell (World.block_lt_of_cell? w _ hw191_1)).trans hw191_1)⟩ (fun hHeld => ?_)
                         clear hK K
                         refine norm_ (a' := ?_) ?_ ?_
                         rotate_left
                         ·show Act.put _ (some 65) _ = _
                          simp only [Act.put, List.setIfInBounds_toArray, List.set_cons_zero, List.set_cons_succ, i64_w, i32_w]
                          rfl
                         refine pS (i := 14) (N := some 66) #[true, true, true, true, true, true, true, true, true, true, true, true, true, true, true, false, false, false] HT_ ?_
                         refine pS (i := 15) (N := some 67) #[true, true, true, true, true, true, true, true, true, true, true, true, true, true, true, true, false, false] HT_ ?_
                         refine one_ (i := 16) (N := some 68) #[true, true, true, true, true, true, true, true, true, true, true, true, true, true, true, true, true, false] rfl rfl (qnA HT_.out (by kernel_rfl)) (by decide) (fun K hK => ?_)
                         refine goes_ Tryd.func53 (by kernel_rfl) rfl #[.slice (some ad190) l0.length c0, .int .i64 t192, .int .i64 t193] (by rfl) rfl rfl (by (try simp only [List.map_toArray, List.map_cons, List.map_nil]); first | done | rfl | (simp only [List.length_drop, List.length_take]; rfl)) ?_
                         with_reducible refine (qVA.calls k3 _ _ l0 t192 t193 t194 _ ?side1 ?side2 A46.out).mono ?_
                         (case side1 => repeat (first | exact (Kd.qyA HR0.out bl) | (with_reducible refine Kd.qZA ?_ _) | (with_reducible refine Kd.qYA ?_ _) | (with_reducible refine Kd.qpA ?_)))
                         (case side2 => exact HC0.out)
                         rintro e w54 ⟨rfl, hb⟩
                         refine ⟨_, rfl, ?_⟩
                         have n0_ := Aside0.mk (Kd.qU (by (with_reducible repeat (first | apply Kd.qF | apply Kd.qG | apply Kd.qH)); exact HO_8.out) hb)
                         have n1_ := Aside0.mk (Kd.qU (by (with_reducible repeat (first | apply Kd.qF | apply Kd.qG | apply Kd.qH)); exact HO_15.out) hb)
                         have n2_ := Aside0.mk (Kd.qU (by (with_reducible repeat (first | apply Kd.qF | apply Kd.qG | apply Kd.qH)); exact HO_18.out) hb)
                         have n3_ := Aside0.mk (Kd.qU (by (with_reducible repeat (first | apply Kd.qF | apply Kd.qG | apply Kd.qH)); exact HO_30.out) hb)
                         have n4_ := Aside0.mk (qJ bl hb)
                         clear HO_8
                         clear HO_15
                         clear HO_18
                         clear HO_30
                         clear HB
                         have HO_8 := n0_
                         have HO_15 := n1_
                         have HO_18 := n2_
                         have HO_30 := n3_
                         have HB := n4_
                         clear n0_ n1_ n2_ n3_ n4_
                         (try clear hb)
                         (try clear hb2)
                         (try clear hk)
                         (try clear hi)
                         refine hK.out _ _ ⟨((HB.out.cell (World.block_lt_of_cell? w _ hw190_0)).trans hw190_0), ((HB.out.cell (World.block_lt_of_cell? w _ hw190_1)).trans hw190_1), ((HB.out.cell (World.block_lt_of_cell? w _ hw191_0)).trans hw191_0), ((HB.out.cell (World.block_lt_of_cell? w _ hw191_1)).trans hw191_1)⟩ (fun hHeld => ?_)
                         clear hK K
                         refine norm_ (a' := ?_) ?_ ?_
                         rotate_left
                         ·show Act.put _ (some 68) _ = _
                          simp only [Act.put, List.setIfInBounds_toArray, List.set_cons_zero, List.set_cons_succ, i64_w, i32_w]
                          rfl
                         refine pS (i := 17) (N := some 12) #[true, true, true, true, true, true, true, true, true, true, true, true, true, true, true, true, true, true] HT_ ?_
                         refine done_ (qDB HT_.out (by kernel_rfl)) ?_
                         have p195 : 0 ≤ (t194 : Int) := of_decide_eq_true (by first | (with_reducible assumption) | assumption)
                         have q195 : t194 < (x18_3.length : Int) := of_decide_eq_true (by first | (with_reducible assumption) | assumption)
                         obtain ⟨ad195, e195, hx195_0⟩ := Kd.qGA (Kd.qS HO_18.out).2.2 t194 p195 q195
                         obtain rfl : (⟨go25, 0, none⟩ : Addr) = ad195 := (by injection e195)
                         (first | simp only [qDA] at hx195_0 | simp only [qoA] at hx195_0 | simp only [Addr.add, Nat.zero_add] at hx195_0 | skip)
                         replace p195 := eq_true p195
                         replace q195 := eq_true q195
                         try go_wp2
                         (try simp only [← hl15_3, ← hl18_3, ← hl30_3])
                         go_roundg k3
                         case measure => have := HK1.out; have := HK2.out; have := HK3.out; omega
                         case rel => exact ⟨(x8_3), (x15_3), (x18_3), (x30_3), (wrap64 (x49_3 + 1)), (by first | rfl | (simp; done) | (simp [*]; done)), H', ⟨by have := HK1.out; have := HK2.out; have := HK3.out; omega⟩, ⟨by (try simp only [hl18_1]); (try simp only [hl15_2]); (try simp only [hl18_2]); (try simp only [hl30_2]); (try simp only [hl15_3]); (try simp only [hl18_3]); (try simp only [hl30_3]); (with_reducible repeat (first | apply Kd.qF | apply Kd.qG | apply Kd.qH)); exact HO_8.out⟩, ⟨by (try simp only [hl18_1]); (try simp only [hl15_2]); (try simp only [hl18_2]); (try simp only [hl30_2]); (try simp only [hl15_3]); (try simp only [hl18_3]); (try simp only [hl30_3]); (with_reducible repeat (first | apply Kd.qF | apply Kd.qG | apply Kd.qH)); exact HO_15.out⟩, ⟨by (try simp only [hl18_1]); (try simp only [hl15_2]); (try simp only [hl18_2]); (try simp only [hl30_2]); (try simp only [hl15_3]); (try simp only [hl18_3]); (try simp only [hl30_3]); (with_reducible repeat (first | apply Kd.qF | apply Kd.qG | apply Kd.qH)); exact HO_18.out⟩, ⟨by (try simp only [hl18_1]); (try simp only [hl15_2]); (try simp only [hl18_2]); (try simp only [hl30_2]); (try simp only [hl15_3]); (try simp only [hl18_3]); (try simp only [hl30_3]); (with_reducible repeat (first | apply Kd.qF | apply Kd.qG | apply Kd.qH)); exact HO_30.out⟩, ⟨bl⟩⟩
                        ·rw [if_neg c52] at H
                         have c52b0 : decide (0 ≤ (rd x18_3 t194)) = false := decide_eq_false c52
                         clear c52
                         by_cases c55 : (rd x8_2 x9_2) < (x30_3.length : Int)
                         ·rw [if_pos c55] at H
                          have c55b0 : decide ((rd x8_2 x9_2) < (x30_3.length : Int)) = true := decide_eq_true c55
                          (try (have c55b0_hl18_1 := c55b0; simp only [hl18_1] at c55b0_hl18_1))
                          (try (have c55b0_hl15_2 := c55b0; simp only [hl15_2] at c55b0_hl15_2))
                          (try (have c55b0_hl18_2 := c55b0; simp only [hl18_2] at c55b0_hl18_2))
                          (try (have c55b0_hl30_2 := c55b0; simp only [hl30_2] at c55b0_hl30_2))
                          (try (have c55b0_hl15_3 := c55b0; simp only [hl15_3] at c55b0_hl15_3))
                          (try (have c55b0_hl18_3 := c55b0; simp only [hl18_3] at c55b0_hl18_3))
                          (try (have c55b0_hl30_3 := c55b0; simp only [hl30_3] at c55b0_hl30_3))
                          clear c55
                          replace H := Option.bind_eq_some_iff.mp H
                          obtain ⟨⟨t197, t198, t199, t200, t201, t202⟩, A570, H⟩ := H
                          replace H : (if (rd x8_2 x9_2) < (x18_3.length : Int) then (if t194 < (x30_3.length : Int) then (if t194 < (x15_3.length : Int) then (if x8_3.length < 17592186044416 then (qI.l2 k3 l0 (x8_3 ++ [t194]) x9_2 (rd x8_2 x9_2) (x15_3.set (t194 : Int).toNat t202) (x18_3.set (t194 : Int).toNat (wrap64 ((rd x18_3 (rd x8_2 x9_2)) + 1))) (x30_3.set (t194 : Int).toNat (⟨t197, t198, t199, t200, t201, t202⟩ : S31)) (wrap64 (x49_3 + 1))) else (none)) else (none)) else (none)) else (none)) = some (r1, r2) := H
                          have A57 := Aside0.mk A570
                          clear A570
                          by_cases c58 : (rd x8_2 x9_2) < (x18_3.length : Int)
                          ·rw [if_pos c58] at H
                           have c58b0 : decide ((rd x8_2 x9_2) < (x18_3.length : Int)) = true := decide_eq_true c58
                           (try (have c58b0_hl18_1 := c58b0; simp only [hl18_1] at c58b0_hl18_1))
                           (try (have c58b0_hl15_2 := c58b0; simp only [hl15_2] at c58b0_hl15_2))
                           (try (have c58b0_hl18_2 := c58b0; simp only [hl18_2] at c58b0_hl18_2))
                           (try (have c58b0_hl30_2 := c58b0; simp only [hl30_2] at c58b0_hl30_2))
                           (try (have c58b0_hl15_3 := c58b0; simp only [hl15_3] at c58b0_hl15_3))
                           (try (have c58b0_hl18_3 := c58b0; simp only [hl18_3] at c58b0_hl18_3))
                           (try (have c58b0_hl30_3 := c58b0; simp only [hl30_3] at c58b0_hl30_3))
                           clear c58
                           by_cases c59 : t194 < (x30_3.length : Int)
                           ·rw [if_pos c59] at H
                            have c59b0 : decide (t194 < (x30_3.length : Int)) = true := decide_eq_true c59
                            (try (have c59b0_hl18_1 := c59b0; simp only [hl18_1] at c59b0_hl18_1))
                            (try (have c59b0_hl15_2 := c59b0; simp only [hl15_2] at c59b0_hl15_2))
                            (try (have c59b0_hl18_2 := c59b0; simp only [hl18_2] at c59b0_hl18_2))
                            (try (have c59b0_hl30_2 := c59b0; simp only [hl30_2] at c59b0_hl30_2))
                            (try (have c59b0_hl15_3 := c59b0; simp only [hl15_3] at c59b0_hl15_3))
                            (try (have c59b0_hl18_3 := c59b0; simp only [hl18_3] at c59b0_hl18_3))
                            (try (have c59b0_hl30_3 := c59b0; simp only [hl30_3] at c59b0_hl30_3))
                            clear c59
                            obtain ⟨y204, hy204⟩ : ∃ y_ : List (S31), y_ = (x30_3.set (t194 : Int).toNat (⟨t197, t198, t199, t200, t201, t202⟩ : S31)) := ⟨_, rfl⟩
                            replace H : (if t194 < (x15_3.length : Int) then (if x8_3.length < 17592186044416 then (qI.l2 k3 l0 (x8_3 ++ [t194]) x9_2 (rd x8_2 x9_2) (x15_3.set (t194 : Int).toNat t202) (x18_3.set (t194 : Int).toNat (wrap64 ((rd x18_3 (rd x8_2 x9_2)) + 1))) y204 (wrap64 (x49_3 + 1))) else (none)) else (none)) = some (r1, r2) := by first | (rw [hy204]; with_reducible exact H) | (have H2_ := (Option.bind_some _ _).symm.trans H; rw [hy204]; with_reducible exact H2_) | (have H2_ := (Option.bind_some _ _).symm.trans H; with_reducible exact H2_) | with_reducible exact H | (rw [hy204]; exact H) | exact H
                            have Ny204 := Aside0.mk hy204
                            clear hy204
                            obtain ⟨y205, hy205⟩ : ∃ y_ : List Int, y_ = (x18_3.set (t194 : Int).toNat (wrap64 ((rd x18_3 (rd x8_2 x9_2)) + 1))) := ⟨_, rfl⟩
                            replace H : (if t194 < (x15_3.length : Int) then (if x8_3.length < 17592186044416 then (qI.l2 k3 l0 (x8_3 ++ [t194]) x9_2 (rd x8_2 x9_2) (x15_3.set (t194 : Int).toNat t202) y205 y204 (wrap64 (x49_3 + 1))) else (none)) else (none)) = some (r1, r2) := by first | (rw [hy205]; with_reducible exact H) | (have H2_ := (Option.bind_some _ _).symm.trans H; rw [hy205]; with_reducible exact H2_) | (have H2_ := (Option.bind_some _ _).symm.trans H; with_reducible exact H2_) | with_reducible exact H | (rw [hy205]; exact H) | exact H
                            have Ny205 := Aside0.mk hy205
                            clear hy205
                            by_cases c63 : t194 < (x15_3.length : Int)
                            ·rw [if_pos c63] at H
                             have c63b0 : decide (t194 < (x15_3.length : Int)) = true := decide_eq_true c63
                             (try (have c63b0_hl18_1 := c63b0; simp only [hl18_1] at c63b0_hl18_1))
                             (try (have c63b0_hl15_2 := c63b0; simp only [hl15_2] at c63b0_hl15_2))
                             (try (have c63b0_hl18_2 := c63b0; simp only [hl18_2] at c63b0_hl18_2))
                             (try (have c63b0_hl30_2 := c63b0; simp only [hl30_2] at c63b0_hl30_2))
                             (try (have c63b0_hl15_3 := c63b0; simp only [hl15_3] at c63b0_hl15_3))
                             (try (have c63b0_hl18_3 := c63b0; simp only [hl18_3] at c63b0_hl18_3))
                             (try (have c63b0_hl30_3 := c63b0; simp only [hl30_3] at c63b0_hl30_3))
                             clear c63
                             obtain ⟨y207, hy207⟩ : ∃ y_ : List Int, y_ = (x15_3.set (t194 : Int).toNat t202) := ⟨_, rfl⟩
                             replace H : (if x8_3.length < 17592186044416 then (qI.l2 k3 l0 (x8_3 ++ [t194]) x9_2 (rd x8_2 x9_2) y207 y205 y204 (wrap64 (x49_3 + 1))) else (none)) = some (r1, r2) := by first | (rw [hy207]; with_reducible exact H) | (have H2_ := (Option.bind_some _ _).symm.trans H; rw [hy207]; with_reducible exact H2_) | (have H2_ := (Option.bind_some _ _).symm.trans H; with_reducible exact H2_) | with_reducible exact H | (rw [hy207]; exact H) | exact H
                             have Ny207 := Aside0.mk hy207
                             clear hy207
                             by_cases c65 : x8_3.length < 17592186044416
                             ·rw [if_pos c65] at H
                              have LMc65 := Aside0.mk c65
                              clear c65
                              obtain ⟨y208, hy208⟩ : ∃ y_ : List Int, y_ = (x8_3 ++ [t194]) := ⟨_, rfl⟩
                              replace H : (qI.l2 k3 l0 y208 x9_2 (rd x8_2 x9_2) y207 y205 y204 (wrap64 (x49_3 + 1))) = some (r1, r2) := by first | (rw [hy208]; with_reducible exact H) | (have H2_ := (Option.bind_some _ _).symm.trans H; rw [hy208]; with_reducible exact H2_) | (have H2_ := (Option.bind_some _ _).symm.trans H; with_reducible exact H2_) | with_reducible exact H | (rw [hy208]; exact H) | exact H
                              have Ny208 := Aside0.mk hy208
                              clear hy208
                              have H' := Aside0.mk H
                              clear H
                              try go_wp2
                              have n0_ := Aside0.mk (Kd.qH HO_8.out)
                              have n1_ := Aside0.mk (Kd.qH HO_15.out)
                              have n2_ := Aside0.mk (Kd.qH HO_18.out)
                              have n3_ := Aside0.mk (Kd.qH HO_30.out)
                              have n4_ := Aside0.mk (qk HB.out)
                              clear HO_8
                              clear HO_15
                              clear HO_18
                              clear HO_30
                              clear HB
                              have HO_8 := n0_
                              have HO_15 := n1_
                              have HO_18 := n2_
                              have HO_30 := n3_
                              have HB := n4_
                              clear n0_ n1_ n2_ n3_ n4_
                              have p190 : 0 ≤ ((rd x8_2 x9_2) : Int) := of_decide_eq_true (by first | (with_reducible assumption) | assumption)
                              have q190 : (rd x8_2 x9_2) < (l0.length : Int) := of_decide_eq_true (by first | (with_reducible assumption) | assumption)
                              obtain ⟨ad190, e190, hx190_0, hx190_1⟩ := qjC HR0.out (rd x8_2 x9_2) p190 q190
                              have hw190_1 := hx190_1
                              have hw190_0 := hx190_0
                              cases e190
                              replace hx190_0 := (HB.out.cell (World.block_lt_of_cell? w _ hx190_0)).trans hx190_0
                              replace hx190_1 := (HB.out.cell (World.block_lt_of_cell? w _ hx190_1)).trans hx190_1
                              replace p190 := eq_true p190
                              replace q190 := eq_true q190
                              have p191 : 0 ≤ ((rd x8_2 x9_2) : Int) := of_decide_eq_true (by first | (with_reducible assumption) | assumption)
                              have q191 : (rd x8_2 x9_2) < (l0.length : Int) := of_decide_eq_true (by first | (with_reducible assumption) | assumption)
                              obtain ⟨ad191, e191, hx191_0, hx191_1⟩ := qjC HR0.out (rd x8_2 x9_2) p191 q191
                              have hw191_1 := hx191_1
                              have hw191_0 := hx191_0
                              obtain rfl : ad190 = ad191 := (by injection e191)
                              replace hx191_0 := (HB.out.cell (World.block_lt_of_cell? w _ hx191_0)).trans hx191_0
                              replace hx191_1 := (HB.out.cell (World.block_lt_of_cell? w _ hx191_1)).trans hx191_1
                              replace p191 := eq_true p191
                              replace q191 := eq_true q191
                              have p44 : 0 ≤ (x49_3 : Int) := of_decide_eq_true (by first | (with_reducible assumption) | assumption)
                              have q44 : x49_3 < (4 : Int) := of_decide_eq_true (by first | (with_reducible assumption) | assumption)
                              have hx44 := bt_at (⟨#[110, 101, 115, 119]⟩ : ByteArray) x49_3
                              replace p44 := eq_true p44
                              replace q44 := eq_true q44
                              refine qwA (n := 18) (S := fun w' => w'.cell? (ad190.add (((rd x8_2 x9_2)).toNat * 2)) = some (.int .i64 ((qPA l0 (rd x8_2 x9_2)).f0)) ∧ w'.cell? ⟨(ad190.add (((rd x8_2 x9_2)).toNat * 2)).block, (ad190.add (((rd x8_2 x9_2)).toNat * 2)).off + 1, none⟩ = some (.int .i64 ((qPA l0 (rd x8_2 x9_2)).f1)) ∧ w'.cell? (ad190.add (((rd x8_2 x9_2)).toNat * 2)) = some (.int .i64 ((qPA l0 (rd x8_2 x9_2)).f0)) ∧ w'.cell? ⟨(ad190.add (((rd x8_2 x9_2)).toNat * 2)).block, (ad190.add (((rd x8_2 x9_2)).toNat * 2)).off + 1, none⟩ = some (.int .i64 ((qPA l0 (rd x8_2 x9_2)).f1))) (ds := []) #[false, false, false, false, false, false, false, false, false, false, false, false, false, false, false, false, false, false] (by kernel_rfl) rfl rfl ⟨((HB.out.cell (World.block_lt_of_cell? w _ hw190_0)).trans hw190_0), ((HB.out.cell (World.block_lt_of_cell? w _ hw190_1)).trans hw190_1), ((HB.out.cell (World.block_lt_of_cell? w _ hw191_0)).trans hw191_0), ((HB.out.cell (World.block_lt_of_cell? w _ hw191_1)).trans hw191_1)⟩ (fun hHeld => ?_); refine qTA qI.tab16 qI.bits16 (fun HT_ HW_ => ?_)
                              generalize wr.drew = w66 at HO_8 HO_15 HO_18 HO_30 HB hx190_0 hx190_1 hx191_0 hx191_1 hHeld ⊢
                              refine pS (i := 0) (N := some 52) #[true, false, false, false, false, false, false, false, false, false, false, false, false, false, false, false, false, false] HT_ ?_
                              refine pS (i := 1) (N := some 53) #[true, true, false, false, false, false, false, false, false, false, false, false, false, false, false, false, false, false] HT_ ?_
                              refine pS (i := 2) (N := some 54) #[true, true, true, false, false, false, false, false, false, false, false, false, false, false, false, false, false, false] HT_ ?_
                              refine pS (i := 3) (N := some 55) #[true, true, true, true, false, false, false, false, false, false, false, false, false, false, false, false, false, false] HT_ ?_
                              refine pS (i := 4) (N := some 56) #[true, true, true, true, true, false, false, false, false, false, false, false, false, false, false, false, false, false] HT_ ?_
                              refine pS (i := 6) (N := some 58) #[true, true, true, true, true, false, true, false, false, false, false, false, false, false, false, false, false, false] HT_ ?_
                              refine pS (i := 7) (N := some 59) #[true, true, true, true, true, false, true, true, false, false, false, false, false, false, false, false, false, false] HT_ ?_
                              refine pS (i := 8) (N := some 60) #[true, true, true, true, true, false, true, true, true, false, false, false, false, false, false, false, false, false] HT_ ?_
                              refine pS (i := 9) (N := some 61) #[true, true, true, true, true, false, true, true, true, true, false, false, false, false, false, false, false, false] HT_ ?_
                              refine pS (i := 11) (N := some 63) #[true, true, true, true, true, false, true, true, true, true, false, true, false, false, false, false, false, false] HT_ ?_
                              refine tS (i := 5) (N := some 57) #[true, true, true, true, true, true, true, true, true, true, false, true, false, false, false, false, false, false] HT_ HW_ hHeld ?_
                              refine tS (i := 10) (N := some 62) #[true, true, true, true, true, true, true, true, true, true, true, true, false, false, false, false, false, false] HT_ HW_ hHeld ?_
                              refine tS (i := 12) (N := some 64) #[true, true, true, true, true, true, true, true, true, true, true, true, true, false, false, false, false, false] HT_ HW_ hHeld ?_
                              refine one_ (i := 13) (N := some 65) #[true, true, true, true, true, true, true, true, true, true, true, true, true, true, false, false, false, false] rfl rfl (qnA HT_.out (by kernel_rfl)) (by decide) (fun K hK => ?_)
                              refine goes_ Tryd.func54 (by kernel_rfl) rfl #[.int .i64 ((qPA l0 (rd x8_2 x9_2)).f0), .int .i64 ((qPA l0 (rd x8_2 x9_2)).f1), .int .u8 (bt (⟨#[110, 101, 115, 119]⟩ : ByteArray) x49_3)] (by rfl) rfl rfl (by (try simp only [List.map_toArray, List.map_cons, List.map_nil]); first | done | rfl | (simp only [List.length_drop, List.length_take]; rfl)) ?_
                              with_reducible refine (qNB.calls ((qPA l0 (rd x8_2 x9_2)).f0) ((qPA l0 (rd x8_2 x9_2)).f1) (bt (⟨#[110, 101, 115, 119]⟩ : ByteArray) x49_3) t192 t193 _ A45.out).mono ?_
                              rintro e w' ⟨rfl, ⟨nd, rfl⟩⟩
                              refine ⟨_, rfl, ?_⟩
                              refine hK.out _ _ ⟨((HB.out.cell (World.block_lt_of_cell? w _ hw190_0)).trans hw190_0), ((HB.out.cell (World.block_lt_of_cell? w _ hw190_1)).trans hw190_1), ((HB.out.cell (World.block_lt_of_cell? w _ hw191_0)).trans hw191_0), ((HB.out.cell (World.block_lt_of_cell? w _ hw191_1)).trans hw191_1)⟩ (fun hHeld => ?_)
                              clear hK K
                              refine norm_ (a' := ?_) ?_ ?_
                              rotate_left
                              ·show Act.put _ (some 65) _ = _
                               simp only [Act.put, List.setIfInBounds_toArray, List.set_cons_zero, List.set_cons_succ, i64_w, i32_w]
                               rfl
                              refine pS (i := 14) (N := some 66) #[true, true, true, true, true, true, true, true, true, true, true, true, true, true, true, false, false, false] HT_ ?_
                              refine pS (i := 15) (N := some 67) #[true, true, true, true, true, true, true, true, true, true, true, true, true, true, true, true, false, false] HT_ ?_
                              refine one_ (i := 16) (N := some 68) #[true, true, true, true, true, true, true, true, true, true, true, true, true, true, true, true, true, false] rfl rfl (qnA HT_.out (by kernel_rfl)) (by decide) (fun K hK => ?_)
                              refine goes_ Tryd.func53 (by kernel_rfl) rfl #[.slice (some ad190) l0.length c0, .int .i64 t192, .int .i64 t193] (by rfl) rfl rfl (by (try simp only [List.map_toArray, List.map_cons, List.map_nil]); first | done | rfl | (simp only [List.length_drop, List.length_take]; rfl)) ?_
                              with_reducible refine (qVA.calls k3 _ _ l0 t192 t193 t194 _ ?side1 ?side2 A46.out).mono ?_
                              (case side1 => repeat (first | exact (Kd.qyA HR0.out bl) | (with_reducible refine Kd.qZA ?_ _) | (with_reducible refine Kd.qYA ?_ _) | (with_reducible refine Kd.qpA ?_)))
                              (case side2 => exact HC0.out)
                              rintro e w67 ⟨rfl, hb⟩
                              refine ⟨_, rfl, ?_⟩
                              have n0_ := Aside0.mk (Kd.qU (by (with_reducible repeat (first | apply Kd.qF | apply Kd.qG | apply Kd.qH)); exact HO_8.out) hb)
                              have n1_ := Aside0.mk (Kd.qU (by (with_reducible repeat (first | apply Kd.qF | apply Kd.qG | apply Kd.qH)); exact HO_15.out) hb)
                              have n2_ := Aside0.mk (Kd.qU (by (with_reducible repeat (first | apply Kd.qF | apply Kd.qG | apply Kd.qH)); exact HO_18.out) hb)
                              have n3_ := Aside0.mk (Kd.qU (by (with_reducible repeat (first | apply Kd.qF | apply Kd.qG | apply Kd.qH)); exact HO_30.out) hb)
                              have n4_ := Aside0.mk (qJ bl hb)
                              clear HO_8
                              clear HO_15
                              clear HO_18
                              clear HO_30
                              clear HB
                              have HO_8 := n0_
                              have HO_15 := n1_
                              have HO_18 := n2_
                              have HO_30 := n3_
                              have HB := n4_
                              clear n0_ n1_ n2_ n3_ n4_
                              (try clear hb)
                              (try clear hb2)
                              (try clear hk)
                              (try clear hi)
                              refine hK.out _ _ ⟨((HB.out.cell (World.block_lt_of_cell? w _ hw190_0)).trans hw190_0), ((HB.out.cell (World.block_lt_of_cell? w _ hw190_1)).trans hw190_1), ((HB.out.cell (World.block_lt_of_cell? w _ hw191_0)).trans hw191_0), ((HB.out.cell (World.block_lt_of_cell? w _ hw191_1)).trans hw191_1)⟩ (fun hHeld => ?_)
                              clear hK K
                              refine norm_ (a' := ?_) ?_ ?_
                              rotate_left
                              ·show Act.put _ (some 68) _ = _
                               simp only [Act.put, List.setIfInBounds_toArray, List.set_cons_zero, List.set_cons_succ, i64_w, i32_w]
                               rfl
                              refine pS (i := 17) (N := some 12) #[true, true, true, true, true, true, true, true, true, true, true, true, true, true, true, true, true, true] HT_ ?_
                              refine done_ (qDB HT_.out (by kernel_rfl)) ?_
                              have p195 : 0 ≤ (t194 : Int) := of_decide_eq_true (by first | (with_reducible assumption) | assumption)
                              have q195 : t194 < (x18_3.length : Int) := of_decide_eq_true (by first | (with_reducible assumption) | assumption)
                              obtain ⟨ad195, e195, hx195_0⟩ := Kd.qGA (Kd.qS HO_18.out).2.2 t194 p195 q195
                              obtain rfl : (⟨go25, 0, none⟩ : Addr) = ad195 := (by injection e195)
                              (first | simp only [qDA] at hx195_0 | simp only [qoA] at hx195_0 | simp only [Addr.add, Nat.zero_add] at hx195_0 | skip)
                              replace p195 := eq_true p195
                              replace q195 := eq_true q195
                              try go_wp2
                              have n0_ := Aside0.mk (Kd.qH HO_8.out)
                              have n1_ := Aside0.mk (Kd.qH HO_15.out)
                              have n2_ := Aside0.mk (Kd.qH HO_18.out)
                              have n3_ := Aside0.mk (Kd.qH HO_30.out)
                              have n4_ := Aside0.mk (qk HB.out)
                              clear HO_8
                              clear HO_15
                              clear HO_18
                              clear HO_30
                              clear HB
                              have HO_8 := n0_
                              have HO_15 := n1_
                              have HO_18 := n2_
                              have HO_30 := n3_
                              have HB := n4_
                              clear n0_ n1_ n2_ n3_ n4_
                              have p196 : 0 ≤ ((rd x8_2 x9_2) : Int) := of_decide_eq_true (by first | (with_reducible assumption) | assumption)
                              have q196 : (rd x8_2 x9_2) < (x30_3.length : Int) := of_decide_eq_true (by first | (with_reducible assumption) | assumption)
                              obtain ⟨ad196, e196, hx196_0, hx196_1, hx196_2, hx196_3, hx196_4, hx196_5⟩ := qkC (Kd.qS HO_30.out).2.2 (rd x8_2 x9_2) p196 q196
                              obtain rfl : (⟨go21, 0, none⟩ : Addr) = ad196 := (by injection e196)
                              (first | simp only [qDA] at hx196_0 | simp only [qoA] at hx196_0 | simp only [Addr.add, Nat.zero_add] at hx196_0 | skip)
                              (first | simp only [qDA] at hx196_1 | simp only [qoA] at hx196_1 | simp only [Addr.add, Nat.zero_add] at hx196_1 | skip)
                              (first | simp only [qDA] at hx196_2 | simp only [qoA] at hx196_2 | simp only [Addr.add, Nat.zero_add] at hx196_2 | skip)
                              (first | simp only [qDA] at hx196_3 | simp only [qoA] at hx196_3 | simp only [Addr.add, Nat.zero_add] at hx196_3 | skip)
                              (first | simp only [qDA] at hx196_4 | simp only [qoA] at hx196_4 | simp only [Addr.add, Nat.zero_add] at hx196_4 | skip)
                              (first | simp only [qDA] at hx196_5 | simp only [qoA] at hx196_5 | simp only [Addr.add, Nat.zero_add] at hx196_5 | skip)
                              replace p196 := eq_true p196
                              replace q196 := eq_true q196
                              have p56 : 0 ≤ (x49_3 : Int) := of_decide_eq_true (by first | (with_reducible assumption) | assumption)
                              have q56 : x49_3 < (4 : Int) := of_decide_eq_true (by first | (with_reducible assumption) | assumption)
                              have hx56 := bt_at (⟨#[110, 101, 115, 119]⟩ : ByteArray) x49_3
                              replace p56 := eq_true p56
                              replace q56 := eq_true q56
                              have p203 : 0 ≤ ((rd x8_2 x9_2) : Int) := of_decide_eq_true (by first | (with_reducible assumption) | assumption)
                              have q203 : (rd x8_2 x9_2) < (x18_3.length : Int) := of_decide_eq_true (by first | (with_reducible assumption) | assumption)
                              obtain ⟨ad203, e203, hx203_0⟩ := Kd.qGA (Kd.qS HO_18.out).2.2 (rd x8_2 x9_2) p203 q203
                              obtain rfl : (⟨go25, 0, none⟩ : Addr) = ad203 := (by injection e203)
                              (first | simp only [qDA] at hx203_0 | simp only [qoA] at hx203_0 | simp only [Addr.add, Nat.zero_add] at hx203_0 | skip)
                              replace p203 := eq_true p203
                              replace q203 := eq_true q203
                              refine qwA (n := 20) (S := fun w' => w'.cell? ⟨go21, ((rd x8_2 x9_2)).toNat * 6, none⟩ = some (.int .i64 ((qP x30_3 (rd x8_2 x9_2)).f0)) ∧ w'.cell? ⟨go21, ((rd x8_2 x9_2)).toNat * 6 + 1, none⟩ = some (.int .i64 ((qP x30_3 (rd x8_2 x9_2)).f1)) ∧ w'.cell? ⟨go21, ((rd x8_2 x9_2)).toNat * 6 + 2, none⟩ = some (.int .i64 ((qP x30_3 (rd x8_2 x9_2)).f2)) ∧ w'.cell? ⟨go21, ((rd x8_2 x9_2)).toNat * 6 + 3, none⟩ = some (.int .i64 ((qP x30_3 (rd x8_2 x9_2)).f3)) ∧ w'.cell? ⟨go21, ((rd x8_2 x9_2)).toNat * 6 + 4, none⟩ = some (.int .i64 ((qP x30_3 (rd x8_2 x9_2)).f4)) ∧ w'.cell? ⟨go21, ((rd x8_2 x9_2)).toNat * 6 + 5, none⟩ = some (.int .i64 ((qP x30_3 (rd x8_2 x9_2)).f5)) ∧ w'.cell? ⟨go25, ((rd x8_2 x9_2)).toNat, none⟩ = some (.int .i64 (rd x18_3 (rd x8_2 x9_2)))) (ds := [17, 19]) #[false, false, false, false, false, false, false, false, false, false, false, false, false, false, false, false, false, false, false, false] (by kernel_rfl) rfl rfl ⟨hx196_0, hx196_1, hx196_2, hx196_3, hx196_4, hx196_5, hx203_0⟩ (fun hHeld => ?_); refine qTA qI.tab18 qI.bits18 (fun HT_ HW_ => ?_)
                              generalize w67.drew = w68 at HO_8 HO_15 HO_18 HO_30 HB hx196_0 hx196_1 hx196_2 hx196_3 hx196_4 hx196_5 hx203_0 hHeld ⊢
                              refine pS (i := 0) (N := some 78) #[true, false, false, false, false, false, false, false, false, false, false, false, false, false, false, false, false, false, false, false] HT_ ?_
                              refine pS (i := 1) (N := some 79) #[true, true, false, false, false, false, false, false, false, false, false, false, false, false, false, false, false, false, false, false] HT_ ?_
                              refine pS (i := 2) (N := some 80) #[true, true, true, false, false, false, false, false, false, false, false, false, false, false, false, false, false, false, false, false] HT_ ?_
                              refine pS (i := 3) (N := some 81) #[true, true, true, true, false, false, false, false, false, false, false, false, false, false, false, false, false, false, false, false] HT_ ?_
                              refine pS (i := 4) (N := some 82) #[true, true, true, true, true, false, false, false, false, false, false, false, false, false, false, false, false, false, false, false] HT_ ?_
                              refine pS (i := 5) (N := some 83) #[true, true, true, true, true, true, false, false, false, false, false, false, false, false, false, false, false, false, false, false] HT_ ?_
                              refine pS (i := 6) (N := some 84) #[true, true, true, true, true, true, true, false, false, false, false, false, false, false, false, false, false, false, false, false] HT_ ?_
                              refine pS (i := 8) (N := some 86) #[true, true, true, true, true, true, true, false, true, false, false, false, false, false, false, false, false, false, false, false] HT_ ?_
                              refine pS (i := 11) (N := some 89) #[true, true, true, true, true, true, true, false, true, false, false, true, false, false, false, false, false, false, false, false] HT_ ?_
                              refine pS (i := 12) (N := some 90) #[true, true, true, true, true, true, true, false, true, false, false, true, true, false, false, false, false, false, false, false] HT_ ?_
                              refine pS (i := 13) (N := some 91) #[true, true, true, true, true, true, true, false, true, false, false, true, true, true, false, false, false, false, false, false] HT_ ?_
                              refine tS (i := 7) (N := some 85) #[true, true, true, true, true, true, true, true, true, false, false, true, true, true, false, false, false, false, false, false] HT_ HW_ hHeld ?_
                              refine tS (i := 9) (N := some 87) #[true, true, true, true, true, true, true, true, true, true, false, true, true, true, false, false, false, false, false, false] HT_ HW_ hHeld ?_
                              refine tS (i := 14) (N := some 92) #[true, true, true, true, true, true, true, true, true, true, false, true, true, true, true, false, false, false, false, false] HT_ HW_ hHeld ?_
                              refine pS (i := 15) (N := some 93) #[true, true, true, true, true, true, true, true, true, true, false, true, true, true, true, true, false, false, false, false] HT_ ?_
                              refine one_ (i := 10) (N := some 88) #[true, true, true, true, true, true, true, true, true, true, true, true, true, true, true, true, false, false, false, false] rfl rfl (qnA HT_.out (by kernel_rfl)) (by decide) (fun K hK => ?_)
                              refine goes_ Tryd.func55 (by kernel_rfl) rfl #[.agg #[.int .i64 ((qP x30_3 (rd x8_2 x9_2)).f0), .int .i64 ((qP x30_3 (rd x8_2 x9_2)).f1), .int .i64 ((qP x30_3 (rd x8_2 x9_2)).f2), .int .i64 ((qP x30_3 (rd x8_2 x9_2)).f3), .int .i64 ((qP x30_3 (rd x8_2 x9_2)).f4), .int .i64 ((qP x30_3 (rd x8_2 x9_2)).f5)], .int .u8 (bt (⟨#[110, 101, 115, 119]⟩ : ByteArray) x49_3)] (by rfl) rfl rfl (by (try simp only [List.map_toArray, List.map_cons, List.map_nil]); first | done | rfl | (simp only [List.length_drop, List.length_take]; rfl)) ?_
                              with_reducible refine (qMA.calls ((qP x30_3 (rd x8_2 x9_2)).f0) ((qP x30_3 (rd x8_2 x9_2)).f1) ((qP x30_3 (rd x8_2 x9_2)).f2) ((qP x30_3 (rd x8_2 x9_2)).f3) ((qP x30_3 (rd x8_2 x9_2)).f4) ((qP x30_3 (rd x8_2 x9_2)).f5) (bt (⟨#[110, 101, 115, 119]⟩ : ByteArray) x49_3) t197 t198 t199 t200 t201 t202 _ A57.out).mono ?_
                              rintro e w69 ⟨rfl, hb⟩
                              have HS0_ := (hb.cell (World.block_lt_of_cell? _ _ (hHeld.1))).trans (hHeld.1)
                              have HS1_ := (hb.cell (World.block_lt_of_cell? _ _ (hHeld.2.1))).trans (hHeld.2.1)
                              have HS2_ := (hb.cell (World.block_lt_of_cell? _ _ (hHeld.2.2.1))).trans (hHeld.2.2.1)
                              have HS3_ := (hb.cell (World.block_lt_of_cell? _ _ (hHeld.2.2.2.1))).trans (hHeld.2.2.2.1)
                              have HS4_ := (hb.cell (World.block_lt_of_cell? _ _ (hHeld.2.2.2.2.1))).trans (hHeld.2.2.2.2.1)
                              have HS5_ := (hb.cell (World.block_lt_of_cell? _ _ (hHeld.2.2.2.2.2.1))).trans (hHeld.2.2.2.2.2.1)
                              have HS6_ := (hb.cell (World.block_lt_of_cell? _ _ (hHeld.2.2.2.2.2.2))).trans (hHeld.2.2.2.2.2.2)
                              refine ⟨_, rfl, ?_⟩
                              have n0_ := Aside0.mk (Kd.qU (by (with_reducible repeat (first | apply Kd.qF | apply Kd.qG | apply Kd.qH)); exact HO_8.out) hb)
                              have n1_ := Aside0.mk (Kd.qU (by (with_reducible repeat (first | apply Kd.qF | apply Kd.qG | apply Kd.qH)); exact HO_15.out) hb)
                              have n2_ := Aside0.mk (Kd.qU (by (with_reducible repeat (first | apply Kd.qF | apply Kd.qG | apply Kd.qH)); exact HO_18.out) hb)
                              have n3_ := Aside0.mk (Kd.qU (by (with_reducible repeat (first | apply Kd.qF | apply Kd.qG | apply Kd.qH)); exact HO_30.out) hb)
                              have n4_ := Aside0.mk (qJ bl hb)
                              clear HO_8
                              clear HO_15
                              clear HO_18
                              clear HO_30
                              clear HB
                              have HO_8 := n0_
                              have HO_15 := n1_
                              have HO_18 := n2_
                              have HO_30 := n3_
                              have HB := n4_
                              clear n0_ n1_ n2_ n3_ n4_
                              (try clear hb)
                              (try clear hb2)
                              (try clear hk)
                              (try clear hi)
                              have p60 : 0 ≤ (t194 : Int) := of_decide_eq_true (by first | (with_reducible assumption) | assumption)
                              have q60 : (t194 : Int) < ((x30_3.length : Int) : Int) := of_decide_eq_true (by first | (with_reducible assumption) | assumption)
                              obtain ⟨ce60, hcl60, hM60, hcc60, hfr60⟩ := Kd.qXC HO_30.out z31 (t194 : Int) p60 q60
                              obtain rfl := qMB hM60
                              have hx60_0 : World.cell? _ ⟨go21, (t194 : Int).toNat * 6, none⟩ = some (.int .i64 ((qP x30_3 t194).f0)) := hcc60 0 _ rfl
                              have hx60_1 : World.cell? _ ⟨go21, (t194 : Int).toNat * 6 + 1, none⟩ = some (.int .i64 ((qP x30_3 t194).f1)) := hcc60 1 _ rfl
                              have hx60_2 : World.cell? _ ⟨go21, (t194 : Int).toNat * 6 + 2, none⟩ = some (.int .i64 ((qP x30_3 t194).f2)) := hcc60 2 _ rfl
                              have hx60_3 : World.cell? _ ⟨go21, (t194 : Int).toNat * 6 + 3, none⟩ = some (.int .i64 ((qP x30_3 t194).f3)) := hcc60 3 _ rfl
                              have hx60_4 : World.cell? _ ⟨go21, (t194 : Int).toNat * 6 + 4, none⟩ = some (.int .i64 ((qP x30_3 t194).f4)) := hcc60 4 _ rfl
                              have hx60_5 : World.cell? _ ⟨go21, (t194 : Int).toNat * 6 + 5, none⟩ = some (.int .i64 ((qP x30_3 t194).f5)) := hcc60 5 _ rfl
                              have hf60_0 : World.frozen? _ ⟨go21, (t194 : Int).toNat * 6, none⟩ = false := hfr60 0
                              have hf60_1 : World.frozen? _ ⟨go21, (t194 : Int).toNat * 6 + 1, none⟩ = false := hfr60 1
                              have hf60_2 : World.frozen? _ ⟨go21, (t194 : Int).toNat * 6 + 2, none⟩ = false := hfr60 2
                              have hf60_3 : World.frozen? _ ⟨go21, (t194 : Int).toNat * 6 + 3, none⟩ = false := hfr60 3
                              have hf60_4 : World.frozen? _ ⟨go21, (t194 : Int).toNat * 6 + 4, none⟩ = false := hfr60 4
                              have hf60_5 : World.frozen? _ ⟨go21, (t194 : Int).toNat * 6 + 5, none⟩ = false := hfr60 5
                              clear hcl60 hcc60 hfr60 hM60
                              replace p60 := eq_true p60
                              replace q60 := eq_true q60
                              obtain ⟨ce70, hcl70, hM70, hcc70, hfr70⟩ := Kd.qXC (Kd.qVB (Kd.qVB (Kd.qVB HO_30.out (Kd.qOA HO_8.out) (by decide)) (Kd.qOA HO_15.out) (by decide)) (Kd.qOA HO_18.out) (by decide)) z31 (t194 : Int) (of_decide_eq_true (by first | (with_reducible assumption) | assumption)) (by have h_ : (t194 : Int) < ((x30_3.length : Int) : Int) := of_decide_eq_true (by first | (with_reducible assumption) | assumption); first | exact h_ | (have e_ := (Kd.qS HO_30.out).1; omega) | simpa using h_)
                              obtain rfl := qMB hM70
                              have HP70 := (Kd.R_seg (Kd.qVB (Kd.qVB (Kd.qVB HO_30.out (Kd.qOA HO_8.out) (by decide)) (Kd.qOA HO_15.out) (by decide)) (Kd.qOA HO_18.out) (by decide)) (t194 : Int) (of_decide_eq_true (by first | (with_reducible assumption) | assumption)) (by have h_ : (t194 : Int) < ((x30_3.length : Int) : Int) := of_decide_eq_true (by first | (with_reducible assumption) | assumption); first | exact h_ | (have e_ := (Kd.qS HO_30.out).1; omega) | simpa using h_) (seg := [.int .i64 t197, .int .i64 t198, .int .i64 t199, .int .i64 t200, .int .i64 t201, .int .i64 t202]) (j := 0) hcl70 hcc70 (show 6 ≤ 6 from by decide) (x' := (⟨t197, t198, t199, t200, t201, t202⟩ : S31)) (qrB _ _ _ (⟨t197, t198, t199, t200, t201, t202⟩ : S31) ) (fun _ hk => hk)).1
                              rw [← Ny204.out] at HP70
                              have HQ70 := Aside0.mk HP70
                              clear hcl70 hcc70 hfr70 hM70 HP70
                              have p61 : 0 ≤ (t194 : Int) := of_decide_eq_true (by first | (with_reducible assumption) | assumption)
                              have q61 : (t194 : Int) < ((x18_3.length : Int) : Int) := of_decide_eq_true (by first | (with_reducible assumption) | assumption)
                              obtain ⟨hx61_0, hf61_0⟩ := Kd.quA 0 (Kd.R_far (p := ⟨go21, (t194 : Int).toNat * 6 + 5, none⟩) (Kd.R_far (p := ⟨go21, (t194 : Int).toNat * 6 + 4, none⟩) (Kd.R_far (p := ⟨go21, (t194 : Int).toNat * 6 + 3, none⟩) (Kd.R_far (p := ⟨go21, (t194 : Int).toNat * 6 + 2, none⟩) (Kd.R_far (p := ⟨go21, (t194 : Int).toNat * 6 + 1, none⟩) (Kd.R_far (p := ⟨go21, (t194 : Int).toNat * 6, none⟩) (Kd.qRA HO_18.out (by first | exact GG21.out | exact (Kd.qOA HO_30.out go21 rfl).choose_spec) (by decide)) (fun _ hk => hk.2) (.int .i64 t197)) (fun _ hk => hk.2) (.int .i64 t198)) (fun _ hk => hk.2) (.int .i64 t199)) (fun _ hk => hk.2) (.int .i64 t200)) (fun _ hk => hk.2) (.int .i64 t201)) (fun _ hk => hk.2) (.int .i64 t202)) (t194 : Int) p61 q61
                              replace p61 := eq_true p61
                              replace q61 := eq_true q61
                              have HP71 := Kd.R_putn (Kd.R_far (p := ⟨go21, (t194 : Int).toNat * 6 + 5, none⟩) (Kd.R_far (p := ⟨go21, (t194 : Int).toNat * 6 + 4, none⟩) (Kd.R_far (p := ⟨go21, (t194 : Int).toNat * 6 + 3, none⟩) (Kd.R_far (p := ⟨go21, (t194 : Int).toNat * 6 + 2, none⟩) (Kd.R_far (p := ⟨go21, (t194 : Int).toNat * 6 + 1, none⟩) (Kd.R_far (p := ⟨go21, (t194 : Int).toNat * 6, none⟩) (Kd.qRA HO_18.out (by first | exact GG21.out | exact (Kd.qOA HO_30.out go21 rfl).choose_spec) (by decide)) (fun _ hk => hk.2) (.int .i64 t197)) (fun _ hk => hk.2) (.int .i64 t198)) (fun _ hk => hk.2) (.int .i64 t199)) (fun _ hk => hk.2) (.int .i64 t200)) (fun _ hk => hk.2) (.int .i64 t201)) (fun _ hk => hk.2) (.int .i64 t202)) (t194 : Int) (wrap64 ((rd x18_3 (rd x8_2 x9_2)) + 1))
                              rw [← Ny205.out] at HP71
                              have HQ71 := Aside0.mk HP71
                              clear HP71
                              refine hK.out _ _ ⟨HS0_, HS1_, HS2_, HS3_, HS4_, HS5_, HS6_⟩ (fun hHeld => ?_)
                              clear hK K
                              refine norm_ (a' := ?_) ?_ ?_
                              rotate_left
                              ·show Act.put _ (some 88) _ = _
                               simp only [Act.put, List.setIfInBounds_toArray, List.set_cons_zero, List.set_cons_succ, i64_w, i32_w]
                               rfl
                              refine pS (i := 16) (N := some 94) #[true, true, true, true, true, true, true, true, true, true, true, true, true, true, true, true, true, false, false, false] HT_ ?_
                              refine last_ (i := 17) (N := none) #[true, true, true, true, true, true, true, true, true, true, true, true, true, true, true, true, true, true, false, false] rfl rfl (qnA HT_.out (by kernel_rfl)) (by decide) (fun K hK => ?_)
                              refine skip_ (w1 := ?_) (by rfl) rfl ?_ ?_
                              rotate_left
                              ·go_simp
                               rfl
                              refine hK.out _ _ ?_
                              clear hK K
                              generalize hWS : ((((((w69.setCell ⟨go21, (t194 : Int).toNat * 6, none⟩ (.int .i64 t197)).setCell ⟨go21, (t194 : Int).toNat * 6 + 1, none⟩ (.int .i64 t198)).setCell ⟨go21, (t194 : Int).toNat * 6 + 2, none⟩ (.int .i64 t199)).setCell ⟨go21, (t194 : Int).toNat * 6 + 3, none⟩ (.int .i64 t200)).setCell ⟨go21, (t194 : Int).toNat * 6 + 4, none⟩ (.int .i64 t201)).setCell ⟨go21, (t194 : Int).toNat * 6 + 5, none⟩ (.int .i64 t202)) = wS at hx61_0 hf61_0 ⊢
                              have HWS := Aside0.mk hWS
                              clear hWS
                              refine pS (i := 18) (N := some 95) #[true, true, true, true, true, true, true, true, true, true, true, true, true, true, true, true, true, true, true, false] HT_ ?_
                              refine last_ (i := 19) (N := none) #[true, true, true, true, true, true, true, true, true, true, true, true, true, true, true, true, true, true, true, true] rfl rfl (qnA HT_.out (by kernel_rfl)) (by decide) (fun K hK => ?_)
                              refine skip_ (w1 := ?_) (by rfl) rfl ?_ ?_
                              rotate_left
                              ·go_simp
                               rfl
                              refine hK.out _ _ ?_
                              clear hK K
                              have hWS := HWS.out
                              clear HWS
                              subst hWS
                              refine done_ (qDB HT_.out (by kernel_rfl)) ?_
                              have n0_ : Aside0 (Kd.R (Kd.int .i64) 3 (((((((w69.setCell ⟨go21, (t194 : Int).toNat * 6, none⟩ (.int .i64 t197)).setCell ⟨go21, (t194 : Int).toNat * 6 + 1, none⟩ (.int .i64 t198)).setCell ⟨go21, (t194 : Int).toNat * 6 + 2, none⟩ (.int .i64 t199)).setCell ⟨go21, (t194 : Int).toNat * 6 + 3, none⟩ (.int .i64 t200)).setCell ⟨go21, (t194 : Int).toNat * 6 + 4, none⟩ (.int .i64 t201)).setCell ⟨go21, (t194 : Int).toNat * 6 + 5, none⟩ (.int .i64 t202)).setCell ⟨go25, (t194 : Int).toNat, none⟩ (.int .i64 (wrap64 ((rd x18_3 (rd x8_2 x9_2)) + 1)))) w.heap.size (fun k_ => some k_ ≠ (.slice (some ⟨go23, 0, none⟩) x15_3.length co23 : Value).ownBlock ∧ some k_ ≠ (.slice (some ⟨go25, 0, none⟩) x18_3.length co10 : Value).ownBlock) u8 x8_3) := ⟨by (with_reducible repeat (first | apply Kd.qF | apply Kd.qG | apply Kd.qH)); exact Kd.qd (Kd.R_far (p := ⟨go25, (t194 : Int).toNat, none⟩) (Kd.R_far (p := ⟨go21, (t194 : Int).toNat * 6 + 5, none⟩) (Kd.R_far (p := ⟨go21, (t194 : Int).toNat * 6 + 4, none⟩) (Kd.R_far (p := ⟨go21, (t194 : Int).toNat * 6 + 3, none⟩) (Kd.R_far (p := ⟨go21, (t194 : Int).toNat * 6 + 2, none⟩) (Kd.R_far (p := ⟨go21, (t194 : Int).toNat * 6 + 1, none⟩) (Kd.R_far (p := ⟨go21, (t194 : Int).toNat * 6, none⟩) (Kd.qd (Kd.qRA HO_8.out (by first | exact GG21.out | exact (Kd.qOA HO_30.out go21 rfl).choose_spec) (by decide)) (fun k_ hk => (⟨hk, fun e_ => hk.1.2 (by rw [e_]; rfl)⟩ : _ ∧ k_ ≠ go25))) (fun _ hk => hk.1.2) (.int .i64 t197)) (fun _ hk => hk.1.2) (.int .i64 t198)) (fun _ hk => hk.1.2) (.int .i64 t199)) (fun _ hk => hk.1.2) (.int .i64 t200)) (fun _ hk => hk.1.2) (.int .i64 t201)) (fun _ hk => hk.1.2) (.int .i64 t202)) (fun _ hk => hk.2) (.int .i64 (wrap64 ((rd x18_3 (rd x8_2 x9_2)) + 1)))) (fun _ hk => ⟨hk.1.1.1, hk.1.1.2⟩)⟩
                              have n1_ : Aside0 (Kd.R (Kd.int .i64) 3 (((((((w69.setCell ⟨go21, (t194 : Int).toNat * 6, none⟩ (.int .i64 t197)).setCell ⟨go21, (t194 : Int).toNat * 6 + 1, none⟩ (.int .i64 t198)).setCell ⟨go21, (t194 : Int).toNat * 6 + 2, none⟩ (.int .i64 t199)).setCell ⟨go21, (t194 : Int).toNat * 6 + 3, none⟩ (.int .i64 t200)).setCell ⟨go21, (t194 : Int).toNat * 6 + 4, none⟩ (.int .i64 t201)).setCell ⟨go21, (t194 : Int).toNat * 6 + 5, none⟩ (.int .i64 t202)).setCell ⟨go25, (t194 : Int).toNat, none⟩ (.int .i64 (wrap64 ((rd x18_3 (rd x8_2 x9_2)) + 1)))) w.heap.size (fun k_ => some k_ ≠ (u8 : Value).ownBlock ∧ some k_ ≠ (.slice (some ⟨go25, 0, none⟩) x18_3.length co10 : Value).ownBlock) (.slice (some ⟨go23, 0, none⟩) x15_3.length co23) x15_3) := ⟨by (with_reducible repeat (first | apply Kd.qF | apply Kd.qG | apply Kd.qH)); exact Kd.qd (Kd.R_far (p := ⟨go25, (t194 : Int).toNat, none⟩) (Kd.R_far (p := ⟨go21, (t194 : Int).toNat * 6 + 5, none⟩) (Kd.R_far (p := ⟨go21, (t194 : Int).toNat * 6 + 4, none⟩) (Kd.R_far (p := ⟨go21, (t194 : Int).toNat * 6 + 3, none⟩) (Kd.R_far (p := ⟨go21, (t194 : Int).toNat * 6 + 2, none⟩) (Kd.R_far (p := ⟨go21, (t194 : Int).toNat * 6 + 1, none⟩) (Kd.R_far (p := ⟨go21, (t194 : Int).toNat * 6, none⟩) (Kd.qd (Kd.qRA HO_15.out (by first | exact GG21.out | exact (Kd.qOA HO_30.out go21 rfl).choose_spec) (by decide)) (fun k_ hk => (⟨hk, fun e_ => hk.1.2 (by rw [e_]; rfl)⟩ : _ ∧ k_ ≠ go25))) (fun _ hk => hk.1.2) (.int .i64 t197)) (fun _ hk => hk.1.2) (.int .i64 t198)) (fun _ hk => hk.1.2) (.int .i64 t199)) (fun _ hk => hk.1.2) (.int .i64 t200)) (fun _ hk => hk.1.2) (.int .i64 t201)) (fun _ hk => hk.1.2) (.int .i64 t202)) (fun _ hk => hk.2) (.int .i64 (wrap64 ((rd x18_3 (rd x8_2 x9_2)) + 1)))) (fun _ hk => ⟨hk.1.1.1, hk.1.1.2⟩)⟩
                              have n2_ : Aside0 (Kd.R (Kd.int .i64) 3 (((((((w69.setCell ⟨go21, (t194 : Int).toNat * 6, none⟩ (.int .i64 t197)).setCell ⟨go21, (t194 : Int).toNat * 6 + 1, none⟩ (.int .i64 t198)).setCell ⟨go21, (t194 : Int).toNat * 6 + 2, none⟩ (.int .i64 t199)).setCell ⟨go21, (t194 : Int).toNat * 6 + 3, none⟩ (.int .i64 t200)).setCell ⟨go21, (t194 : Int).toNat * 6 + 4, none⟩ (.int .i64 t201)).setCell ⟨go21, (t194 : Int).toNat * 6 + 5, none⟩ (.int .i64 t202)).setCell ⟨go25, (t194 : Int).toNat, none⟩ (.int .i64 (wrap64 ((rd x18_3 (rd x8_2 x9_2)) + 1)))) w.heap.size (fun k_ => some k_ ≠ (u8 : Value).ownBlock ∧ some k_ ≠ (.slice (some ⟨go23, 0, none⟩) x15_3.length co23 : Value).ownBlock) (.slice (some ⟨go25, 0, none⟩) x18_3.length co10) y205) := ⟨by (with_reducible repeat (first | apply Kd.qF | apply Kd.qG | apply Kd.qH)); exact Kd.qd HQ71.out (fun _ hk => ⟨hk.1.1, hk.1.2⟩)⟩
                              have n3_ : Aside0 (Kd.R k31 31 (((((((w69.setCell ⟨go21, (t194 : Int).toNat * 6, none⟩ (.int .i64 t197)).setCell ⟨go21, (t194 : Int).toNat * 6 + 1, none⟩ (.int .i64 t198)).setCell ⟨go21, (t194 : Int).toNat * 6 + 2, none⟩ (.int .i64 t199)).setCell ⟨go21, (t194 : Int).toNat * 6 + 3, none⟩ (.int .i64 t200)).setCell ⟨go21, (t194 : Int).toNat * 6 + 4, none⟩ (.int .i64 t201)).setCell ⟨go21, (t194 : Int).toNat * 6 + 5, none⟩ (.int .i64 t202)).setCell ⟨go25, (t194 : Int).toNat, none⟩ (.int .i64 (wrap64 ((rd x18_3 (rd x8_2 x9_2)) + 1)))) w.heap.size (fun _ => True) (.slice (some ⟨go21, 0, none⟩) x30_3.length co21) y204) := ⟨by (with_reducible repeat (first | apply Kd.qF | apply Kd.qG | apply Kd.qH)); exact Kd.qd (Kd.R_far (p := ⟨go25, (t194 : Int).toNat, none⟩) (Kd.qd HQ70.out (fun k_ hk => (⟨hk, fun e_ => hk.2 (by rw [e_]; rfl)⟩ : _ ∧ k_ ≠ go25))) (fun _ hk => hk.2) (.int .i64 (wrap64 ((rd x18_3 (rd x8_2 x9_2)) + 1)))) (fun _ hk => trivial)⟩
                              have n4_ : Aside0 (Below w.heap.size w (((((((w69.setCell ⟨go21, (t194 : Int).toNat * 6, none⟩ (.int .i64 t197)).setCell ⟨go21, (t194 : Int).toNat * 6 + 1, none⟩ (.int .i64 t198)).setCell ⟨go21, (t194 : Int).toNat * 6 + 2, none⟩ (.int .i64 t199)).setCell ⟨go21, (t194 : Int).toNat * 6 + 3, none⟩ (.int .i64 t200)).setCell ⟨go21, (t194 : Int).toNat * 6 + 4, none⟩ (.int .i64 t201)).setCell ⟨go21, (t194 : Int).toNat * 6 + 5, none⟩ (.int .i64 t202)).setCell ⟨go25, (t194 : Int).toNat, none⟩ (.int .i64 (wrap64 ((rd x18_3 (rd x8_2 x9_2)) + 1))))) := ⟨by repeat (first | (with_reducible first | exact HB.out | apply qBA | apply qWA | apply qk | refine ql ?_ GB21.out | refine ql ?_ GB21.out | refine ql ?_ GB21.out | refine ql ?_ GB21.out | refine ql ?_ GB21.out | refine ql ?_ GB21.out | refine ql ?_ GB25.out) | exact HB.out)⟩
                              (try clear HO_8)
                              (try clear HO_15)
                              (try clear HO_18)
                              (try clear HO_30)
                              (try clear HB)
                              generalize (((((((w69.setCell ⟨go21, (t194 : Int).toNat * 6, none⟩ (.int .i64 t197)).setCell ⟨go21, (t194 : Int).toNat * 6 + 1, none⟩ (.int .i64 t198)).setCell ⟨go21, (t194 : Int).toNat * 6 + 2, none⟩ (.int .i64 t199)).setCell ⟨go21, (t194 : Int).toNat * 6 + 3, none⟩ (.int .i64 t200)).setCell ⟨go21, (t194 : Int).toNat * 6 + 4, none⟩ (.int .i64 t201)).setCell ⟨go21, (t194 : Int).toNat * 6 + 5, none⟩ (.int .i64 t202)).setCell ⟨go25, (t194 : Int).toNat, none⟩ (.int .i64 (wrap64 ((rd x18_3 (rd x8_2 x9_2)) + 1)))) = w72 at n0_ n1_ n2_ n3_ n4_ ⊢
                              have HO_8 := n0_
                              have HO_15 := n1_
                              have HO_18 := n2_
                              have HO_30 := n3_
                              have HB := n4_
                              clear n0_ n1_ n2_ n3_ n4_
                              have p62 : 0 ≤ (t194 : Int) := of_decide_eq_true (by first | (with_reducible assumption) | assumption)
                              have q62 : (t194 : Int) < ((x30_3.length : Int) : Int) := of_decide_eq_true (by first | (with_reducible assumption) | assumption)
                              have ht_ : (t194 : Int).toNat < x30_3.length := (Int.toNat_lt p62).2 q62
                              obtain ⟨ce_, hcl_, hM_, hcc_, hfr_⟩ := Kd.qXC HO_30.out z31 (t194 : Int) p62 q62
                              obtain rfl := qMB hM_
                              have hv_ : qP y204 t194 = (⟨t197, t198, t199, t200, t201, t202⟩ : S31) := by rw [Ny204.out]; unfold qP; rw [List.getD_eq_getElem?_getD, List.getElem?_set_self ht_]; rfl
                              have hx62_5 : World.cell? _ ⟨go21, (t194 : Int).toNat * 6 + 5, none⟩ = some (.int .i64 t202) := (hcc_ 5 _ rfl).trans (congrArg (fun z_ : S31 => some (Value.int .i64 z_.f5)) hv_)
                              clear ht_ hcl_ hM_ hcc_ hfr_ hv_
                              (try clear HS0_)
                              (try clear HS1_)
                              (try clear HS2_)
                              (try clear HS3_)
                              (try clear HS4_)
                              (try clear HS5_)
                              (try clear HS6_)
                              (try clear hHeld)
                              (try clear hx61_0)
                              (try clear hf61_0)
                              replace p62 := eq_true p62
                              replace q62 := eq_true q62
                              have p64 : 0 ≤ (t194 : Int) := of_decide_eq_true (by first | (with_reducible assumption) | assumption)
                              have q64 : (t194 : Int) < ((x15_3.length : Int) : Int) := of_decide_eq_true (by first | (with_reducible assumption) | assumption)
                              obtain ⟨hx64_0, hf64_0⟩ := Kd.quA 0 HO_15.out (t194 : Int) p64 q64
                              replace p64 := eq_true p64
                              replace q64 := eq_true q64
                              obtain ⟨hy73_, hz73_⟩ := Kd.quA 0 HO_15.out (t194 : Int) (of_decide_eq_true (by first | (with_reducible assumption) | assumption)) (of_decide_eq_true (by first | (with_reducible assumption) | assumption))
                              have HP73 := Kd.qsB HO_15.out (t194 : Int) t202
                              try go_wp2_with (first | ((with_reducible refine qiA (t := 3) (p := 103) rfl ?_); refine qcA (t := 3) (p := 103) (v := ?vo_w74) (w1 := (w72.setCell ⟨go23, (t194 : Int).toNat, none⟩ (.int .i64 t202))) ?hg ?ho ?hn ?hr ?_; (case ho => rfl); (case hg => rfl); (case hn => rfl); (case hr => first | (go_simp; done) | (go_simp; rfl)); intro w74 hw; have hg : w72.grownBy w74 (some go23) := (by rw [hw]; exact HP73.2); have hp_ : Kd.R (Kd.int .i64) 3 w74 w.heap.size (fun k_ => some k_ ≠ (u8 : Value).ownBlock ∧ some k_ ≠ (.slice (some ⟨go25, 0, none⟩) x18_3.length co10 : Value).ownBlock) (.slice (some ⟨go23, 0, none⟩) x15_3.length co23) y207 := (by rw [hw, Ny207.out]; exact HP73.1); clear HP73; have n0_ := Aside0.mk (Kd.qxA (v := (.slice (some ⟨go23, 0, none⟩) x15_3.length co23)) (v1 := (.slice (some ⟨go23, 0, none⟩) x15_3.length co23)) (ok := (fun k_ => some k_ ≠ (.slice (some ⟨go25, 0, none⟩) x18_3.length co10 : Value).ownBlock)) (by (with_reducible repeat (first | apply Kd.qF | apply Kd.qG | apply Kd.qH)); exact Kd.qd HO_8.out (fun _ hk => ⟨hk.2, hk.1⟩)) hg (.inl rfl)); have n1_ := Aside0.mk (hp_); have n2_ := Aside0.mk (Kd.qxA (v := (.slice (some ⟨go23, 0, none⟩) x15_3.length co23)) (v1 := (.slice (some ⟨go23, 0, none⟩) x15_3.length co23)) (ok := (fun k_ => some k_ ≠ (u8 : Value).ownBlock)) (by (with_reducible repeat (first | apply Kd.qF | apply Kd.qG | apply Kd.qH)); exact HO_18.out) hg (.inl rfl)); have n3_ := Aside0.mk (Kd.qqA (v := (.slice (some ⟨go23, 0, none⟩) x15_3.length co23)) (by (with_reducible repeat (first | apply Kd.qF | apply Kd.qG | apply Kd.qH)); exact HO_30.out) (Kd.qOA HO_15.out) (by decide) hg); have n4_ := Aside0.mk ((by rw [hw]; exact ql (HB.out) GB23.out : Below w.heap.size w w74)); clear HO_8; clear HO_15; clear HO_18; clear HO_30; clear HB; have HO_8 := n0_; have HO_15 := n1_; have HO_18 := n2_; have HO_30 := n3_; have HB := n4_; clear n0_ n1_ n2_ n3_ n4_; clear hg hw hp_) | ((with_reducible refine qJB (b := .append) (xs := #[.tmp 104, .tmp 106]) rfl ?_); at_builtin; refine Kd.qAC (Kd.int .i64) (w0 := w) w.heap.size rfl (.tmp 104) (.tmp 106) 25 3 (.int .i64 0) 8 rfl Tryd.underlying25 info3 rfl (by decide) (by omega) u8 x8_3 t194 [.int .i64 t194] (fun k_ => some k_ ≠ (.slice (some ⟨go23, 0, none⟩) x15_3.length co23 : Value).ownBlock ∧ some k_ ≠ (.slice (some ⟨go25, 0, none⟩) x18_3.length co10 : Value).ownBlock) (fun _ => False) rfl rfl ?aP (fun _ hk => hk.elim) ?aF ?aO ?aB ?aS ?aL ?_; (case aP => exact rfl); (case aB => exact bl); (case aF => exact (fun k_ hk => ⟨Kd.fresh' (Kd.R_lt (by (with_reducible repeat (first | apply Kd.qF | apply Kd.qG | apply Kd.qH)); exact HO_15.out)) k_ hk, Kd.fresh' (Kd.R_lt (by (with_reducible repeat (first | apply Kd.qF | apply Kd.qG | apply Kd.qH)); exact HO_18.out)) k_ hk⟩)); (case aO => exact (by (with_reducible repeat (first | apply Kd.qF | apply Kd.qG | apply Kd.qH)); exact Kd.qd HO_8.out (fun _ hk => ⟨hk.2, hk.1⟩))); (case aS => exact (qb bl)); (case aL => have := LMc65.out; omega); intro v209 w75 ho hb hg hat; rw [← Ny208.out] at ho; have n0_ := Aside0.mk (Kd.qxA (ok := (fun k_ => some k_ ≠ (.slice (some ⟨go25, 0, none⟩) x18_3.length co10 : Value).ownBlock)) (by (with_reducible repeat (first | apply Kd.qF | apply Kd.qG | apply Kd.qH)); exact Kd.qd HO_15.out (fun _ hk => ⟨hk.2, hk.1⟩)) hg hat); have n1_ := Aside0.mk (Kd.qxA (ok := (fun k_ => some k_ ≠ (.slice (some ⟨go23, 0, none⟩) x15_3.length co23 : Value).ownBlock)) (by (with_reducible repeat (first | apply Kd.qF | apply Kd.qG | apply Kd.qH)); exact Kd.qd HO_18.out (fun _ hk => ⟨hk.2, hk.1⟩)) hg hat); have n2_ := Aside0.mk (Kd.qqA (by (with_reducible repeat (first | apply Kd.qF | apply Kd.qG | apply Kd.qH)); exact HO_30.out) (Kd.qOA (by (with_reducible repeat (first | apply Kd.qF | apply Kd.qG | apply Kd.qH)); exact HO_8.out)) (by decide) hg); have n3_ := Aside0.mk (hb); have n4_ := Aside0.mk (ho); clear HO_15; clear HO_18; clear HO_30; clear HB; clear HO_8; have HO_15 := n0_; have HO_18 := n1_; have HO_30 := n2_; have HB := n3_; have HO210 := n4_; clear n0_ n1_ n2_ n3_ n4_; clear ho hb hg hat))
                              (try simp only [← hl15_3, ← hl18_3, ← hl30_3])
                              go_roundg k3
                              case measure => have := HK1.out; have := HK2.out; have := HK3.out; omega
                              case rel => exact ⟨(y208), (y207), (y205), (y204), (wrap64 (x49_3 + 1)), (by first | rfl | (simp; done) | (simp [*]; done)), H', ⟨by have := HK1.out; have := HK2.out; have := HK3.out; omega⟩, ⟨by (try simp only [hl18_1]); (try simp only [hl15_2]); (try simp only [hl18_2]); (try simp only [hl30_2]); (try simp only [hl15_3]); (try simp only [hl18_3]); (try simp only [hl30_3]); (with_reducible repeat (first | apply Kd.qF | apply Kd.qG | apply Kd.qH)); exact HO210.out⟩, ⟨by (try simp only [hl18_1]); (try simp only [hl15_2]); (try simp only [hl18_2]); (try simp only [hl30_2]); (try simp only [hl15_3]); (try simp only [hl18_3]); (try simp only [hl30_3]); (with_reducible repeat (first | apply Kd.qF | apply Kd.qG | apply Kd.qH)); exact Kd.qd HO_15.out (fun _ hk => ⟨hk.2, hk.1⟩)⟩, ⟨by (try simp only [hl18_1]); (try simp only [hl15_2]); (try simp only [hl18_2]); (try simp only [hl30_2]); (try simp only [hl15_3]); (try simp only [hl18_3]); (try simp only [hl30_3]); (with_reducible repeat (first | apply Kd.qF | apply Kd.qG | apply Kd.qH)); exact Kd.qd HO_18.out (fun _ hk => ⟨hk.2, hk.1⟩)⟩, ⟨by (try simp only [hl18_1]); (try simp only [hl15_2]); (try simp only [hl18_2]); (try simp only [hl30_2]); (try simp only [hl15_3]); (try simp only [hl18_3]); (try simp only [hl30_3]); (with_reducible repeat (first | apply Kd.qF | apply Kd.qG | apply Kd.qH)); exact HO_30.out⟩, ⟨bl⟩⟩
                             ·rw [if_neg c65] at H
                              exact absurd H (by simp)
                            ·rw [if_neg c63] at H
                             exact absurd H (by simp)
                           ·rw [if_neg c59] at H
                            exact absurd H (by simp)
                          ·rw [if_neg c58] at H
                           exact absurd H (by simp)
                         ·rw [if_neg c55] at H
                          exact absurd H (by simp)
                       ·rw [if_neg c51] at H
                        exact absurd H (by simp)
                      ·rw [if_neg c50] at H
                       exact absurd H (by simp)
                    ·rw [if_neg c43] at H
                     exact absurd H (by simp)
                   ·rw [if_neg c42] at H
                    exact absurd H (by simp)
                  ·rw [if_neg c41] at H
                   exact absurd H (by simp)
                 ·rw [if_neg c40] at H
                  have c40b0 : decide (x49_3 < 4) = false := decide_eq_false c40
                  clear c40
                  have H' := Aside0.mk H
                  clear H
                  go_wp2
                  (try simp only [← hl15_2, ← hl18_2, ← hl30_2, ← hl15_3, ← hl18_3, ← hl30_3])
                  go_roundg k3
                  case measure => have := HK1.out; have := HK2.out; have := HK3.out; omega
                  case rel => exact ⟨(x8_3), (wrap64 (x9_2 + 1)), (x15_3), (x18_3), (x30_3), (by first | rfl | (simp; done) | (simp [*]; done)), H', ⟨by have := HK1.out; have := HK2.out; have := HK3.out; omega⟩, ⟨by (try simp only [hl18_1]); (try simp only [hl15_2]); (try simp only [hl18_2]); (try simp only [hl30_2]); (try simp only [hl15_3]); (try simp only [hl18_3]); (try simp only [hl30_3]); (with_reducible repeat (first | apply Kd.qF | apply Kd.qG | apply Kd.qH)); exact HO_8.out⟩, ⟨by (try simp only [hl18_1]); (try simp only [hl15_2]); (try simp only [hl18_2]); (try simp only [hl30_2]); (try simp only [hl15_3]); (try simp only [hl18_3]); (try simp only [hl30_3]); (with_reducible repeat (first | apply Kd.qF | apply Kd.qG | apply Kd.qH)); exact HO_15.out⟩, ⟨by (try simp only [hl18_1]); (try simp only [hl15_2]); (try simp only [hl18_2]); (try simp only [hl30_2]); (try simp only [hl15_3]); (try simp only [hl18_3]); (try simp only [hl30_3]); (with_reducible repeat (first | apply Kd.qF | apply Kd.qG | apply Kd.qH)); exact HO_18.out⟩, ⟨by (try simp only [hl18_1]); (try simp only [hl15_2]); (try simp only [hl18_2]); (try simp only [hl30_2]); (try simp only [hl15_3]); (try simp only [hl18_3]); (try simp only [hl30_3]); (with_reducible repeat (first | apply Kd.qF | apply Kd.qG | apply Kd.qH)); exact HO_30.out⟩, ⟨bl⟩⟩
              ·rw [if_neg c38] at H
               exact absurd H (by simp)
             ·rw [if_neg c37] at H
              have c37b0 : decide (x9_2 < (x8_2.length : Int)) = false := decide_eq_false c37
              (try (have c37b0_hl18_1 := c37b0; simp only [hl18_1] at c37b0_hl18_1))
              (try (have c37b0_hl15_2 := c37b0; simp only [hl15_2] at c37b0_hl15_2))
              (try (have c37b0_hl18_2 := c37b0; simp only [hl18_2] at c37b0_hl18_2))
              (try (have c37b0_hl30_2 := c37b0; simp only [hl30_2] at c37b0_hl30_2))
              clear c37
              simp only [Option.some.injEq, Prod.mk.injEq] at H
              obtain ⟨rfl, rfl⟩ := H
              obtain ⟨Ao76, co76, eo76⟩ := Kd.qr HO_8.out
              subst eo76
              go_wp2
              go_ret2
              exact ⟨_, _, by first | rfl | (simp [qN, qM] <;> rfl) | (simp [*, qN, qM] <;> rfl), by (with_reducible repeat (first | apply Kd.qF | apply Kd.qG | apply Kd.qH)); exact Kd.qd HO_15.out (fun _ hk => hk.2), by (with_reducible repeat (first | apply Kd.qF | apply Kd.qG | apply Kd.qH)); exact Kd.qd HO_18.out (fun _ hk => hk.2), bl⟩
          ·rw [if_neg c24] at H
           exact absurd H (by simp)
         ·rw [if_neg c22] at H
          exact absurd H (by simp)
        ·rw [if_neg c20] at H
         exact absurd H (by simp)
       ·rw [if_neg c18] at H
        exact absurd H (by simp)
      ·rw [if_neg c17] at H
       exact absurd H (by simp)
  ·rw [if_neg c3] at H
   exact absurd H (by simp)
 ·rw [if_neg c2] at H
  exact absurd H (by simp)
end Go.Proofs.YtdncpkppkafkpaaDoor.P
namespace Go.Proofs
open Go.Shelf
def Tryd.sortI_ren : Go.Shelf.Ren := ⟨fun | 5 => 88 | 8 => 98 | 7 => 97 | 19 => 114 | 20 => 115 | 10 => 105 | 11 => 106 | 12 => 107 | 13 => 108 | 14 => 109 | 15 => 110 | 16 => 111 | 17 => 112 | 18 => 113 | 30 => 118 | 31 => 119 | 32 => 120 | 33 => 121 | 34 => 122 | 35 => 123 | 40 => 124 | n => n, fun | 23 => 25 | 25 => 3 | 3 => 3 | 32 => 113 | 22 => 25 | 0 => 0 | 44 => 130 | 46 => 132 | 4 => 4 | 36 => 122 | 35 => 121 | 41 => 127 | 5 => 5 | 9 => 9 | 53 => 135 | 57 => 139 | 63 => 141 | 64 => 72 | n => n, fun | n => n⟩
theorem Tryd.sortI : Go.Proofs.SlLaysM.n5 Tryd.prog Tryd.sortI_ren := {
 mixed := by kernel_rfl
 f5 := ⟨Tryd.f88.name, by decide, Tryd.func88.trans (congrArg some (by kernel_rfl))⟩
 f7 := ⟨Tryd.f97.name, by decide, Tryd.func97.trans (congrArg some (by kernel_rfl))⟩
 f8 := Tryd.func98.trans (congrArg some (by kernel_rfl))
 f10 := ⟨Tryd.f105.name, by decide, Tryd.func105.trans (congrArg some (by kernel_rfl))⟩
 f11 := ⟨Tryd.f106.name, by decide, Tryd.func106.trans (congrArg some (by kernel_rfl))⟩
 f12 := ⟨Tryd.f107.name, by decide, Tryd.func107.trans (congrArg some (by kernel_rfl))⟩
 f13 := ⟨Tryd.f108.name, by decide, Tryd.func108.trans (congrArg some (by kernel_rfl))⟩
 f14 := ⟨Tryd.f109.name, by decide, Tryd.func109.trans (congrArg some (by kernel_rfl))⟩
 f15 := ⟨Tryd.f110.name, by decide, Tryd.func110.trans (congrArg some (by kernel_rfl))⟩
 f16 := ⟨Tryd.f111.name, by decide, Tryd.func111.trans (congrArg some (by kernel_rfl))⟩
 f17 := ⟨Tryd.f112.name, by decide, Tryd.func112.trans (congrArg some (by kernel_rfl))⟩
 f18 := ⟨Tryd.f113.name, by decide, Tryd.func113.trans (congrArg some (by kernel_rfl))⟩
 f19 := Tryd.func114.trans (congrArg some (by kernel_rfl))
 f20 := Tryd.func115.trans (congrArg some (by kernel_rfl))
 f30 := ⟨Tryd.f118.name, by decide, Tryd.func118.trans (congrArg some (by kernel_rfl))⟩
 f31 := Tryd.func119.trans (congrArg some (by kernel_rfl))
 f32 := Tryd.func120.trans (congrArg some (by kernel_rfl))
 f33 := ⟨Tryd.f121.name, by decide, Tryd.func121.trans (congrArg some (by kernel_rfl))⟩
 f34 := ⟨Tryd.f122.name, by decide, Tryd.func122.trans (congrArg some (by kernel_rfl))⟩
 f35 := ⟨Tryd.f123.name, by decide, Tryd.func123.trans (congrArg some (by kernel_rfl))⟩
 f40 := ⟨Tryd.f124.name, by decide, Tryd.func124.trans (congrArg some (by kernel_rfl))⟩
 t0 := Tryd.underlying0
 a0 := Tryd.isAgg0
 z0 := Tryd.sizeOf0
 v0 := Tryd.zeroValue0
 t3 := Tryd.underlying3
 a3 := Tryd.isAgg3
 z3 := Tryd.sizeOf3
 v3 := Tryd.zeroValue3
 t4 := Tryd.underlying4
 a4 := Tryd.isAgg4
 z4 := Tryd.sizeOf4
 v4 := Tryd.zeroValue4
 t5 := Tryd.underlying5
 a5 := Tryd.isAgg5
 z5 := Tryd.sizeOf5
 v5 := Tryd.zeroValue5
 t9 := Tryd.underlying9
 a9 := Tryd.isAgg9
 z9 := Tryd.sizeOf9
 v9 := Tryd.zeroValue9
 t22 := Tryd.underlying25
 a22 := Tryd.isAgg25
 z22 := Tryd.sizeOf25
 v22 := Tryd.zeroValue25
 t23 := Tryd.underlying25
 a23 := Tryd.isAgg25
 z23 := Tryd.sizeOf25
 v23 := Tryd.zeroValue25
 t25 := Tryd.underlying3
 a25 := Tryd.isAgg3
 z25 := Tryd.sizeOf3
 v25 := Tryd.zeroValue3
 t32 := Tryd.underlying113
 a32 := Tryd.isAgg113
 z32 := Tryd.sizeOf113
 v32 := Tryd.zeroValue113
 t35 := Tryd.underlying121
 a35 := Tryd.isAgg121
 z35 := Tryd.sizeOf121
 v35 := Tryd.zeroValue121
 t36 := Tryd.underlying122
 a36 := Tryd.isAgg122
 z36 := Tryd.sizeOf122
 v36 := Tryd.zeroValue122
 t41 := Tryd.underlying127
 a41 := Tryd.isAgg127
 z41 := Tryd.sizeOf127
 v41 := Tryd.zeroValue127
 t44 := Tryd.underlying130
 a44 := Tryd.isAgg130
 z44 := Tryd.sizeOf130
 v44 := Tryd.zeroValue130
 t46 := Tryd.underlying132
 a46 := Tryd.isAgg132
 z46 := Tryd.sizeOf132
 v46 := Tryd.zeroValue132
 t53 := Tryd.underlying135
 a53 := Tryd.isAgg135
 z53 := Tryd.sizeOf135
 v53 := Tryd.zeroValue135
 t57 := Tryd.underlying139
 a57 := Tryd.isAgg139
 z57 := Tryd.sizeOf139
 v57 := Tryd.zeroValue139
 t63 := Tryd.underlying141
 a63 := Tryd.isAgg141
 z63 := Tryd.sizeOf141
 v63 := Tryd.zeroValue141
 t64 := Tryd.underlying72
 a64 := Tryd.isAgg72
 z64 := Tryd.sizeOf72
 v64 := Tryd.zeroValue72 }
end Go.Proofs
namespace Go.Proofs.YtdncpkppkafkpaaDoor
open Go.RowKit Go.Sort Go.Proofs.YtdncpkppkafkpaaDoorW.PrintWords Go.Proofs.YtdncpkppkafkpaaDoorW.PrintLast
set_option linter.unusedVariables false
set_option linter.unusedSimpArgs false
def qhA.f (l0 : List Int) : Option (List Int) := if l0.length < 4611686018427387904 then some (l0.mergeSort fun x y => decide (x ≤ y)) else none
theorem qaC {xs : List Int} {cs : List Value} {w : World} {base : Nat} {ok : Nat → Prop} (h : Reps ((Kd.int .i64).M w base ok) 1 xs cs) : cs = xs.map (Value.int .i64) := by
 obtain ⟨hl, hc⟩ := h
 rw [Nat.mul_one] at hl
 refine List.ext_getElem? fun i => ?_
 rw [List.getElem?_map]
 by_cases hi : i < xs.length
 ·have h1 : (cs.drop (i * 1)).take 1 = [Value.int .i64 xs[i]] := hc i xs[i] (List.getElem?_eq_getElem hi)
  rw [List.getElem?_eq_getElem hi, Option.map_some]
  have h2 : ((cs.drop (i * 1)).take 1)[0]? = some (Value.int .i64 xs[i]) := by rw [h1]; rfl
  rw [List.getElem?_take, if_pos (by omega), List.getElem?_drop] at h2
  simpa using h2
 ·rw [List.getElem?_eq_none (by omega), List.getElem?_eq_none (by omega)]; rfl
theorem qbC {xs : List Int} {w : World} {base : Nat} {ok : Nat → Prop} : Reps ((Kd.int .i64).M w base ok) 1 xs (xs.map (Value.int .i64)) := by
 refine ⟨by simp, fun j p hp => ?_⟩
 show _ = [Value.int .i64 p]
 have hj : j < xs.length := (List.getElem?_eq_some_iff.1 hp).1
 have hv : xs[j] = p := by rw [List.getElem?_eq_getElem hj] at hp; injection hp
 rw [Nat.mul_one, List.drop_eq_getElem_cons (by simpa using hj)]
 simp [hv]
theorem sortI_holds {w : World} {g : Nat} {cur : Array Value} {t : TypeId} {xs : List Int} (hh : w.heap[g]? = some (.cells cur t (0, 0))) (ht : cur.toList.take xs.length = xs.map (Value.int .i64)) : Holds (Value.int .i64) w g 0 xs.toArray := by
 intro j hj
 have hj' : j < xs.length := by simpa using hj
 have h1 : cur[j]? = some (Value.int .i64 xs[j]) := by
  have : (cur.toList.take xs.length)[j]? = some (Value.int .i64 xs[j]) := by rw [ht, List.getElem?_map, List.getElem?_eq_getElem hj']; rfl
  rw [List.getElem?_take, if_pos hj'] at this
  simpa using this
 refine ⟨?_, ?_⟩
 ·simp only [World.cell?, hh, Nat.zero_add]
  rw [h1]
  simp [hj']
 ·simp [World.frozen?, hh]
theorem sortI_put {cur : Array Value} {xs ys : List Int} (hlen : ys.length = xs.length) (hc : xs.length ≤ cur.size) :
  (putCells (Value.int .i64) 0 ys.toArray cur).toList.take xs.length = ys.map (Value.int .i64) := by
 refine List.ext_getElem? fun i => ?_
 rw [List.getElem?_map, List.getElem?_take]
 by_cases hi : i < xs.length
 ·rw [if_pos hi, List.getElem?_eq_getElem (show i < ys.length by omega), Option.map_some]
  rw [Array.getElem?_toList]
  simp only [putCells, Array.getElem?_mapIdx]
  rw [Array.getElem?_eq_getElem (show i < cur.size by omega), Option.map_some, if_pos (by constructor; exact Nat.zero_le _; simp; omega)]
  simp [show i < ys.length by omega]
 ·rw [if_neg hi, List.getElem?_eq_none (by omega)]; rfl
theorem qhA.calls (P0_ : Nat → Prop) (u9000_ : Value) (l0 : List Int) (r : List Int) (w0 w : World) (hB : Below w0.heap.size w0 w) (ho0 : Kd.R (Kd.int .i64) 3 w w0.heap.size P0_ u9000_ l0) (h : qhA.f l0 = some r) :
  Calls Tryd.prog 88 #[u9000_] w fun e w' => e = .returned (.tuple #[]) ∧ Kd.R (Kd.int .i64) 3 w' w0.heap.size (fun k_ => (P0_ k_ ∨ w.heap.size ≤ k_)) u9000_ r ∧ Below w0.heap.size w0 w' ∧ Kept w w' (fun k_ => P0_ k_) := by
 unfold qhA.f at h
 by_cases hs : l0.length < 4611686018427387904
 case neg => rw [if_neg hs] at h; cases h
 rw [if_pos hs] at h
 obtain rfl := Option.some.inj h
 obtain ⟨hok, inner, hown, hr⟩ := ho0
 have hi := qaC hr
 rcases hown.2 with ⟨hv, hn⟩ | ⟨g, cap, cur, hv, hbase, hheap, hncap, hmax, hsize, htake⟩
 ·subst hv
  have hl : l0 = [] := List.eq_nil_of_length_eq_zero hn
  subst hl
  refine (AnyM.slices_Sort_int_none Tryd.sortI none 0 w).mono fun e w' hq => ?_
  obtain ⟨he, rfl⟩ := hq
  exact ⟨he, by simpa using Kd.R_nil (Kd.int .i64) 3 w' w0.heap.size _, hB, Kept.refl _ _⟩
 ·subst hv
  have hsz : (Kd.int .i64).sz = 1 := rfl
  rw [hsz, Nat.mul_one] at htake hsize
  have ht : cur.toList.take l0.length = l0.map (Value.int .i64) := by rw [htake, hi]
  have hg : g < w.heap.size := by
   rcases Nat.lt_or_ge g w.heap.size with h1 | h1
   ·exact h1
   ·rw [Array.getElem?_eq_none h1] at hheap; cases hheap
  refine (AnyM.slices_Sort_int Tryd.sortI g 0 cap l0 w (sortI_holds hheap ht) hg hs).mono fun e w' hq => ?_
  obtain ⟨he, n, os, rfl⟩ := hq
  have hoth : ∀ k, k < w.heap.size → k ≠ g → (grow (putRow (Value.int .i64) (Sort.ahead w n) g 0 (l0.mergeSort fun x y => decide (x ≤ y)).toArray) os).heap[k]? = w.heap[k]? := by
   intro k hk hne
   rw [heap_grow_old _ _ (by simpa using hk)]
   simp only [putRow, mapBlock, Array.getElem?_modify, if_neg (Ne.symm hne), heap_ahead]
  have hown' : (grow (putRow (Value.int .i64) (Sort.ahead w n) g 0 (l0.mergeSort fun x y => decide (x ≤ y)).toArray) os).heap[g]? = some (.cells (putCells (Value.int .i64) 0 (l0.mergeSort fun x y => decide (x ≤ y)).toArray cur) 3 (0, 0)) := by
   rw [heap_grow_old _ _ (by simpa using hg)]
   simp only [putRow, mapBlock, Array.getElem?_modify, heap_ahead, hheap, if_true, Option.map_some, onCells]
  have hlen : (l0.mergeSort fun x y => decide (x ≤ y)).length = l0.length := List.length_mergeSort l0
  refine ⟨he, ⟨fun k hk => .inl (hok k hk), (l0.mergeSort fun x y => decide (x ≤ y)).map (Value.int .i64), ⟨by simp [hsz], .inr ⟨g, cap, _, by rw [hlen], hbase, hown', by rw [hlen]; exact hncap, hmax, by rw [hsz, Nat.mul_one]; simpa [putCells] using hsize, ?_⟩⟩, qbC⟩, ⟨hB.os, hB.tape, hB.output, Nat.le_trans hB.size (by simp), ?_⟩, ⟨by simp, ?_⟩⟩
  ·rw [hsz, Nat.mul_one, hlen]
   exact sortI_put hlen (by omega)
  ·intro k hk
   rw [hoth k (Nat.lt_of_lt_of_le hk hB.size) (by omega)]
   exact hB.block k hk
  ·intro k hk hn
   exact hoth k hk (fun e => hn (e ▸ hok g rfl))
end Go.Proofs.YtdncpkppkafkpaaDoor
namespace Go.Proofs.YtdncpkppkafkpaaDoor
open Go.RowKit Go.Shelf Go.Sort Go.Proofs.YtdncpkppkafkpaaDoorW.PrintWords Go.Proofs.YtdncpkppkafkpaaDoorW.PrintLast
set_option linter.unusedVariables false
set_option linter.unusedSimpArgs false
attribute [local go_sem] Oper.semAt_some
def valUpto (zs : List Int) (k : Nat) : List Int := (List.range k).map fun j => zs[j]?.getD 0
theorem valUpto_succ (zs : List Int) (k : Nat) : valUpto zs (k + 1) = valUpto zs k ++ [zs[k]?.getD 0] := by simp [valUpto, List.range_succ]
theorem valUpto_length (zs : List Int) (k : Nat) : (valUpto zs k).length = k := by simp [valUpto]
theorem valUpto_take (zs : List Int) {k : Nat} (hk : k ≤ zs.length) : valUpto zs k = zs.take k := by
 apply List.ext_getElem
 ·simp [valUpto, hk]
 ·intro i h1 h2
  have : i < zs.length := by simp [valUpto] at h1; omega
  simp [valUpto, this]
def ValsAt (n₀ : Nat) (W : World) (sv : Value) (zs : List Int) : Prop :=
 (sv = .slice none 0 0 ∧ zs = []) ∨ ∃ b off cap, sv = .slice (some ⟨b, off, none⟩) zs.length cap ∧ b < n₀ ∧ ∀ j, j < zs.length → W.cell? ⟨b, off + j, none⟩ = some (.int .i64 (zs[j]?.getD 0))
theorem ValsAt.later {n₀ : Nat} {A B : World} (h : Below n₀ A B) {sv : Value} {zs : List Int} : ValsAt n₀ A sv zs → ValsAt n₀ B sv zs
 | .inl e => .inl e
 | .inr ⟨b, off, cap, e, hb, hc⟩ => .inr ⟨b, off, cap, e, hb, fun j hj => (h.cell (p := ⟨b, off + j, none⟩) hb).trans (hc j hj)⟩
set_option maxRecDepth 100000 in
set_option maxHeartbeats 2000000 in
theorem vals1_in (F : Fence) (n : Nat) (h7 : F.fn 89) (hro : F.round = none) (hn : 1 ≤ n) (l Bs n₀ b off len cap : Nat) (zs : List Int) (hreach : len * 8 ≤ 140737488351232) (hb : b < n₀) (J Jx : List Int → World → Prop)
  (hY : ∀ pre x W, J pre W → pre.length < len → YieldAt F (n - 1) Tryd.prog l #[.int .i64 x] W fun e W' =>
   (e = .returned (.bool true) ∧ J (pre ++ [x]) W' ∧ Below n₀ W W') ∨ (e = .returned (.bool false) ∧ Jx (pre ++ [x]) W'))
  (W : World) (hBs : W.cell? ⟨Bs, 0, none⟩ = some (.slice (some ⟨b, off, none⟩) len cap)) (hc : ∀ j, j < len → W.cell? ⟨b, off + j, none⟩ = some (.int .i64 (zs[j]?.getD 0))) (h0 : J [] W) :
  CallsIn F n Tryd.prog 89 #[.func (.yield l) #[] #[], .pointer (some ⟨Bs, 0, none⟩)] W fun e W' => (∃ v, e = .returned v) ∧
   ((∃ ys, ys = valUpto zs len ∧ J ys W') ∨ (∃ pre, (∃ k, k ≤ len ∧ pre = valUpto zs k) ∧ Jx pre W')) := by
 refine callsIn_of_wp Tryd.func89 rfl h7 ?_ hro
 simp only [Tryd.ntmps89, List.size_toArray, List.length_cons, List.length_nil, Nat.reduceAdd, Nat.reduceSub, Array.replicate_succ, Array.replicate_zero, List.push_toArray, List.append_toArray, List.nil_append, List.cons_append]
 gi_wp2
 gi_loopw [7] (fun i wr => ∃ k : Nat, k ≤ len ∧ i = .int .i64 k ∧ J (valUpto zs k) wr ∧ Below n₀ W wr)
  (fun i _ => len - (intOf i).toNat)
 case atStart => exact ⟨0, Nat.zero_le _, rfl, h0, Below.refl _ _⟩
 case round =>
  obtain ⟨k, hk, rfl, hJs, hnx⟩ := hrel
  have hcx : k < len → wr.cell? ⟨b, off + k, none⟩ = some (.int .i64 (zs[k]?.getD 0)) := fun h => (hnx.cell (p := ⟨b, off + k, none⟩) hb).trans (hc k h)
  by_cases hlt : k < len
  ·obtain ⟨fn, tmps, assign, body, hy, hR⟩ := hY _ (zs[k]?.getD 0) wr hJs (by rw [valUpto_length]; exact hlt)
   have hcx' := hcx hlt
   gi_wp2
   refine hR.mono ?_
   rintro e W3 (⟨rfl, hJ3, hk3⟩ | ⟨rfl, hJx3⟩)
   ·gi_wp2
    go_roundw
    case rel => exact ⟨k + 1, by omega, by simp, by rw [valUpto_succ]; exact hJ3, hnx.trans hk3⟩
    case measure => simp [intOf]; omega
   ·gi_wp2
    refine bodyPost_ret (results_none rfl _ _ _) rfl ?_
    exact ⟨⟨_, rfl⟩, .inr ⟨_, ⟨k + 1, by omega, (valUpto_succ _ _).symm⟩, hJx3⟩⟩
  ·obtain rfl : k = len := by omega
   gi_wp2
   go_end0
   exact ⟨⟨_, rfl⟩, .inl ⟨_, rfl, hJs⟩⟩
set_option maxRecDepth 100000 in
set_option maxHeartbeats 1000000 in
theorem vals1_nil_in (F : Fence) (n : Nat) (h7 : F.fn 89) (hro : F.round = none) (l Bs : Nat) (J : List Int → World → Prop) (W : World) (hBs : W.cell? ⟨Bs, 0, none⟩ = some (.slice none 0 0)) (h0 : J [] W) :
  CallsIn F n Tryd.prog 89 #[.func (.yield l) #[] #[], .pointer (some ⟨Bs, 0, none⟩)] W fun e W' => (∃ v, e = .returned v) ∧ J [] W' := by
 refine callsIn_of_wp Tryd.func89 rfl h7 ?_ hro
 simp only [Tryd.ntmps89, List.size_toArray, List.length_cons, List.length_nil, Nat.reduceAdd, Nat.reduceSub, Array.replicate_succ, Array.replicate_zero, List.push_toArray, List.append_toArray, List.nil_append, List.cons_append]
 gi_wp2
 gi_loopw [7] (fun i wr => i = .int .i64 0 ∧ J [] wr) (fun _ _ => 0)
 case atStart => exact ⟨rfl, h0⟩
 case round =>
  obtain ⟨rfl, hJs⟩ := hrel
  gi_wp2
  go_end0
  exact ⟨⟨_, rfl⟩, hJs⟩
theorem vals_stops (F : Fence) (n : Nat) (h7 : F.fn 89) (hro : F.round = none) (hn : 1 ≤ n) (Bs n₀ : Nat) (sv : Value) (zs : List Int) (hreach : zs.length * 8 ≤ 140737488351232) (w : World) (hBs : Bs < w.heap.size) (hn₀ : n₀ ≤ w.heap.size)
  (hc : w.cell? ⟨Bs, 0, none⟩ = some sv) (hI : ValsAt n₀ w sv zs) :
  SeqStopsK F n Tryd.prog 89 #[.pointer (some ⟨Bs, 0, none⟩)] (fun x : Int => #[Value.int .i64 x]) (Below n₀) (fun ys => ys = zs) (fun pre => pre <+: zs) zs.length w := fun l J Jx W hW _ _ hY h0 => by
 have hc' := (hW.cell (p := ⟨Bs, 0, none⟩) hBs).trans hc
 rcases hI.later (hW.mono hn₀) with ⟨rfl, rfl⟩ | ⟨b, off, cap, rfl, hb, hcs⟩
 ·exact (vals1_nil_in F n h7 hro l Bs J W hc' h0).mono fun e W' ⟨he, hj⟩ => ⟨he, .inl ⟨_, rfl, hj⟩⟩
 ·refine (vals1_in F n h7 hro hn l Bs n₀ b off zs.length cap zs hreach hb J Jx hY W hc' hcs h0).mono ?_
  rintro e W' ⟨he, ⟨ys, rfl, hj⟩ | ⟨pre, ⟨k, hk, rfl⟩, hj⟩⟩
  ·exact ⟨he, .inl ⟨_, by rw [valUpto_take zs (Nat.le_refl _), List.take_length], hj⟩⟩
  ·exact ⟨he, .inr ⟨_, by rw [valUpto_take zs hk]; exact List.take_prefix _ _, hj⟩⟩
set_option maxRecDepth 100000 in
set_option maxHeartbeats 1000000 in
theorem vals_calls (a : Option Addr) (len cap : Nat) (w : World) :
  Calls Tryd.prog 76 #[.slice a len cap] w fun e w' => e = .returned (.func (.func 89) #[] #[.pointer (some ⟨w.heap.size, 0, none⟩)]) ∧ w' = w.alloc (.cells #[.slice a len cap] 25) := by
 refine (callsIn_wide (n := 6)).1 ?_
 refine callsIn_of_wp Tryd.func76 rfl trivial ?_ rfl
 simp only [Tryd.ntmps76, List.size_toArray, List.length_cons, List.length_nil, Nat.reduceAdd, Nat.reduceSub, Array.replicate_succ, Array.replicate_zero, List.push_toArray, List.append_toArray, List.nil_append, List.cons_append]
 gi_wp2
 go_ret
 exact ⟨rfl, rfl⟩
theorem vals_own {W : World} {base : Nat} {v : Value} {zs : List Int} (h : W.ownsRow base 3 1 v zs.length (zs.map (Value.int .i64))) : Kd.R (Kd.int .i64) 3 W base (fun _ => True) v zs := ⟨fun _ _ => trivial, _, h, qbC⟩
set_option maxRecDepth 100000 in
set_option maxHeartbeats 2000000 in
theorem valsAppend_in (F : Fence) (n : Nat) (h3 : F.fn 96) (h7 : F.fn 89) (hro : F.round = none) (hn : 3 ≤ n) (Bs : Nat) (sv : Value) (zs : List Int) (hlen : zs.length ≤ maxLen) (hbytes : zs.length * 8 ≤ 140737488351232) (w : World) (hBs : Bs < w.heap.size)
  (hcs : w.cell? ⟨Bs, 0, none⟩ = some sv) (hI : ValsAt w.heap.size w sv zs) :
  CallsIn F n Tryd.prog 96 #[.slice none 0 0, .func (.func 89) #[] #[.pointer (some ⟨Bs, 0, none⟩)]] w fun e W' => ∃ v, e = .returned v ∧ W'.ownsRow w.heap.size 3 1 v zs.length (zs.map (Value.int .i64)) ∧ Below w.heap.size w W' := by
 have h1 : 1 ≤ n := by omega
 obtain ⟨i0, hi, hz0, hz1, hz2⟩ := info_parts P.info3
 refine callsIn_of_wp_marks Tryd.func96 rfl h3 ?_ hro
 simp only [Tryd.ntmps96, List.size_toArray, List.length_cons, List.length_nil, Nat.reduceAdd, Nat.reduceSub, Array.replicate_succ, Array.replicate_zero, List.push_toArray, List.append_toArray, List.nil_append, List.cons_append]
 gi_wp2
 have bO := Boxed.new w 25 (.slice none 0 0)
 have hB0 : Below w.heap.size w (w.alloc (.cells #[.slice none 0 0] 25)) := (Below.refl _ w).alloc (Nat.le_refl _) _
 refine wpIn_rangeFunc_ownG hro h1 (gf := 89) (lb := #[.pointer (some ⟨Bs, 0, none⟩)]) rfl h7 (enters_of Tryd.func89 (by kernel_rfl) rfl)
  (vals_stops F (n - 1) h7 hro (by omega) Bs w.heap.size sv zs hbytes _ (by simp; omega) (by simp) ((hB0.cell (p := ⟨Bs, 0, none⟩) hBs).trans hcs) (hI.later hB0)) belowK_t (belowK_b (by simp)) (Below.refl _ _) (fun _ => rfl)
  (fun pre W => (∃ v, Boxed W w.heap.size 25 v ∧ W.ownsRow w.heap.size 3 1 v pre.length (pre.map (Value.int .i64)) ∧ (v = .slice none 0 0 ↔ pre = [])) ∧ Below w.heap.size w W)
  (fun _ _ _ => False)
  (OwnFrom.and (Own.from (holdsRow_own w.heap.size w.heap.size 25 3 1 (fun pre => pre.length) (fun pre => pre.map (Value.int .i64)) (fun pre v => v = .slice none 0 0 ↔ pre = [])) _) (ownFrom_below (Nat.le_refl _) (by simp)))
  (fun _ _ _ _ _ hs _ _ => hs)
  ⟨⟨_, bO, World.ownsRow_nil _ _ _ _, by simp⟩, hB0⟩
  (fun x => { tmps := #[.slice none 0 0, .func (.func 89) #[] #[.pointer (some ⟨Bs, 0, none⟩)], .pointer (some ⟨w.heap.size, 0, none⟩), undef, .slice none 0 0, .int .i64 x, .func (.func 89) #[] #[.pointer (some ⟨Bs, 0, none⟩)], .int .i64 x, undef, undef, undef, undef, undef], defers := [] }) ?assign ?body ?done ?stop
 case assign =>
  intro l x W K hK
  gi_wp2
  exact hK
 case body =>
  rintro l pre x W ⟨⟨v, hv, hrow, hnil⟩, hB⟩ hlt
  have hc := hv.cell
  gi_wp2_with (gi_at_builtin; refine wpListIn_append_own _ rfl _ _ 25 rfl w.heap.size 3 i0 (.int .i64 0) 1 8 Tryd.underlying25 hi hz0 hz1 hz2 rfl (by decide) _ _ _ rfl (hrow.alloc _) ⟨W.heap.size, 0, none⟩ 1 1 [.int .i64 x] rfl rfl (cell_one_new _ _ _) (by simp [Value.oneCell']) (by omega) (by omega) (by have := hB.size; simp; omega) ?_; intro v' w1 hown' hgrow _; obtain ⟨g', cap', rfl⟩ := ownsRow_succ hown'; obtain ⟨hv1, hv2, hr2, hk2, hb2⟩ := hv.appended (by decide) hrow hB.size (Nat.le_refl _) hown' hgrow; have hc1 := hv1.cell; have hf1 := hv1.frozen)
  exact ⟨hk2.from _, hb2, ⟨_, hv2, by simpa using hr2, by simp⟩, hB.trans hb2⟩
 case done =>
  rintro D ys W hD rfl ⟨⟨v, hv, hrow, hnil⟩, hB⟩ hK
  have hc := hv.cell
  gi_wp2
  refine ⟨by simp, .inl ⟨_, _, rfl, run_takeDeferred hK, ?_⟩⟩
  exact ⟨_, results_tmp rfl _ _ _, v, rfl, ownsRow_putObj hrow _ hK rfl, hB.trans (belowK_b (w := w) (Nat.le_refl _) W D _ _ (by simp at hD; omega) hK rfl rfl)⟩
 case stop =>
  rintro D c pre W _ _ h _
  exact h.elim
set_option maxRecDepth 100000 in
set_option maxHeartbeats 1000000 in
theorem valsCollect_in (F : Fence) (n : Nat) (h8 : F.fn 87) (h3 : F.fn 96) (h7 : F.fn 89) (hro : F.round = none) (hn : 4 ≤ n) (Bs : Nat) (sv : Value) (zs : List Int) (hlen : zs.length ≤ maxLen) (hbytes : zs.length * 8 ≤ 140737488351232) (w : World) (hBs : Bs < w.heap.size)
  (hcs : w.cell? ⟨Bs, 0, none⟩ = some sv) (hI : ValsAt w.heap.size w sv zs) :
  CallsIn F n Tryd.prog 87 #[.func (.func 89) #[] #[.pointer (some ⟨Bs, 0, none⟩)]] w fun e W' => ∃ v, e = .returned v ∧ W'.ownsRow w.heap.size 3 1 v zs.length (zs.map (Value.int .i64)) ∧ Below w.heap.size w W' := by
 have h1 : 1 ≤ n := by omega
 refine callsIn_of_wp Tryd.func87 rfl h8 ?_ hro
 simp only [Tryd.ntmps87, List.size_toArray, List.length_cons, List.length_nil, Nat.reduceAdd, Nat.reduceSub, Array.replicate_succ, Array.replicate_zero, List.push_toArray, List.append_toArray, List.nil_append, List.cons_append]
 gi_wp2_with (gi_at_call 96; refine (valsAppend_in F (n - 1) h3 h7 hro (by omega) Bs sv zs hlen hbytes _ hBs hcs hI).mono ?_; rintro e w' ⟨v, rfl, hrow, hb⟩)
 go_ret
 exact ⟨v, rfl, hrow, hb⟩
set_option maxRecDepth 100000 in
set_option maxHeartbeats 1000000 in
theorem valsSorted.calls (Bs : Nat) (sv : Value) (zs : List Int) (hlen : zs.length ≤ maxLen) (hbytes : zs.length * 8 ≤ 140737488351232) (w : World) (hBs : Bs < w.heap.size)
  (hcs : w.cell? ⟨Bs, 0, none⟩ = some sv) (hI : ValsAt w.heap.size w sv zs) :
  Calls Tryd.prog 75 #[.func (.func 89) #[] #[.pointer (some ⟨Bs, 0, none⟩)]] w fun e w' => ∃ v, e = .returned v ∧ Kd.R (Kd.int .i64) 3 w' w.heap.size (fun _ => True) v (zs.mergeSort fun x y => decide (x ≤ y)) ∧ Below w.heap.size w w' := by
 have hs : qhA.f zs = some (zs.mergeSort fun x y => decide (x ≤ y)) := if_pos (by omega)
 have cC := valsCollect_in Fence.wide 5 trivial trivial trivial rfl (by omega) Bs sv zs hlen hbytes w hBs hcs hI
 have cS : ∀ (v : Value) (W : World), Below w.heap.size w W → Kd.R (Kd.int .i64) 3 W w.heap.size (fun _ => True) v zs → CallsIn Fence.wide 5 Tryd.prog 88 #[v] W fun e w' => e = .returned (.tuple #[]) ∧ Kd.R (Kd.int .i64) 3 w' w.heap.size (fun _ => True) v (zs.mergeSort fun x y => decide (x ≤ y)) ∧ Below w.heap.size w w' := fun v W hb hR =>
  callsIn_wide.2 ((qhA.calls (fun _ => True) v zs _ w W hb hR hs).mono fun e w' h => ⟨h.1, Kd.qd h.2.1 (fun _ _ => trivial), h.2.2.1⟩)
 have f1 : Fence.wide.fn 87 := trivial
 have f2 : Fence.wide.fn 88 := trivial
 clear hs hcs hI hlen hbytes
 refine (callsIn_wide (n := 6)).1 ?_
 refine callsIn_of_wp Tryd.func75 rfl trivial ?_ rfl
 simp only [Tryd.ntmps75, List.size_toArray, List.length_cons, List.length_nil, Nat.reduceAdd, Nat.reduceSub, Array.replicate_succ, Array.replicate_zero, List.push_toArray, List.append_toArray, List.nil_append, List.cons_append]
 gi_wp2_with (first
  | (gi_at_call 87; refine cC.mono ?_; rintro e w' ⟨v, rfl, hrow, hb⟩; have hR := Aside0.mk (vals_own hrow); have hB := Aside0.mk hb; clear hrow hb)
  | (gi_at_call 88; refine (cS v _ hB.out hR.out).mono ?_; rintro e w'' ⟨rfl, hR2, hB2⟩))
 go_ret
 exact ⟨v, rfl, hR2, hB2⟩
end Go.Proofs.YtdncpkppkafkpaaDoor
namespace Go.Proofs
open Go.Shelf
def Tryd.compI_ren : Go.Shelf.Ren := ⟨fun | 20 => 74 | n => n, fun | 22 => 25 | 3 => 3 | 4 => 4 | 0 => 0 | n => n, fun | n => n⟩
theorem Tryd.compI : Go.Proofs.Lays2.n20 Tryd.prog Tryd.compI_ren := {
 mixed := by kernel_rfl
 f20 := Tryd.func74.trans (congrArg some (by kernel_rfl))
 t0 := Tryd.underlying0
 a0 := Tryd.isAgg0
 z0 := Tryd.sizeOf0
 v0 := Tryd.zeroValue0
 t3 := Tryd.underlying3
 a3 := Tryd.isAgg3
 z3 := Tryd.sizeOf3
 v3 := Tryd.zeroValue3
 t4 := Tryd.underlying4
 a4 := Tryd.isAgg4
 z4 := Tryd.sizeOf4
 v4 := Tryd.zeroValue4
 t22 := Tryd.underlying25
 a22 := Tryd.isAgg25
 z22 := Tryd.sizeOf25
 v22 := Tryd.zeroValue25
 i3 := by kernel_rfl }
end Go.Proofs
namespace Go.Proofs.YtdncpkppkafkpaaDoor
open Go.RowKit Go.Sort Go.Proofs.YtdncpkppkafkpaaDoorW.PrintWords Go.Proofs.YtdncpkppkafkpaaDoorW.PrintLast
open Go.Lib (keeps compactUpTo)
set_option linter.unusedVariables false
set_option linter.unusedSimpArgs false
theorem compactI_len (l : List Int) : (Lib.compact l).length ≤ l.length := by
 unfold Lib.compact compactUpTo
 rw [List.length_map]
 exact Nat.le_trans (List.length_filter_le _ _) (by simp)
theorem compactI_put {cur : Array Value} {ys : List Int} {F : Array Int} (hF : F.toList.take ys.length = ys) (hN : F.size ≤ cur.size) (hy : ys.length ≤ F.size) :
  (putCells (Value.int .i64) 0 F cur).toList.take ys.length = ys.map (Value.int .i64) := by
 refine List.ext_getElem? fun i => ?_
 rw [List.getElem?_map, List.getElem?_take]
 by_cases hi : i < ys.length
 ·have hf : F[i]? = some ys[i] := by
   have : (F.toList.take ys.length)[i]? = some ys[i] := by rw [hF]; exact List.getElem?_eq_getElem hi
   rw [List.getElem?_take, if_pos hi] at this
   simpa using this
  rw [if_pos hi, List.getElem?_eq_getElem hi, Option.map_some, Array.getElem?_toList]
  simp only [putCells, Array.getElem?_mapIdx]
  rw [Array.getElem?_eq_getElem (show i < cur.size by omega), Option.map_some, if_pos ⟨Nat.zero_le _, by omega⟩, Nat.sub_zero]
  have hb : F[i]! = ys[i] := by simp [getElem!_def, hf]
  rw [hb]
 ·rw [if_neg hi, List.getElem?_eq_none (by omega)]; rfl
theorem compactIox.calls (ok : Nat → Prop) (v : Value) (l : List Int) (w0 w : World) (hB : Below w0.heap.size w0 w) (ho : Kd.R (Kd.int .i64) 3 w w0.heap.size ok v l) :
  Calls Tryd.prog 74 #[v] w fun e w' => ∃ v', e = .returned v' ∧ Kd.R (Kd.int .i64) 3 w' w0.heap.size ok v' (Lib.compact l) ∧ Below w0.heap.size w0 w' ∧ v'.ownBlock = v.ownBlock := by
 obtain ⟨hok, inner, hown, hr⟩ := ho
 have hi := qaC hr
 have hsz : (Kd.int .i64).sz = 1 := rfl
 rcases hown.2 with ⟨hv, hn⟩ | ⟨g, cap, cur, hv, hbase, hheap, hncap, hmax, hsize, htake⟩
 ·subst hv
  have hl : l = [] := List.eq_nil_of_length_eq_zero hn
  subst hl
  refine (Any.slices_Compact_int_empty Tryd.compI none 0 w).mono fun e w' hq => ?_
  obtain ⟨he, rfl⟩ := hq
  exact ⟨_, he, Kd.R_nil (Kd.int .i64) 3 w' w0.heap.size _, hB, rfl⟩
 ·subst hv
  rw [hsz, Nat.mul_one] at htake hsize
  have ht : cur.toList.take l.length = l.map (Value.int .i64) := by rw [htake, hi]
  have hg : g < w.heap.size := by
   rcases Nat.lt_or_ge g w.heap.size with h1 | h1
   ·exact h1
   ·rw [Array.getElem?_eq_none h1] at hheap; cases hheap
  have hmx : l.length ≤ 9223372036854775807 := Nat.le_trans hncap (Nat.le_trans hmax (by decide))
  refine (Any.slices_Compact_int Tryd.compI g 0 cap l w (sortI_holds hheap ht) hmx hncap).mono fun e w' hq => ?_
  obtain ⟨he, q, rfl⟩ := hq
  have hle := compactI_len l
  generalize hF : (Lib.compact l ++ List.replicate (l.length - (Lib.compact l).length) 0).toArray = F
  have hFs : F.size = l.length := by rw [← hF]; simp; omega
  have hFt : F.toList.take (Lib.compact l).length = Lib.compact l := by rw [← hF]; simp
  have hoth : ∀ k, k < w.heap.size → k ≠ g → (putRow (Value.int .i64) (Sort.ahead w q) g 0 F).heap[k]? = w.heap[k]? := by
   intro k hk hne
   simp only [putRow, mapBlock, Array.getElem?_modify, if_neg (Ne.symm hne), heap_ahead]
  have hown' : (putRow (Value.int .i64) (Sort.ahead w q) g 0 F).heap[g]? = some (.cells (putCells (Value.int .i64) 0 F cur) 3 (0, 0)) := by
   simp only [putRow, mapBlock, Array.getElem?_modify, heap_ahead, hheap, if_true, Option.map_some, onCells]
  refine ⟨_, he, ⟨hok, (Lib.compact l).map (Value.int .i64), ⟨by simp [hsz], .inr ⟨g, cap, _, rfl, hbase, hown', Nat.le_trans hle hncap, hmax, by rw [hsz, Nat.mul_one]; simpa [putCells] using hsize, ?_⟩⟩, qbC⟩, ⟨hB.os, hB.tape, hB.output, Nat.le_trans hB.size (by simp), ?_⟩, rfl⟩
  ·rw [hsz, Nat.mul_one]
   exact compactI_put hFt (by omega) (by omega)
  ·intro k hk
   rw [hoth k (Nat.lt_of_lt_of_le hk hB.size) (by omega)]
   exact hB.block k hk
end Go.Proofs.YtdncpkppkafkpaaDoor
namespace Go.Proofs.YtdncpkppkafkpaaDoor.P
open Go.RowKit Go.Proofs.YtdncpkppkafkpaaDoorW.PrintWords Go.Proofs.YtdncpkppkafkpaaDoorW.PrintLast Go.Proofs.YtdncpkppkafkpaaDoorW.PrintMore
attribute [local go_sem] qz qx qJA qIA qo qn qy qw
set_option linter.unusedVariables false
set_option linter.unusedSimpArgs false
def qe.l0 : Nat → List Int → Int → Int → Int → Option (Int)
 | 0, _, _, _, _ => none
 | k + 1, x0, x1, x7, x8 => if x8 < x7 then (if 0 ≤ x8 then (if x8 < (x0.length : Int) then (if x1 = (rd x0 x8) then (some x8) else (qe.l0 k x0 x1 x7 (wrap64 (x8 + 1)))) else (none)) else (none)) else (some (-1))
def qe.f (k : Nat) (l0 : List Int) (a1 : Int) : Option (Int) := qe.l0 k l0 a1 (l0.length : Int) 0
set_option maxHeartbeats 8000000 in
set_option maxRecDepth 100000 in
theorem qe.calls (k : Nat) (A0 : Option Addr) (c0 : Nat) (l0 : List Int) (a1 : Int) (r : Int) (w : World) (hr0 : Kd.C (Kd.int .i64) w A0 l0.length l0) (hc0 : l0.length ≤ c0) (h : qe.f k l0 a1 = some r) :
  Calls Tryd.prog 86 #[.slice A0 l0.length c0, .int .i64 a1] w fun e w' => e = .returned (.int .i64 r) ∧ Drawn0 w w' := by
 have HR0 := Aside0.mk hr0
 have HC0 := Aside0.mk hc0
 clear hr0 hc0
 have H : (qe.l0 k l0 a1 (l0.length : Int) 0) = some r := h
 clear h
 have H' := Aside0.mk H
 clear H
 go_enter Tryd.func86, Tryd.ntmps86
 go_wp2
 go_loopg [8] k (fun kq v8 w' => ∃ (x8_1 : Int), v8 = .int .i64 x8_1 ∧ Aside0 (qe.l0 kq l0 a1 (l0.length : Int) x8_1 = some r) ∧ Aside0 (kq ≤ k) ∧ Drawn0 w w')
 case atStart => exact ⟨(0), (by first | rfl | (simp; done) | (simp [*]; done)), H', ⟨Nat.le_refl _⟩, by repeat (first | exact Drawn0.refl _ | apply Drawn0.step)⟩
 case round =>
  clear H'
  try clear p2
  obtain ⟨x8_1, rfl, HA, HK1, ⟨m1, rfl⟩⟩ := hrel
  cases gk with
  | zero => exact absurd HA.out (by simp [qe.l0])
  | succ k1 =>
   have H := HA.out
   clear HA
   simp only [qe.l0] at H
   by_cases c3 : x8_1 < (l0.length : Int)
   ·rw [if_pos c3] at H
    have c3b0 : decide (x8_1 < (l0.length : Int)) = true := decide_eq_true c3
    clear c3
    by_cases c4 : 0 ≤ x8_1
    ·rw [if_pos c4] at H
     have c4b0 : decide (0 ≤ x8_1) = true := decide_eq_true c4
     clear c4
     by_cases c5 : x8_1 < (l0.length : Int)
     ·rw [if_pos c5] at H
      have c5b0 : decide (x8_1 < (l0.length : Int)) = true := decide_eq_true c5
      clear c5
      by_cases c6 : a1 = (rd l0 x8_1)
      ·rw [if_pos c6] at H
       have c6b0 : (a1 == (rd l0 x8_1)) = true := beq_iff_eq.mpr c6
       have c6b1 : (a1 != (rd l0 x8_1)) = false := bne_eq_false_iff_eq.mpr c6
       clear c6
       obtain rfl := Option.some.inj H
       have p211 : 0 ≤ (x8_1 : Int) := of_decide_eq_true (by first | (with_reducible assumption) | assumption)
       have q211 : x8_1 < (l0.length : Int) := of_decide_eq_true (by first | (with_reducible assumption) | assumption)
       obtain ⟨ad211, e211, hx211_0⟩ := Kd.qGA HR0.out x8_1 p211 q211
       cases e211
       replace p211 := eq_true p211
       replace q211 := eq_true q211
       go_wp2
       go_ret
       exact ⟨by first | rfl | (simp; done) | (simp [*]; done), by repeat (first | exact Drawn0.refl _ | apply Drawn0.step)⟩
      ·rw [if_neg c6] at H
       have c6b0 : (a1 == (rd l0 x8_1)) = false := beq_eq_false_iff_ne.mpr c6
       have c6b1 : (a1 != (rd l0 x8_1)) = true := bne_iff_ne.mpr c6
       have H' := Aside0.mk H
       clear H
       have p211 : 0 ≤ (x8_1 : Int) := of_decide_eq_true (by first | (with_reducible assumption) | assumption)
       have q211 : x8_1 < (l0.length : Int) := of_decide_eq_true (by first | (with_reducible assumption) | assumption)
       obtain ⟨ad211, e211, hx211_0⟩ := Kd.qGA HR0.out x8_1 p211 q211
       cases e211
       replace p211 := eq_true p211
       replace q211 := eq_true q211
       go_wp2
       go_roundg k1
       case measure => have := HK1.out; omega
       case rel => exact ⟨(wrap64 (x8_1 + 1)), (by first | rfl | (simp; done) | (simp [*]; done)), H', ⟨by have := HK1.out; omega⟩, by repeat (first | exact Drawn0.refl _ | apply Drawn0.step)⟩
     ·rw [if_neg c5] at H
      exact absurd H (by simp)
    ·rw [if_neg c4] at H
     exact absurd H (by simp)
   ·rw [if_neg c3] at H
    have c3b0 : decide (x8_1 < (l0.length : Int)) = false := decide_eq_false c3
    clear c3
    obtain rfl := Option.some.inj H
    go_wp2
    go_ret
    exact ⟨by first | rfl | (simp; done) | (simp [*]; done), by repeat (first | exact Drawn0.refl _ | apply Drawn0.step)⟩
def qi.f (k : Nat) (l0 : List Int) (a1 : Int) : Option (Bool) := (qe.f k l0 a1).bind fun t212 => (some (decide (t212 ≥ 0)))
set_option maxHeartbeats 8000000 in
set_option maxRecDepth 100000 in
theorem qi.calls (k : Nat) (A0 : Option Addr) (c0 : Nat) (l0 : List Int) (a1 : Int) (r : Bool) (w : World) (hr0 : Kd.C (Kd.int .i64) w A0 l0.length l0) (hc0 : l0.length ≤ c0) (h : qi.f k l0 a1 = some r) :
  Calls Tryd.prog 71 #[.slice A0 l0.length c0, .int .i64 a1] w fun e w' => e = .returned (.bool r) ∧ Drawn0 w w' := by
 have HR0 := Aside0.mk hr0
 have HC0 := Aside0.mk hc0
 clear hr0 hc0
 have H : ((qe.f k l0 a1).bind fun t212 => (some (decide (t212 ≥ 0)))) = some r := h
 clear h
 replace H := Option.bind_eq_some_iff.mp H
 obtain ⟨t212, A30, H⟩ := H
 replace H : (some (decide (t212 ≥ 0))) = some r := H
 have A3 := Aside0.mk A30
 clear A30
 obtain rfl := Option.some.inj H
 go_enter Tryd.func71, Tryd.ntmps71
 go_wp2_with (first | ((with_reducible refine qa (f := 86) rfl ?_); refine qQA (some 7) rfl rfl Tryd.func86 (by kernel_rfl) rfl #[.slice A0 l0.length c0, .int .i64 a1] rfl (by (try simp only [List.map_toArray, List.map_cons, List.map_nil]); first | done | rfl | (simp only [List.length_drop, List.length_take]; rfl)) ?_; (with_reducible refine (qe.calls k _ _ l0 a1 t212 _ ?side1 ?side2 A3.out).mono ?_); (case side1 => repeat (first | exact HR0.out | (with_reducible refine Kd.qZA ?_ _) | (with_reducible refine Kd.qYA ?_ _) | (with_reducible refine Kd.qpA ?_))); (case side2 => exact HC0.out); rintro e w' ⟨rfl, ⟨nd, rfl⟩⟩; refine ⟨_, rfl, ?_⟩))
 go_ret
 exact ⟨by first | rfl | (simp; done) | (simp [*]; done), by repeat (first | exact Drawn0.refl _ | apply Drawn0.step)⟩
end Go.Proofs.YtdncpkppkafkpaaDoor.P
namespace Go.Proofs.YtdncpkppkafkpaaDoor
open Go.RowKit Go.Proofs.YtdncpkppkafkpaaDoor.P Go.Proofs.YtdncpkppkafkpaaDoorW.PrintWords Go.Proofs.YtdncpkppkafkpaaDoorW.PrintLast
set_option linter.unusedVariables false
set_option linter.unusedSimpArgs false
def kinds (l : List Int) : Nat := (Lib.compact (l.mergeSort fun x y => decide (x ≤ y))).length
theorem vals_at {w : World} {base : Nat} {ok : Nat → Prop} {A : Option Addr} {c : Nat} {l : List Int} (h : Kd.R (Kd.int .i64) 3 w base ok (.slice A l.length c) l) : ValsAt w.heap.size w (.slice A l.length c) l := by
 obtain ⟨hok, inner, hown, hr⟩ := h
 have hi := qaC hr
 rcases hown.2 with ⟨hv, hn⟩ | ⟨g, cap, cur, hv, hbase, hheap, hncap, hmax, hsize, htake⟩
 ·exact .inl ⟨hv, List.eq_nil_of_length_eq_zero hn⟩
 ·refine .inr ⟨g, 0, cap, hv, ?_, fun j hj => ?_⟩
  ·rcases Nat.lt_or_ge g w.heap.size with h1 | h1
   ·exact h1
   ·rw [Array.getElem?_eq_none h1] at hheap; cases hheap
  ·have hsz : (Kd.int .i64).sz = 1 := rfl
   rw [hsz, Nat.mul_one] at htake
   have ht : cur.toList.take l.length = l.map (Value.int .i64) := by rw [htake, hi]
   have h1 : cur[j]? = some (Value.int .i64 l[j]) := by
    have : (cur.toList.take l.length)[j]? = some (Value.int .i64 l[j]) := by rw [ht, List.getElem?_map, List.getElem?_eq_getElem hj]; rfl
    rw [List.getElem?_take, if_pos hj] at this
    simpa using this
   simp only [World.cell?, hheap, Nat.zero_add]
   rw [h1]
   simp [hj]
namespace P
def qSA.f (k : Nat) (l0 : List S61) : Option Bool := (qI.f k l0).bind fun b => (qi.f k b.2 (-1)).bind fun t => if t = true then some false else if b.1.length ≤ 1000000 then some (decide (kinds b.1 = 6)) else none
set_option maxHeartbeats 2000000 in
set_option maxRecDepth 100000 in
theorem qSA.calls (k : Nat) (A0 : Option Addr) (c0 : Nat) (l0 : List S61) (r1 : Bool) (w : World) (hr0 : Kd.C k61 w A0 l0.length l0) (hc0 : l0.length ≤ c0) (h : qSA.f k l0 = some r1) :
  Calls Tryd.prog 51 #[.slice A0 l0.length c0] w fun e w' => e = .returned (.bool r1) ∧ Below w.heap.size w w' := by
 unfold qSA.f at h
 replace h := Option.bind_eq_some_iff.mp h
 obtain ⟨⟨ps, fs⟩, hf, h⟩ := h
 replace h := Option.bind_eq_some_iff.mp h
 obtain ⟨t, ht, h⟩ := h
 have HF := Aside0.mk (show qI.f k l0 = some (ps, fs) from hf)
 have HT := Aside0.mk (show qi.f k fs (-1) = some t from ht)
 have HR := Aside0.mk hr0
 have HC := Aside0.mk hc0
 clear hf ht hr0 hc0
 cases t with
 | true =>
  obtain rfl := Option.some.inj (show some false = some r1 from h)
  clear h
  go_enter Tryd.func51, Tryd.ntmps51
  go_wp2_with (first
   | (go_at_call 38; refine (qI.calls k A0 c0 l0 ps fs _ HR.out HC.out HF.out).mono ?_; rintro e w1 ⟨v1, v2, rfl, ho1, ho2, hb1⟩; obtain ⟨A1, c1, e1⟩ := Kd.qr ho1; subst e1; obtain ⟨A2, c2, e2⟩ := Kd.qr ho2; subst e2; have HO2 := Aside0.mk ho2; have HB1 := Aside0.mk hb1; clear ho1 ho2 hb1)
   | (go_at_call 71; refine (qi.calls k A2 c2 fs (-1) true _ (Kd.qS HO2.out).2.2 (Kd.qS HO2.out).2.1 HT.out).mono ?_; rintro e w2 ⟨rfl, hb2⟩; have HB2 := Aside0.mk (qaA HB1.out HB1.out.size hb2.below); clear hb2))
  go_ret
  exact ⟨rfl, HB2.out⟩
 | false =>
  replace h : (if ps.length ≤ 1000000 then some (decide (kinds ps = 6)) else none) = some r1 := h
  by_cases hl : ps.length ≤ 1000000
  case neg => rw [if_neg hl] at h; cases h
  rw [if_pos hl] at h
  obtain rfl := Option.some.inj h
  clear h
  have HL := Aside0.mk hl
  clear hl
  have hd : (decide (kinds ps = 6)) = (((Lib.compact (ps.mergeSort fun x y => decide (x ≤ y))).length : Int) == 6) := by
   unfold kinds
   by_cases h6 : (Lib.compact (ps.mergeSort fun x y => decide (x ≤ y))).length = 6
   ·rw [decide_eq_true h6, h6]; rfl
   ·rw [decide_eq_false h6]; symm; rw [beq_eq_false_iff_ne]; omega
  have HD := Aside0.mk hd
  clear hd
  generalize hq : decide (kinds ps = 6) = q at HD ⊢
  clear hq
  go_enter Tryd.func51, Tryd.ntmps51
  go_wp2_with (first
   | (go_at_call 38; refine (qI.calls k A0 c0 l0 ps fs _ HR.out HC.out HF.out).mono ?_; rintro e w1 ⟨v1, v2, rfl, ho1, ho2, hb1⟩; obtain ⟨A1, c1, e1⟩ := Kd.qr ho1; subst e1; obtain ⟨A2, c2, e2⟩ := Kd.qr ho2; subst e2; have HO1 := Aside0.mk ho1; have HO2 := Aside0.mk ho2; have HB1 := Aside0.mk hb1; clear ho1 ho2 hb1)
   | (go_at_call 71; refine (qi.calls k A2 c2 fs (-1) false _ (Kd.qS HO2.out).2.2 (Kd.qS HO2.out).2.1 HT.out).mono ?_; rintro e w2 ⟨rfl, hb2⟩; have HO3 := Aside0.mk (Kd.qU HO1.out hb2.below); have HB2 := Aside0.mk (qaA HB1.out HB1.out.size hb2.below); clear hb2 HO1 HO2 HB1)
   | (go_at_call 76; refine (vals_calls A1 ps.length c1 _).mono ?_; rintro e w3 ⟨rfl, ew3⟩; have HV := Aside0.mk (vals_at HO3.out); have HW3 := Aside0.mk ew3; clear ew3)
   | (go_at_call 75; refine (valsSorted.calls w2.heap.size (.slice A1 ps.length c1) ps (by have := HL.out; unfold maxLen; omega) (by have := HL.out; omega) w3 (by rw [HW3.out]; simp) (by rw [HW3.out]; exact (Boxed.new w2 25 (.slice A1 ps.length c1)).cell) (by
      have hbb : Below w2.heap.size w2 w3 := by rw [HW3.out]; exact qBA (Below.refl _ _) _
      rcases HV.out.later hbb with hv | ⟨b, off, cap, e, hb, hc⟩
      ·exact .inl hv
      ·exact .inr ⟨b, off, cap, e, by rw [HW3.out]; simp; omega, hc⟩)).mono ?_; rintro e w4 ⟨v4, rfl, ho4, hb4⟩; have HO4 := Aside0.mk ho4; have HB4 := Aside0.mk hb4; clear ho4 hb4)
   | (go_at_call 74; refine (compactIox.calls (fun _ => True) v4 _ w3 _ HB4.out HO4.out).mono ?_; rintro e w5 ⟨v5, rfl, ho5, hb5, _⟩; obtain ⟨A5, c5, e5⟩ := Kd.qr ho5; subst e5; have HB5 := Aside0.mk hb5; clear ho5 hb5))
  all_goals (try rw [← HD.out])
  go_ret
  have hbb : Below w2.heap.size w2 w3 := by rw [HW3.out]; exact qBA (Below.refl _ _) _
  exact ⟨rfl, qaA (qaA HB2.out HB2.out.size hbb) (qaA HB2.out HB2.out.size hbb).size HB5.out⟩
end P
end Go.Proofs.YtdncpkppkafkpaaDoor
namespace Go.Proofs.YtdncpkppkafkpaaDoor
open Go Go.ChangeMaps Go.MapKept
open Go.Maps (Keyed IsMap Tidy)
set_option linter.unusedVariables false
set_option linter.unusedSectionVars false
theorem plainElem_bool_inv {H : Type} {P : Program} {e : TypeId} (he : P.underlying e = some .bool) {v : Value} {z : DataW H × List MemPlace} (h : plainElem P e v = some z) : ∃ x, v = .bool x ∧ z = (.lit (.bool x), []) := by
 unfold plainElem at h
 rw [he] at h
 cases v <;> simp at h
 exact ⟨_, rfl, h.symm⟩
structure MapKit (P : Program) (κ ν : Type) where
 t : TypeId
 k : TypeId
 e : TypeId
 law : Keyed P k
 ht : P.underlying t = some (.map k e)
 okK : κ → Prop
 key : κ → Value
 lit : κ → Lit
 hkey : ∀ x, okK x → keyOf P k (key x) = some (lit x)
 inj : ∀ x y, key x = key y → x = y
 okV : ν → Prop
 val : ν → Value
 dat : ν → DataW Unit
 R : Value → Option (DataW Unit × List MemPlace)
 hval : ∀ v, okV v → R (val v) = some (dat v, [])
 hdat : ∀ v u ps, R u = some (dat v, ps) → u = val v
 zero : ν
 okz : okV zero
 hz : ∀ w, (zeroValue e).run P w = .ok (val zero) w
namespace MapKit
variable {P : Program} {κ ν : Type} [DecidableEq κ] (M : MapKit P κ ν)
def datum : List (κ × ν) → DataW Unit
 | [] => .map []
 | x :: l => (datum l).put (M.lit x.1) (M.dat x.2)
def look (l : List (κ × ν)) (x : κ) : ν := match l.find? fun y => decide (y.1 = x) with | some y => y.2 | none => M.zero
def met (l : List (κ × ν)) (x : κ) : Bool := l.any fun y => decide (y.1 = x)
structure Is (w : World) (b : Nat) (l : List (κ × ν)) : Prop where
 ok : ∀ y ∈ l, M.okK y.1 ∧ M.okV y.2
 own : w.ownsMap P M.k M.R b l.length (M.datum l)
theorem qMC : ∀ l : List (κ × ν), IsMap (M.datum l)
 | [] => Go.Maps.isMap_empty
 | x :: l => (qMC l).put _ _
theorem lit_ne {x y : κ} (hx : M.okK x) (hy : M.okK y) (h : x ≠ y) : M.lit x ≠ M.lit y := fun e =>
 h (M.inj _ _ (M.law.inj (M.hkey x hx) (by rw [M.hkey y hy, e])))
theorem has_datum {x : κ} (hx : M.okK x) : ∀ (l : List (κ × ν)), (∀ y ∈ l, M.okK y.1 ∧ M.okV y.2) → Go.Maps.has (M.datum l) (M.lit x) = met l x
 | [], _ => rfl
 | y :: l, h => by
  have ih := has_datum hx l (fun z hz => h z (List.mem_cons_of_mem _ hz))
  have hy := (h y List.mem_cons_self).1
  unfold met at ih ⊢
  rw [List.any_cons, ← ih]
  by_cases e : y.1 = x
  ·rw [decide_eq_true e, Bool.true_or]
   show Go.Maps.has ((M.datum l).put (M.lit y.1) (M.dat y.2)) (M.lit x) = true
   rw [e]
   exact Go.Maps.has_put_same (M.qMC l) (M.law.key (M.hkey x hx)) _
  ·rw [decide_eq_false e, Bool.false_or]
   exact Go.Maps.has_put_other (M.lit_ne hx hy (fun q => e q.symm)) _
theorem at_datum {x : κ} (hx : M.okK x) : ∀ (l : List (κ × ν)), (∀ y ∈ l, M.okK y.1 ∧ M.okV y.2) → (M.datum l).atKey (M.lit x) (M.dat M.zero) = M.dat (M.look l x)
 | [], _ => rfl
 | y :: l, h => by
  have ih := at_datum hx l (fun z hz => h z (List.mem_cons_of_mem _ hz))
  have hy := (h y List.mem_cons_self).1
  show ((M.datum l).put (M.lit y.1) (M.dat y.2)).atKey (M.lit x) (M.dat M.zero) = _
  unfold look at ih ⊢
  by_cases e : y.1 = x
  ·rw [List.find?_cons_of_pos (by simpa using e), e]
   exact Go.Maps.atKey_put_same (M.qMC l) (M.law.key (M.hkey x hx)) _ _
  ·rw [List.find?_cons_of_neg (by simpa using e), ← ih]
   exact Go.Maps.atKey_put_other (M.lit_ne hx hy (fun q => e q.symm)) _ _
variable {M} {w : World} {b : Nat} {l : List (κ × ν)}
theorem Is.made (w : World) : M.Is (w.alloc (.map #[] 0)) w.heap.size [] := ⟨fun _ h => (List.not_mem_nil h).elim, World.ownsMap_made _ _ _ _⟩
theorem Is.lt (h : M.Is w b l) : b < w.heap.size := h.own.lt
theorem Is.kept {w' : World} {row : Option Nat} (h : M.Is w b l) (hg : w.grownBy w' row) (hne : some b ≠ row) : M.Is w' b l := ⟨h.ok, h.own.kept hg hne⟩
theorem Is.alloc (h : M.Is w b l) (o : Obj) : M.Is (w.alloc o) b l := ⟨h.ok, h.own.alloc o⟩
theorem Is.setCell (h : M.Is w b l) {a : Addr} (ha : b ≠ a.block) (u : Value) : M.Is (w.setCell a u) b l := ⟨h.ok, h.own.setCell ha u⟩
theorem Is.qXB {w' : World} (h : M.Is w b l) (e : w'.heap[b]? = w.heap[b]?) : M.Is w' b l := by
 obtain ⟨es, clock, hb, r⟩ := h.own
 exact ⟨h.ok, es, clock, by rw [e, hb], r⟩
theorem Is.run_look (h : M.Is w b l) {x : κ} (hx : M.okK x) : (Instr.lookup M.t (.map (some b)) (M.key x) false).run P w = .ok (M.val (M.look l x)) w := by
 obtain ⟨v, ps, hrun, hv⟩ := h.own.lookup M.law M.ht (M.hz w) (M.hval _ M.okz) (M.hkey x hx)
 rw [M.at_datum hx l h.ok] at hv
 rw [hrun, M.hdat _ _ _ hv]
theorem Is.qJD (h : M.Is w b l) (hn : l.length < maxLen) {x : κ} (hx : M.okK x) {v : ν} (hv : M.okV v) : ∃ w', (Instr.mapUpdate M.t (.map (some b)) (M.key x) (M.val v)).run P w = .ok () w' ∧ M.Is w' b ((x, v) :: l) ∧ w.grownBy w' (some b) := by
 obtain ⟨w', hrun, h1, h2⟩ := h.own.update M.law M.ht hn (M.hkey x hx) (M.hval v hv)
 refine ⟨w', hrun, ⟨fun y hy => ?_, h1⟩, h2⟩
 rcases List.mem_cons.1 hy with rfl | hy
 ·exact ⟨hx, hv⟩
 ·exact h.ok y hy
variable {ops : Array Oper} {rest : List Oper} {o : Oper} {a : Act} {Q : Exit → Act → World → Prop}
end MapKit
theorem qVC {P : Program} {e : TypeId} (he : P.underlying e = some .bool) : (∀ v : Bool, True → plainElem (H := Unit) P e (.bool v) = some (.lit (.bool v), [])) ∧ ∀ (v : Bool) (u : Value) ps, plainElem (H := Unit) P e u = some (.lit (.bool v), ps) → u = .bool v := by
 refine ⟨fun v _ => plainElem_bool he v, fun v u ps h => ?_⟩
 obtain ⟨x, rfl, hz⟩ := plainElem_bool_inv he h
 simp only [Prod.mk.injEq, DataW.lit.injEq, Lit.bool.injEq] at hz
 rw [hz.1]
end Go.Proofs.YtdncpkppkafkpaaDoor
namespace Go.Proofs.YtdncpkppkafkpaaDoor
open Go.RowKit Go.Proofs.YtdncpkppkafkpaaDoorW.PrintWords Go.Proofs.YtdncpkppkafkpaaDoorW.PrintLast
set_option linter.unusedVariables false
set_option linter.unusedSectionVars false
namespace MapKit
variable {P : Program} {κ ν : Type} [DecidableEq κ] {M : MapKit P κ ν} {w w1 : World} {b : Nat} {l : List (κ × ν)}
theorem Is.below (h : M.Is w b l) (hb : Below w.heap.size w w1) : M.Is w1 b l := h.qXB (hb.block b h.lt)
theorem Is.drewN (h : M.Is w b l) (n : Nat) : M.Is (w.drewN n) b l := h.qXB rfl
theorem Is.drew (h : M.Is w b l) : M.Is w.drew b l := h.qXB rfl
theorem Is.obj (h : M.Is w b l) : ∃ es clock, w.heap[b]? = some (.map es clock) := by
 obtain ⟨es, clock, hb, _⟩ := h.own
 exact ⟨es, clock, hb⟩
theorem Is.off (h : M.Is w b l) {k : Nat} {cells : Array Value} {q : TypeId} (hc : w.heap[k]? = some (.cells cells q (0, 0))) : k ≠ b := by
 rintro rfl
 obtain ⟨es, clock, hb⟩ := h.obj
 rw [hb] at hc
 cases hc
theorem Is.ne (h : M.Is w b l) {α : Type} {d : Kd α} {e base : Nat} {ok : Nat → Prop} {v : Value} {xs : List α} (hR : d.R e w base ok v xs) : some b ≠ v.ownBlock := by
 intro he
 obtain ⟨_, _, _, q, _, cells, hc⟩ := (Kd.qQB hR).1 b he.symm
 exact h.off hc rfl
theorem Is.row (h : M.Is w b l) {α : Type} {d : Kd α} {e base : Nat} {ok : Nat → Prop} {v : Value} {xs : List α} (hR : d.R e w base ok v xs) (hg : w.grownBy w1 (some b)) : d.R e w1 base ok v xs :=
 Kd.qd (Kd.qOD (Kd.qQB hR) (fun k hk hlt => hg.block k hlt (fun e_ => by
  injection e_ with e_
  obtain ⟨_, _, _, q, _, cells, hc⟩ := hk
  exact h.off hc e_))) (fun _ hk => hk.1)
end MapKit
end Go.Proofs.YtdncpkppkafkpaaDoor
namespace Go.Proofs.YtdncpkppkafkpaaDoor
open Go Go.ChangeMaps Go.MapKept
open Go.Maps (Keyed IsMap Tidy)
set_option linter.unusedVariables false
set_option linter.unusedSectionVars false
namespace MapKit
variable {P : Program} {κ ν : Type} [DecidableEq κ] (M : MapKit P κ ν)
def count : List (κ × ν) → Nat
 | [] => 0
 | x :: l => if met l x.1 = true then count l else count l + 1
theorem tidy_datum : ∀ l : List (κ × ν), (∀ y ∈ l, M.okK y.1 ∧ M.okV y.2) → Tidy (M.datum l)
 | [], _ => Go.Maps.tidy_empty
 | x :: l, h => (tidy_datum l (fun z hz => h z (List.mem_cons_of_mem _ hz))).put (M.law.key (M.hkey x.1 (h x List.mem_cons_self).1)) _
theorem size_datum : ∀ l : List (κ × ν), (∀ y ∈ l, M.okK y.1 ∧ M.okV y.2) → Go.Maps.size (M.datum l) = count l
 | [], _ => rfl
 | x :: l, h => by
  have hl : ∀ y ∈ l, M.okK y.1 ∧ M.okV y.2 := fun z hz => h z (List.mem_cons_of_mem _ hz)
  have ih := size_datum l hl
  show Go.Maps.size ((M.datum l).put (M.lit x.1) (M.dat x.2)) = _
  rw [Go.Maps.size_put (tidy_datum M l hl), M.has_datum (h x List.mem_cons_self).1 l hl, ih, count]
variable {M}
theorem Is.run_len {w : World} {b : Nat} {l : List (κ × ν)} (h : M.Is w b l) (ty : TypeId) : (Builtin.len_ #[M.t] ty #[.map (some b)]).run P w = .ok (.int .i64 (count l)) w := by
 have := h.own.len M.ht ty
 rw [size_datum M l h.ok] at this
 exact this
end MapKit
end Go.Proofs.YtdncpkppkafkpaaDoor
namespace Go.Proofs.YtdncpkppkafkpaaDoor
open Go Go.ChangeMaps Go.RowKit Go.Proofs.YtdncpkppkafkpaaDoor.P
set_option linter.unusedVariables false
set_option linter.unusedSimpArgs false
theorem keyI (n : Int) (h : (Lit.int .i64 n).wf = true) : keyOf Tryd.prog 3 (.int .i64 n) = some (.int .i64 n) := by
 rw [keyOf_int Tryd.underlying3]
 unfold mapKey
 rw [Tryd.underlying3]
 simp only [h, and_self, if_true]
noncomputable def mapI : MapKit Tryd.prog Int Bool where
 t := 64
 k := 3
 e := 4
 law := Go.Maps.int_keyed Tryd.underlying3
 ht := Tryd.underlying64
 okK := fun n => (Lit.int .i64 n).wf = true
 key := .int .i64
 lit := .int .i64
 hkey := keyI
 inj := fun x y h => by injection h
 okV := fun _ => True
 val := .bool
 dat := fun v => .lit (.bool v)
 R := plainElem Tryd.prog 4
 hval := (qVC Tryd.underlying4).1
 hdat := (qVC Tryd.underlying4).2
 zero := false
 okz := trivial
 hz := Tryd.zeroValue4
end Go.Proofs.YtdncpkppkafkpaaDoor
namespace Go.Proofs
open Go.Shelf
def Tryd.lays146_ren : Go.Shelf.Ren := ⟨fun | 146 => 46 | 221 => 63 | 268 => 79 | 138 => 80 | 143 => 81 | 195 => 90 | 197 => 83 | 218 => 91 | 219 => 92 | 260 => 93 | 217 => 99 | 225 => 100 | 224 => 101 | 267 => 102 | 266 => 116 | 314 => 117 | n => n, fun | 9 => 9 | 31 => 35 | 3 => 3 | 4 => 4 | 0 => 0 | 105 => 102 | 21 => 21 | 5 => 5 | 46 => 113 | 119 => 115 | 139 => 118 | 138 => 117 | 146 => 133 | 51 => 130 | n => n, fun | 1 => 0 | 3 => 1 | 4 => 2 | n => n⟩
theorem Tryd.lays146 : Go.Proofs.Lays.n146 Tryd.prog Tryd.lays146_ren := {
 mixed := by kernel_rfl
 f138 := Tryd.func80.trans (congrArg some (by kernel_rfl))
 f143 := Tryd.func81.trans (congrArg some (by kernel_rfl))
 f146 := Tryd.func46.trans (congrArg some (by kernel_rfl))
 f195 := Tryd.func90.trans (congrArg some (by kernel_rfl))
 f197 := Tryd.func83.trans (congrArg some (by kernel_rfl))
 f217 := Tryd.func99.trans (congrArg some (by kernel_rfl))
 f218 := Tryd.func91.trans (congrArg some (by kernel_rfl))
 f219 := Tryd.func92.trans (congrArg some (by kernel_rfl))
 f221 := Tryd.func63.trans (congrArg some (by kernel_rfl))
 f224 := Tryd.func101.trans (congrArg some (by kernel_rfl))
 f225 := Tryd.func100.trans (congrArg some (by kernel_rfl))
 f260 := Tryd.func93.trans (congrArg some (by kernel_rfl))
 f266 := Tryd.func116.trans (congrArg some (by kernel_rfl))
 f267 := Tryd.func102.trans (congrArg some (by kernel_rfl))
 f268 := Tryd.func79.trans (congrArg some (by kernel_rfl))
 f314 := Tryd.func117.trans (congrArg some (by kernel_rfl))
 t0 := Tryd.underlying0
 a0 := Tryd.isAgg0
 z0 := Tryd.sizeOf0
 v0 := Tryd.zeroValue0
 t3 := Tryd.underlying3
 a3 := Tryd.isAgg3
 z3 := Tryd.sizeOf3
 v3 := Tryd.zeroValue3
 t4 := Tryd.underlying4
 a4 := Tryd.isAgg4
 z4 := Tryd.sizeOf4
 v4 := Tryd.zeroValue4
 t5 := Tryd.underlying5
 a5 := Tryd.isAgg5
 z5 := Tryd.sizeOf5
 v5 := Tryd.zeroValue5
 t9 := Tryd.underlying9
 a9 := Tryd.isAgg9
 z9 := Tryd.sizeOf9
 v9 := Tryd.zeroValue9
 t21 := Tryd.underlying21
 a21 := Tryd.isAgg21
 z21 := Tryd.sizeOf21
 v21 := Tryd.zeroValue21
 t31 := Tryd.underlying35
 a31 := Tryd.isAgg35
 z31 := Tryd.sizeOf35
 v31 := Tryd.zeroValue35
 t46 := Tryd.underlying113
 a46 := Tryd.isAgg113
 z46 := Tryd.sizeOf113
 v46 := Tryd.zeroValue113
 t51 := Tryd.underlying130
 a51 := Tryd.isAgg130
 z51 := Tryd.sizeOf130
 v51 := Tryd.zeroValue130
 t105 := Tryd.underlying102
 a105 := Tryd.isAgg102
 z105 := Tryd.sizeOf102
 v105 := Tryd.zeroValue102
 t119 := Tryd.underlying115
 a119 := Tryd.isAgg115
 z119 := Tryd.sizeOf115
 t138 := Tryd.underlying117
 a138 := Tryd.isAgg117
 z138 := Tryd.sizeOf117
 v138 := Tryd.zeroValue117
 t139 := Tryd.underlying118
 a139 := Tryd.isAgg118
 z139 := Tryd.sizeOf118
 v139 := Tryd.zeroValue118
 t146 := Tryd.underlying133
 a146 := Tryd.isAgg133
 z146 := Tryd.sizeOf133
 v146 := Tryd.zeroValue133
 g1 := by kernel_rfl
 g3 := by kernel_rfl
 g4 := by kernel_rfl }
open Go.RowKit Go.Lib in
theorem Tryd.strings_Split (s sep : ByteArray) (m : Int) (w : World) (hs : s.size < 4294967281) (hm : w.cell? ⟨0, 0, none⟩ = some (.int .i64 m)) (h1 : 1 ≤ sep.size) :
  Calls Tryd.prog 46 #[.string s, .string sep] w fun e w' =>
   e = .returned (.slice (some ⟨w.heap.size, 0, none⟩) (Lib.countB s sep + 1) (Lib.countB s sep + 1)) ∧ w' = w.alloc (.cells ((Lib.splitB sep 0 (Lib.countB s sep) s).map Value.string).toArray 9) := Any.strings_Split Tryd.lays146 (by kernel_rfl) s sep m w hs hm h1
def Tryd.lays160_ren : Go.Shelf.Ren := ⟨fun | 160 => 47 | 232 => 65 | 231 => 64 | 227 => 66 | 234 => 68 | 233 => 67 | 236 => 70 | 235 => 69 | 228 => 82 | 271 => 85 | 151 => 84 | 197 => 83 | 120 => 95 | 152 => 94 | 260 => 93 | 137 => 103 | 119 => 104 | 224 => 101 | 225 => 100 | 217 => 99 | 266 => 116 | n => n, fun | 9 => 9 | 4 => 4 | 3 => 3 | 5 => 5 | 117 => 86 | 116 => 85 | 0 => 0 | 124 => 89 | 21 => 21 | 105 => 102 | 46 => 113 | 119 => 115 | 139 => 118 | 138 => 117 | n => n, fun | 3 => 1 | 4 => 2 | n => n⟩
theorem Tryd.lays160 : Go.Proofs.Lays.n160 Tryd.prog Tryd.lays160_ren := {
 mixed := by kernel_rfl
 f119 := Tryd.func104.trans (congrArg some (by kernel_rfl))
 f120 := Tryd.func95.trans (congrArg some (by kernel_rfl))
 f137 := Tryd.func103.trans (congrArg some (by kernel_rfl))
 f151 := Tryd.func84.trans (congrArg some (by kernel_rfl))
 f152 := Tryd.func94.trans (congrArg some (by kernel_rfl))
 f160 := Tryd.func47.trans (congrArg some (by kernel_rfl))
 f197 := Tryd.func83.trans (congrArg some (by kernel_rfl))
 f217 := Tryd.func99.trans (congrArg some (by kernel_rfl))
 f224 := Tryd.func101.trans (congrArg some (by kernel_rfl))
 f225 := Tryd.func100.trans (congrArg some (by kernel_rfl))
 f227 := Tryd.func66.trans (congrArg some (by kernel_rfl))
 f228 := Tryd.func82.trans (congrArg some (by kernel_rfl))
 f231 := Tryd.func64.trans (congrArg some (by kernel_rfl))
 f232 := Tryd.func65.trans (congrArg some (by kernel_rfl))
 f233 := Tryd.func67.trans (congrArg some (by kernel_rfl))
 f234 := Tryd.func68.trans (congrArg some (by kernel_rfl))
 f235 := Tryd.func69.trans (congrArg some (by kernel_rfl))
 f236 := Tryd.func70.trans (congrArg some (by kernel_rfl))
 f260 := Tryd.func93.trans (congrArg some (by kernel_rfl))
 f266 := Tryd.func116.trans (congrArg some (by kernel_rfl))
 f271 := Tryd.func85.trans (congrArg some (by kernel_rfl))
 t0 := Tryd.underlying0
 a0 := Tryd.isAgg0
 z0 := Tryd.sizeOf0
 v0 := Tryd.zeroValue0
 t3 := Tryd.underlying3
 a3 := Tryd.isAgg3
 z3 := Tryd.sizeOf3
 v3 := Tryd.zeroValue3
 t4 := Tryd.underlying4
 a4 := Tryd.isAgg4
 z4 := Tryd.sizeOf4
 v4 := Tryd.zeroValue4
 t5 := Tryd.underlying5
 a5 := Tryd.isAgg5
 z5 := Tryd.sizeOf5
 v5 := Tryd.zeroValue5
 t9 := Tryd.underlying9
 a9 := Tryd.isAgg9
 z9 := Tryd.sizeOf9
 v9 := Tryd.zeroValue9
 t21 := Tryd.underlying21
 a21 := Tryd.isAgg21
 z21 := Tryd.sizeOf21
 v21 := Tryd.zeroValue21
 t46 := Tryd.underlying113
 a46 := Tryd.isAgg113
 z46 := Tryd.sizeOf113
 v46 := Tryd.zeroValue113
 t105 := Tryd.underlying102
 a105 := Tryd.isAgg102
 z105 := Tryd.sizeOf102
 v105 := Tryd.zeroValue102
 t116 := Tryd.underlying85
 a116 := Tryd.isAgg85
 z116 := Tryd.sizeOf85
 t117 := Tryd.underlying86
 a117 := Tryd.isAgg86
 z117 := Tryd.sizeOf86
 v117 := Tryd.zeroValue86
 t119 := Tryd.underlying115
 a119 := Tryd.isAgg115
 z119 := Tryd.sizeOf115
 t124 := Tryd.underlying89
 a124 := Tryd.isAgg89
 z124 := Tryd.sizeOf89
 v124 := Tryd.zeroValue89
 t138 := Tryd.underlying117
 a138 := Tryd.isAgg117
 z138 := Tryd.sizeOf117
 v138 := Tryd.zeroValue117
 t139 := Tryd.underlying118
 a139 := Tryd.isAgg118
 z139 := Tryd.sizeOf118
 v139 := Tryd.zeroValue118
 g3 := by kernel_rfl
 g4 := by kernel_rfl }
end Go.Proofs
namespace Go.Proofs.YtdncpkppkafkpaaDoor
open Go.RowKit Go.Proofs.YtdncpkppkafkpaaDoorW.PrintWords Go.Proofs.YtdncpkppkafkpaaDoorW.PrintLast
set_option linter.unusedVariables false
set_option linter.unusedSimpArgs false
def strings_Split.f (a0 a1 : ByteArray) : Option (List ByteArray) := if a0.size < 4294967281 ∧ 1 ≤ a1.size then some (Lib.splitB a1 0 (Lib.countB a0 a1) a0) else none
theorem strings_Split.calls (a0 a1 : ByteArray) (r : List ByteArray) (w : World) (hL : Laid w) (h : strings_Split.f a0 a1 = some r) :
  Calls Tryd.prog 46 #[.string a0, .string a1] w fun e w' => ∃ v0_ : Value, e = .returned v0_ ∧ Kd.R Kd.string 9 w' w.heap.size (fun _ => True) v0_ r ∧ Below w.heap.size w w' := by
 unfold strings_Split.f at h
 split at h
 ·rename_i hs
  obtain rfl := Option.some.inj h
  obtain ⟨m, hm⟩ := hL
  have hlen := Lib.splitB_all a1 hs.2 0 _ a0 rfl
  have hle := Lib.countB_le a1 hs.2 a0.size a0 (Nat.le_refl _)
  refine (Tryd.strings_Split a0 a1 m w hs.1 hm hs.2).mono fun e w' ⟨h1, h2⟩ => ⟨_, h1, ?_, ?_⟩
  ·subst h2
   generalize Lib.splitB a1 0 (Lib.countB a0 a1) a0 = l at *
   rw [← hlen]
   refine Kd.R_of_own ⟨by rw [qLC, Nat.mul_one], .inr ⟨w.heap.size, l.length, (l.map Value.string).toArray, rfl, Nat.le_refl _, ?_, Nat.le_refl _, ?_, ?_, ?_⟩⟩ (fun _ _ => trivial)
   ·exact blk_new _ _
   ·unfold maxLen; omega
   ·simp
   ·simp only [encs, Nat.mul_one]
    rw [List.take_of_length_le (by simp)]
  ·subst h2
   exact qBA (Below.refl _ _) _
 ·cases h
def qvA.f (a0 a1 : ByteArray) : Option ByteArray := if a0.size ≤ 9223372036854775807 ∧ a1.size < 4294967281 ∧ (a1.data.toList.all fun b => decide (b.toNat < 128)) = true then some ⟨(Lib.trimS a0.data.toList a1.data.toList).toArray⟩ else none
theorem qvA.calls (a0 a1 : ByteArray) (r : ByteArray) (w : World) (h : qvA.f a0 a1 = some r) :
  Calls Tryd.prog 47 #[.string a0, .string a1] w fun e w' => e = .returned (.string r) ∧ Below w.heap.size w w' := by
 unfold qvA.f at h
 split at h
 ·rename_i hs
  obtain rfl := Option.some.inj h
  exact Any.strings_Trim_laid Tryd.lays160 (by kernel_rfl) a0 a1 w hs.1 hs.2.1 (ascii_of_all hs.2.2)
 ·cases h
end Go.Proofs.YtdncpkppkafkpaaDoor
