/- The program's UpCells returns what the reference's returns, for all texts and boxes (the law lets longer texts by). No further condition. -/
import Derived.Test.YtbpfhpjbeomfcaaDoorKFnExactUpCells2
import Derived.Shelf.SlGeneric
import Derived.Shelf.Small.Strs
import Derived.Shelf.Strings.Search1
import Derived.Ground.NamesProg
import Derived.Shelf.Strings.Search2
import Derived.Shelf.Strings.Search3
import Derived.Shelf.Strings.Split
import Derived.Shelf.Strings.Count
import Derived.Shelf.Strings.SlTrimAscii
import Derived.Test.YtbpfhpjbeomfcaaDoorProg
import Derived.Laws.Append
import Derived.Laws.AppendOwn
import Derived.Maps.AppendAt

namespace Go.Proofs.YtbpfhpjbeomfcaaDoor.P
open Go.RowKit Go.Proofs.YtbpfhpjbeomfcaaDoorW.PrintWords Go.Proofs.YtbpfhpjbeomfcaaDoorW.PrintLast Go.Proofs.YtbpfhpjbeomfcaaDoorW.PrintMore
attribute [local go_sem] qBA qz qKA qJA qq qp qAA qy
set_option linter.unusedVariables false
set_option linter.unusedSimpArgs false
def qCA.l0 : Nat → List Int → List Int → Int → Int → Int → Int → List Int → List (S27) → List ByteArray → Option (List Int × Bool)
 | 0, _, _, _, _, _, _, _, _, _ => none
 | k + 1, x9, x23, x24, x25, x847000, x847001, x847002, x848000, x848001 => if x25 < x24 then (if 0 ≤ x25 then (if x25 < (x23.length : Int) then (if 0 ≤ (rd x23 x25) then (if (rd x23 x25) < (x848000.length : Int) then (if ((qI x848000 (rd x23 x25)).f2) = 0 then (if x9.length < 17592186044416 then (qCA.l0 k (x9 ++ [wrap64 ((wrap64 (((qI x848000 (rd x23 x25)).f1) * x847000)) + ((qI x848000 (rd x23 x25)).f0))]) x23 x24 (wrap64 (x25 + 1)) x847000 x847001 x847002 x848000 x848001) else (none)) else (qCA.l0 k x9 x23 x24 (wrap64 (x25 + 1)) x847000 x847001 x847002 x848000 x848001)) else (none)) else (none)) else (none)) else (none)) else (some (x9, true))
def qCA.f (k : Nat) (a0 : ByteArray) (a1_0 : Int) (a1_1 : Int) (a1_2 : Int) : Option (List Int × Bool) := (qbA.f k a0 a1_0 a1_1 a1_2).bind fun bt834 => (if bt834.2.2.2.2.2 = true then ((qa.f k bt834.2.2.2.1 bt834.2.2.2.2.1).bind fun t848 => (qCA.l0 k ([] : List Int) t848 (t848.length : Int) 0 bt834.1 bt834.2.1 bt834.2.2.1 bt834.2.2.2.1 bt834.2.2.2.2.1)) else (some (([] : List Int), false)))
set_option maxHeartbeats 8000000 in
set_option maxRecDepth 100000 in
theorem qCA.calls (k : Nat) (a0 : ByteArray) (a1_0 : Int) (a1_1 : Int) (a1_2 : Int) (r1 : List Int) (r2 : Bool) (w : World) (h : qCA.f k a0 a1_0 a1_1 a1_2 = some (r1, r2)) :
  Calls Tryd.prog 43 #[.string a0, .agg #[.int .i64 a1_0, .int .i64 a1_1, .int .i64 a1_2]] w fun e w' => ∃ v0_ : Value, e = .returned (.tuple #[v0_, .bool r2]) ∧ Kd.R (Kd.int .i64) 3 w' w.heap.size (fun _ => True) v0_ r1 ∧ Below w.heap.size w w' := by
 have hu27 := Tryd.underlying27
 have hu57 := Tryd.underlying57
 have hu75 := Tryd.underlying75
 have HB := Aside0.mk (Below.refl w.heap.size w)
 have H : ((qbA.f k a0 a1_0 a1_1 a1_2).bind fun bt834 => (if bt834.2.2.2.2.2 = true then ((qa.f k bt834.2.2.2.1 bt834.2.2.2.2.1).bind fun t848 => (qCA.l0 k ([] : List Int) t848 (t848.length : Int) 0 bt834.1 bt834.2.1 bt834.2.2.1 bt834.2.2.2.1 bt834.2.2.2.2.1)) else (some (([] : List Int), false)))) = some (r1, r2) := h
 clear h
 replace H := Option.bind_eq_some_iff.mp H
 obtain ⟨⟨t834, t835, t836, t839, t842, t845⟩, A30, H⟩ := H
 replace H : (if t845 = true then ((qa.f k t839 t842).bind fun t848 => (qCA.l0 k ([] : List Int) t848 (t848.length : Int) 0 t834 t835 t836 t839 t842)) else (some (([] : List Int), false))) = some (r1, r2) := H
 have A3 := Aside0.mk A30
 clear A30
 by_cases c4 : t845 = true
 ·subst c4
  have H1 : ((qa.f k t839 t842).bind fun t848 => (qCA.l0 k ([] : List Int) t848 (t848.length : Int) 0 t834 t835 t836 t839 t842)) = some (r1, r2) := by rw [if_pos rfl] at H; exact H
  clear H
  have H := H1
  clear H1
  replace H := Option.bind_eq_some_iff.mp H
  obtain ⟨t848, A50, H⟩ := H
  replace H : (qCA.l0 k ([] : List Int) t848 (t848.length : Int) 0 t834 t835 t836 t839 t842) = some (r1, r2) := H
  have A5 := Aside0.mk A50
  clear A50
  have H' := Aside0.mk H
  clear H
  go_enter Tryd.func43, Tryd.ntmps43
  go_wp2_with (first | ((with_reducible refine qe (N := 3) rfl ?_); refine qb ?hg (N := 3) ?hd (cs := #[.int .i64 a1_0, .int .i64 a1_1, .int .i64 a1_2]) (t := 27) ?hr ?_; (case hd => rfl); (case hg => rfl); (case hr => first | (go_simp; done) | (go_simp; rfl)); intro gb833 hg w6 hbox hb; have n0_ := Aside0.mk (qH bl hb); have n1_ := Aside0.mk (hbox); have n2_ := Aside0.mk ((gg hg)); have n3_ := Aside0.mk ((gg hg)); clear HB; have HB := n0_; have BK833 := n1_; have GW833 := n2_; have GE833 := n3_; clear n0_ n1_ n2_ n3_; clear hb hbox hg; have hcz7_0 := bc BK833 0; have hcz7_1 := bc BK833 1; have hcz7_2 := bc BK833 2; have hfz7_0 := qD BK833.out 0; have hfz7_1 := qD BK833.out 1; have hfz7_2 := qD BK833.out 2) | ((with_reducible refine qT (f := 65) rfl ?_); refine qDA (some 16) rfl rfl Tryd.func65 (by kernel_rfl) rfl #[.string a0, .agg #[.int .i64 a1_0, .int .i64 a1_1, .int .i64 a1_2]] rfl (by (try simp only [List.map_toArray, List.map_cons, List.map_nil]); first | done | rfl | (simp only [List.length_drop, List.length_take]; rfl)) ?_; (with_reducible refine (qbA.calls k a0 a1_0 a1_1 a1_2 t834 t835 t836 t839 t842 true _ A3.out).mono ?_); rintro e w8 ⟨v837, v840, v843, rfl, ho0, ho1, ho2, hb⟩; refine ⟨_, rfl, ?_⟩; have n0_ := Aside0.mk (Kd.qEA ho0 (qh bl)); have n1_ := Aside0.mk (Kd.qEA (Kd.qXB ho1 (g := gb833) (o := .cells #[.int .i64 a1_0, .int .i64 a1_1, .int .i64 a1_2] 27 (0, 0)) (by (with_reducible repeat (first | refine qB ?_ _ | refine qC ?_ | refine qA ?_ _)); exact BK833.out)) (qh bl)); have n2_ := Aside0.mk (Kd.qEA ho2 (qh bl)); have n3_ := Aside0.mk (bb BK833 hb); have n4_ := Aside0.mk (qH bl hb); clear BK833; clear HB; have HO838 := n0_; have HO841 := n1_; have HO844 := n2_; have BK833 := n3_; have HB := n4_; clear n0_ n1_ n2_ n3_ n4_; (try clear hb); (try clear hb2); (try clear hk); (try clear hi); (try clear ho0); (try clear ho1); (try clear ho2)) | ((with_reducible refine qe (N := 6) rfl ?_); refine qb ?hg (N := 6) ?hd (cs := #[.int .i64 0, .int .i64 0, .slice none 0 0]) (t := 57) ?hr ?_; (case hd => rfl); (case hg => rfl); (case hr => first | (go_simp; done) | (go_simp; rfl)); intro gb846 hg w9 hbox hb; have n0_ := Aside0.mk (Kd.qU (by (with_reducible repeat (first | apply Kd.qF | apply Kd.qE | apply Kd.qG)); exact HO838.out) hb); have n1_ := Aside0.mk (Kd.qU (by (with_reducible repeat (first | apply Kd.qF | apply Kd.qE | apply Kd.qG)); exact HO841.out) hb); have n2_ := Aside0.mk (Kd.qU (by (with_reducible repeat (first | apply Kd.qF | apply Kd.qE | apply Kd.qG)); exact HO844.out) hb); have n3_ := Aside0.mk (bb BK833 hb); have n4_ := Aside0.mk (qH bl hb); have n5_ := Aside0.mk (hbox); have n6_ := Aside0.mk ((gg hg)); have n7_ := Aside0.mk ((gg hg)); have n8_ := Aside0.mk ((nl BK833 hg)); have n9_ := Aside0.mk ((nr BK833 hg)); clear HO838; clear HO841; clear HO844; clear BK833; clear HB; have HO838 := n0_; have HO841 := n1_; have HO844 := n2_; have BK833 := n3_; have HB := n4_; have BK846 := n5_; have GW846 := n6_; have GE846 := n7_; have NB833_846 := n8_; have NB846_833 := n9_; clear n0_ n1_ n2_ n3_ n4_ n5_ n6_ n7_ n8_ n9_; clear hb hbox hg) | ((with_reducible refine qe (N := 7) rfl ?_); refine qb ?hg (N := 7) ?hd (cs := #[.slice none 0 0, .slice none 0 0]) (t := 75) ?hr ?_; (case hd => rfl); (case hg => rfl); (case hr => first | (go_simp; done) | (go_simp; rfl)); intro gb847 hg w10 hbox hb; have n0_ := Aside0.mk (Kd.qU (by (with_reducible repeat (first | apply Kd.qF | apply Kd.qE | apply Kd.qG)); exact HO838.out) hb); have n1_ := Aside0.mk (Kd.qU (by (with_reducible repeat (first | apply Kd.qF | apply Kd.qE | apply Kd.qG)); exact HO841.out) hb); have n2_ := Aside0.mk (Kd.qU (by (with_reducible repeat (first | apply Kd.qF | apply Kd.qE | apply Kd.qG)); exact HO844.out) hb); have n3_ := Aside0.mk (bb BK833 hb); have n4_ := Aside0.mk (bb BK846 hb); have n5_ := Aside0.mk (qH bl hb); have n6_ := Aside0.mk (hbox); have n7_ := Aside0.mk ((gg hg)); have n8_ := Aside0.mk ((gg hg)); have n9_ := Aside0.mk ((nl BK833 hg)); have n10_ := Aside0.mk ((nr BK833 hg)); have n11_ := Aside0.mk ((nl BK846 hg)); have n12_ := Aside0.mk ((nr BK846 hg)); clear HO838; clear HO841; clear HO844; clear BK833; clear BK846; clear HB; have HO838 := n0_; have HO841 := n1_; have HO844 := n2_; have BK833 := n3_; have BK846 := n4_; have HB := n5_; have BK847 := n6_; have GW847 := n7_; have GE847 := n8_; have NB833_847 := n9_; have NB847_833 := n10_; have NB846_847 := n11_; have NB847_846 := n12_; clear n0_ n1_ n2_ n3_ n4_ n5_ n6_ n7_ n8_ n9_ n10_ n11_ n12_; clear hb hbox hg; have hnb11 := NB846_833.out; have hnc11 := NB833_846.out; have hnb12 := NB846_847.out; have hnc12 := NB847_846.out; have hcz13_0 := bc BK846 0; have hcz13_1 := bc BK846 1; have hcz13_2 := bc BK846 2; have hfz13_0 := qD BK846.out 0; have hfz13_1 := qD BK846.out 1; have hfz13_2 := qD BK846.out 2; obtain ⟨Ao14, co14, eo14⟩ := Kd.qm HO838.out; subst eo14; obtain ⟨Ao15, co15, eo15⟩ := Kd.qm HO841.out; subst eo15; have hnb16 := NB847_833.out; have hnc16 := NB833_847.out; have hcz17_0 := bc BK847 0; have hcz17_1 := bc BK847 1; have hfz17_0 := qD BK847.out 0; have hfz17_1 := qD BK847.out 1; obtain ⟨Ao18, co18, eo18⟩ := Kd.qm HO844.out; subst eo18) | ((with_reducible refine qT (f := 73) rfl ?_); refine qDA (some 23) rfl rfl Tryd.func73 (by kernel_rfl) rfl #[.agg #[.slice Ao15 t839.length co15, .slice Ao18 t842.length co18]] rfl (by (try simp only [List.map_toArray, List.map_cons, List.map_nil]); first | done | rfl | (simp only [List.length_drop, List.length_take]; rfl)) ?_; (with_reducible refine (qa.calls k _ _ t839 _ _ t842 t848 _ ?side1 ?side2 ?side3 ?side4 A5.out).mono ?_); (case side1 => refine (Kd.qS (e := 27) (base := w.heap.size) (ok := fun k_ => (True ∧ k_ ≠ gb833)) (n := t839.length) (c := co15) ?_).2.2; exact (by (with_reducible repeat (first | apply Kd.qF | apply Kd.qE | apply Kd.qG)); exact (Kd.qg (Kd.qg (Kd.R_far (p := ⟨gb847, 1, none⟩) (Kd.R_far (p := ⟨gb847, 0, none⟩) (Kd.R_far (p := ⟨gb846, 2, none⟩) (Kd.R_far (p := ⟨gb846, 1, none⟩) (Kd.R_far (p := ⟨gb846, 0, none⟩) (Kd.qn (Kd.qn HO841.out BK846.out (by decide)) BK847.out (by decide)) (fun _ hk => hk.1.2) (.int .i64 t834)) (fun _ hk => hk.1.2) (.int .i64 t835)) (fun _ hk => hk.1.2) (.slice Ao14 t836.length co14)) (fun _ hk => hk.2) (.slice Ao15 t839.length co15)) (fun _ hk => hk.2) (.slice Ao18 t842.length co18)) (fun _ h_ => h_.1)) (fun _ h_ => h_.1)))); (case side2 => exact (Kd.qS HO841.out).2.1); (case side3 => refine (Kd.qS (e := 9) (base := w.heap.size) (ok := fun k_ => True) (n := t842.length) (c := co18) ?_).2.2; exact (by (with_reducible repeat (first | apply Kd.qF | apply Kd.qE | apply Kd.qG)); exact (Kd.qg (Kd.qg (Kd.R_far (p := ⟨gb847, 1, none⟩) (Kd.R_far (p := ⟨gb847, 0, none⟩) (Kd.R_far (p := ⟨gb846, 2, none⟩) (Kd.R_far (p := ⟨gb846, 1, none⟩) (Kd.R_far (p := ⟨gb846, 0, none⟩) (Kd.qn (Kd.qn HO844.out BK846.out (by decide)) BK847.out (by decide)) (fun _ hk => hk.1.2) (.int .i64 t834)) (fun _ hk => hk.1.2) (.int .i64 t835)) (fun _ hk => hk.1.2) (.slice Ao14 t836.length co14)) (fun _ hk => hk.2) (.slice Ao15 t839.length co15)) (fun _ hk => hk.2) (.slice Ao18 t842.length co18)) (fun _ h_ => h_.1)) (fun _ h_ => h_.1)))); (case side4 => exact (Kd.qS HO844.out).2.1); rintro e w19 ⟨v849, rfl, ho0, hb⟩; refine ⟨_, rfl, ?_⟩; have n0_ := Aside0.mk (Kd.qU (by (with_reducible repeat (first | apply Kd.qF | apply Kd.qE | apply Kd.qG)); exact (Kd.qg (Kd.qg (Kd.R_far (p := ⟨gb847, 1, none⟩) (Kd.R_far (p := ⟨gb847, 0, none⟩) (Kd.R_far (p := ⟨gb846, 2, none⟩) (Kd.R_far (p := ⟨gb846, 1, none⟩) (Kd.R_far (p := ⟨gb846, 0, none⟩) (Kd.qn (Kd.qn HO838.out BK846.out (by decide)) BK847.out (by decide)) (fun _ hk => hk.1.2) (.int .i64 t834)) (fun _ hk => hk.1.2) (.int .i64 t835)) (fun _ hk => hk.1.2) (.slice Ao14 t836.length co14)) (fun _ hk => hk.2) (.slice Ao15 t839.length co15)) (fun _ hk => hk.2) (.slice Ao18 t842.length co18)) (fun _ h_ => h_.1)) (fun _ h_ => h_.1))) hb); have n1_ := Aside0.mk (Kd.qU (by (with_reducible repeat (first | apply Kd.qF | apply Kd.qE | apply Kd.qG)); exact (Kd.qg (Kd.qg (Kd.R_far (p := ⟨gb847, 1, none⟩) (Kd.R_far (p := ⟨gb847, 0, none⟩) (Kd.R_far (p := ⟨gb846, 2, none⟩) (Kd.R_far (p := ⟨gb846, 1, none⟩) (Kd.R_far (p := ⟨gb846, 0, none⟩) (Kd.qn (Kd.qn HO841.out BK846.out (by decide)) BK847.out (by decide)) (fun _ hk => hk.1.2) (.int .i64 t834)) (fun _ hk => hk.1.2) (.int .i64 t835)) (fun _ hk => hk.1.2) (.slice Ao14 t836.length co14)) (fun _ hk => hk.2) (.slice Ao15 t839.length co15)) (fun _ hk => hk.2) (.slice Ao18 t842.length co18)) (fun _ h_ => h_.1)) (fun _ h_ => h_.1))) hb); have n2_ := Aside0.mk (Kd.qU (by (with_reducible repeat (first | apply Kd.qF | apply Kd.qE | apply Kd.qG)); exact (Kd.qg (Kd.qg (Kd.R_far (p := ⟨gb847, 1, none⟩) (Kd.R_far (p := ⟨gb847, 0, none⟩) (Kd.R_far (p := ⟨gb846, 2, none⟩) (Kd.R_far (p := ⟨gb846, 1, none⟩) (Kd.R_far (p := ⟨gb846, 0, none⟩) (Kd.qn (Kd.qn HO844.out BK846.out (by decide)) BK847.out (by decide)) (fun _ hk => hk.1.2) (.int .i64 t834)) (fun _ hk => hk.1.2) (.int .i64 t835)) (fun _ hk => hk.1.2) (.slice Ao14 t836.length co14)) (fun _ hk => hk.2) (.slice Ao15 t839.length co15)) (fun _ hk => hk.2) (.slice Ao18 t842.length co18)) (fun _ h_ => h_.1)) (fun _ h_ => h_.1))) hb); have n3_ := Aside0.mk (Kd.qEA ho0 (qh bl)); have n4_ := Aside0.mk (qTA (g := gb833) (o := .cells #[.int .i64 a1_0, .int .i64 a1_1, .int .i64 a1_2] 27 (0, 0)) (by (with_reducible repeat (first | refine qB ?_ _ | refine qC ?_ | refine qA ?_ _)); refine qM ?_ NB833_847.out _; (with_reducible repeat (first | refine qB ?_ _ | refine qC ?_ | refine qA ?_ _)); refine qM ?_ NB833_847.out _; (with_reducible repeat (first | refine qB ?_ _ | refine qC ?_ | refine qA ?_ _)); refine qM ?_ NB833_846.out _; (with_reducible repeat (first | refine qB ?_ _ | refine qC ?_ | refine qA ?_ _)); refine qM ?_ NB833_846.out _; (with_reducible repeat (first | refine qB ?_ _ | refine qC ?_ | refine qA ?_ _)); refine qM ?_ NB833_846.out _; (with_reducible repeat (first | refine qB ?_ _ | refine qC ?_ | refine qA ?_ _)); exact BK833.out) hb); have n5_ := Aside0.mk (qTA (g := gb846) (o := .cells #[.int .i64 t834, .int .i64 t835, .slice Ao14 t836.length co14] 57 (0, 0)) (by (with_reducible repeat (first | refine qB ?_ _ | refine qC ?_ | refine qA ?_ _)); refine qM ?_ NB846_847.out _; (with_reducible repeat (first | refine qB ?_ _ | refine qC ?_ | refine qA ?_ _)); refine qM ?_ NB846_847.out _; (with_reducible repeat (first | refine qB ?_ _ | refine qC ?_ | refine qA ?_ _)); refine qP (cs := #[.int .i64 t834, .int .i64 t835, .slice none 0 0]) ?_ 2 _ rfl; (with_reducible repeat (first | refine qB ?_ _ | refine qC ?_ | refine qA ?_ _)); refine qP (cs := #[.int .i64 t834, .int .i64 0, .slice none 0 0]) ?_ 1 _ rfl; (with_reducible repeat (first | refine qB ?_ _ | refine qC ?_ | refine qA ?_ _)); refine qP (cs := #[.int .i64 0, .int .i64 0, .slice none 0 0]) ?_ 0 _ rfl; (with_reducible repeat (first | refine qB ?_ _ | refine qC ?_ | refine qA ?_ _)); exact BK846.out) hb); have n6_ := Aside0.mk (qTA (g := gb847) (o := .cells #[.slice Ao15 t839.length co15, .slice Ao18 t842.length co18] 75 (0, 0)) (by (with_reducible repeat (first | refine qB ?_ _ | refine qC ?_ | refine qA ?_ _)); refine qP (cs := #[.slice Ao15 t839.length co15, .slice none 0 0]) ?_ 1 _ rfl; (with_reducible repeat (first | refine qB ?_ _ | refine qC ?_ | refine qA ?_ _)); refine qP (cs := #[.slice none 0 0, .slice none 0 0]) ?_ 0 _ rfl; (with_reducible repeat (first | refine qB ?_ _ | refine qC ?_ | refine qA ?_ _)); refine qM ?_ NB847_846.out _; (with_reducible repeat (first | refine qB ?_ _ | refine qC ?_ | refine qA ?_ _)); refine qM ?_ NB847_846.out _; (with_reducible repeat (first | refine qB ?_ _ | refine qC ?_ | refine qA ?_ _)); refine qM ?_ NB847_846.out _; (with_reducible repeat (first | refine qB ?_ _ | refine qC ?_ | refine qA ?_ _)); exact BK847.out) hb); have n7_ := Aside0.mk (qH bl hb); clear HO838; clear HO841; clear HO844; clear BK833; clear BK846; clear BK847; clear HB; have HO838 := n0_; have HO841 := n1_; have HO844 := n2_; have HO850 := n3_; have BK833 := n4_; have BK846 := n5_; have BK847 := n6_; have HB := n7_; clear n0_ n1_ n2_ n3_ n4_ n5_ n6_ n7_; (try clear hb); (try clear hb2); (try clear hk); (try clear hi); (try clear ho0); obtain ⟨Ao20, co20, eo20⟩ := Kd.qm HO850.out; subst eo20))
  go_loopg [9, 25] k (fun kq v9 v25 w' => ∃ (x9_1 : List Int) (x25_1 : Int), v25 = .int .i64 x25_1 ∧ Aside0 (qCA.l0 kq x9_1 t848 (t848.length : Int) x25_1 t834 t835 t836 t839 t842 = some (r1, r2)) ∧ Aside0 (kq ≤ k) ∧ Aside0 (Kd.R (Kd.int .i64) 3 w' w.heap.size (fun k_ => some k_ ≠ ((.slice Ao20 t848.length co20) : Value).ownBlock) v9 x9_1) ∧ Aside0 (Kd.R (Kd.int .i64) 3 w' w.heap.size (fun k_ => some k_ ≠ (v9 : Value).ownBlock) (.slice Ao20 t848.length co20) t848) ∧ Aside0 (Kd.R (Kd.int .u8) 5 w' w.heap.size (fun _ => True) (.slice Ao14 t836.length co14) t836) ∧ Aside0 (Kd.R k27 27 w' w.heap.size (fun k_ => k_ ≠ gb833) (.slice Ao15 t839.length co15) t839) ∧ Aside0 (Kd.R Kd.string 9 w' w.heap.size (fun _ => True) (.slice Ao18 t842.length co18) t842) ∧ Aside0 (w'.heap[gb833]? = some (.cells #[.int .i64 a1_0, .int .i64 a1_1, .int .i64 a1_2] 27 (0, 0))) ∧ Aside0 (w'.heap[gb846]? = some (.cells #[.int .i64 t834, .int .i64 t835, (.slice Ao14 t836.length co14)] 57 (0, 0))) ∧ Aside0 (w'.heap[gb847]? = some (.cells #[(.slice Ao15 t839.length co15), (.slice Ao18 t842.length co18)] 75 (0, 0))) ∧ Aside0 (Below w.heap.size w w'))
  case atStart => exact ⟨(([] : List Int)), (0), (by first | rfl | (simp; done) | (simp [*]; done)), H', ⟨Nat.le_refl _⟩, ⟨by first | exact Kd.R_nil _ _ _ _ _ | exact Kd.N_nil _ _ _ _ _ | exact Kd.V_nil _ _ _ _ _ | exact Kd.Q_nil _ _ _ _ _ | exact Kd.S_nil _ _ _ _ _⟩, ⟨by (with_reducible repeat (first | apply Kd.qF | apply Kd.qE | apply Kd.qG)); exact Kd.qg HO850.out (fun _ hk => (by simp [Value.ownBlock]))⟩, ⟨by (with_reducible repeat (first | apply Kd.qF | apply Kd.qE | apply Kd.qG)); exact HO838.out⟩, ⟨by (with_reducible repeat (first | apply Kd.qF | apply Kd.qE | apply Kd.qG)); exact Kd.qg HO841.out (fun _ hk => hk.2)⟩, ⟨by (with_reducible repeat (first | apply Kd.qF | apply Kd.qE | apply Kd.qG)); exact HO844.out⟩, ⟨by (with_reducible repeat (first | refine qB ?_ _ | refine qC ?_ | refine qA ?_ _)); exact BK833.out⟩, ⟨by (with_reducible repeat (first | refine qB ?_ _ | refine qC ?_ | refine qA ?_ _)); exact BK846.out⟩, ⟨by (with_reducible repeat (first | refine qB ?_ _ | refine qC ?_ | refine qA ?_ _)); exact BK847.out⟩, ⟨bl⟩⟩
  case round =>
   clear H'
   try clear c1
   try clear p2
   try clear c4
   try clear c6
   try clear c7
   try clear c11
   try clear c12
   try clear c16
   try clear hcz13_0
   try clear hcz13_1
   try clear hcz13_2
   try clear hcz17_0
   try clear hcz17_1
   try clear hcz7_0
   try clear hcz7_1
   try clear hcz7_2
   try clear hfz13_0
   try clear hfz13_1
   try clear hfz13_2
   try clear hfz17_0
   try clear hfz17_1
   try clear hfz7_0
   try clear hfz7_1
   try clear hfz7_2
   obtain ⟨x9_1, x25_1, rfl, HA, HK1, HO_9, HO_23, HO_847002, HO_848000, HO_848001, BK833, BK846, BK847, HB⟩ := hrel
   cases gk with
   | zero => exact absurd HA.out (by simp [qCA.l0])
   | succ k1 =>
    have H := HA.out
    clear HA
    simp only [qCA.l0] at H
    by_cases c21 : x25_1 < (t848.length : Int)
    ·rw [if_pos c21] at H
     have c21b0 : decide (x25_1 < (t848.length : Int)) = true := decide_eq_true c21
     clear c21
     by_cases c22 : 0 ≤ x25_1
     ·rw [if_pos c22] at H
      have c22b0 : decide (0 ≤ x25_1) = true := decide_eq_true c22
      clear c22
      by_cases c23 : x25_1 < (t848.length : Int)
      ·rw [if_pos c23] at H
       have c23b0 : decide (x25_1 < (t848.length : Int)) = true := decide_eq_true c23
       clear c23
       by_cases c24 : 0 ≤ (rd t848 x25_1)
       ·rw [if_pos c24] at H
        have c24b0 : decide (0 ≤ (rd t848 x25_1)) = true := decide_eq_true c24
        clear c24
        by_cases c25 : (rd t848 x25_1) < (t839.length : Int)
        ·rw [if_pos c25] at H
         have c25b0 : decide ((rd t848 x25_1) < (t839.length : Int)) = true := decide_eq_true c25
         clear c25
         by_cases c26 : ((qI t839 (rd t848 x25_1)).f2) = 0
         ·rw [if_pos c26] at H
          have c26b0 : (((qI t839 (rd t848 x25_1)).f2) == 0) = true := beq_iff_eq.mpr c26
          have c26b1 : (((qI t839 (rd t848 x25_1)).f2) != 0) = false := bne_eq_false_iff_eq.mpr c26
          clear c26
          by_cases c27 : x9_1.length < 17592186044416
          ·rw [if_pos c27] at H
           have LMc27 := Aside0.mk c27
           clear c27
           obtain ⟨y854, hy854⟩ : ∃ y_ : List Int, y_ = (x9_1 ++ [wrap64 ((wrap64 (((qI t839 (rd t848 x25_1)).f1) * t834)) + ((qI t839 (rd t848 x25_1)).f0))]) := ⟨_, rfl⟩
           replace H : (qCA.l0 k1 y854 t848 (t848.length : Int) (wrap64 (x25_1 + 1)) t834 t835 t836 t839 t842) = some (r1, r2) := by first | (rw [hy854]; with_reducible exact H) | (have H2_ := (Option.bind_some _ _).symm.trans H; rw [hy854]; with_reducible exact H2_) | (have H2_ := (Option.bind_some _ _).symm.trans H; with_reducible exact H2_) | with_reducible exact H | (rw [hy854]; exact H) | exact H
           have Ny854 := Aside0.mk hy854
           clear hy854
           have H' := Aside0.mk H
           clear H
           have p851 : 0 ≤ (x25_1 : Int) := of_decide_eq_true (by first | (with_reducible assumption) | assumption)
           have q851 : x25_1 < (t848.length : Int) := of_decide_eq_true (by first | (with_reducible assumption) | assumption)
           obtain ⟨ad851, e851, hx851_0⟩ := Kd.qtA (Kd.qS HO_23.out).2.2 x25_1 p851 q851
           cases e851
           replace p851 := eq_true p851
           replace q851 := eq_true q851
           have hnb28 := NB847_833.out
           have hnc28 := NB833_847.out
           have hnb29 := NB847_846.out
           have hnc29 := NB846_847.out
           have hcz30_0 := bc BK847 0
           have hcz30_1 := bc BK847 1
           have hfz30_0 := qD BK847.out 0
           have hfz30_1 := qD BK847.out 1
           have p852 : 0 ≤ ((rd t848 x25_1) : Int) := of_decide_eq_true (by first | (with_reducible assumption) | assumption)
           have q852 : (rd t848 x25_1) < (t839.length : Int) := of_decide_eq_true (by first | (with_reducible assumption) | assumption)
           obtain ⟨ad852, e852, hx852_0, hx852_1, hx852_2⟩ := qIB (Kd.qS HO_848000.out).2.2 (rd t848 x25_1) p852 q852
           cases e852
           replace p852 := eq_true p852
           replace q852 := eq_true q852
           go_wp2_with (first | ((with_reducible refine qe (N := 12) rfl ?_); refine qb ?hg (N := 12) ?hd (cs := #[.int .i64 0, .int .i64 0, .int .i64 0]) (t := 27) ?hr ?_; (case hd => rfl); (case hg => rfl); (case hr => first | (go_simp; done) | (go_simp; rfl)); intro gb853 hg w31 hbox hb; have n0_ := Aside0.mk (Kd.qU (by (with_reducible repeat (first | apply Kd.qF | apply Kd.qE | apply Kd.qG)); exact HO_9.out) hb); have n1_ := Aside0.mk (Kd.qU (by (with_reducible repeat (first | apply Kd.qF | apply Kd.qE | apply Kd.qG)); exact HO_23.out) hb); have n2_ := Aside0.mk (Kd.qU (by (with_reducible repeat (first | apply Kd.qF | apply Kd.qE | apply Kd.qG)); exact HO_847002.out) hb); have n3_ := Aside0.mk (Kd.qU (Kd.qdA (by (with_reducible repeat (first | apply Kd.qF | apply Kd.qE | apply Kd.qG)); exact HO_848000.out) gb853 (Nat.le_of_eq hg.symm)) hb); have n4_ := Aside0.mk (Kd.qU (by (with_reducible repeat (first | apply Kd.qF | apply Kd.qE | apply Kd.qG)); exact HO_848001.out) hb); have n5_ := Aside0.mk (bb BK833 hb); have n6_ := Aside0.mk (bb BK846 hb); have n7_ := Aside0.mk (bb BK847 hb); have n8_ := Aside0.mk (qH bl hb); have n9_ := Aside0.mk (hbox); have n10_ := Aside0.mk ((gg hg)); have n11_ := Aside0.mk ((gg hg)); have n12_ := Aside0.mk ((nl BK833 hg)); have n13_ := Aside0.mk ((nr BK833 hg)); have n14_ := Aside0.mk ((nl BK846 hg)); have n15_ := Aside0.mk ((nr BK846 hg)); have n16_ := Aside0.mk ((nl BK847 hg)); have n17_ := Aside0.mk ((nr BK847 hg)); clear HO_9; clear HO_23; clear HO_847002; clear HO_848000; clear HO_848001; clear BK833; clear BK846; clear BK847; clear HB; have HO_9 := n0_; have HO_23 := n1_; have HO_847002 := n2_; have HO_848000 := n3_; have HO_848001 := n4_; have BK833 := n5_; have BK846 := n6_; have BK847 := n7_; have HB := n8_; have BK853 := n9_; have GW853 := n10_; have GE853 := n11_; have NB833_853 := n12_; have NB853_833 := n13_; have NB846_853 := n14_; have NB853_846 := n15_; have NB847_853 := n16_; have NB853_847 := n17_; clear n0_ n1_ n2_ n3_ n4_ n5_ n6_ n7_ n8_ n9_ n10_ n11_ n12_ n13_ n14_ n15_ n16_ n17_; clear hb hbox hg; have hnb32 := NB853_833.out; have hnc32 := NB833_853.out; have hnb33 := NB853_846.out; have hnc33 := NB846_853.out; have hnb34 := NB853_847.out; have hnc34 := NB847_853.out; have hcz35_0 := bc BK853 0; have hcz35_1 := bc BK853 1; have hcz35_2 := bc BK853 2; have hfz35_0 := qD BK853.out 0; have hfz35_1 := qD BK853.out 1; have hfz35_2 := qD BK853.out 2; have hnb36 := NB846_833.out; have hnc36 := NB833_846.out; have hcz37_0 := bc BK846 0; have hcz37_1 := bc BK846 1; have hcz37_2 := bc BK846 2; have hfz37_0 := qD BK846.out 0; have hfz37_1 := qD BK846.out 1; have hfz37_2 := qD BK846.out 2) | ((with_reducible refine qhA (b := .append) (xs := #[.tmp 37, .tmp 46]) rfl ?_); at_builtin; refine Kd.qwB (Kd.int .i64) (w0 := w) w.heap.size rfl (.tmp 37) (.tmp 46) 45 3 (.int .i64 0) 8 rfl Tryd.underlying45 info3 rfl (by decide) (by omega) u9 x9_1 (wrap64 ((wrap64 (((qI t839 (rd t848 x25_1)).f1) * t834)) + ((qI t839 (rd t848 x25_1)).f0))) [.int .i64 (wrap64 ((wrap64 (((qI t839 (rd t848 x25_1)).f1) * t834)) + ((qI t839 (rd t848 x25_1)).f0)))] (fun k_ => some k_ ≠ (.slice (some ad851) t848.length co20 : Value).ownBlock) (fun _ => False) rfl (by first | (go_simp; done) | (go_simp; rfl)) ?aP (fun _ hk => hk.elim) ?aF ?aO ?aB ?aS ?aL ?_; (case aP => exact rfl); (case aB => exact bl); (case aF => exact (fun k_ hk => Kd.fresh' (Kd.R_lt (by (with_reducible repeat (first | apply Kd.qF | apply Kd.qE | apply Kd.qG)); exact (Kd.qg (Kd.R_far (p := ⟨gb853, 2, none⟩) (Kd.R_far (p := ⟨gb853, 1, none⟩) (Kd.R_far (p := ⟨gb853, 0, none⟩) (Kd.qn HO_23.out BK853.out (by decide)) (fun _ hk => hk.2) (.int .i64 ((qI t839 (rd t848 x25_1)).f0))) (fun _ hk => hk.2) (.int .i64 ((qI t839 (rd t848 x25_1)).f1))) (fun _ hk => hk.2) (.int .i64 ((qI t839 (rd t848 x25_1)).f2))) (fun _ h_ => h_.1)))) k_ hk)); (case aO => exact (by (with_reducible repeat (first | apply Kd.qF | apply Kd.qE | apply Kd.qG)); exact Kd.qg (Kd.R_far (p := ⟨gb853, 2, none⟩) (Kd.R_far (p := ⟨gb853, 1, none⟩) (Kd.R_far (p := ⟨gb853, 0, none⟩) (Kd.qn HO_9.out BK853.out (by decide)) (fun _ hk => hk.2) (.int .i64 ((qI t839 (rd t848 x25_1)).f0))) (fun _ hk => hk.2) (.int .i64 ((qI t839 (rd t848 x25_1)).f1))) (fun _ hk => hk.2) (.int .i64 ((qI t839 (rd t848 x25_1)).f2))) (fun _ hk => hk.1))); (case aS => exact (qh bl)); (case aL => have := LMc27.out; omega); intro v855 w38 ho hb hg hat; rw [← Ny854.out] at ho; have n0_ := Aside0.mk (Kd.qkA (ok := (fun _ => True)) (by (with_reducible repeat (first | apply Kd.qF | apply Kd.qE | apply Kd.qG)); exact Kd.qg (Kd.R_far (p := ⟨gb853, 2, none⟩) (Kd.R_far (p := ⟨gb853, 1, none⟩) (Kd.R_far (p := ⟨gb853, 0, none⟩) (Kd.qn HO_23.out BK853.out (by decide)) (fun _ hk => hk.2) (.int .i64 ((qI t839 (rd t848 x25_1)).f0))) (fun _ hk => hk.2) (.int .i64 ((qI t839 (rd t848 x25_1)).f1))) (fun _ hk => hk.2) (.int .i64 ((qI t839 (rd t848 x25_1)).f2))) (fun _ hk => ⟨trivial, hk.1⟩)) hg hat); have n1_ := Aside0.mk (Kd.quA (by (with_reducible repeat (first | apply Kd.qF | apply Kd.qE | apply Kd.qG)); exact (Kd.qg (Kd.R_far (p := ⟨gb853, 2, none⟩) (Kd.R_far (p := ⟨gb853, 1, none⟩) (Kd.R_far (p := ⟨gb853, 0, none⟩) (Kd.qn HO_847002.out BK853.out (by decide)) (fun _ hk => hk.2) (.int .i64 ((qI t839 (rd t848 x25_1)).f0))) (fun _ hk => hk.2) (.int .i64 ((qI t839 (rd t848 x25_1)).f1))) (fun _ hk => hk.2) (.int .i64 ((qI t839 (rd t848 x25_1)).f2))) (fun _ h_ => h_.1))) (Kd.qoA (by (with_reducible repeat (first | apply Kd.qF | apply Kd.qE | apply Kd.qG)); exact (Kd.qg (Kd.R_far (p := ⟨gb853, 2, none⟩) (Kd.R_far (p := ⟨gb853, 1, none⟩) (Kd.R_far (p := ⟨gb853, 0, none⟩) (Kd.qn HO_9.out BK853.out (by decide)) (fun _ hk => hk.2) (.int .i64 ((qI t839 (rd t848 x25_1)).f0))) (fun _ hk => hk.2) (.int .i64 ((qI t839 (rd t848 x25_1)).f1))) (fun _ hk => hk.2) (.int .i64 ((qI t839 (rd t848 x25_1)).f2))) (fun _ h_ => h_.1)))) (by decide) hg); have n2_ := Aside0.mk (Kd.quA (by (with_reducible repeat (first | apply Kd.qF | apply Kd.qE | apply Kd.qG)); exact (Kd.qg (Kd.R_far (p := ⟨gb853, 2, none⟩) (Kd.R_far (p := ⟨gb853, 1, none⟩) (Kd.R_far (p := ⟨gb853, 0, none⟩) (Kd.qg HO_848000.out (fun k_ hk => (⟨hk, hk.2⟩ : _ ∧ k_ ≠ gb853))) (fun _ hk => hk.2) (.int .i64 ((qI t839 (rd t848 x25_1)).f0))) (fun _ hk => hk.2) (.int .i64 ((qI t839 (rd t848 x25_1)).f1))) (fun _ hk => hk.2) (.int .i64 ((qI t839 (rd t848 x25_1)).f2))) (fun _ h_ => h_.1))) (Kd.qoA (by (with_reducible repeat (first | apply Kd.qF | apply Kd.qE | apply Kd.qG)); exact (Kd.qg (Kd.R_far (p := ⟨gb853, 2, none⟩) (Kd.R_far (p := ⟨gb853, 1, none⟩) (Kd.R_far (p := ⟨gb853, 0, none⟩) (Kd.qn HO_9.out BK853.out (by decide)) (fun _ hk => hk.2) (.int .i64 ((qI t839 (rd t848 x25_1)).f0))) (fun _ hk => hk.2) (.int .i64 ((qI t839 (rd t848 x25_1)).f1))) (fun _ hk => hk.2) (.int .i64 ((qI t839 (rd t848 x25_1)).f2))) (fun _ h_ => h_.1)))) (by decide) hg); have n3_ := Aside0.mk (Kd.quA (by (with_reducible repeat (first | apply Kd.qF | apply Kd.qE | apply Kd.qG)); exact (Kd.qg (Kd.R_far (p := ⟨gb853, 2, none⟩) (Kd.R_far (p := ⟨gb853, 1, none⟩) (Kd.R_far (p := ⟨gb853, 0, none⟩) (Kd.qn HO_848001.out BK853.out (by decide)) (fun _ hk => hk.2) (.int .i64 ((qI t839 (rd t848 x25_1)).f0))) (fun _ hk => hk.2) (.int .i64 ((qI t839 (rd t848 x25_1)).f1))) (fun _ hk => hk.2) (.int .i64 ((qI t839 (rd t848 x25_1)).f2))) (fun _ h_ => h_.1))) (Kd.qoA (by (with_reducible repeat (first | apply Kd.qF | apply Kd.qE | apply Kd.qG)); exact (Kd.qg (Kd.R_far (p := ⟨gb853, 2, none⟩) (Kd.R_far (p := ⟨gb853, 1, none⟩) (Kd.R_far (p := ⟨gb853, 0, none⟩) (Kd.qn HO_9.out BK853.out (by decide)) (fun _ hk => hk.2) (.int .i64 ((qI t839 (rd t848 x25_1)).f0))) (fun _ hk => hk.2) (.int .i64 ((qI t839 (rd t848 x25_1)).f1))) (fun _ hk => hk.2) (.int .i64 ((qI t839 (rd t848 x25_1)).f2))) (fun _ h_ => h_.1)))) (by decide) hg); have n4_ := Aside0.mk (qv (g := gb833) (o := .cells #[.int .i64 a1_0, .int .i64 a1_1, .int .i64 a1_2] 27 (0, 0)) (by (with_reducible repeat (first | refine qB ?_ _ | refine qC ?_ | refine qA ?_ _)); refine qM ?_ NB833_853.out _; (with_reducible repeat (first | refine qB ?_ _ | refine qC ?_ | refine qA ?_ _)); refine qM ?_ NB833_853.out _; (with_reducible repeat (first | refine qB ?_ _ | refine qC ?_ | refine qA ?_ _)); refine qM ?_ NB833_853.out _; (with_reducible repeat (first | refine qB ?_ _ | refine qC ?_ | refine qA ?_ _)); exact BK833.out) hg (Kd.R_ne HO_9.out BK833.out (by decide))); have n5_ := Aside0.mk (qv (g := gb846) (o := .cells #[.int .i64 t834, .int .i64 t835, .slice Ao14 t836.length co14] 57 (0, 0)) (by (with_reducible repeat (first | refine qB ?_ _ | refine qC ?_ | refine qA ?_ _)); refine qM ?_ NB846_853.out _; (with_reducible repeat (first | refine qB ?_ _ | refine qC ?_ | refine qA ?_ _)); refine qM ?_ NB846_853.out _; (with_reducible repeat (first | refine qB ?_ _ | refine qC ?_ | refine qA ?_ _)); refine qM ?_ NB846_853.out _; (with_reducible repeat (first | refine qB ?_ _ | refine qC ?_ | refine qA ?_ _)); exact BK846.out) hg (Kd.R_ne HO_9.out BK846.out (by decide))); have n6_ := Aside0.mk (qv (g := gb847) (o := .cells #[.slice (some ad852) t839.length co15, .slice Ao18 t842.length co18] 75 (0, 0)) (by (with_reducible repeat (first | refine qB ?_ _ | refine qC ?_ | refine qA ?_ _)); refine qM ?_ NB847_853.out _; (with_reducible repeat (first | refine qB ?_ _ | refine qC ?_ | refine qA ?_ _)); refine qM ?_ NB847_853.out _; (with_reducible repeat (first | refine qB ?_ _ | refine qC ?_ | refine qA ?_ _)); refine qM ?_ NB847_853.out _; (with_reducible repeat (first | refine qB ?_ _ | refine qC ?_ | refine qA ?_ _)); exact BK847.out) hg (Kd.R_ne HO_9.out BK847.out (by decide))); have n7_ := Aside0.mk (qv (g := gb853) (o := .cells #[.int .i64 ((qI t839 (rd t848 x25_1)).f0), .int .i64 ((qI t839 (rd t848 x25_1)).f1), .int .i64 ((qI t839 (rd t848 x25_1)).f2)] 27 (0, 0)) (by (with_reducible repeat (first | refine qB ?_ _ | refine qC ?_ | refine qA ?_ _)); refine qP (cs := #[.int .i64 ((qI t839 (rd t848 x25_1)).f0), .int .i64 ((qI t839 (rd t848 x25_1)).f1), .int .i64 0]) ?_ 2 _ rfl; (with_reducible repeat (first | refine qB ?_ _ | refine qC ?_ | refine qA ?_ _)); refine qP (cs := #[.int .i64 ((qI t839 (rd t848 x25_1)).f0), .int .i64 0, .int .i64 0]) ?_ 1 _ rfl; (with_reducible repeat (first | refine qB ?_ _ | refine qC ?_ | refine qA ?_ _)); refine qP (cs := #[.int .i64 0, .int .i64 0, .int .i64 0]) ?_ 0 _ rfl; (with_reducible repeat (first | refine qB ?_ _ | refine qC ?_ | refine qA ?_ _)); exact BK853.out) hg (Kd.R_ne HO_9.out BK853.out (by decide))); have n8_ := Aside0.mk (hb); have n9_ := Aside0.mk (ho); clear HO_23; clear HO_847002; clear HO_848000; clear HO_848001; clear BK833; clear BK846; clear BK847; clear BK853; clear HB; clear HO_9; have HO_23 := n0_; have HO_847002 := n1_; have HO_848000 := n2_; have HO_848001 := n3_; have BK833 := n4_; have BK846 := n5_; have BK847 := n6_; have BK853 := n7_; have HB := n8_; have HO856 := n9_; clear n0_ n1_ n2_ n3_ n4_ n5_ n6_ n7_ n8_ n9_; clear ho hb hg hat))
           go_roundg k1
           case measure => have := HK1.out; omega
           case rel => exact ⟨(y854), (wrap64 (x25_1 + 1)), (by first | rfl | (simp; done) | (simp [*]; done)), H', ⟨by have := HK1.out; omega⟩, ⟨by (with_reducible repeat (first | apply Kd.qF | apply Kd.qE | apply Kd.qG)); exact HO856.out⟩, ⟨by (with_reducible repeat (first | apply Kd.qF | apply Kd.qE | apply Kd.qG)); exact Kd.qg HO_23.out (fun _ hk => hk.2)⟩, ⟨by (with_reducible repeat (first | apply Kd.qF | apply Kd.qE | apply Kd.qG)); exact HO_847002.out⟩, ⟨by (with_reducible repeat (first | apply Kd.qF | apply Kd.qE | apply Kd.qG)); exact Kd.qg HO_848000.out (fun _ hk => hk.1)⟩, ⟨by (with_reducible repeat (first | apply Kd.qF | apply Kd.qE | apply Kd.qG)); exact HO_848001.out⟩, ⟨by (with_reducible repeat (first | refine qB ?_ _ | refine qC ?_ | refine qA ?_ _)); exact BK833.out⟩, ⟨by (with_reducible repeat (first | refine qB ?_ _ | refine qC ?_ | refine qA ?_ _)); exact BK846.out⟩, ⟨by (with_reducible repeat (first | refine qB ?_ _ | refine qC ?_ | refine qA ?_ _)); exact BK847.out⟩, ⟨bl⟩⟩
          ·rw [if_neg c27] at H
           exact absurd H (by simp)
         ·rw [if_neg c26] at H
          have c26b0 : (((qI t839 (rd t848 x25_1)).f2) == 0) = false := beq_eq_false_iff_ne.mpr c26
          have c26b1 : (((qI t839 (rd t848 x25_1)).f2) != 0) = true := bne_iff_ne.mpr c26
          have H' := Aside0.mk H
          clear H
          have p851 : 0 ≤ (x25_1 : Int) := of_decide_eq_true (by first | (with_reducible assumption) | assumption)
          have q851 : x25_1 < (t848.length : Int) := of_decide_eq_true (by first | (with_reducible assumption) | assumption)
          obtain ⟨ad851, e851, hx851_0⟩ := Kd.qtA (Kd.qS HO_23.out).2.2 x25_1 p851 q851
          cases e851
          replace p851 := eq_true p851
          replace q851 := eq_true q851
          have hnb39 := NB847_833.out
          have hnc39 := NB833_847.out
          have hnb40 := NB847_846.out
          have hnc40 := NB846_847.out
          have hcz41_0 := bc BK847 0
          have hcz41_1 := bc BK847 1
          have hfz41_0 := qD BK847.out 0
          have hfz41_1 := qD BK847.out 1
          have p852 : 0 ≤ ((rd t848 x25_1) : Int) := of_decide_eq_true (by first | (with_reducible assumption) | assumption)
          have q852 : (rd t848 x25_1) < (t839.length : Int) := of_decide_eq_true (by first | (with_reducible assumption) | assumption)
          obtain ⟨ad852, e852, hx852_0, hx852_1, hx852_2⟩ := qIB (Kd.qS HO_848000.out).2.2 (rd t848 x25_1) p852 q852
          cases e852
          replace p852 := eq_true p852
          replace q852 := eq_true q852
          go_wp2_with (first | ((with_reducible refine qe (N := 12) rfl ?_); refine qb ?hg (N := 12) ?hd (cs := #[.int .i64 0, .int .i64 0, .int .i64 0]) (t := 27) ?hr ?_; (case hd => rfl); (case hg => rfl); (case hr => first | (go_simp; done) | (go_simp; rfl)); intro gb853 hg w42 hbox hb; have n0_ := Aside0.mk (Kd.qU (by (with_reducible repeat (first | apply Kd.qF | apply Kd.qE | apply Kd.qG)); exact HO_9.out) hb); have n1_ := Aside0.mk (Kd.qU (by (with_reducible repeat (first | apply Kd.qF | apply Kd.qE | apply Kd.qG)); exact HO_23.out) hb); have n2_ := Aside0.mk (Kd.qU (by (with_reducible repeat (first | apply Kd.qF | apply Kd.qE | apply Kd.qG)); exact HO_847002.out) hb); have n3_ := Aside0.mk (Kd.qU (Kd.qdA (by (with_reducible repeat (first | apply Kd.qF | apply Kd.qE | apply Kd.qG)); exact HO_848000.out) gb853 (Nat.le_of_eq hg.symm)) hb); have n4_ := Aside0.mk (Kd.qU (by (with_reducible repeat (first | apply Kd.qF | apply Kd.qE | apply Kd.qG)); exact HO_848001.out) hb); have n5_ := Aside0.mk (bb BK833 hb); have n6_ := Aside0.mk (bb BK846 hb); have n7_ := Aside0.mk (bb BK847 hb); have n8_ := Aside0.mk (qH bl hb); have n9_ := Aside0.mk (hbox); have n10_ := Aside0.mk ((gg hg)); have n11_ := Aside0.mk ((gg hg)); have n12_ := Aside0.mk ((nl BK833 hg)); have n13_ := Aside0.mk ((nr BK833 hg)); have n14_ := Aside0.mk ((nl BK846 hg)); have n15_ := Aside0.mk ((nr BK846 hg)); have n16_ := Aside0.mk ((nl BK847 hg)); have n17_ := Aside0.mk ((nr BK847 hg)); clear HO_9; clear HO_23; clear HO_847002; clear HO_848000; clear HO_848001; clear BK833; clear BK846; clear BK847; clear HB; have HO_9 := n0_; have HO_23 := n1_; have HO_847002 := n2_; have HO_848000 := n3_; have HO_848001 := n4_; have BK833 := n5_; have BK846 := n6_; have BK847 := n7_; have HB := n8_; have BK853 := n9_; have GW853 := n10_; have GE853 := n11_; have NB833_853 := n12_; have NB853_833 := n13_; have NB846_853 := n14_; have NB853_846 := n15_; have NB847_853 := n16_; have NB853_847 := n17_; clear n0_ n1_ n2_ n3_ n4_ n5_ n6_ n7_ n8_ n9_ n10_ n11_ n12_ n13_ n14_ n15_ n16_ n17_; clear hb hbox hg; have hnb43 := NB853_833.out; have hnc43 := NB833_853.out; have hnb44 := NB853_846.out; have hnc44 := NB846_853.out; have hnb45 := NB853_847.out; have hnc45 := NB847_853.out; have hcz46_0 := bc BK853 0; have hcz46_1 := bc BK853 1; have hcz46_2 := bc BK853 2; have hfz46_0 := qD BK853.out 0; have hfz46_1 := qD BK853.out 1; have hfz46_2 := qD BK853.out 2))
          go_roundg k1
          case measure => have := HK1.out; omega
          case rel => exact ⟨(x9_1), (wrap64 (x25_1 + 1)), (by first | rfl | (simp; done) | (simp [*]; done)), H', ⟨by have := HK1.out; omega⟩, ⟨by (with_reducible repeat (first | apply Kd.qF | apply Kd.qE | apply Kd.qG)); exact Kd.qg (Kd.R_far (p := ⟨gb853, 2, none⟩) (Kd.R_far (p := ⟨gb853, 1, none⟩) (Kd.R_far (p := ⟨gb853, 0, none⟩) (Kd.qn HO_9.out BK853.out (by decide)) (fun _ hk => hk.2) (.int .i64 ((qI t839 (rd t848 x25_1)).f0))) (fun _ hk => hk.2) (.int .i64 ((qI t839 (rd t848 x25_1)).f1))) (fun _ hk => hk.2) (.int .i64 ((qI t839 (rd t848 x25_1)).f2))) (fun _ hk => hk.1)⟩, ⟨by (with_reducible repeat (first | apply Kd.qF | apply Kd.qE | apply Kd.qG)); exact Kd.qg (Kd.R_far (p := ⟨gb853, 2, none⟩) (Kd.R_far (p := ⟨gb853, 1, none⟩) (Kd.R_far (p := ⟨gb853, 0, none⟩) (Kd.qn HO_23.out BK853.out (by decide)) (fun _ hk => hk.2) (.int .i64 ((qI t839 (rd t848 x25_1)).f0))) (fun _ hk => hk.2) (.int .i64 ((qI t839 (rd t848 x25_1)).f1))) (fun _ hk => hk.2) (.int .i64 ((qI t839 (rd t848 x25_1)).f2))) (fun _ hk => hk.1)⟩, ⟨by (with_reducible repeat (first | apply Kd.qF | apply Kd.qE | apply Kd.qG)); exact Kd.qg (Kd.R_far (p := ⟨gb853, 2, none⟩) (Kd.R_far (p := ⟨gb853, 1, none⟩) (Kd.R_far (p := ⟨gb853, 0, none⟩) (Kd.qn HO_847002.out BK853.out (by decide)) (fun _ hk => hk.2) (.int .i64 ((qI t839 (rd t848 x25_1)).f0))) (fun _ hk => hk.2) (.int .i64 ((qI t839 (rd t848 x25_1)).f1))) (fun _ hk => hk.2) (.int .i64 ((qI t839 (rd t848 x25_1)).f2))) (fun _ hk => trivial)⟩, ⟨by (with_reducible repeat (first | apply Kd.qF | apply Kd.qE | apply Kd.qG)); exact Kd.qg (Kd.R_far (p := ⟨gb853, 2, none⟩) (Kd.R_far (p := ⟨gb853, 1, none⟩) (Kd.R_far (p := ⟨gb853, 0, none⟩) (Kd.qg HO_848000.out (fun k_ hk => (⟨hk, hk.2⟩ : _ ∧ k_ ≠ gb853))) (fun _ hk => hk.2) (.int .i64 ((qI t839 (rd t848 x25_1)).f0))) (fun _ hk => hk.2) (.int .i64 ((qI t839 (rd t848 x25_1)).f1))) (fun _ hk => hk.2) (.int .i64 ((qI t839 (rd t848 x25_1)).f2))) (fun _ hk => hk.1.1)⟩, ⟨by (with_reducible repeat (first | apply Kd.qF | apply Kd.qE | apply Kd.qG)); exact Kd.qg (Kd.R_far (p := ⟨gb853, 2, none⟩) (Kd.R_far (p := ⟨gb853, 1, none⟩) (Kd.R_far (p := ⟨gb853, 0, none⟩) (Kd.qn HO_848001.out BK853.out (by decide)) (fun _ hk => hk.2) (.int .i64 ((qI t839 (rd t848 x25_1)).f0))) (fun _ hk => hk.2) (.int .i64 ((qI t839 (rd t848 x25_1)).f1))) (fun _ hk => hk.2) (.int .i64 ((qI t839 (rd t848 x25_1)).f2))) (fun _ hk => trivial)⟩, ⟨by (with_reducible repeat (first | refine qB ?_ _ | refine qC ?_ | refine qA ?_ _)); refine qM ?_ NB833_853.out _; (with_reducible repeat (first | refine qB ?_ _ | refine qC ?_ | refine qA ?_ _)); refine qM ?_ NB833_853.out _; (with_reducible repeat (first | refine qB ?_ _ | refine qC ?_ | refine qA ?_ _)); refine qM ?_ NB833_853.out _; (with_reducible repeat (first | refine qB ?_ _ | refine qC ?_ | refine qA ?_ _)); exact BK833.out⟩, ⟨by (with_reducible repeat (first | refine qB ?_ _ | refine qC ?_ | refine qA ?_ _)); refine qM ?_ NB846_853.out _; (with_reducible repeat (first | refine qB ?_ _ | refine qC ?_ | refine qA ?_ _)); refine qM ?_ NB846_853.out _; (with_reducible repeat (first | refine qB ?_ _ | refine qC ?_ | refine qA ?_ _)); refine qM ?_ NB846_853.out _; (with_reducible repeat (first | refine qB ?_ _ | refine qC ?_ | refine qA ?_ _)); exact BK846.out⟩, ⟨by (with_reducible repeat (first | refine qB ?_ _ | refine qC ?_ | refine qA ?_ _)); refine qM ?_ NB847_853.out _; (with_reducible repeat (first | refine qB ?_ _ | refine qC ?_ | refine qA ?_ _)); refine qM ?_ NB847_853.out _; (with_reducible repeat (first | refine qB ?_ _ | refine qC ?_ | refine qA ?_ _)); refine qM ?_ NB847_853.out _; (with_reducible repeat (first | refine qB ?_ _ | refine qC ?_ | refine qA ?_ _)); exact BK847.out⟩, ⟨bl⟩⟩
        ·rw [if_neg c25] at H
         exact absurd H (by simp)
       ·rw [if_neg c24] at H
        exact absurd H (by simp)
      ·rw [if_neg c23] at H
       exact absurd H (by simp)
     ·rw [if_neg c22] at H
      exact absurd H (by simp)
    ·rw [if_neg c21] at H
     have c21b0 : decide (x25_1 < (t848.length : Int)) = false := decide_eq_false c21
     clear c21
     simp only [Option.some.injEq, Prod.mk.injEq] at H
     obtain ⟨rfl, rfl⟩ := H
     go_wp2
     go_ret2
     exact ⟨_, by first | rfl | (simp [qL, qK] <;> rfl) | (simp [*, qL, qK] <;> rfl), by (with_reducible repeat (first | apply Kd.qF | apply Kd.qE | apply Kd.qG)); exact Kd.qg HO_9.out (fun _ hk => trivial), bl⟩
 ·replace c4 := Bool.eq_false_iff.mpr c4
  subst c4
  have H1 : (some (([] : List Int), false)) = some (r1, r2) := by rw [if_neg (show ¬ (false = true) by decide)] at H; exact H
  clear H
  have H := H1
  clear H1
  simp only [Option.some.injEq, Prod.mk.injEq] at H
  obtain ⟨rfl, rfl⟩ := H
  go_enter Tryd.func43, Tryd.ntmps43
  go_wp2_with (first | ((with_reducible refine qe (N := 3) rfl ?_); refine qb ?hg (N := 3) ?hd (cs := #[.int .i64 a1_0, .int .i64 a1_1, .int .i64 a1_2]) (t := 27) ?hr ?_; (case hd => rfl); (case hg => rfl); (case hr => first | (go_simp; done) | (go_simp; rfl)); intro gb833 hg w47 hbox hb; have n0_ := Aside0.mk (qH bl hb); have n1_ := Aside0.mk (hbox); have n2_ := Aside0.mk ((gg hg)); have n3_ := Aside0.mk ((gg hg)); clear HB; have HB := n0_; have BK833 := n1_; have GW833 := n2_; have GE833 := n3_; clear n0_ n1_ n2_ n3_; clear hb hbox hg; have hcz48_0 := bc BK833 0; have hcz48_1 := bc BK833 1; have hcz48_2 := bc BK833 2; have hfz48_0 := qD BK833.out 0; have hfz48_1 := qD BK833.out 1; have hfz48_2 := qD BK833.out 2) | ((with_reducible refine qT (f := 65) rfl ?_); refine qDA (some 16) rfl rfl Tryd.func65 (by kernel_rfl) rfl #[.string a0, .agg #[.int .i64 a1_0, .int .i64 a1_1, .int .i64 a1_2]] rfl (by (try simp only [List.map_toArray, List.map_cons, List.map_nil]); first | done | rfl | (simp only [List.length_drop, List.length_take]; rfl)) ?_; (with_reducible refine (qbA.calls k a0 a1_0 a1_1 a1_2 t834 t835 t836 t839 t842 false _ A3.out).mono ?_); rintro e w49 ⟨v837, v840, v843, rfl, ho0, ho1, ho2, hb⟩; refine ⟨_, rfl, ?_⟩; have n0_ := Aside0.mk (Kd.qEA ho0 (qh bl)); have n1_ := Aside0.mk (Kd.qEA (Kd.qXB ho1 (g := gb833) (o := .cells #[.int .i64 a1_0, .int .i64 a1_1, .int .i64 a1_2] 27 (0, 0)) (by (with_reducible repeat (first | refine qB ?_ _ | refine qC ?_ | refine qA ?_ _)); exact BK833.out)) (qh bl)); have n2_ := Aside0.mk (Kd.qEA ho2 (qh bl)); have n3_ := Aside0.mk (bb BK833 hb); have n4_ := Aside0.mk (qH bl hb); clear BK833; clear HB; have HO838 := n0_; have HO841 := n1_; have HO844 := n2_; have BK833 := n3_; have HB := n4_; clear n0_ n1_ n2_ n3_ n4_; (try clear hb); (try clear hb2); (try clear hk); (try clear hi); (try clear ho0); (try clear ho1); (try clear ho2)) | ((with_reducible refine qe (N := 6) rfl ?_); refine qb ?hg (N := 6) ?hd (cs := #[.int .i64 0, .int .i64 0, .slice none 0 0]) (t := 57) ?hr ?_; (case hd => rfl); (case hg => rfl); (case hr => first | (go_simp; done) | (go_simp; rfl)); intro gb846 hg w50 hbox hb; have n0_ := Aside0.mk (Kd.qU (by (with_reducible repeat (first | apply Kd.qF | apply Kd.qE | apply Kd.qG)); exact HO838.out) hb); have n1_ := Aside0.mk (Kd.qU (by (with_reducible repeat (first | apply Kd.qF | apply Kd.qE | apply Kd.qG)); exact HO841.out) hb); have n2_ := Aside0.mk (Kd.qU (by (with_reducible repeat (first | apply Kd.qF | apply Kd.qE | apply Kd.qG)); exact HO844.out) hb); have n3_ := Aside0.mk (bb BK833 hb); have n4_ := Aside0.mk (qH bl hb); have n5_ := Aside0.mk (hbox); have n6_ := Aside0.mk ((gg hg)); have n7_ := Aside0.mk ((gg hg)); have n8_ := Aside0.mk ((nl BK833 hg)); have n9_ := Aside0.mk ((nr BK833 hg)); clear HO838; clear HO841; clear HO844; clear BK833; clear HB; have HO838 := n0_; have HO841 := n1_; have HO844 := n2_; have BK833 := n3_; have HB := n4_; have BK846 := n5_; have GW846 := n6_; have GE846 := n7_; have NB833_846 := n8_; have NB846_833 := n9_; clear n0_ n1_ n2_ n3_ n4_ n5_ n6_ n7_ n8_ n9_; clear hb hbox hg) | ((with_reducible refine qe (N := 7) rfl ?_); refine qb ?hg (N := 7) ?hd (cs := #[.slice none 0 0, .slice none 0 0]) (t := 75) ?hr ?_; (case hd => rfl); (case hg => rfl); (case hr => first | (go_simp; done) | (go_simp; rfl)); intro gb847 hg w51 hbox hb; have n0_ := Aside0.mk (Kd.qU (by (with_reducible repeat (first | apply Kd.qF | apply Kd.qE | apply Kd.qG)); exact HO838.out) hb); have n1_ := Aside0.mk (Kd.qU (by (with_reducible repeat (first | apply Kd.qF | apply Kd.qE | apply Kd.qG)); exact HO841.out) hb); have n2_ := Aside0.mk (Kd.qU (by (with_reducible repeat (first | apply Kd.qF | apply Kd.qE | apply Kd.qG)); exact HO844.out) hb); have n3_ := Aside0.mk (bb BK833 hb); have n4_ := Aside0.mk (bb BK846 hb); have n5_ := Aside0.mk (qH bl hb); have n6_ := Aside0.mk (hbox); have n7_ := Aside0.mk ((gg hg)); have n8_ := Aside0.mk ((gg hg)); have n9_ := Aside0.mk ((nl BK833 hg)); have n10_ := Aside0.mk ((nr BK833 hg)); have n11_ := Aside0.mk ((nl BK846 hg)); have n12_ := Aside0.mk ((nr BK846 hg)); clear HO838; clear HO841; clear HO844; clear BK833; clear BK846; clear HB; have HO838 := n0_; have HO841 := n1_; have HO844 := n2_; have BK833 := n3_; have BK846 := n4_; have HB := n5_; have BK847 := n6_; have GW847 := n7_; have GE847 := n8_; have NB833_847 := n9_; have NB847_833 := n10_; have NB846_847 := n11_; have NB847_846 := n12_; clear n0_ n1_ n2_ n3_ n4_ n5_ n6_ n7_ n8_ n9_ n10_ n11_ n12_; clear hb hbox hg; have hnb52 := NB846_833.out; have hnc52 := NB833_846.out; have hnb53 := NB846_847.out; have hnc53 := NB847_846.out; have hcz54_0 := bc BK846 0; have hcz54_1 := bc BK846 1; have hcz54_2 := bc BK846 2; have hfz54_0 := qD BK846.out 0; have hfz54_1 := qD BK846.out 1; have hfz54_2 := qD BK846.out 2; obtain ⟨Ao55, co55, eo55⟩ := Kd.qm HO838.out; subst eo55; obtain ⟨Ao56, co56, eo56⟩ := Kd.qm HO841.out; subst eo56; have hnb57 := NB847_833.out; have hnc57 := NB833_847.out; have hcz58_0 := bc BK847 0; have hcz58_1 := bc BK847 1; have hfz58_0 := qD BK847.out 0; have hfz58_1 := qD BK847.out 1; obtain ⟨Ao59, co59, eo59⟩ := Kd.qm HO844.out; subst eo59))
  go_ret2
  exact ⟨_, by first | rfl | (simp [qL, qK] <;> rfl) | (simp [*, qL, qK] <;> rfl), by first | exact Kd.R_nil _ _ _ _ _ | exact Kd.N_nil _ _ _ _ _ | exact Kd.V_nil _ _ _ _ _ | exact Kd.Q_nil _ _ _ _ _ | exact Kd.S_nil _ _ _ _ _, bl⟩
def qVA.f (a0 : Int) (a1 : Int) (a2 : Int) : Option (Bool) := if a1 ≤ a0 then (some (decide (a0 ≤ a2))) else (some false)
set_option maxHeartbeats 8000000 in
set_option maxRecDepth 100000 in
theorem qVA.calls (a0 : Int) (a1 : Int) (a2 : Int) (r : Bool) (w : World) (h : qVA.f a0 a1 a2 = some r) :
  Calls Tryd.prog 82 #[.int .i64 a0, .int .i64 a1, .int .i64 a2] w fun e w' => e = .returned (.bool r) ∧ Drawn0 w w' := by
 have H : (if a1 ≤ a0 then (some (decide (a0 ≤ a2))) else (some false)) = some r := h
 clear h
 by_cases c4 : a1 ≤ a0
 ·rw [if_pos c4] at H
  have c4b0 : decide (a1 ≤ a0) = true := decide_eq_true c4
  clear c4
  obtain rfl := Option.some.inj H
  go_enter Tryd.func82, Tryd.ntmps82
  go_wp2
  go_ret
  exact ⟨by first | rfl | (simp; done) | (simp [*]; done), by repeat (first | exact Drawn0.refl _ | apply Drawn0.step)⟩
 ·rw [if_neg c4] at H
  have c4b0 : decide (a1 ≤ a0) = false := decide_eq_false c4
  clear c4
  obtain rfl := Option.some.inj H
  go_enter Tryd.func82, Tryd.ntmps82
  go_wp2
  go_ret
  exact ⟨by first | rfl | (simp; done) | (simp [*]; done), by repeat (first | exact Drawn0.refl _ | apply Drawn0.step)⟩
end Go.Proofs.YtbpfhpjbeomfcaaDoor.P
namespace Go.Proofs
open Go.Shelf
def Tryd.lays138_ren : Go.Shelf.Ren := ⟨fun | 138 => 78 | 195 => 103 | 218 => 104 | 143 => 105 | 219 => 139 | 217 => 154 | 225 => 155 | 224 => 156 | 267 => 157 | 266 => 163 | 314 => 164 | n => n, fun | 9 => 9 | 3 => 3 | 4 => 4 | 5 => 5 | 0 => 0 | 46 => 110 | 146 => 163 | 51 => 128 | n => n, fun | 1 => 0 | n => n⟩
theorem Tryd.lays138 : Go.Proofs.Lays.n138 Tryd.prog Tryd.lays138_ren := {
 mixed := by kernel_rfl
 f138 := Tryd.func78.trans (congrArg some (by kernel_rfl))
 f143 := Tryd.func105.trans (congrArg some (by kernel_rfl))
 f195 := Tryd.func103.trans (congrArg some (by kernel_rfl))
 f217 := Tryd.func154.trans (congrArg some (by kernel_rfl))
 f218 := Tryd.func104.trans (congrArg some (by kernel_rfl))
 f219 := Tryd.func139.trans (congrArg some (by kernel_rfl))
 f224 := Tryd.func156.trans (congrArg some (by kernel_rfl))
 f225 := Tryd.func155.trans (congrArg some (by kernel_rfl))
 f266 := Tryd.func163.trans (congrArg some (by kernel_rfl))
 f267 := Tryd.func157.trans (congrArg some (by kernel_rfl))
 f314 := Tryd.func164.trans (congrArg some (by kernel_rfl))
 t0 := Tryd.underlying0
 a0 := Tryd.isAgg0
 z0 := Tryd.sizeOf0
 v0 := Tryd.zeroValue0
 t3 := Tryd.underlying3
 a3 := Tryd.isAgg3
 z3 := Tryd.sizeOf3
 v3 := Tryd.zeroValue3
 t4 := Tryd.underlying4
 a4 := Tryd.isAgg4
 z4 := Tryd.sizeOf4
 v4 := Tryd.zeroValue4
 t5 := Tryd.underlying5
 a5 := Tryd.isAgg5
 z5 := Tryd.sizeOf5
 v5 := Tryd.zeroValue5
 t9 := Tryd.underlying9
 a9 := Tryd.isAgg9
 z9 := Tryd.sizeOf9
 v9 := Tryd.zeroValue9
 t46 := Tryd.underlying110
 a46 := Tryd.isAgg110
 z46 := Tryd.sizeOf110
 v46 := Tryd.zeroValue110
 t51 := Tryd.underlying128
 a51 := Tryd.isAgg128
 z51 := Tryd.sizeOf128
 v51 := Tryd.zeroValue128
 t146 := Tryd.underlying163
 a146 := Tryd.isAgg163
 z146 := Tryd.sizeOf163
 v146 := Tryd.zeroValue163
 g1 := by kernel_rfl }
open Go.RowKit Go.Lib in
theorem Tryd.strings_Count_one (s : ByteArray) (c : UInt8) (w : World) :
  Calls Tryd.prog 78 #[.string s, .string ⟨#[c]⟩] w fun e w' => e = .returned (.int .i64 (Lib.countByte s.data.toList c)) ∧ w' = w := Any.strings_Count_one Tryd.lays138 s c w
def Tryd.lays146_ren : Go.Shelf.Ren := ⟨fun | 146 => 101 | 221 => 131 | 268 => 149 | 138 => 78 | 143 => 105 | 195 => 103 | 197 => 151 | 218 => 104 | 219 => 139 | 260 => 160 | 217 => 154 | 225 => 155 | 224 => 156 | 267 => 157 | 266 => 163 | 314 => 164 | n => n, fun | 9 => 9 | 31 => 60 | 3 => 3 | 4 => 4 | 0 => 0 | 105 => 155 | 21 => 21 | 5 => 5 | 46 => 110 | 119 => 165 | 139 => 168 | 138 => 167 | 146 => 163 | 51 => 128 | n => n, fun | 1 => 0 | 3 => 1 | 4 => 2 | n => n⟩
theorem Tryd.lays146 : Go.Proofs.Lays.n146 Tryd.prog Tryd.lays146_ren := {
 mixed := by kernel_rfl
 f138 := Tryd.func78.trans (congrArg some (by kernel_rfl))
 f143 := Tryd.func105.trans (congrArg some (by kernel_rfl))
 f146 := Tryd.func101.trans (congrArg some (by kernel_rfl))
 f195 := Tryd.func103.trans (congrArg some (by kernel_rfl))
 f197 := Tryd.func151.trans (congrArg some (by kernel_rfl))
 f217 := Tryd.func154.trans (congrArg some (by kernel_rfl))
 f218 := Tryd.func104.trans (congrArg some (by kernel_rfl))
 f219 := Tryd.func139.trans (congrArg some (by kernel_rfl))
 f221 := Tryd.func131.trans (congrArg some (by kernel_rfl))
 f224 := Tryd.func156.trans (congrArg some (by kernel_rfl))
 f225 := Tryd.func155.trans (congrArg some (by kernel_rfl))
 f260 := Tryd.func160.trans (congrArg some (by kernel_rfl))
 f266 := Tryd.func163.trans (congrArg some (by kernel_rfl))
 f267 := Tryd.func157.trans (congrArg some (by kernel_rfl))
 f268 := Tryd.func149.trans (congrArg some (by kernel_rfl))
 f314 := Tryd.func164.trans (congrArg some (by kernel_rfl))
 t0 := Tryd.underlying0
 a0 := Tryd.isAgg0
 z0 := Tryd.sizeOf0
 v0 := Tryd.zeroValue0
 t3 := Tryd.underlying3
 a3 := Tryd.isAgg3
 z3 := Tryd.sizeOf3
 v3 := Tryd.zeroValue3
 t4 := Tryd.underlying4
 a4 := Tryd.isAgg4
 z4 := Tryd.sizeOf4
 v4 := Tryd.zeroValue4
 t5 := Tryd.underlying5
 a5 := Tryd.isAgg5
 z5 := Tryd.sizeOf5
 v5 := Tryd.zeroValue5
 t9 := Tryd.underlying9
 a9 := Tryd.isAgg9
 z9 := Tryd.sizeOf9
 v9 := Tryd.zeroValue9
 t21 := Tryd.underlying21
 a21 := Tryd.isAgg21
 z21 := Tryd.sizeOf21
 v21 := Tryd.zeroValue21
 t31 := Tryd.underlying60
 a31 := Tryd.isAgg60
 z31 := Tryd.sizeOf60
 v31 := Tryd.zeroValue60
 t46 := Tryd.underlying110
 a46 := Tryd.isAgg110
 z46 := Tryd.sizeOf110
 v46 := Tryd.zeroValue110
 t51 := Tryd.underlying128
 a51 := Tryd.isAgg128
 z51 := Tryd.sizeOf128
 v51 := Tryd.zeroValue128
 t105 := Tryd.underlying155
 a105 := Tryd.isAgg155
 z105 := Tryd.sizeOf155
 v105 := Tryd.zeroValue155
 t119 := Tryd.underlying165
 a119 := Tryd.isAgg165
 z119 := Tryd.sizeOf165
 t138 := Tryd.underlying167
 a138 := Tryd.isAgg167
 z138 := Tryd.sizeOf167
 v138 := Tryd.zeroValue167
 t139 := Tryd.underlying168
 a139 := Tryd.isAgg168
 z139 := Tryd.sizeOf168
 v139 := Tryd.zeroValue168
 t146 := Tryd.underlying163
 a146 := Tryd.isAgg163
 z146 := Tryd.sizeOf163
 v146 := Tryd.zeroValue163
 g1 := by kernel_rfl
 g3 := by kernel_rfl
 g4 := by kernel_rfl }
open Go.RowKit Go.Lib in
theorem Tryd.strings_Split (s sep : ByteArray) (m : Int) (w : World) (hs : s.size < 4294967281) (hm : w.cell? ⟨0, 0, none⟩ = some (.int .i64 m)) (h1 : 1 ≤ sep.size) :
  Calls Tryd.prog 101 #[.string s, .string sep] w fun e w' =>
   e = .returned (.slice (some ⟨w.heap.size, 0, none⟩) (Lib.countB s sep + 1) (Lib.countB s sep + 1)) ∧ w' = w.alloc (.cells ((Lib.splitB sep 0 (Lib.countB s sep) s).map Value.string).toArray 9) := Any.strings_Split Tryd.lays146 (by kernel_rfl) s sep m w hs hm h1
def Tryd.lays160_ren : Go.Shelf.Ren := ⟨fun | 160 => 102 | 232 => 133 | 231 => 132 | 227 => 134 | 234 => 136 | 233 => 135 | 236 => 138 | 235 => 137 | 228 => 150 | 271 => 153 | 151 => 152 | 197 => 151 | 120 => 162 | 152 => 161 | 260 => 160 | 137 => 165 | 119 => 166 | 224 => 156 | 225 => 155 | 217 => 154 | 266 => 163 | n => n, fun | 9 => 9 | 4 => 4 | 3 => 3 | 5 => 5 | 117 => 140 | 116 => 139 | 0 => 0 | 124 => 143 | 21 => 21 | 105 => 155 | 46 => 110 | 119 => 165 | 139 => 168 | 138 => 167 | n => n, fun | 3 => 1 | 4 => 2 | n => n⟩
theorem Tryd.lays160 : Go.Proofs.Lays.n160 Tryd.prog Tryd.lays160_ren := {
 mixed := by kernel_rfl
 f119 := Tryd.func166.trans (congrArg some (by kernel_rfl))
 f120 := Tryd.func162.trans (congrArg some (by kernel_rfl))
 f137 := Tryd.func165.trans (congrArg some (by kernel_rfl))
 f151 := Tryd.func152.trans (congrArg some (by kernel_rfl))
 f152 := Tryd.func161.trans (congrArg some (by kernel_rfl))
 f160 := Tryd.func102.trans (congrArg some (by kernel_rfl))
 f197 := Tryd.func151.trans (congrArg some (by kernel_rfl))
 f217 := Tryd.func154.trans (congrArg some (by kernel_rfl))
 f224 := Tryd.func156.trans (congrArg some (by kernel_rfl))
 f225 := Tryd.func155.trans (congrArg some (by kernel_rfl))
 f227 := Tryd.func134.trans (congrArg some (by kernel_rfl))
 f228 := Tryd.func150.trans (congrArg some (by kernel_rfl))
 f231 := Tryd.func132.trans (congrArg some (by kernel_rfl))
 f232 := Tryd.func133.trans (congrArg some (by kernel_rfl))
 f233 := Tryd.func135.trans (congrArg some (by kernel_rfl))
 f234 := Tryd.func136.trans (congrArg some (by kernel_rfl))
 f235 := Tryd.func137.trans (congrArg some (by kernel_rfl))
 f236 := Tryd.func138.trans (congrArg some (by kernel_rfl))
 f260 := Tryd.func160.trans (congrArg some (by kernel_rfl))
 f266 := Tryd.func163.trans (congrArg some (by kernel_rfl))
 f271 := Tryd.func153.trans (congrArg some (by kernel_rfl))
 t0 := Tryd.underlying0
 a0 := Tryd.isAgg0
 z0 := Tryd.sizeOf0
 v0 := Tryd.zeroValue0
 t3 := Tryd.underlying3
 a3 := Tryd.isAgg3
 z3 := Tryd.sizeOf3
 v3 := Tryd.zeroValue3
 t4 := Tryd.underlying4
 a4 := Tryd.isAgg4
 z4 := Tryd.sizeOf4
 v4 := Tryd.zeroValue4
 t5 := Tryd.underlying5
 a5 := Tryd.isAgg5
 z5 := Tryd.sizeOf5
 v5 := Tryd.zeroValue5
 t9 := Tryd.underlying9
 a9 := Tryd.isAgg9
 z9 := Tryd.sizeOf9
 v9 := Tryd.zeroValue9
 t21 := Tryd.underlying21
 a21 := Tryd.isAgg21
 z21 := Tryd.sizeOf21
 v21 := Tryd.zeroValue21
 t46 := Tryd.underlying110
 a46 := Tryd.isAgg110
 z46 := Tryd.sizeOf110
 v46 := Tryd.zeroValue110
 t105 := Tryd.underlying155
 a105 := Tryd.isAgg155
 z105 := Tryd.sizeOf155
 v105 := Tryd.zeroValue155
 t116 := Tryd.underlying139
 a116 := Tryd.isAgg139
 z116 := Tryd.sizeOf139
 t117 := Tryd.underlying140
 a117 := Tryd.isAgg140
 z117 := Tryd.sizeOf140
 v117 := Tryd.zeroValue140
 t119 := Tryd.underlying165
 a119 := Tryd.isAgg165
 z119 := Tryd.sizeOf165
 t124 := Tryd.underlying143
 a124 := Tryd.isAgg143
 z124 := Tryd.sizeOf143
 v124 := Tryd.zeroValue143
 t138 := Tryd.underlying167
 a138 := Tryd.isAgg167
 z138 := Tryd.sizeOf167
 v138 := Tryd.zeroValue167
 t139 := Tryd.underlying168
 a139 := Tryd.isAgg168
 z139 := Tryd.sizeOf168
 v139 := Tryd.zeroValue168
 g3 := by kernel_rfl
 g4 := by kernel_rfl }
end Go.Proofs
namespace Go.Proofs.YtbpfhpjbeomfcaaDoor
open Go.RowKit Go.Proofs.YtbpfhpjbeomfcaaDoorW.PrintWords Go.Proofs.YtbpfhpjbeomfcaaDoorW.PrintLast
set_option linter.unusedVariables false
set_option linter.unusedSimpArgs false
def strings_Split.f (a0 a1 : ByteArray) : Option (List ByteArray) := if a0.size < 4294967281 ∧ 1 ≤ a1.size then some (Lib.splitB a1 0 (Lib.countB a0 a1) a0) else none
theorem strings_Split.calls (a0 a1 : ByteArray) (r : List ByteArray) (w : World) (hL : Laid w) (h : strings_Split.f a0 a1 = some r) :
  Calls Tryd.prog 101 #[.string a0, .string a1] w fun e w' => ∃ v0_ : Value, e = .returned v0_ ∧ Kd.R Kd.string 9 w' w.heap.size (fun _ => True) v0_ r ∧ Below w.heap.size w w' := by
 unfold strings_Split.f at h
 split at h
 ·rename_i hs
  obtain rfl := Option.some.inj h
  obtain ⟨m, hm⟩ := hL
  have hlen := Lib.splitB_all a1 hs.2 0 _ a0 rfl
  have hle := Lib.countB_le a1 hs.2 a0.size a0 (Nat.le_refl _)
  refine (Tryd.strings_Split a0 a1 m w hs.1 hm hs.2).mono fun e w' ⟨h1, h2⟩ => ⟨_, h1, ?_, ?_⟩
  ·subst h2
   generalize Lib.splitB a1 0 (Lib.countB a0 a1) a0 = l at *
   rw [← hlen]
   refine Kd.R_of_own ⟨by rw [qfB, Nat.mul_one], .inr ⟨w.heap.size, l.length, (l.map Value.string).toArray, rfl, Nat.le_refl _, ?_, Nat.le_refl _, ?_, ?_, ?_⟩⟩ (fun _ _ => trivial)
   ·exact qQC _ _
   ·unfold maxLen; omega
   ·simp
   ·simp only [encs, Nat.mul_one]
    rw [List.take_of_length_le (by simp)]
  ·subst h2
   exact qt (Below.refl _ _) _
 ·cases h
def qlA.f (a0 a1 : ByteArray) : Option ByteArray := if a0.size ≤ 9223372036854775807 ∧ a1.size < 4294967281 ∧ (a1.data.toList.all fun b => decide (b.toNat < 128)) = true then some ⟨(Lib.trimS a0.data.toList a1.data.toList).toArray⟩ else none
theorem qlA.calls (a0 a1 : ByteArray) (r : ByteArray) (w : World) (h : qlA.f a0 a1 = some r) :
  Calls Tryd.prog 102 #[.string a0, .string a1] w fun e w' => e = .returned (.string r) ∧ Below w.heap.size w w' := by
 unfold qlA.f at h
 split at h
 ·rename_i hs
  obtain rfl := Option.some.inj h
  exact Any.strings_Trim_laid Tryd.lays160 (by kernel_rfl) a0 a1 w hs.1 hs.2.1 (ascii_of_all hs.2.2)
 ·cases h
end Go.Proofs.YtbpfhpjbeomfcaaDoor
namespace Go.Proofs.YtbpfhpjbeomfcaaDoor.P
open Go.RowKit Go.Proofs.YtbpfhpjbeomfcaaDoorW.PrintWords Go.Proofs.YtbpfhpjbeomfcaaDoorW.PrintLast Go.Proofs.YtbpfhpjbeomfcaaDoorW.PrintMore
attribute [local go_sem] qBA qz qKA qJA qq qp qAA qy
set_option linter.unusedVariables false
set_option linter.unusedSimpArgs false
def qMA.l0 : Nat → ByteArray → Int → List ByteArray → Int → Int → Option (List ByteArray × Bool)
 | 0, _, _, _, _, _ => none
 | k + 1, x1, x7, x11, x17, x18 => if x18 < x17 then (if 0 ≤ x18 then (if x18 < (x11.length : Int) then (if ((rdOf ByteArray.empty x11 x18).size : Int) = x7 then ((qlA.f (rdOf ByteArray.empty x11 x18) x1).bind fun t125 => (if t125.toList = ([] : List UInt8) then (qMA.l0 k x1 x7 x11 x17 (wrap64 (x18 + 1))) else (some (([] : List ByteArray), false)))) else (some (([] : List ByteArray), false))) else (none)) else (none)) else ((qVA.f (x11.length : Int) 1 7).bind fun t126 => (if t126 = true then ((qVA.f x7 1 7).bind fun t127 => (if t127 = true then (some (x11, decide ((wrap64 (x7 * (x11.length : Int))) ≤ 36))) else (some (x11, false)))) else (some (x11, false))))
def qMA.f (k : Nat) (a0 : ByteArray) (a1 : ByteArray) : Option (List ByteArray × Bool) := (strings_Split.f a0 (⟨#[47]⟩ : ByteArray)).bind fun t120 => (if 0 < (t120.length : Int) then (qMA.l0 k a1 ((rdOf ByteArray.empty t120 0).size : Int) t120 (t120.length : Int) 0) else (none))
set_option maxHeartbeats 8000000 in
set_option maxRecDepth 100000 in
theorem qMA.calls (k : Nat) (a0 : ByteArray) (a1 : ByteArray) (r1 : List ByteArray) (r2 : Bool) (w : World) (hL : Laid w) (h : qMA.f k a0 a1 = some (r1, r2)) :
  Calls Tryd.prog 77 #[.string a0, .string a1] w fun e w' => ∃ v0_ : Value, e = .returned (.tuple #[v0_, .bool r2]) ∧ Kd.R Kd.string 9 w' w.heap.size (fun _ => True) v0_ r1 ∧ Below w.heap.size w w' := by
 have HLD := Aside0.mk hL
 clear hL
 have HB := Aside0.mk (Below.refl w.heap.size w)
 have H : ((strings_Split.f a0 (⟨#[47]⟩ : ByteArray)).bind fun t120 => (if 0 < (t120.length : Int) then (qMA.l0 k a1 ((rdOf ByteArray.empty t120 0).size : Int) t120 (t120.length : Int) 0) else (none))) = some (r1, r2) := h
 clear h
 replace H := Option.bind_eq_some_iff.mp H
 obtain ⟨t120, A30, H⟩ := H
 replace H : (if 0 < (t120.length : Int) then (qMA.l0 k a1 ((rdOf ByteArray.empty t120 0).size : Int) t120 (t120.length : Int) 0) else (none)) = some (r1, r2) := H
 have A3 := Aside0.mk A30
 clear A30
 by_cases c4 : 0 < (t120.length : Int)
 ·rw [if_pos c4] at H
  have c4b0 : decide (0 < (t120.length : Int)) = true := decide_eq_true c4
  have c4b1 : decide (0 < t120.length) = true := decide_eq_true (by omega)
  clear c4
  have H' := Aside0.mk H
  clear H
  go_enter Tryd.func77, Tryd.ntmps77
  go_wp2_with (first | ((with_reducible refine qT (f := 101) rfl ?_); refine qDA (some 11) rfl rfl Tryd.func101 (by kernel_rfl) rfl #[.string a0, .string (⟨#[47]⟩ : ByteArray)] rfl (by (try simp only [List.map_toArray, List.map_cons, List.map_nil]); first | done | rfl | (simp only [List.length_drop, List.length_take]; rfl)) ?_; (with_reducible refine (strings_Split.calls a0 (⟨#[47]⟩ : ByteArray) t120 _ ?side1 A3.out).mono ?_); (case side1 => first | exact HLD.out | exact Laid.below HLD.out (by repeat (first | (with_reducible first | exact HB.out | apply qt | apply qo | apply qk | refine qUA ?_ (Aside0.out (by with_reducible assumption))) | exact HB.out))); rintro e w5 ⟨v121, rfl, ho0, hb⟩; refine ⟨_, rfl, ?_⟩; have n0_ := Aside0.mk (Kd.qEA ho0 (qh bl)); have n1_ := Aside0.mk (qH bl hb); clear HB; have HO122 := n0_; have HB := n1_; clear n0_ n1_; (try clear hb); (try clear hb2); (try clear hk); (try clear hi); (try clear ho0); obtain ⟨Ao6, co6, eo6⟩ := Kd.qm HO122.out; subst eo6; have p123 : 0 ≤ (0 : Int) := (by omega); have q123 : 0 < (t120.length : Int) := of_decide_eq_true (by first | (with_reducible assumption) | assumption); obtain ⟨ad123, e123, hx123_0⟩ := Kd.qAB (Kd.qS HO122.out).2.2 0 p123 q123; cases e123; have qi123 : (0 < t120.length) = True := eq_true (by omega); (try rw [show ((0 : Int)).toNat = 0 from rfl] at hx123_0); (try rw [Addr.add_zero'] at hx123_0); replace p123 := eq_true p123; replace q123 := eq_true q123))
  go_loopg [18] k (fun kq v18 w' => ∃ (x18_1 : Int), v18 = .int .i64 x18_1 ∧ Aside0 (qMA.l0 kq a1 ((rdOf ByteArray.empty t120 0).size : Int) t120 (t120.length : Int) x18_1 = some (r1, r2)) ∧ Aside0 (kq ≤ k) ∧ Aside0 (Kd.R Kd.string 9 w' w.heap.size (fun _ => True) (.slice (some ad123) t120.length co6) t120) ∧ Aside0 (Below w.heap.size w w'))
  case atStart => exact ⟨(0), (by first | rfl | (simp; done) | (simp [*]; done)), H', ⟨Nat.le_refl _⟩, ⟨by (with_reducible repeat (first | apply Kd.qF | apply Kd.qE | apply Kd.qG)); exact HO122.out⟩, ⟨bl⟩⟩
  case round =>
   clear H'
   try clear c1
   try clear p1
   try clear q1
   try clear hx1
   try clear qi1
   try clear p2
   try clear c4
   try clear c4b0
   try clear c4b1
   try clear hx123_0
   try clear p123
   try clear q123
   obtain ⟨x18_1, rfl, HA, HK1, HO_11, HB⟩ := hrel
   cases gk with
   | zero => exact absurd HA.out (by simp [qMA.l0])
   | succ k1 =>
    have H := HA.out
    clear HA
    simp only [qMA.l0] at H
    by_cases c7 : x18_1 < (t120.length : Int)
    ·rw [if_pos c7] at H
     have c7b0 : decide (x18_1 < (t120.length : Int)) = true := decide_eq_true c7
     clear c7
     by_cases c8 : 0 ≤ x18_1
     ·rw [if_pos c8] at H
      have c8b0 : decide (0 ≤ x18_1) = true := decide_eq_true c8
      clear c8
      by_cases c9 : x18_1 < (t120.length : Int)
      ·rw [if_pos c9] at H
       have c9b0 : decide (x18_1 < (t120.length : Int)) = true := decide_eq_true c9
       clear c9
       by_cases c10 : ((rdOf ByteArray.empty t120 x18_1).size : Int) = ((rdOf ByteArray.empty t120 0).size : Int)
       ·rw [if_pos c10] at H
        have c10b0 : (((rdOf ByteArray.empty t120 x18_1).size : Int) == ((rdOf ByteArray.empty t120 0).size : Int)) = true := beq_iff_eq.mpr c10
        have c10b1 : (((rdOf ByteArray.empty t120 x18_1).size : Int) != ((rdOf ByteArray.empty t120 0).size : Int)) = false := bne_eq_false_iff_eq.mpr c10
        have c10b2 : ((rdOf ByteArray.empty t120 x18_1).size == (rdOf ByteArray.empty t120 0).size) = true := by first | simpa using c10 | (simp at c10 ⊢; omega)
        clear c10
        replace H := Option.bind_eq_some_iff.mp H
        obtain ⟨t125, A110, H⟩ := H
        replace H : (if t125.toList = ([] : List UInt8) then (qMA.l0 k1 a1 ((rdOf ByteArray.empty t120 0).size : Int) t120 (t120.length : Int) (wrap64 (x18_1 + 1))) else (some (([] : List ByteArray), false))) = some (r1, r2) := H
        have A11 := Aside0.mk A110
        clear A110
        by_cases c12 : t125.toList = ([] : List UInt8)
        ·rw [if_pos c12] at H
         have c12b0 : (t125.toList == ([] : List UInt8)) = true := beq_iff_eq.mpr c12
         have c12b1 : (t125.toList != ([] : List UInt8)) = false := bne_eq_false_iff_eq.mpr c12
         clear c12
         have H' := Aside0.mk H
         clear H
         have p124 : 0 ≤ (x18_1 : Int) := of_decide_eq_true (by first | (with_reducible assumption) | assumption)
         have q124 : x18_1 < (t120.length : Int) := of_decide_eq_true (by first | (with_reducible assumption) | assumption)
         obtain ⟨ad124, e124, hx124_0⟩ := Kd.qAB (Kd.qS HO_11.out).2.2 x18_1 p124 q124
         obtain rfl : ad123 = ad124 := (by injection e124)
         replace p124 := eq_true p124
         replace q124 := eq_true q124
         go_wp2_with (first | (go_at_call 102; (with_reducible refine (qlA.calls (rdOf ByteArray.empty t120 x18_1) a1 t125 _ A11.out).mono ?_); rintro e w13 ⟨rfl, hb⟩; have n0_ := Aside0.mk (Kd.qU (by (with_reducible repeat (first | apply Kd.qF | apply Kd.qE | apply Kd.qG)); exact HO_11.out) hb); have n1_ := Aside0.mk (qH bl hb); clear HO_11; clear HB; have HO_11 := n0_; have HB := n1_; clear n0_ n1_; (try clear hb); (try clear hb2); (try clear hk); (try clear hi)))
         go_roundg k1
         case measure => have := HK1.out; omega
         case rel => exact ⟨(wrap64 (x18_1 + 1)), (by first | rfl | (simp; done) | (simp [*]; done)), H', ⟨by have := HK1.out; omega⟩, ⟨by (with_reducible repeat (first | apply Kd.qF | apply Kd.qE | apply Kd.qG)); exact HO_11.out⟩, ⟨bl⟩⟩
        ·rw [if_neg c12] at H
         have c12b0 : (t125.toList == ([] : List UInt8)) = false := beq_eq_false_iff_ne.mpr c12
         have c12b1 : (t125.toList != ([] : List UInt8)) = true := bne_iff_ne.mpr c12
         simp only [Option.some.injEq, Prod.mk.injEq] at H
         obtain ⟨rfl, rfl⟩ := H
         have p124 : 0 ≤ (x18_1 : Int) := of_decide_eq_true (by first | (with_reducible assumption) | assumption)
         have q124 : x18_1 < (t120.length : Int) := of_decide_eq_true (by first | (with_reducible assumption) | assumption)
         obtain ⟨ad124, e124, hx124_0⟩ := Kd.qAB (Kd.qS HO_11.out).2.2 x18_1 p124 q124
         obtain rfl : ad123 = ad124 := (by injection e124)
         replace p124 := eq_true p124
         replace q124 := eq_true q124
         go_wp2_with (first | (go_at_call 102; (with_reducible refine (qlA.calls (rdOf ByteArray.empty t120 x18_1) a1 t125 _ A11.out).mono ?_); rintro e w14 ⟨rfl, hb⟩; have n0_ := Aside0.mk (Kd.qU (by (with_reducible repeat (first | apply Kd.qF | apply Kd.qE | apply Kd.qG)); exact HO_11.out) hb); have n1_ := Aside0.mk (qH bl hb); clear HO_11; clear HB; have HO_11 := n0_; have HB := n1_; clear n0_ n1_; (try clear hb); (try clear hb2); (try clear hk); (try clear hi)))
         go_ret2
         exact ⟨_, by first | rfl | (simp [qL, qK] <;> rfl) | (simp [*, qL, qK] <;> rfl), by first | exact Kd.R_nil _ _ _ _ _ | exact Kd.N_nil _ _ _ _ _ | exact Kd.V_nil _ _ _ _ _ | exact Kd.Q_nil _ _ _ _ _ | exact Kd.S_nil _ _ _ _ _, bl⟩
       ·rw [if_neg c10] at H
        have c10b0 : (((rdOf ByteArray.empty t120 x18_1).size : Int) == ((rdOf ByteArray.empty t120 0).size : Int)) = false := beq_eq_false_iff_ne.mpr c10
        have c10b1 : (((rdOf ByteArray.empty t120 x18_1).size : Int) != ((rdOf ByteArray.empty t120 0).size : Int)) = true := bne_iff_ne.mpr c10
        have c10b2 : ((rdOf ByteArray.empty t120 x18_1).size == (rdOf ByteArray.empty t120 0).size) = false := by first | simpa using c10 | (simp at c10 ⊢; omega)
        simp only [Option.some.injEq, Prod.mk.injEq] at H
        obtain ⟨rfl, rfl⟩ := H
        have p124 : 0 ≤ (x18_1 : Int) := of_decide_eq_true (by first | (with_reducible assumption) | assumption)
        have q124 : x18_1 < (t120.length : Int) := of_decide_eq_true (by first | (with_reducible assumption) | assumption)
        obtain ⟨ad124, e124, hx124_0⟩ := Kd.qAB (Kd.qS HO_11.out).2.2 x18_1 p124 q124
        obtain rfl : ad123 = ad124 := (by injection e124)
        replace p124 := eq_true p124
        replace q124 := eq_true q124
        go_wp2
        go_ret2
        exact ⟨_, by first | rfl | (simp [qL, qK] <;> rfl) | (simp [*, qL, qK] <;> rfl), by first | exact Kd.R_nil _ _ _ _ _ | exact Kd.N_nil _ _ _ _ _ | exact Kd.V_nil _ _ _ _ _ | exact Kd.Q_nil _ _ _ _ _ | exact Kd.S_nil _ _ _ _ _, bl⟩
      ·rw [if_neg c9] at H
       exact absurd H (by simp)
     ·rw [if_neg c8] at H
      exact absurd H (by simp)
    ·rw [if_neg c7] at H
     have c7b0 : decide (x18_1 < (t120.length : Int)) = false := decide_eq_false c7
     clear c7
     replace H := Option.bind_eq_some_iff.mp H
     obtain ⟨t126, A150, H⟩ := H
     replace H : (if t126 = true then ((qVA.f ((rdOf ByteArray.empty t120 0).size : Int) 1 7).bind fun t127 => (if t127 = true then (some (t120, decide ((wrap64 (((rdOf ByteArray.empty t120 0).size : Int) * (t120.length : Int))) ≤ 36))) else (some (t120, false)))) else (some (t120, false))) = some (r1, r2) := H
     have A15 := Aside0.mk A150
     clear A150
     by_cases c16 : t126 = true
     ·subst c16
      have H1 : ((qVA.f ((rdOf ByteArray.empty t120 0).size : Int) 1 7).bind fun t127 => (if t127 = true then (some (t120, decide ((wrap64 (((rdOf ByteArray.empty t120 0).size : Int) * (t120.length : Int))) ≤ 36))) else (some (t120, false)))) = some (r1, r2) := by rw [if_pos rfl] at H; exact H
      clear H
      have H := H1
      clear H1
      replace H := Option.bind_eq_some_iff.mp H
      obtain ⟨t127, A170, H⟩ := H
      replace H : (if t127 = true then (some (t120, decide ((wrap64 (((rdOf ByteArray.empty t120 0).size : Int) * (t120.length : Int))) ≤ 36))) else (some (t120, false))) = some (r1, r2) := H
      have A17 := Aside0.mk A170
      clear A170
      by_cases c18 : t127 = true
      ·subst c18
       have H1 : (some (t120, decide ((wrap64 (((rdOf ByteArray.empty t120 0).size : Int) * (t120.length : Int))) ≤ 36))) = some (r1, r2) := by rw [if_pos rfl] at H; exact H
       clear H
       have H := H1
       clear H1
       simp only [Option.some.injEq, Prod.mk.injEq] at H
       obtain ⟨rfl, rfl⟩ := H
       go_wp2_with (first | ((with_reducible refine qT (f := 82) rfl ?_); refine qDA (some 36) rfl rfl Tryd.func82 (by kernel_rfl) rfl #[.int .i64 (t120.length : Int), .int .i64 1, .int .i64 7] rfl (by (try simp only [List.map_toArray, List.map_cons, List.map_nil]); first | done | rfl | (simp only [List.length_drop, List.length_take]; rfl)) ?_; (with_reducible refine (qVA.calls (t120.length : Int) 1 7 true _ A15.out).mono ?_); rintro e w' ⟨rfl, ⟨nd, rfl⟩⟩; refine ⟨_, rfl, ?_⟩) | (go_at_call 82; (with_reducible refine (qVA.calls ((rdOf ByteArray.empty t120 0).size : Int) 1 7 true _ A17.out).mono ?_); rintro e w' ⟨rfl, ⟨nd, rfl⟩⟩))
       go_ret2
       exact ⟨_, by first | rfl | (simp [qL, qK] <;> rfl) | (simp [*, qL, qK] <;> rfl), by (with_reducible repeat (first | apply Kd.qF | apply Kd.qE | apply Kd.qG)); exact HO_11.out, bl⟩
      ·replace c18 := Bool.eq_false_iff.mpr c18
       subst c18
       have H1 : (some (t120, false)) = some (r1, r2) := by rw [if_neg (show ¬ (false = true) by decide)] at H; exact H
       clear H
       have H := H1
       clear H1
       simp only [Option.some.injEq, Prod.mk.injEq] at H
       obtain ⟨rfl, rfl⟩ := H
       go_wp2_with (first | ((with_reducible refine qT (f := 82) rfl ?_); refine qDA (some 36) rfl rfl Tryd.func82 (by kernel_rfl) rfl #[.int .i64 (t120.length : Int), .int .i64 1, .int .i64 7] rfl (by (try simp only [List.map_toArray, List.map_cons, List.map_nil]); first | done | rfl | (simp only [List.length_drop, List.length_take]; rfl)) ?_; (with_reducible refine (qVA.calls (t120.length : Int) 1 7 true _ A15.out).mono ?_); rintro e w' ⟨rfl, ⟨nd, rfl⟩⟩; refine ⟨_, rfl, ?_⟩) | (go_at_call 82; (with_reducible refine (qVA.calls ((rdOf ByteArray.empty t120 0).size : Int) 1 7 false _ A17.out).mono ?_); rintro e w' ⟨rfl, ⟨nd, rfl⟩⟩))
       go_ret2
       exact ⟨_, by first | rfl | (simp [qL, qK] <;> rfl) | (simp [*, qL, qK] <;> rfl), by (with_reducible repeat (first | apply Kd.qF | apply Kd.qE | apply Kd.qG)); exact HO_11.out, bl⟩
     ·replace c16 := Bool.eq_false_iff.mpr c16
      subst c16
      have H1 : (some (t120, false)) = some (r1, r2) := by rw [if_neg (show ¬ (false = true) by decide)] at H; exact H
      clear H
      have H := H1
      clear H1
      simp only [Option.some.injEq, Prod.mk.injEq] at H
      obtain ⟨rfl, rfl⟩ := H
      go_wp2_with (first | ((with_reducible refine qT (f := 82) rfl ?_); refine qDA (some 36) rfl rfl Tryd.func82 (by kernel_rfl) rfl #[.int .i64 (t120.length : Int), .int .i64 1, .int .i64 7] rfl (by (try simp only [List.map_toArray, List.map_cons, List.map_nil]); first | done | rfl | (simp only [List.length_drop, List.length_take]; rfl)) ?_; (with_reducible refine (qVA.calls (t120.length : Int) 1 7 false _ A15.out).mono ?_); rintro e w' ⟨rfl, ⟨nd, rfl⟩⟩; refine ⟨_, rfl, ?_⟩))
      go_ret2
      exact ⟨_, by first | rfl | (simp [qL, qK] <;> rfl) | (simp [*, qL, qK] <;> rfl), by (with_reducible repeat (first | apply Kd.qF | apply Kd.qE | apply Kd.qG)); exact HO_11.out, bl⟩
 ·rw [if_neg c4] at H
  exact absurd H (by simp)
end Go.Proofs.YtbpfhpjbeomfcaaDoor.P
namespace Go.Proofs.YtbpfhpjbeomfcaaDoor
open Go.RowKit Go.Proofs.YtbpfhpjbeomfcaaDoorW.PrintWords Go.Proofs.YtbpfhpjbeomfcaaDoorW.PrintLast
set_option linter.unusedVariables false
set_option linter.unusedSimpArgs false
def qaA.f (a0 a1 : ByteArray) : Option Int := match a1.data.toList with | [c] => some (Lib.countByte a0.data.toList c) | _ => none
theorem qaA.calls (a0 a1 : ByteArray) (r : Int) (w : World) (h : qaA.f a0 a1 = some r) :
  Calls Tryd.prog 78 #[.string a0, .string a1] w fun e w' => e = .returned (.int .i64 r) ∧ Drawn0 w w' := by
 unfold qaA.f at h
 split at h
 ·rename_i c hc
  obtain rfl := Option.some.inj h
  obtain ⟨⟨l⟩⟩ := a1
  obtain rfl : l = [c] := hc
  exact (Tryd.strings_Count_one a0 c w).mono fun e w' ⟨h1, h2⟩ => ⟨h1, by rw [h2]; exact Drawn0.refl w⟩
 ·cases h
end Go.Proofs.YtbpfhpjbeomfcaaDoor
namespace Go.Proofs.YtbpfhpjbeomfcaaDoor.P
open Go.RowKit Go.Proofs.YtbpfhpjbeomfcaaDoorW.PrintWords Go.Proofs.YtbpfhpjbeomfcaaDoorW.PrintLast Go.Proofs.YtbpfhpjbeomfcaaDoorW.PrintMore
attribute [local go_sem] qBA qz qKA qJA qq qp qAA qy
set_option linter.unusedVariables false
set_option linter.unusedSimpArgs false
def qXA.f (k : Nat) (a0 : ByteArray) : Option (List ByteArray × Bool) := (qMA.f k a0 (⟨#[46, 35, 45, 111]⟩ : ByteArray)).bind fun bt128 => (if bt128.2 = true then ((qaA.f a0 (⟨#[111]⟩ : ByteArray)).bind fun t132 => (some (bt128.1, decide (t132 ≤ 1)))) else (some (bt128.1, false)))
set_option maxHeartbeats 8000000 in
set_option maxRecDepth 100000 in
theorem qXA.calls (k : Nat) (a0 : ByteArray) (r1 : List ByteArray) (r2 : Bool) (w : World) (hL : Laid w) (h : qXA.f k a0 = some (r1, r2)) :
  Calls Tryd.prog 54 #[.string a0] w fun e w' => ∃ v0_ : Value, e = .returned (.tuple #[v0_, .bool r2]) ∧ Kd.R Kd.string 9 w' w.heap.size (fun _ => True) v0_ r1 ∧ Below w.heap.size w w' := by
 have HLD := Aside0.mk hL
 clear hL
 have HB := Aside0.mk (Below.refl w.heap.size w)
 have H : ((qMA.f k a0 (⟨#[46, 35, 45, 111]⟩ : ByteArray)).bind fun bt128 => (if bt128.2 = true then ((qaA.f a0 (⟨#[111]⟩ : ByteArray)).bind fun t132 => (some (bt128.1, decide (t132 ≤ 1)))) else (some (bt128.1, false)))) = some (r1, r2) := h
 clear h
 replace H := Option.bind_eq_some_iff.mp H
 obtain ⟨⟨t128, t129⟩, A20, H⟩ := H
 replace H : (if t129 = true then ((qaA.f a0 (⟨#[111]⟩ : ByteArray)).bind fun t132 => (some (t128, decide (t132 ≤ 1)))) else (some (t128, false))) = some (r1, r2) := H
 have A2 := Aside0.mk A20
 clear A20
 by_cases c3 : t129 = true
 ·subst c3
  have H1 : ((qaA.f a0 (⟨#[111]⟩ : ByteArray)).bind fun t132 => (some (t128, decide (t132 ≤ 1)))) = some (r1, r2) := by rw [if_pos rfl] at H; exact H
  clear H
  have H := H1
  clear H1
  replace H := Option.bind_eq_some_iff.mp H
  obtain ⟨t132, A40, H⟩ := H
  replace H : (some (t128, decide (t132 ≤ 1))) = some (r1, r2) := H
  have A4 := Aside0.mk A40
  clear A40
  simp only [Option.some.injEq, Prod.mk.injEq] at H
  obtain ⟨rfl, rfl⟩ := H
  go_enter Tryd.func54, Tryd.ntmps54
  go_wp2_with (first | ((with_reducible refine qT (f := 77) rfl ?_); refine qDA (some 8) rfl rfl Tryd.func77 (by kernel_rfl) rfl #[.string a0, .string (⟨#[46, 35, 45, 111]⟩ : ByteArray)] rfl (by (try simp only [List.map_toArray, List.map_cons, List.map_nil]); first | done | rfl | (simp only [List.length_drop, List.length_take]; rfl)) ?_; (with_reducible refine (qMA.calls k a0 (⟨#[46, 35, 45, 111]⟩ : ByteArray) t128 true _ ?side1 A2.out).mono ?_); (case side1 => first | exact HLD.out | exact Laid.below HLD.out (by repeat (first | (with_reducible first | exact HB.out | apply qt | apply qo | apply qk | refine qUA ?_ (Aside0.out (by with_reducible assumption))) | exact HB.out))); rintro e w5 ⟨v130, rfl, ho0, hb⟩; refine ⟨_, rfl, ?_⟩; have n0_ := Aside0.mk (Kd.qEA ho0 (qh bl)); have n1_ := Aside0.mk (qH bl hb); clear HB; have HO131 := n0_; have HB := n1_; clear n0_ n1_; (try clear hb); (try clear hb2); (try clear hk); (try clear hi); (try clear ho0)) | (go_at_call 78; (with_reducible refine (qaA.calls a0 (⟨#[111]⟩ : ByteArray) t132 _ A4.out).mono ?_); rintro e w' ⟨rfl, ⟨nd, rfl⟩⟩))
  go_ret2
  exact ⟨_, by first | rfl | (simp [qL, qK] <;> rfl) | (simp [*, qL, qK] <;> rfl), by (with_reducible repeat (first | apply Kd.qF | apply Kd.qE | apply Kd.qG)); exact HO131.out, bl⟩
 ·replace c3 := Bool.eq_false_iff.mpr c3
  subst c3
  have H1 : (some (t128, false)) = some (r1, r2) := by rw [if_neg (show ¬ (false = true) by decide)] at H; exact H
  clear H
  have H := H1
  clear H1
  simp only [Option.some.injEq, Prod.mk.injEq] at H
  obtain ⟨rfl, rfl⟩ := H
  go_enter Tryd.func54, Tryd.ntmps54
  go_wp2_with (first | ((with_reducible refine qT (f := 77) rfl ?_); refine qDA (some 8) rfl rfl Tryd.func77 (by kernel_rfl) rfl #[.string a0, .string (⟨#[46, 35, 45, 111]⟩ : ByteArray)] rfl (by (try simp only [List.map_toArray, List.map_cons, List.map_nil]); first | done | rfl | (simp only [List.length_drop, List.length_take]; rfl)) ?_; (with_reducible refine (qMA.calls k a0 (⟨#[46, 35, 45, 111]⟩ : ByteArray) t128 false _ ?side1 A2.out).mono ?_); (case side1 => first | exact HLD.out | exact Laid.below HLD.out (by repeat (first | (with_reducible first | exact HB.out | apply qt | apply qo | apply qk | refine qUA ?_ (Aside0.out (by with_reducible assumption))) | exact HB.out))); rintro e w6 ⟨v130, rfl, ho0, hb⟩; refine ⟨_, rfl, ?_⟩; have n0_ := Aside0.mk (Kd.qEA ho0 (qh bl)); have n1_ := Aside0.mk (qH bl hb); clear HB; have HO131 := n0_; have HB := n1_; clear n0_ n1_; (try clear hb); (try clear hb2); (try clear hk); (try clear hi); (try clear ho0)))
  go_ret2
  exact ⟨_, by first | rfl | (simp [qL, qK] <;> rfl) | (simp [*, qL, qK] <;> rfl), by (with_reducible repeat (first | apply Kd.qF | apply Kd.qE | apply Kd.qG)); exact HO131.out, bl⟩
def qIA.f (l0 : List ByteArray) (a1 : Int) (a2 : Int) : Option (Bool) := (qVA.f a2 0 (wrap64 ((l0.length : Int) - 1))).bind fun t187 => (if t187 = true then (if 0 < (l0.length : Int) then ((qVA.f a1 0 (wrap64 (((rdOf ByteArray.empty l0 0).size : Int) - 1))).bind fun t189 => (some t189)) else (none)) else (some false))
set_option maxHeartbeats 8000000 in
set_option maxRecDepth 100000 in
theorem qIA.calls (A0 : Option Addr) (c0 : Nat) (l0 : List ByteArray) (a1 : Int) (a2 : Int) (r : Bool) (w : World) (hr0 : Kd.C Kd.string w A0 l0.length l0) (hc0 : l0.length ≤ c0) (h : qIA.f l0 a1 a2 = some r) :
  Calls Tryd.prog 83 #[.slice A0 l0.length c0, .int .i64 a1, .int .i64 a2] w fun e w' => e = .returned (.bool r) ∧ Drawn0 w w' := by
 have HR0 := Aside0.mk hr0
 have HC0 := Aside0.mk hc0
 clear hr0 hc0
 have H : ((qVA.f a2 0 (wrap64 ((l0.length : Int) - 1))).bind fun t187 => (if t187 = true then (if 0 < (l0.length : Int) then ((qVA.f a1 0 (wrap64 (((rdOf ByteArray.empty l0 0).size : Int) - 1))).bind fun t189 => (some t189)) else (none)) else (some false))) = some r := h
 clear h
 replace H := Option.bind_eq_some_iff.mp H
 obtain ⟨t187, A40, H⟩ := H
 replace H : (if t187 = true then (if 0 < (l0.length : Int) then ((qVA.f a1 0 (wrap64 (((rdOf ByteArray.empty l0 0).size : Int) - 1))).bind fun t189 => (some t189)) else (none)) else (some false)) = some r := H
 have A4 := Aside0.mk A40
 clear A40
 by_cases c5 : t187 = true
 ·subst c5
  have H1 : (if 0 < (l0.length : Int) then ((qVA.f a1 0 (wrap64 (((rdOf ByteArray.empty l0 0).size : Int) - 1))).bind fun t189 => (some t189)) else (none)) = some r := by rw [if_pos rfl] at H; exact H
  clear H
  have H := H1
  clear H1
  by_cases c6 : 0 < (l0.length : Int)
  ·rw [if_pos c6] at H
   have c6b0 : decide (0 < (l0.length : Int)) = true := decide_eq_true c6
   have c6b1 : decide (0 < l0.length) = true := decide_eq_true (by omega)
   clear c6
   replace H := Option.bind_eq_some_iff.mp H
   obtain ⟨t189, A70, H⟩ := H
   replace H : (some t189) = some r := H
   have A7 := Aside0.mk A70
   clear A70
   obtain rfl := Option.some.inj H
   go_enter Tryd.func83, Tryd.ntmps83
   go_wp2_with (first | ((with_reducible refine qT (f := 82) rfl ?_); refine qDA (some 11) rfl rfl Tryd.func82 (by kernel_rfl) rfl #[.int .i64 a2, .int .i64 0, .int .i64 (wrap64 ((l0.length : Int) - 1))] rfl (by (try simp only [List.map_toArray, List.map_cons, List.map_nil]); first | done | rfl | (simp only [List.length_drop, List.length_take]; rfl)) ?_; (with_reducible refine (qVA.calls a2 0 (wrap64 ((l0.length : Int) - 1)) true _ A4.out).mono ?_); rintro e w' ⟨rfl, ⟨nd, rfl⟩⟩; refine ⟨_, rfl, ?_⟩; have p188 : 0 ≤ (0 : Int) := (by omega); have q188 : 0 < (l0.length : Int) := of_decide_eq_true (by first | (with_reducible assumption) | assumption); obtain ⟨ad188, e188, hx188_0⟩ := Kd.qAB HR0.out 0 p188 q188; cases e188; have qi188 : (0 < l0.length) = True := eq_true (by omega); (try rw [show ((0 : Int)).toNat = 0 from rfl] at hx188_0); (try rw [Addr.add_zero'] at hx188_0); replace p188 := eq_true p188; replace q188 := eq_true q188) | (go_at_call 82; (with_reducible refine (qVA.calls a1 0 (wrap64 (((rdOf ByteArray.empty l0 0).size : Int) - 1)) t189 _ A7.out).mono ?_); rintro e w' ⟨rfl, ⟨nd, rfl⟩⟩))
   go_ret
   exact ⟨by first | rfl | (simp; done) | (simp [*]; done), by repeat (first | exact Drawn0.refl _ | apply Drawn0.step)⟩
  ·rw [if_neg c6] at H
   exact absurd H (by simp)
 ·replace c5 := Bool.eq_false_iff.mpr c5
  subst c5
  have H1 : (some false) = some r := by rw [if_neg (show ¬ (false = true) by decide)] at H; exact H
  clear H
  have H := H1
  clear H1
  obtain rfl := Option.some.inj H
  go_enter Tryd.func83, Tryd.ntmps83
  go_wp2_with (first | ((with_reducible refine qT (f := 82) rfl ?_); refine qDA (some 11) rfl rfl Tryd.func82 (by kernel_rfl) rfl #[.int .i64 a2, .int .i64 0, .int .i64 (wrap64 ((l0.length : Int) - 1))] rfl (by (try simp only [List.map_toArray, List.map_cons, List.map_nil]); first | done | rfl | (simp only [List.length_drop, List.length_take]; rfl)) ?_; (with_reducible refine (qVA.calls a2 0 (wrap64 ((l0.length : Int) - 1)) false _ A4.out).mono ?_); rintro e w' ⟨rfl, ⟨nd, rfl⟩⟩; refine ⟨_, rfl, ?_⟩))
  go_ret
  exact ⟨by first | rfl | (simp; done) | (simp [*]; done), by repeat (first | exact Drawn0.refl _ | apply Drawn0.step)⟩
def qSA.f (l0 : List ByteArray) (a1 : Int) (a2 : Int) : Option (Int) := (qIA.f l0 a1 a2).bind fun t190 => (if t190 = true then (if 0 ≤ a2 then (if a2 < (l0.length : Int) then (if 0 ≤ a1 then (if a1 < ((rdOf ByteArray.empty l0 a2).size : Int) then (some (bt (rdOf ByteArray.empty l0 a2) a1)) else (none)) else (none)) else (none)) else (none)) else (some 0))
set_option maxHeartbeats 8000000 in
set_option maxRecDepth 100000 in
theorem qSA.calls (A0 : Option Addr) (c0 : Nat) (l0 : List ByteArray) (a1 : Int) (a2 : Int) (r : Int) (w : World) (hr0 : Kd.C Kd.string w A0 l0.length l0) (hc0 : l0.length ≤ c0) (h : qSA.f l0 a1 a2 = some r) :
  Calls Tryd.prog 71 #[.slice A0 l0.length c0, .int .i64 a1, .int .i64 a2] w fun e w' => e = .returned (.int .u8 r) ∧ Drawn0 w w' := by
 have HR0 := Aside0.mk hr0
 have HC0 := Aside0.mk hc0
 clear hr0 hc0
 have H : ((qIA.f l0 a1 a2).bind fun t190 => (if t190 = true then (if 0 ≤ a2 then (if a2 < (l0.length : Int) then (if 0 ≤ a1 then (if a1 < ((rdOf ByteArray.empty l0 a2).size : Int) then (some (bt (rdOf ByteArray.empty l0 a2) a1)) else (none)) else (none)) else (none)) else (none)) else (some 0))) = some r := h
 clear h
 replace H := Option.bind_eq_some_iff.mp H
 obtain ⟨t190, A40, H⟩ := H
 replace H : (if t190 = true then (if 0 ≤ a2 then (if a2 < (l0.length : Int) then (if 0 ≤ a1 then (if a1 < ((rdOf ByteArray.empty l0 a2).size : Int) then (some (bt (rdOf ByteArray.empty l0 a2) a1)) else (none)) else (none)) else (none)) else (none)) else (some 0)) = some r := H
 have A4 := Aside0.mk A40
 clear A40
 by_cases c5 : t190 = true
 ·subst c5
  have H1 : (if 0 ≤ a2 then (if a2 < (l0.length : Int) then (if 0 ≤ a1 then (if a1 < ((rdOf ByteArray.empty l0 a2).size : Int) then (some (bt (rdOf ByteArray.empty l0 a2) a1)) else (none)) else (none)) else (none)) else (none)) = some r := by rw [if_pos rfl] at H; exact H
  clear H
  have H := H1
  clear H1
  by_cases c6 : 0 ≤ a2
  ·rw [if_pos c6] at H
   have c6b0 : decide (0 ≤ a2) = true := decide_eq_true c6
   clear c6
   by_cases c7 : a2 < (l0.length : Int)
   ·rw [if_pos c7] at H
    have c7b0 : decide (a2 < (l0.length : Int)) = true := decide_eq_true c7
    clear c7
    by_cases c8 : 0 ≤ a1
    ·rw [if_pos c8] at H
     have c8b0 : decide (0 ≤ a1) = true := decide_eq_true c8
     clear c8
     by_cases c9 : a1 < ((rdOf ByteArray.empty l0 a2).size : Int)
     ·rw [if_pos c9] at H
      have c9b0 : decide (a1 < ((rdOf ByteArray.empty l0 a2).size : Int)) = true := decide_eq_true c9
      clear c9
      obtain rfl := Option.some.inj H
      go_enter Tryd.func71, Tryd.ntmps71
      go_wp2_with (first | ((with_reducible refine qT (f := 83) rfl ?_); refine qDA (some 10) rfl rfl Tryd.func83 (by kernel_rfl) rfl #[.slice A0 l0.length c0, .int .i64 a1, .int .i64 a2] rfl (by (try simp only [List.map_toArray, List.map_cons, List.map_nil]); first | done | rfl | (simp only [List.length_drop, List.length_take]; rfl)) ?_; (with_reducible refine (qIA.calls _ _ l0 a1 a2 true _ ?side1 ?side2 A4.out).mono ?_); (case side1 => repeat (first | exact HR0.out | (with_reducible refine Kd.qx ?_ _) | (with_reducible refine Kd.qw ?_ _) | (with_reducible refine Kd.qLA ?_))); (case side2 => exact HC0.out); rintro e w' ⟨rfl, ⟨nd, rfl⟩⟩; refine ⟨_, rfl, ?_⟩; have p191 : 0 ≤ (a2 : Int) := of_decide_eq_true (by first | (with_reducible assumption) | assumption); have q191 : a2 < (l0.length : Int) := of_decide_eq_true (by first | (with_reducible assumption) | assumption); obtain ⟨ad191, e191, hx191_0⟩ := Kd.qAB HR0.out a2 p191 q191; cases e191; replace p191 := eq_true p191; replace q191 := eq_true q191; have p10 : 0 ≤ (a1 : Int) := of_decide_eq_true (by first | (with_reducible assumption) | assumption); have q10 : a1 < ((rdOf ByteArray.empty l0 a2).size : Int) := of_decide_eq_true (by first | (with_reducible assumption) | assumption); have hx10 := bt_at (rdOf ByteArray.empty l0 a2) a1; replace p10 := eq_true p10; replace q10 := eq_true q10))
      go_ret
      exact ⟨by first | rfl | (simp; done) | (simp [*]; done), by repeat (first | exact Drawn0.refl _ | apply Drawn0.step)⟩
     ·rw [if_neg c9] at H
      exact absurd H (by simp)
    ·rw [if_neg c8] at H
     exact absurd H (by simp)
   ·rw [if_neg c7] at H
    exact absurd H (by simp)
  ·rw [if_neg c6] at H
   exact absurd H (by simp)
 ·replace c5 := Bool.eq_false_iff.mpr c5
  subst c5
  have H1 : (some 0) = some r := by rw [if_neg (show ¬ (false = true) by decide)] at H; exact H
  clear H
  have H := H1
  clear H1
  obtain rfl := Option.some.inj H
  go_enter Tryd.func71, Tryd.ntmps71
  go_wp2_with (first | ((with_reducible refine qT (f := 83) rfl ?_); refine qDA (some 10) rfl rfl Tryd.func83 (by kernel_rfl) rfl #[.slice A0 l0.length c0, .int .i64 a1, .int .i64 a2] rfl (by (try simp only [List.map_toArray, List.map_cons, List.map_nil]); first | done | rfl | (simp only [List.length_drop, List.length_take]; rfl)) ?_; (with_reducible refine (qIA.calls _ _ l0 a1 a2 false _ ?side1 ?side2 A4.out).mono ?_); (case side1 => repeat (first | exact HR0.out | (with_reducible refine Kd.qx ?_ _) | (with_reducible refine Kd.qw ?_ _) | (with_reducible refine Kd.qLA ?_))); (case side2 => exact HC0.out); rintro e w' ⟨rfl, ⟨nd, rfl⟩⟩; refine ⟨_, rfl, ?_⟩))
  go_ret
  exact ⟨by first | rfl | (simp; done) | (simp [*]; done), by repeat (first | exact Drawn0.refl _ | apply Drawn0.step)⟩
def qpA.f (a0_0 : Int) (a0_1 : Int) (a0_2 : Int) : Option ((List (S96))) := if a0_2 = 1 then (some (([(⟨a0_0, a0_1⟩ : S96), (⟨wrap64 (a0_0 + 1), a0_1⟩ : S96)] : List (S96)))) else (if a0_2 = 2 then (some (([(⟨a0_0, a0_1⟩ : S96), (⟨a0_0, wrap64 (a0_1 + 1)⟩ : S96)] : List (S96)))) else (some (([(⟨a0_0, a0_1⟩ : S96)] : List (S96)))))
set_option maxHeartbeats 8000000 in
set_option maxRecDepth 100000 in
theorem qpA.calls (a0_0 : Int) (a0_1 : Int) (a0_2 : Int) (r : List (S96)) (w : World) (h : qpA.f a0_0 a0_1 a0_2 = some r) :
  Calls Tryd.prog 85 #[.agg #[.int .i64 a0_0, .int .i64 a0_1, .int .i64 a0_2]] w fun e w' => ∃ v0_ : Value, e = .returned (v0_) ∧ Kd.R k96 96 w' w.heap.size (fun _ => True) v0_ r ∧ Below w.heap.size w w' := by
 have hu27 := Tryd.underlying27
 have hu96 := Tryd.underlying96
 have HB := Aside0.mk (Below.refl w.heap.size w)
 have H : (if a0_2 = 1 then (some (([(⟨a0_0, a0_1⟩ : S96), (⟨wrap64 (a0_0 + 1), a0_1⟩ : S96)] : List (S96)))) else (if a0_2 = 2 then (some (([(⟨a0_0, a0_1⟩ : S96), (⟨a0_0, wrap64 (a0_1 + 1)⟩ : S96)] : List (S96)))) else (some (([(⟨a0_0, a0_1⟩ : S96)] : List (S96)))))) = some r := h
 clear h
 by_cases c2 : a0_2 = 1
 ·rw [if_pos c2] at H
  have c2b0 : (a0_2 == 1) = true := beq_iff_eq.mpr c2
  have c2b1 : (a0_2 != 1) = false := bne_eq_false_iff_eq.mpr c2
  clear c2
  obtain ⟨y193, hy193⟩ : ∃ y_ : List (S96), y_ = (([(⟨a0_0, a0_1⟩ : S96), (⟨wrap64 (a0_0 + 1), a0_1⟩ : S96)] : List (S96))) := ⟨_, rfl⟩
  replace H : (some y193) = some r := by first | (rw [hy193]; with_reducible exact H) | (have H2_ := (Option.bind_some _ _).symm.trans H; rw [hy193]; with_reducible exact H2_) | (have H2_ := (Option.bind_some _ _).symm.trans H; with_reducible exact H2_) | with_reducible exact H | (rw [hy193]; exact H) | exact H
  have Ny193 := Aside0.mk hy193
  clear hy193
  obtain rfl := Option.some.inj H
  go_enter Tryd.func85, Tryd.ntmps85
  go_wp2_with (first | ((with_reducible refine qe (N := 1) rfl ?_); refine qb ?hg (N := 1) ?hd (cs := #[.int .i64 a0_0, .int .i64 a0_1, .int .i64 a0_2]) (t := 27) ?hr ?_; (case hd => rfl); (case hg => rfl); (case hr => first | (go_simp; done) | (go_simp; rfl)); intro gb192 hg w3 hbox hb; have n0_ := Aside0.mk (qH bl hb); have n1_ := Aside0.mk (hbox); have n2_ := Aside0.mk ((gg hg)); have n3_ := Aside0.mk ((gg hg)); clear HB; have HB := n0_; have BK192 := n1_; have GW192 := n2_; have GE192 := n3_; clear n0_ n1_ n2_ n3_; clear hb hbox hg; have hcz4_0 := bc BK192 0; have hcz4_1 := bc BK192 1; have hcz4_2 := bc BK192 2; have hfz4_0 := qD BK192.out 0; have hfz4_1 := qD BK192.out 1; have hfz4_2 := qD BK192.out 2) | ((with_reducible refine qe (N := 18) rfl ?_); refine Kd.R_lit k96 _ 96 ?hg (N := 18) ?hd (xs := ([(⟨a0_0, a0_1⟩ : S96), (⟨wrap64 (a0_0 + 1), a0_1⟩ : S96)] : List (S96))) (inner := [.int .i64 a0_0, .int .i64 a0_1, .int .i64 (wrap64 (a0_0 + 1)), .int .i64 a0_1]) (ok := fun _ => True) (okp := fun _ => True) ?hr ?hp (fun _ hk => hk) trivial (Below.refl _ _) (Nat.le_refl _) (by simp) ?_; (case hd => rfl); (case hg => rfl); (case hr => first | (go_simp; done) | (go_simp; rfl)); (case hp => exact (Reps.c2 (show Kd.M k96 _ _ _ (⟨a0_0, a0_1⟩ : S96) [.int .i64 a0_0, .int .i64 a0_1] from (qAC _ _ _ (⟨a0_0, a0_1⟩ : S96) )) (Reps.c2 (show Kd.M k96 _ _ _ (⟨wrap64 (a0_0 + 1), a0_1⟩ : S96) [.int .i64 (wrap64 (a0_0 + 1)), .int .i64 a0_1] from (qAC _ _ _ (⟨wrap64 (a0_0 + 1), a0_1⟩ : S96) )) (Reps.none _ _)))); intro v194 w5 ho6 hb hg_ hnew_; clear hg_ hnew_; (first | rw [← Ny193.out] at ho6 | (simp only [Int.reduceToNat] at ho6; rw [← Ny193.out] at ho6)); have n0_ := Aside0.mk (Kd.qEA ho6 (qh bl)); have n1_ := Aside0.mk (bb BK192 hb); have n2_ := Aside0.mk (qH bl hb); clear BK192; clear HB; have HO195 := n0_; have BK192 := n1_; have HB := n2_; clear n0_ n1_ n2_; clear hb ho6))
  go_ret
  exact ⟨_, by first | rfl | (simp [qL, qK] <;> rfl) | (simp [*, qL, qK] <;> rfl), by (with_reducible repeat (first | apply Kd.qF | apply Kd.qE | apply Kd.qG)); exact HO195.out, bl⟩
 ·rw [if_neg c2] at H
  have c2b0 : (a0_2 == 1) = false := beq_eq_false_iff_ne.mpr c2
  have c2b1 : (a0_2 != 1) = true := bne_iff_ne.mpr c2
  by_cases c7 : a0_2 = 2
  ·rw [if_pos c7] at H
   have c7b0 : (a0_2 == 2) = true := beq_iff_eq.mpr c7
   have c7b1 : (a0_2 != 2) = false := bne_eq_false_iff_eq.mpr c7
   clear c7
   obtain ⟨y196, hy196⟩ : ∃ y_ : List (S96), y_ = (([(⟨a0_0, a0_1⟩ : S96), (⟨a0_0, wrap64 (a0_1 + 1)⟩ : S96)] : List (S96))) := ⟨_, rfl⟩
   replace H : (some y196) = some r := by first | (rw [hy196]; with_reducible exact H) | (have H2_ := (Option.bind_some _ _).symm.trans H; rw [hy196]; with_reducible exact H2_) | (have H2_ := (Option.bind_some _ _).symm.trans H; with_reducible exact H2_) | with_reducible exact H | (rw [hy196]; exact H) | exact H
   have Ny196 := Aside0.mk hy196
   clear hy196
   obtain rfl := Option.some.inj H
   go_enter Tryd.func85, Tryd.ntmps85
   go_wp2_with (first | ((with_reducible refine qe (N := 1) rfl ?_); refine qb ?hg (N := 1) ?hd (cs := #[.int .i64 a0_0, .int .i64 a0_1, .int .i64 a0_2]) (t := 27) ?hr ?_; (case hd => rfl); (case hg => rfl); (case hr => first | (go_simp; done) | (go_simp; rfl)); intro gb192 hg w8 hbox hb; have n0_ := Aside0.mk (qH bl hb); have n1_ := Aside0.mk (hbox); have n2_ := Aside0.mk ((gg hg)); have n3_ := Aside0.mk ((gg hg)); clear HB; have HB := n0_; have BK192 := n1_; have GW192 := n2_; have GE192 := n3_; clear n0_ n1_ n2_ n3_; clear hb hbox hg; have hcz9_0 := bc BK192 0; have hcz9_1 := bc BK192 1; have hcz9_2 := bc BK192 2; have hfz9_0 := qD BK192.out 0; have hfz9_1 := qD BK192.out 1; have hfz9_2 := qD BK192.out 2) | ((with_reducible refine qe (N := 32) rfl ?_); refine Kd.R_lit k96 _ 96 ?hg (N := 32) ?hd (xs := ([(⟨a0_0, a0_1⟩ : S96), (⟨a0_0, wrap64 (a0_1 + 1)⟩ : S96)] : List (S96))) (inner := [.int .i64 a0_0, .int .i64 a0_1, .int .i64 a0_0, .int .i64 (wrap64 (a0_1 + 1))]) (ok := fun _ => True) (okp := fun _ => True) ?hr ?hp (fun _ hk => hk) trivial (Below.refl _ _) (Nat.le_refl _) (by simp) ?_; (case hd => rfl); (case hg => rfl); (case hr => first | (go_simp; done) | (go_simp; rfl)); (case hp => exact (Reps.c2 (show Kd.M k96 _ _ _ (⟨a0_0, a0_1⟩ : S96) [.int .i64 a0_0, .int .i64 a0_1] from (qAC _ _ _ (⟨a0_0, a0_1⟩ : S96) )) (Reps.c2 (show Kd.M k96 _ _ _ (⟨a0_0, wrap64 (a0_1 + 1)⟩ : S96) [.int .i64 a0_0, .int .i64 (wrap64 (a0_1 + 1))] from (qAC _ _ _ (⟨a0_0, wrap64 (a0_1 + 1)⟩ : S96) )) (Reps.none _ _)))); intro v197 w10 ho11 hb hg_ hnew_; clear hg_ hnew_; (first | rw [← Ny196.out] at ho11 | (simp only [Int.reduceToNat] at ho11; rw [← Ny196.out] at ho11)); have n0_ := Aside0.mk (Kd.qEA ho11 (qh bl)); have n1_ := Aside0.mk (bb BK192 hb); have n2_ := Aside0.mk (qH bl hb); clear BK192; clear HB; have HO198 := n0_; have BK192 := n1_; have HB := n2_; clear n0_ n1_ n2_; clear hb ho11))
   go_ret
   exact ⟨_, by first | rfl | (simp [qL, qK] <;> rfl) | (simp [*, qL, qK] <;> rfl), by (with_reducible repeat (first | apply Kd.qF | apply Kd.qE | apply Kd.qG)); exact HO198.out, bl⟩
  ·rw [if_neg c7] at H
   have c7b0 : (a0_2 == 2) = false := beq_eq_false_iff_ne.mpr c7
   have c7b1 : (a0_2 != 2) = true := bne_iff_ne.mpr c7
   obtain ⟨y199, hy199⟩ : ∃ y_ : List (S96), y_ = (([(⟨a0_0, a0_1⟩ : S96)] : List (S96))) := ⟨_, rfl⟩
   replace H : (some y199) = some r := by first | (rw [hy199]; with_reducible exact H) | (have H2_ := (Option.bind_some _ _).symm.trans H; rw [hy199]; with_reducible exact H2_) | (have H2_ := (Option.bind_some _ _).symm.trans H; with_reducible exact H2_) | with_reducible exact H | (rw [hy199]; exact H) | exact H
   have Ny199 := Aside0.mk hy199
   clear hy199
   obtain rfl := Option.some.inj H
   go_enter Tryd.func85, Tryd.ntmps85
   go_wp2_with (first | ((with_reducible refine qe (N := 1) rfl ?_); refine qb ?hg (N := 1) ?hd (cs := #[.int .i64 a0_0, .int .i64 a0_1, .int .i64 a0_2]) (t := 27) ?hr ?_; (case hd => rfl); (case hg => rfl); (case hr => first | (go_simp; done) | (go_simp; rfl)); intro gb192 hg w12 hbox hb; have n0_ := Aside0.mk (qH bl hb); have n1_ := Aside0.mk (hbox); have n2_ := Aside0.mk ((gg hg)); have n3_ := Aside0.mk ((gg hg)); clear HB; have HB := n0_; have BK192 := n1_; have GW192 := n2_; have GE192 := n3_; clear n0_ n1_ n2_ n3_; clear hb hbox hg; have hcz13_0 := bc BK192 0; have hcz13_1 := bc BK192 1; have hcz13_2 := bc BK192 2; have hfz13_0 := qD BK192.out 0; have hfz13_1 := qD BK192.out 1; have hfz13_2 := qD BK192.out 2) | ((with_reducible refine qe (N := 38) rfl ?_); refine Kd.R_lit k96 _ 96 ?hg (N := 38) ?hd (xs := ([(⟨a0_0, a0_1⟩ : S96)] : List (S96))) (inner := [.int .i64 a0_0, .int .i64 a0_1]) (ok := fun _ => True) (okp := fun _ => True) ?hr ?hp (fun _ hk => hk) trivial (Below.refl _ _) (Nat.le_refl _) (by simp) ?_; (case hd => rfl); (case hg => rfl); (case hr => first | (go_simp; done) | (go_simp; rfl)); (case hp => exact (Reps.c2 (show Kd.M k96 _ _ _ (⟨a0_0, a0_1⟩ : S96) [.int .i64 a0_0, .int .i64 a0_1] from (qAC _ _ _ (⟨a0_0, a0_1⟩ : S96) )) (Reps.none _ _))); intro v200 w14 ho15 hb hg_ hnew_; clear hg_ hnew_; (first | rw [← Ny199.out] at ho15 | (simp only [Int.reduceToNat] at ho15; rw [← Ny199.out] at ho15)); have n0_ := Aside0.mk (Kd.qEA ho15 (qh bl)); have n1_ := Aside0.mk (bb BK192 hb); have n2_ := Aside0.mk (qH bl hb); clear BK192; clear HB; have HO201 := n0_; have BK192 := n1_; have HB := n2_; clear n0_ n1_ n2_; clear hb ho15))
   go_ret
   exact ⟨_, by first | rfl | (simp [qL, qK] <;> rfl) | (simp [*, qL, qK] <;> rfl), by (with_reducible repeat (first | apply Kd.qF | apply Kd.qE | apply Kd.qG)); exact HO201.out, bl⟩
end Go.Proofs.YtbpfhpjbeomfcaaDoor.P
namespace Go.Proofs.YtbpfhpjbeomfcaaDoor
open Go.RowKit Go.Proofs.YtbpfhpjbeomfcaaDoor.P Go.Proofs.YtbpfhpjbeomfcaaDoorW.PrintWords Go.Proofs.YtbpfhpjbeomfcaaDoorW.PrintLast
set_option linter.unusedVariables false
set_option linter.unusedSimpArgs false
def PredOn {α : Type} (g : Nat) (lb : Array Value) (enc : α → Value) (p : α → Bool) (l : List α) (w : World) : Prop :=
 ∀ (W : World) (x : α), x ∈ l → Below w.heap.size w W → Calls Tryd.prog g (#[enc x] ++ lb) W fun e w' => e = .returned (.bool (p x)) ∧ Below W.heap.size W w'
theorem PredOn.later {α : Type} {g : Nat} {lb : Array Value} {enc : α → Value} {p : α → Bool} {l : List α} {w w1 : World} (h : PredOn g lb enc p l w) (hb : Below w.heap.size w w1) : PredOn g lb enc p l w1 :=
 fun W x hx hW => h W x hx (qcB hb hb.size hW)
def idxP {α : Type} (p : α → Bool) (l : List α) : Int := match l.findIdx? p with | some i => (i : Int) | none => -1
theorem idxP_hit {α : Type} (p : α → Bool) (l : List α) (k : Nat) (hk : k < l.length) (h0 : ∀ j, (h : j < k) → p (l[j]'(by omega)) = false) (h1 : p l[k] = true) : idxP p l = (k : Int) := by
 unfold idxP
 have : l.findIdx? p = some k := by
  rw [List.findIdx?_eq_some_iff_getElem]
  exact ⟨hk, h1, fun j hj => by rw [h0 j hj]; decide⟩
 rw [this]
theorem idxP_miss {α : Type} (p : α → Bool) (l : List α) (h0 : ∀ j, (h : j < l.length) → p l[j] = false) : idxP p l = -1 := by
 unfold idxP
 have : l.findIdx? p = none := by
  rw [List.findIdx?_eq_none_iff]
  intro x hx
  obtain ⟨j, hj, rfl⟩ := List.getElem_of_mem hx
  exact h0 j hj
 rw [this]
theorem idxP_any {α : Type} (p : α → Bool) (l : List α) : decide (idxP p l ≥ 0) = l.any p := by
 unfold idxP
 cases h : l.findIdx? p with
 | none =>
  rw [List.findIdx?_eq_none_iff] at h
  have : l.any p = false := by rw [List.any_eq_false]; intro x hx; simp [h x hx]
  rw [this]; decide
 | some i =>
  rw [List.findIdx?_eq_some_iff_getElem] at h
  obtain ⟨hi, hp, _⟩ := h
  have : l.any p = true := List.any_eq_true.2 ⟨l[i], List.getElem_mem hi, hp⟩
  rw [this]
  exact decide_eq_true (Int.natCast_nonneg i)
def encCell (x : S96) : Value := .agg #[.int .i64 x.f0, .int .i64 x.f1]
theorem rd_getCell (l : List S96) (j : Nat) (h : j < l.length) : qUC l (j : Int) = l[j] := by
 unfold qUC
 rw [Int.toNat_natCast, List.getD_eq_getElem?_getD, List.getElem?_eq_getElem h]; rfl
set_option maxHeartbeats 1000000 in
theorem indexFunc_Cell (p : S96 → Bool) (g : Nat) (lb : Array Value) (eg : ∀ args w, (callFunc g args).run Tryd.prog w = .ok (.enter g args) w) (A0 : Option Addr) (c0 : Nat) (l : List S96) (w : World)
  (hr : Kd.C k96 w A0 l.length l) (hp : PredOn g lb encCell p l w) :
  Calls Tryd.prog 107 #[.slice A0 l.length c0, .func (.func g) #[] lb] w fun e w' => e = .returned (.int .i64 (idxP p l)) ∧ Below w.heap.size w w' := by
 have HR := Lib.hid hr
 have hn : l.length ≤ 9223372036854775807 := hr.2.1
 clear hr
 have hu := Tryd.underlying96
 go_enter Tryd.func107, Tryd.ntmps107
 go_wp2
 go_loopg [5, 8] l.length (fun gg _ s8 wr => ∃ kk : Nat, kk ≤ l.length ∧ l.length - kk ≤ gg ∧ s8 = .int .i64 kk ∧ Aside0 (Below w.heap.size w wr) ∧ Aside0 (∀ j, (h : j < l.length) → j < kk → p l[j] = false))
 case atStart => exact ⟨0, Nat.zero_le _, by omega, rfl, ⟨Below.refl _ w⟩, ⟨fun j _ hj => absurd hj (Nat.not_lt_zero _)⟩⟩
 case round =>
  obtain ⟨kk, hkk, hg, rfl, BW, A⟩ := hrel
  rename World => wr
  by_cases hlt : kk < l.length
  ·have hltz : (kk : Int) < (l.length : Int) := by omega
   obtain ⟨ad, e, h0, h1⟩ := at_T96 (Kd.qYA HR.out BW.out) (kk : Int) (by omega) hltz
   cases e
   simp only [rd_getCell l kk hlt, Int.toNat_natCast] at h0 h1
   have hcall := hp wr l[kk] (List.getElem_mem hlt) BW.out
   have B := Lib.hid (rfl : l[kk] = l[kk])
   generalize hy : l[kk] = y at h0 h1 hcall
   have HY := Lib.hid hy
   clear hy B
   cases hq : p y with
   | true =>
    rw [hq] at hcall
    have HQ := Lib.hid hq
    have HC := Lib.hid hcall
    clear hq hp hcall
    go_wp2
    refine HC.out.mono ?_
    rintro e w' ⟨rfl, hb'⟩
    clear HC h0 h1 eg
    go_wp2
    go_ret
    exact ⟨ret_i64 (idxP_hit p l kk hlt (fun j hj => A.out j _ hj) (by rw [HY.out]; exact HQ.out)).symm, qcB BW.out BW.out.size hb'⟩
   | false =>
    rw [hq] at hcall
    have HQ := Lib.hid hq
    have HC := Lib.hid hcall
    clear hq hp hcall
    go_wp2
    refine HC.out.mono ?_
    rintro e w' ⟨rfl, hb'⟩
    clear HC h0 h1 eg
    go_wp2
    go_roundg (l.length - (kk + 1))
    case measure => omega
    case rel =>
     refine ⟨kk + 1, by omega, by omega, by go_num, ⟨qcB BW.out BW.out.size hb'⟩, ⟨fun j h hj => ?_⟩⟩
     by_cases e : j = kk
     ·subst e
      rw [HY.out]; exact HQ.out
     ·exact A.out j h (by omega)
  ·have hltz : ¬ (kk : Int) < (l.length : Int) := by omega
   have hke : kk = l.length := by omega
   subst hke
   clear hp
   go_wp2
   go_ret
   exact ⟨ret_i64 (idxP_miss p l (fun j h => A.out j h h)).symm, BW.out⟩
theorem containsFunc_Cell (p : S96 → Bool) (g : Nat) (lb : Array Value) (eg : ∀ args w, (callFunc g args).run Tryd.prog w = .ok (.enter g args) w) (A0 : Option Addr) (c0 : Nat) (l : List S96) (w : World)
  (hr : Kd.C k96 w A0 l.length l) (hp : PredOn g lb encCell p l w) :
  Calls Tryd.prog 84 #[.slice A0 l.length c0, .func (.func g) #[] lb] w fun e w' => e = .returned (.bool (l.any p)) ∧ Below w.heap.size w w' := by
 have hcall := fun c => indexFunc_Cell p g lb eg A0 c l w hr hp
 have HA := Lib.hid (idxP_any p l)
 clear hr hp
 go_enter Tryd.func84, Tryd.ntmps84
 go_wp2_with (go_at_call 107; refine (hcall _).mono ?_; rintro e w' ⟨rfl, hb'⟩)
 go_ret
 exact ⟨ret_bool HA.out, hb'⟩
def qjB.f (rows : List ByteArray) (x y : Int) : Option Bool := (qIA.f rows x y).bind fun b => if b = true then (qSA.f rows x y).bind fun c => some (c == 35) else some true
def qwA.f (l : List S96) (rows : List ByteArray) : Option Bool := if (l.all fun c => (qjB.f rows c.f0 c.f1).isSome) = true then some (l.any fun c => (qjB.f rows c.f0 c.f1).getD false) else none
set_option maxHeartbeats 1000000 in
set_option maxRecDepth 100000 in
theorem isBox1_calls (x : S96) (b : Nat) (A1 : Option Addr) (c1 : Nat) (rows : List ByteArray) (r : Bool) (w : World) (hr1 : Kd.C Kd.string w A1 rows.length rows) (hc1 : rows.length ≤ c1) (hp : w.cell? ⟨b, 0, none⟩ = some (.slice A1 rows.length c1))
  (h : qjB.f rows x.f0 x.f1 = some r) :
  Calls Tryd.prog 86 (#[encCell x] ++ #[.pointer (some ⟨b, 0, none⟩)]) w fun e w' => e = .returned (.bool r) ∧ Below w.heap.size w w' := by
 have hu := Tryd.underlying96
 have g7 := World.block_lt_of_cell? w _ hp
 have HR := Lib.hid hr1
 clear hr1
 unfold qjB.f at h
 replace h := Option.bind_eq_some_iff.mp h
 obtain ⟨b1, hb1, h⟩ := h
 have HH := fun (W : World) (hw : Below w.heap.size w W) => Lib.hid (qIA.calls A1 c1 rows x.f0 x.f1 b1 W (Kd.qYA HR.out hw) hc1 hb1)
 show Calls Tryd.prog 86 #[encCell x, .pointer (some ⟨b, 0, none⟩)] w _
 unfold encCell
 have H := Lib.hid h
 clear h hb1
 cases b1 with
 | false =>
  have H1 := H.out
  rw [if_neg (by decide)] at H1
  obtain rfl := Option.some.inj H1
  clear H H1
  go_enter Tryd.func86, Tryd.ntmps86
  go_wp2_with (first | (go_at_call 83; refine (HH _ (qt (Below.refl _ _) _)).out.mono ?_; rintro e w1 ⟨rfl, ⟨nd, rfl⟩⟩))
  go_ret
  exact ⟨rfl, qo (qt (Below.refl _ _) _) nd⟩
 | true =>
  have H1 := H.out
  rw [if_pos rfl] at H1
  replace H1 := Option.bind_eq_some_iff.mp H1
  obtain ⟨c, hc, H1⟩ := H1
  obtain rfl := Option.some.inj H1
  clear H H1
  have HA := fun (W : World) (hw : Below w.heap.size w W) => Lib.hid (qSA.calls A1 c1 rows x.f0 x.f1 c W (Kd.qYA HR.out hw) hc1 hc)
  clear hc
  go_enter Tryd.func86, Tryd.ntmps86
  go_wp2_with (first | (go_at_call 83; refine (HH _ (qt (Below.refl _ _) _)).out.mono ?_; rintro e w1 ⟨rfl, ⟨nd, rfl⟩⟩) | (go_at_call 71; refine (HA _ (qo (qt (Below.refl _ _) _) _)).out.mono ?_; rintro e w2 ⟨rfl, ⟨nd2, rfl⟩⟩))
  go_ret
  exact ⟨rfl, qo (qt (Below.refl _ _) _) (nd + nd2)⟩
theorem qwA.calls (A0 : Option Addr) (c0 : Nat) (l0 : List S96) (b : Nat) (A1 : Option Addr) (c1 : Nat) (l1 : List ByteArray) (r : Bool) (w : World) (hr0 : Kd.C k96 w A0 l0.length l0) (hc0 : l0.length ≤ c0) (hr1 : Kd.C Kd.string w A1 l1.length l1) (hc1 : l1.length ≤ c1) (hp : w.cell? ⟨b, 0, none⟩ = some (.slice A1 l1.length c1))
  (h : qwA.f l0 l1 = some r) :
  Calls Tryd.prog 84 #[.slice A0 l0.length c0, .func (.func 86) #[] #[.pointer (some ⟨b, 0, none⟩)]] w fun e w' => e = .returned (.bool r) ∧ Below w.heap.size w w' := by
 unfold qwA.f at h
 split at h
 ·rename_i hall
  obtain rfl := Option.some.inj h
  have eg := Go.Proofs.enters_of Tryd.func86 (by kernel_rfl) rfl
  refine containsFunc_Cell (fun c => (qjB.f l1 c.f0 c.f1).getD false) 86 _ eg A0 c0 l0 w hr0 fun W x hx hb => ?_
  have hs := List.all_eq_true.1 hall x hx
  obtain ⟨v, hv⟩ := Option.isSome_iff_exists.1 hs
  have e : (qjB.f l1 x.f0 x.f1).getD false = v := by rw [hv]; rfl
  show Calls _ _ _ _ fun e w' => e = .returned (.bool ((qjB.f l1 x.f0 x.f1).getD false)) ∧ _
  rw [e]
  exact isBox1_calls x b A1 c1 l1 v W (Kd.qYA hr1 hb) hc1 (qJB hb hp) hv
 ·cases h
end Go.Proofs.YtbpfhpjbeomfcaaDoor
namespace Go.Proofs.YtbpfhpjbeomfcaaDoor.P
open Go.RowKit Go.Proofs.YtbpfhpjbeomfcaaDoorW.PrintWords Go.Proofs.YtbpfhpjbeomfcaaDoorW.PrintLast Go.Proofs.YtbpfhpjbeomfcaaDoorW.PrintMore
attribute [local go_sem] qBA qz qKA qJA qq qp qAA qy
set_option linter.unusedVariables false
set_option linter.unusedSimpArgs false
def qd.j0 : Nat → Bool → List ByteArray → Int → Int → Int → Option (Bool)
 | 0, _, _, _, _, _ => none
 | k + 1, x31, x203000, x204000, x204001, x204002 => if x31 = true then (some false) else ((qpA.f x204000 x204001 x204002).bind fun t207 => ((qwA.f t207 x203000).bind fun t210 => (some (!t210))))
def qd.f (k : Nat) (l0 : List ByteArray) (a1_0 : Int) (a1_1 : Int) (a1_2 : Int) : Option (Bool) := (qVA.f a1_2 0 2).bind fun t204 => (if t204 = true then ((qIA.f l0 a1_0 a1_1).bind fun t205 => (if t205 = true then (if a1_2 = 0 then ((qSA.f l0 a1_0 a1_1).bind fun t206 => (qd.j0 k (t206 == 45) l0 a1_0 a1_1 a1_2)) else (qd.j0 k false l0 a1_0 a1_1 a1_2)) else (qd.j0 k true l0 a1_0 a1_1 a1_2))) else (qd.j0 k true l0 a1_0 a1_1 a1_2))
set_option maxHeartbeats 8000000 in
set_option maxRecDepth 100000 in
theorem qd.calls (k : Nat) (A0 : Option Addr) (c0 : Nat) (l0 : List ByteArray) (a1_0 : Int) (a1_1 : Int) (a1_2 : Int) (r : Bool) (w : World) (hr0 : Kd.C Kd.string w A0 l0.length l0) (hc0 : l0.length ≤ c0) (h : qd.f k l0 a1_0 a1_1 a1_2 = some r) :
  Calls Tryd.prog 56 #[.slice A0 l0.length c0, .agg #[.int .i64 a1_0, .int .i64 a1_1, .int .i64 a1_2]] w fun e w' => e = .returned (.bool r) ∧ Below w.heap.size w w' := by
 have hu27 := Tryd.underlying27
 have HR0 := Aside0.mk hr0
 have HC0 := Aside0.mk hc0
 clear hr0 hc0
 have HB := Aside0.mk (Below.refl w.heap.size w)
 have H : ((qVA.f a1_2 0 2).bind fun t204 => (if t204 = true then ((qIA.f l0 a1_0 a1_1).bind fun t205 => (if t205 = true then (if a1_2 = 0 then ((qSA.f l0 a1_0 a1_1).bind fun t206 => (qd.j0 k (t206 == 45) l0 a1_0 a1_1 a1_2)) else (qd.j0 k false l0 a1_0 a1_1 a1_2)) else (qd.j0 k true l0 a1_0 a1_1 a1_2))) else (qd.j0 k true l0 a1_0 a1_1 a1_2))) = some r := h
 clear h
 have HC3 := Aside0.mk H
 clear H
 go_enter Tryd.func56, Tryd.ntmps56
 go_upto_region 1 with (first | ((with_reducible refine qe (N := 2) rfl ?_); refine qb ?hg (N := 2) ?hd (cs := #[.slice A0 l0.length c0]) (t := 61) ?hr ?_; (case hd => rfl); (case hg => rfl); (case hr => first | (go_simp; done) | (go_simp; rfl)); intro gb202 hg w4 hbox hb; have n0_ := Aside0.mk (qH bl hb); have n1_ := Aside0.mk (hbox); have n2_ := Aside0.mk ((gg hg)); have n3_ := Aside0.mk ((gg hg)); clear HB; have HB := n0_; have BK202 := n1_; have GW202 := n2_; have GE202 := n3_; clear n0_ n1_ n2_ n3_; clear hb hbox hg) | ((with_reducible refine qe (N := 3) rfl ?_); refine qb ?hg (N := 3) ?hd (cs := #[.int .i64 a1_0, .int .i64 a1_1, .int .i64 a1_2]) (t := 27) ?hr ?_; (case hd => rfl); (case hg => rfl); (case hr => first | (go_simp; done) | (go_simp; rfl)); intro gb203 hg w5 hbox hb; have n0_ := Aside0.mk (bb BK202 hb); have n1_ := Aside0.mk (qH bl hb); have n2_ := Aside0.mk (hbox); have n3_ := Aside0.mk ((gg hg)); have n4_ := Aside0.mk ((gg hg)); have n5_ := Aside0.mk ((nl BK202 hg)); have n6_ := Aside0.mk ((nr BK202 hg)); clear BK202; clear HB; have BK202 := n0_; have HB := n1_; have BK203 := n2_; have GW203 := n3_; have GE203 := n4_; have NB202_203 := n5_; have NB203_202 := n6_; clear n0_ n1_ n2_ n3_ n4_ n5_ n6_; clear hb hbox hg))
 (try simp only [Act.put, List.setIfInBounds_toArray, List.set_cons_zero, List.set_cons_succ])
 go_cut [31] (fun v31 wc => ∃ (kq : Nat) (x31_2 : Bool), v31 = .bool x31_2 ∧ Aside0 (qd.j0 kq x31_2 l0 a1_0 a1_1 a1_2 = some r) ∧ Aside0 (kq ≤ k) ∧ Aside0 (wc.heap[gb202]? = some (.cells #[(.slice A0 l0.length c0)] 61 (0, 0))) ∧ Aside0 (wc.heap[gb203]? = some (.cells #[.int .i64 a1_0, .int .i64 a1_1, .int .i64 a1_2] 27 (0, 0))) ∧ Aside0 (Below w.heap.size w wc))
 case first =>
  have H := HC3.out
  clear HC3
  replace H := Option.bind_eq_some_iff.mp H
  obtain ⟨t204, A60, H⟩ := H
  replace H : (if t204 = true then ((qIA.f l0 a1_0 a1_1).bind fun t205 => (if t205 = true then (if a1_2 = 0 then ((qSA.f l0 a1_0 a1_1).bind fun t206 => (qd.j0 k (t206 == 45) l0 a1_0 a1_1 a1_2)) else (qd.j0 k false l0 a1_0 a1_1 a1_2)) else (qd.j0 k true l0 a1_0 a1_1 a1_2))) else (qd.j0 k true l0 a1_0 a1_1 a1_2)) = some r := H
  have A6 := Aside0.mk A60
  clear A60
  by_cases c7 : t204 = true
  ·subst c7
   have H1 : ((qIA.f l0 a1_0 a1_1).bind fun t205 => (if t205 = true then (if a1_2 = 0 then ((qSA.f l0 a1_0 a1_1).bind fun t206 => (qd.j0 k (t206 == 45) l0 a1_0 a1_1 a1_2)) else (qd.j0 k false l0 a1_0 a1_1 a1_2)) else (qd.j0 k true l0 a1_0 a1_1 a1_2))) = some r := by rw [if_pos rfl] at H; exact H
   clear H
   have H := H1
   clear H1
   replace H := Option.bind_eq_some_iff.mp H
   obtain ⟨t205, A80, H⟩ := H
   replace H : (if t205 = true then (if a1_2 = 0 then ((qSA.f l0 a1_0 a1_1).bind fun t206 => (qd.j0 k (t206 == 45) l0 a1_0 a1_1 a1_2)) else (qd.j0 k false l0 a1_0 a1_1 a1_2)) else (qd.j0 k true l0 a1_0 a1_1 a1_2)) = some r := H
   have A8 := Aside0.mk A80
   clear A80
   by_cases c9 : t205 = true
   ·subst c9
    have H1 : (if a1_2 = 0 then ((qSA.f l0 a1_0 a1_1).bind fun t206 => (qd.j0 k (t206 == 45) l0 a1_0 a1_1 a1_2)) else (qd.j0 k false l0 a1_0 a1_1 a1_2)) = some r := by rw [if_pos rfl] at H; exact H
    clear H
    have H := H1
    clear H1
    by_cases c10 : a1_2 = 0
    ·rw [if_pos c10] at H
     have c10b0 : (a1_2 == 0) = true := beq_iff_eq.mpr c10
     have c10b1 : (a1_2 != 0) = false := bne_eq_false_iff_eq.mpr c10
     clear c10
     (first | rw [c10b0] | (simp only [i64_w, i32_w]; rw [c10b0]) | skip)
     replace H := Option.bind_eq_some_iff.mp H
     obtain ⟨t206, A110, H⟩ := H
     replace H : (qd.j0 k (t206 == 45) l0 a1_0 a1_1 a1_2) = some r := H
     have A11 := Aside0.mk A110
     clear A110
     have H' := Aside0.mk H
     clear H
     have hnb12 := NB203_202.out
     have hnc12 := NB202_203.out
     have hcz13_0 := bc BK203 0
     have hcz13_1 := bc BK203 1
     have hcz13_2 := bc BK203 2
     have hfz13_0 := qD BK203.out 0
     have hfz13_1 := qD BK203.out 1
     have hfz13_2 := qD BK203.out 2
     go_wp2_with (first | ((with_reducible refine qT (f := 82) rfl ?_); refine qDA (some 7) rfl rfl Tryd.func82 (by kernel_rfl) rfl #[.int .i64 a1_2, .int .i64 0, .int .i64 2] rfl (by (try simp only [List.map_toArray, List.map_cons, List.map_nil]); first | done | rfl | (simp only [List.length_drop, List.length_take]; rfl)) ?_; (with_reducible refine (qVA.calls a1_2 0 2 true _ A6.out).mono ?_); rintro e w' ⟨rfl, ⟨nd, rfl⟩⟩; refine ⟨_, rfl, ?_⟩; have hcz14_0 := bc BK202 0; have hfz14_0 := qD BK202.out 0) | (go_at_call 83; (with_reducible refine (qIA.calls _ _ l0 a1_0 a1_1 true _ ?side1 ?side2 A8.out).mono ?_); (case side1 => repeat (first | exact (Kd.qYA HR0.out bl) | (with_reducible refine Kd.qx ?_ _) | (with_reducible refine Kd.qw ?_ _) | (with_reducible refine Kd.qLA ?_))); (case side2 => exact HC0.out); rintro e w' ⟨rfl, ⟨nd, rfl⟩⟩) | (go_at_call 71; (with_reducible refine (qSA.calls _ _ l0 a1_0 a1_1 t206 _ ?side1 ?side2 A11.out).mono ?_); (case side1 => repeat (first | exact (Kd.qYA HR0.out bl) | (with_reducible refine Kd.qx ?_ _) | (with_reducible refine Kd.qw ?_ _) | (with_reducible refine Kd.qLA ?_))); (case side2 => exact HC0.out); rintro e w' ⟨rfl, ⟨nd, rfl⟩⟩))
     go_meet
     case rel => exact ⟨_, ((t206 == 45)), (by first | rfl | (simp; done) | (simp [*]; done)), H', ⟨by first | omega | exact Nat.le_refl _⟩, ⟨by (with_reducible repeat (first | refine qB ?_ _ | refine qC ?_ | refine qA ?_ _)); exact BK202.out⟩, ⟨by (with_reducible repeat (first | refine qB ?_ _ | refine qC ?_ | refine qA ?_ _)); exact BK203.out⟩, ⟨bl⟩⟩
    ·rw [if_neg c10] at H
     have c10b0 : (a1_2 == 0) = false := beq_eq_false_iff_ne.mpr c10
     have c10b1 : (a1_2 != 0) = true := bne_iff_ne.mpr c10
     (first | rw [c10b0] | (simp only [i64_w, i32_w]; rw [c10b0]) | skip)
     have H' := Aside0.mk H
     clear H
     have hnb15 := NB203_202.out
     have hnc15 := NB202_203.out
     have hcz16_0 := bc BK203 0
     have hcz16_1 := bc BK203 1
     have hcz16_2 := bc BK203 2
     have hfz16_0 := qD BK203.out 0
     have hfz16_1 := qD BK203.out 1
     have hfz16_2 := qD BK203.out 2
     go_wp2_with (first | ((with_reducible refine qT (f := 82) rfl ?_); refine qDA (some 7) rfl rfl Tryd.func82 (by kernel_rfl) rfl #[.int .i64 a1_2, .int .i64 0, .int .i64 2] rfl (by (try simp only [List.map_toArray, List.map_cons, List.map_nil]); first | done | rfl | (simp only [List.length_drop, List.length_take]; rfl)) ?_; (with_reducible refine (qVA.calls a1_2 0 2 true _ A6.out).mono ?_); rintro e w' ⟨rfl, ⟨nd, rfl⟩⟩; refine ⟨_, rfl, ?_⟩; have hcz17_0 := bc BK202 0; have hfz17_0 := qD BK202.out 0) | (go_at_call 83; (with_reducible refine (qIA.calls _ _ l0 a1_0 a1_1 true _ ?side1 ?side2 A8.out).mono ?_); (case side1 => repeat (first | exact (Kd.qYA HR0.out bl) | (with_reducible refine Kd.qx ?_ _) | (with_reducible refine Kd.qw ?_ _) | (with_reducible refine Kd.qLA ?_))); (case side2 => exact HC0.out); rintro e w' ⟨rfl, ⟨nd, rfl⟩⟩))
     go_meet
     case rel => exact ⟨_, (false), (by first | rfl | (simp; done) | (simp [*]; done)), H', ⟨by first | omega | exact Nat.le_refl _⟩, ⟨by (with_reducible repeat (first | refine qB ?_ _ | refine qC ?_ | refine qA ?_ _)); exact BK202.out⟩, ⟨by (with_reducible repeat (first | refine qB ?_ _ | refine qC ?_ | refine qA ?_ _)); exact BK203.out⟩, ⟨bl⟩⟩
   ·replace c9 := Bool.eq_false_iff.mpr c9
    subst c9
    have H1 : (qd.j0 k true l0 a1_0 a1_1 a1_2) = some r := by rw [if_neg (show ¬ (false = true) by decide)] at H; exact H
    clear H
    have H := H1
    clear H1
    have H' := Aside0.mk H
    clear H
    have hnb18 := NB203_202.out
    have hnc18 := NB202_203.out
    have hcz19_0 := bc BK203 0
    have hcz19_1 := bc BK203 1
    have hcz19_2 := bc BK203 2
    have hfz19_0 := qD BK203.out 0
    have hfz19_1 := qD BK203.out 1
    have hfz19_2 := qD BK203.out 2
    go_wp2_with (first | ((with_reducible refine qT (f := 82) rfl ?_); refine qDA (some 7) rfl rfl Tryd.func82 (by kernel_rfl) rfl #[.int .i64 a1_2, .int .i64 0, .int .i64 2] rfl (by (try simp only [List.map_toArray, List.map_cons, List.map_nil]); first | done | rfl | (simp only [List.length_drop, List.length_take]; rfl)) ?_; (with_reducible refine (qVA.calls a1_2 0 2 true _ A6.out).mono ?_); rintro e w' ⟨rfl, ⟨nd, rfl⟩⟩; refine ⟨_, rfl, ?_⟩; have hcz20_0 := bc BK202 0; have hfz20_0 := qD BK202.out 0) | (go_at_call 83; (with_reducible refine (qIA.calls _ _ l0 a1_0 a1_1 false _ ?side1 ?side2 A8.out).mono ?_); (case side1 => repeat (first | exact (Kd.qYA HR0.out bl) | (with_reducible refine Kd.qx ?_ _) | (with_reducible refine Kd.qw ?_ _) | (with_reducible refine Kd.qLA ?_))); (case side2 => exact HC0.out); rintro e w' ⟨rfl, ⟨nd, rfl⟩⟩))
    go_meet
    case rel => exact ⟨_, (true), (by first | rfl | (simp; done) | (simp [*]; done)), H', ⟨by first | omega | exact Nat.le_refl _⟩, ⟨by (with_reducible repeat (first | refine qB ?_ _ | refine qC ?_ | refine qA ?_ _)); exact BK202.out⟩, ⟨by (with_reducible repeat (first | refine qB ?_ _ | refine qC ?_ | refine qA ?_ _)); exact BK203.out⟩, ⟨bl⟩⟩
  ·replace c7 := Bool.eq_false_iff.mpr c7
   subst c7
   have H1 : (qd.j0 k true l0 a1_0 a1_1 a1_2) = some r := by rw [if_neg (show ¬ (false = true) by decide)] at H; exact H
   clear H
   have H := H1
   clear H1
   have H' := Aside0.mk H
   clear H
   have hnb21 := NB203_202.out
   have hnc21 := NB202_203.out
   have hcz22_0 := bc BK203 0
   have hcz22_1 := bc BK203 1
   have hcz22_2 := bc BK203 2
   have hfz22_0 := qD BK203.out 0
   have hfz22_1 := qD BK203.out 1
   have hfz22_2 := qD BK203.out 2
   go_wp2_with (first | ((with_reducible refine qT (f := 82) rfl ?_); refine qDA (some 7) rfl rfl Tryd.func82 (by kernel_rfl) rfl #[.int .i64 a1_2, .int .i64 0, .int .i64 2] rfl (by (try simp only [List.map_toArray, List.map_cons, List.map_nil]); first | done | rfl | (simp only [List.length_drop, List.length_take]; rfl)) ?_; (with_reducible refine (qVA.calls a1_2 0 2 false _ A6.out).mono ?_); rintro e w' ⟨rfl, ⟨nd, rfl⟩⟩; refine ⟨_, rfl, ?_⟩))
   go_meet
   case rel => exact ⟨_, (true), (by first | rfl | (simp; done) | (simp [*]; done)), H', ⟨by first | omega | exact Nat.le_refl _⟩, ⟨by (with_reducible repeat (first | refine qB ?_ _ | refine qC ?_ | refine qA ?_ _)); exact BK202.out⟩, ⟨by (with_reducible repeat (first | refine qB ?_ _ | refine qC ?_ | refine qA ?_ _)); exact BK203.out⟩, ⟨bl⟩⟩
 case rest =>
  clear HC3
  try clear c1
  try clear c2
  try clear p2
  try clear c5
  try clear c7
  try clear c8
  try clear c9
  try clear c10
  try clear c10b0
  try clear c10b1
  try clear c12
  try clear c15
  try clear c18
  try clear c21
  try clear hcz13_0
  try clear hcz13_1
  try clear hcz13_2
  try clear hcz14_0
  try clear hcz16_0
  try clear hcz16_1
  try clear hcz16_2
  try clear hcz17_0
  try clear hcz19_0
  try clear hcz19_1
  try clear hcz19_2
  try clear hcz20_0
  try clear hcz22_0
  try clear hcz22_1
  try clear hcz22_2
  try clear hfz13_0
  try clear hfz13_1
  try clear hfz13_2
  try clear hfz14_0
  try clear hfz16_0
  try clear hfz16_1
  try clear hfz16_2
  try clear hfz17_0
  try clear hfz19_0
  try clear hfz19_1
  try clear hfz19_2
  try clear hfz20_0
  try clear hfz22_0
  try clear hfz22_1
  try clear hfz22_2
  obtain ⟨kq, x31_2, rfl, HA, HJ2, BK202, BK203, HB⟩ := hcut
  cases kq with
  | zero => exact absurd HA.out (by simp [qd.j0])
  | succ kj2 =>
   have H := HA.out
   clear HA
   simp only [qd.j0] at H
   by_cases c23 : x31_2 = true
   ·subst c23
    have H1 : (some false) = some r := by rw [if_pos rfl] at H; exact H
    clear H
    have H := H1
    clear H1
    obtain rfl := Option.some.inj H
    go_wp2
    go_ret
    exact ⟨by first | rfl | (simp [qL, qK] <;> rfl) | (simp [*, qL, qK] <;> rfl), bl⟩
   ·replace c23 := Bool.eq_false_iff.mpr c23
    subst c23
    have H1 : ((qpA.f a1_0 a1_1 a1_2).bind fun t207 => ((qwA.f t207 l0).bind fun t210 => (some (!t210)))) = some r := by rw [if_neg (show ¬ (false = true) by decide)] at H; exact H
    clear H
    have H := H1
    clear H1
    replace H := Option.bind_eq_some_iff.mp H
    obtain ⟨t207, A240, H⟩ := H
    replace H : ((qwA.f t207 l0).bind fun t210 => (some (!t210))) = some r := H
    have A24 := Aside0.mk A240
    clear A240
    replace H := Option.bind_eq_some_iff.mp H
    obtain ⟨t210, A250, H⟩ := H
    replace H : (some (!t210)) = some r := H
    have A25 := Aside0.mk A250
    clear A250
    obtain rfl := Option.some.inj H
    have hnb26 := NB203_202.out
    have hnc26 := NB202_203.out
    have hcz27_0 := bc BK203 0
    have hcz27_1 := bc BK203 1
    have hcz27_2 := bc BK203 2
    have hfz27_0 := qD BK203.out 0
    have hfz27_1 := qD BK203.out 1
    have hfz27_2 := qD BK203.out 2
    go_wp2_with (first | ((with_reducible refine qT (f := 85) rfl ?_); refine qDA (some 33) rfl rfl Tryd.func85 (by kernel_rfl) rfl #[.agg #[.int .i64 a1_0, .int .i64 a1_1, .int .i64 a1_2]] rfl (by (try simp only [List.map_toArray, List.map_cons, List.map_nil]); first | done | rfl | (simp only [List.length_drop, List.length_take]; rfl)) ?_; (with_reducible refine (qpA.calls a1_0 a1_1 a1_2 t207 _ A24.out).mono ?_); rintro e w28 ⟨v208, rfl, ho0, hb⟩; refine ⟨_, rfl, ?_⟩; have n0_ := Aside0.mk (Kd.qEA ho0 (qh bl)); have n1_ := Aside0.mk (bb BK202 hb); have n2_ := Aside0.mk (bb BK203 hb); have n3_ := Aside0.mk (qH bl hb); clear BK202; clear BK203; clear HB; have HO209 := n0_; have BK202 := n1_; have BK203 := n2_; have HB := n3_; clear n0_ n1_ n2_ n3_; (try clear hb); (try clear hb2); (try clear hk); (try clear hi); (try clear ho0); obtain ⟨Ao29, co29, eo29⟩ := Kd.qm HO209.out; subst eo29) | ((with_reducible refine qT (f := 84) rfl ?_); refine qDA (some 35) rfl rfl Tryd.func84 (by kernel_rfl) rfl #[.slice Ao29 t207.length co29, .func (.func 86) #[] #[.pointer (some ⟨gb202, 0, none⟩)]] rfl (by (try simp only [List.map_toArray, List.map_cons, List.map_nil]); first | done | rfl | (simp only [List.length_drop, List.length_take]; rfl)) ?_; (with_reducible refine (qwA.calls _ _ t207 gb202 A0 c0 l0 t210 _ ?side1 ?side2 ?side3 ?side4 ?side5 A25.out).mono ?_); (case side1 => repeat (first | exact (Kd.qS HO209.out).2.2 | (with_reducible refine Kd.qx ?_ _) | (with_reducible refine Kd.qw ?_ _) | (with_reducible refine Kd.qLA ?_))); (case side2 => exact (Kd.qS HO209.out).2.1); (case side3 => repeat (first | exact (Kd.qYA HR0.out HB.out) | (with_reducible refine Kd.qx ?_ _) | (with_reducible refine Kd.qw ?_ _) | (with_reducible refine Kd.qLA ?_))); (case side4 => exact HC0.out); (case side5 => exact (cell_of_row _ gb202 0 _ 61 (0, 0) (by (with_reducible repeat (first | refine qB ?_ _ | refine qC ?_ | refine qA ?_ _)); exact BK202.out)).trans rfl); rintro e w30 ⟨rfl, hb⟩; refine ⟨_, rfl, ?_⟩; have n0_ := Aside0.mk (Kd.qU (by (with_reducible repeat (first | apply Kd.qF | apply Kd.qE | apply Kd.qG)); exact HO209.out) hb); have n1_ := Aside0.mk (bb BK202 hb); have n2_ := Aside0.mk (bb BK203 hb); have n3_ := Aside0.mk (qH bl hb); clear HO209; clear BK202; clear BK203; clear HB; have HO209 := n0_; have BK202 := n1_; have BK203 := n2_; have HB := n3_; clear n0_ n1_ n2_ n3_; (try clear hb); (try clear hb2); (try clear hk); (try clear hi)))
    go_ret
    exact ⟨by first | rfl | (simp [qL, qK] <;> rfl) | (simp [*, qL, qK] <;> rfl), bl⟩
def qgA.f (k : Nat) (a0 : ByteArray) (a1_0 : Int) (a1_1 : Int) (a1_2 : Int) : Option (List ByteArray × Bool) := (qXA.f k a0).bind fun bt267 => (if bt267.2 = true then ((qd.f k bt267.1 a1_0 a1_1 a1_2).bind fun t271 => (some (bt267.1, t271))) else (some (bt267.1, false)))
set_option maxHeartbeats 8000000 in
set_option maxRecDepth 100000 in
theorem qgA.calls (k : Nat) (a0 : ByteArray) (a1_0 : Int) (a1_1 : Int) (a1_2 : Int) (r1 : List ByteArray) (r2 : Bool) (w : World) (hL : Laid w) (h : qgA.f k a0 a1_0 a1_1 a1_2 = some (r1, r2)) :
  Calls Tryd.prog 58 #[.string a0, .agg #[.int .i64 a1_0, .int .i64 a1_1, .int .i64 a1_2]] w fun e w' => ∃ v0_ : Value, e = .returned (.tuple #[v0_, .bool r2]) ∧ Kd.R Kd.string 9 w' w.heap.size (fun _ => True) v0_ r1 ∧ Below w.heap.size w w' := by
 have hu27 := Tryd.underlying27
 have HLD := Aside0.mk hL
 clear hL
 have HB := Aside0.mk (Below.refl w.heap.size w)
 have H : ((qXA.f k a0).bind fun bt267 => (if bt267.2 = true then ((qd.f k bt267.1 a1_0 a1_1 a1_2).bind fun t271 => (some (bt267.1, t271))) else (some (bt267.1, false)))) = some (r1, r2) := h
 clear h
 replace H := Option.bind_eq_some_iff.mp H
 obtain ⟨⟨t267, t268⟩, A30, H⟩ := H
 replace H : (if t268 = true then ((qd.f k t267 a1_0 a1_1 a1_2).bind fun t271 => (some (t267, t271))) else (some (t267, false))) = some (r1, r2) := H
 have A3 := Aside0.mk A30
 clear A30
 by_cases c4 : t268 = true
 ·subst c4
  have H1 : ((qd.f k t267 a1_0 a1_1 a1_2).bind fun t271 => (some (t267, t271))) = some (r1, r2) := by rw [if_pos rfl] at H; exact H
  clear H
  have H := H1
  clear H1
  replace H := Option.bind_eq_some_iff.mp H
  obtain ⟨t271, A50, H⟩ := H
  replace H : (some (t267, t271)) = some (r1, r2) := H
  have A5 := Aside0.mk A50
  clear A50
  simp only [Option.some.injEq, Prod.mk.injEq] at H
  obtain ⟨rfl, rfl⟩ := H
  go_enter Tryd.func58, Tryd.ntmps58
  go_wp2_with (first | ((with_reducible refine qe (N := 3) rfl ?_); refine qb ?hg (N := 3) ?hd (cs := #[.int .i64 a1_0, .int .i64 a1_1, .int .i64 a1_2]) (t := 27) ?hr ?_; (case hd => rfl); (case hg => rfl); (case hr => first | (go_simp; done) | (go_simp; rfl)); intro gb266 hg w6 hbox hb; have n0_ := Aside0.mk (qH bl hb); have n1_ := Aside0.mk (hbox); have n2_ := Aside0.mk ((gg hg)); have n3_ := Aside0.mk ((gg hg)); clear HB; have HB := n0_; have BK266 := n1_; have GW266 := n2_; have GE266 := n3_; clear n0_ n1_ n2_ n3_; clear hb hbox hg) | ((with_reducible refine qT (f := 54) rfl ?_); refine qDA (some 10) rfl rfl Tryd.func54 (by kernel_rfl) rfl #[.string a0] rfl (by (try simp only [List.map_toArray, List.map_cons, List.map_nil]); first | done | rfl | (simp only [List.length_drop, List.length_take]; rfl)) ?_; (with_reducible refine (qXA.calls k a0 t267 true _ ?side1 A3.out).mono ?_); (case side1 => first | exact HLD.out | exact Laid.below HLD.out (by repeat (first | (with_reducible first | exact HB.out | apply qt | apply qo | apply qk | refine qUA ?_ (Aside0.out (by with_reducible assumption))) | exact HB.out))); rintro e w7 ⟨v269, rfl, ho0, hb⟩; refine ⟨_, rfl, ?_⟩; have n0_ := Aside0.mk (Kd.qEA ho0 (qh bl)); have n1_ := Aside0.mk (bb BK266 hb); have n2_ := Aside0.mk (qH bl hb); clear BK266; clear HB; have HO270 := n0_; have BK266 := n1_; have HB := n2_; clear n0_ n1_ n2_; (try clear hb); (try clear hb2); (try clear hk); (try clear hi); (try clear ho0); have hcz8_0 := bc BK266 0; have hcz8_1 := bc BK266 1; have hcz8_2 := bc BK266 2; have hfz8_0 := qD BK266.out 0; have hfz8_1 := qD BK266.out 1; have hfz8_2 := qD BK266.out 2; obtain ⟨Ao9, co9, eo9⟩ := Kd.qm HO270.out; subst eo9) | (go_at_call 56; (with_reducible refine (qd.calls k _ _ t267 a1_0 a1_1 a1_2 t271 _ ?side1 ?side2 A5.out).mono ?_); (case side1 => repeat (first | exact (Kd.qS HO270.out).2.2 | (with_reducible refine Kd.qx ?_ _) | (with_reducible refine Kd.qw ?_ _) | (with_reducible refine Kd.qLA ?_))); (case side2 => exact (Kd.qS HO270.out).2.1); rintro e w10 ⟨rfl, hb⟩; have n0_ := Aside0.mk (Kd.qU (by (with_reducible repeat (first | apply Kd.qF | apply Kd.qE | apply Kd.qG)); exact HO270.out) hb); have n1_ := Aside0.mk (bb BK266 hb); have n2_ := Aside0.mk (qH bl hb); clear HO270; clear BK266; clear HB; have HO270 := n0_; have BK266 := n1_; have HB := n2_; clear n0_ n1_ n2_; (try clear hb); (try clear hb2); (try clear hk); (try clear hi)))
  go_ret2
  exact ⟨_, by first | rfl | (simp [qL, qK] <;> rfl) | (simp [*, qL, qK] <;> rfl), by (with_reducible repeat (first | apply Kd.qF | apply Kd.qE | apply Kd.qG)); exact HO270.out, bl⟩
 ·replace c4 := Bool.eq_false_iff.mpr c4
  subst c4
  have H1 : (some (t267, false)) = some (r1, r2) := by rw [if_neg (show ¬ (false = true) by decide)] at H; exact H
  clear H
  have H := H1
  clear H1
  simp only [Option.some.injEq, Prod.mk.injEq] at H
  obtain ⟨rfl, rfl⟩ := H
  go_enter Tryd.func58, Tryd.ntmps58
  go_wp2_with (first | ((with_reducible refine qe (N := 3) rfl ?_); refine qb ?hg (N := 3) ?hd (cs := #[.int .i64 a1_0, .int .i64 a1_1, .int .i64 a1_2]) (t := 27) ?hr ?_; (case hd => rfl); (case hg => rfl); (case hr => first | (go_simp; done) | (go_simp; rfl)); intro gb266 hg w11 hbox hb; have n0_ := Aside0.mk (qH bl hb); have n1_ := Aside0.mk (hbox); have n2_ := Aside0.mk ((gg hg)); have n3_ := Aside0.mk ((gg hg)); clear HB; have HB := n0_; have BK266 := n1_; have GW266 := n2_; have GE266 := n3_; clear n0_ n1_ n2_ n3_; clear hb hbox hg) | ((with_reducible refine qT (f := 54) rfl ?_); refine qDA (some 10) rfl rfl Tryd.func54 (by kernel_rfl) rfl #[.string a0] rfl (by (try simp only [List.map_toArray, List.map_cons, List.map_nil]); first | done | rfl | (simp only [List.length_drop, List.length_take]; rfl)) ?_; (with_reducible refine (qXA.calls k a0 t267 false _ ?side1 A3.out).mono ?_); (case side1 => first | exact HLD.out | exact Laid.below HLD.out (by repeat (first | (with_reducible first | exact HB.out | apply qt | apply qo | apply qk | refine qUA ?_ (Aside0.out (by with_reducible assumption))) | exact HB.out))); rintro e w12 ⟨v269, rfl, ho0, hb⟩; refine ⟨_, rfl, ?_⟩; have n0_ := Aside0.mk (Kd.qEA ho0 (qh bl)); have n1_ := Aside0.mk (bb BK266 hb); have n2_ := Aside0.mk (qH bl hb); clear BK266; clear HB; have HO270 := n0_; have BK266 := n1_; have HB := n2_; clear n0_ n1_ n2_; (try clear hb); (try clear hb2); (try clear hk); (try clear hi); (try clear ho0)))
  go_ret2
  exact ⟨_, by first | rfl | (simp [qL, qK] <;> rfl) | (simp [*, qL, qK] <;> rfl), by (with_reducible repeat (first | apply Kd.qF | apply Kd.qE | apply Kd.qG)); exact HO270.out, bl⟩
def qFB.f (a0 : Int) (a1 : Int) (a2 : Int) : Option (Int × Int) := if a2 = 110 then (some (a0, wrap64 (a1 - 1))) else (if a2 = 101 then (some (wrap64 (a0 + 1), a1)) else (if a2 = 115 then (some (a0, wrap64 (a1 + 1))) else (some (wrap64 (a0 - 1), a1))))
set_option maxHeartbeats 8000000 in
set_option maxRecDepth 100000 in
theorem qFB.calls (a0 : Int) (a1 : Int) (a2 : Int) (r1 : Int) (r2 : Int) (w : World) (h : qFB.f a0 a1 a2 = some (r1, r2)) :
  Calls Tryd.prog 109 #[.int .i64 a0, .int .i64 a1, .int .u8 a2] w fun e w' => e = .returned (.tuple #[.int .i64 r1, .int .i64 r2]) ∧ Drawn0 w w' := by
 have H : (if a2 = 110 then (some (a0, wrap64 (a1 - 1))) else (if a2 = 101 then (some (wrap64 (a0 + 1), a1)) else (if a2 = 115 then (some (a0, wrap64 (a1 + 1))) else (some (wrap64 (a0 - 1), a1))))) = some (r1, r2) := h
 clear h
 by_cases c4 : a2 = 110
 ·rw [if_pos c4] at H
  have c4b0 : (a2 == 110) = true := beq_iff_eq.mpr c4
  have c4b1 : (a2 != 110) = false := bne_eq_false_iff_eq.mpr c4
  clear c4
  simp only [Option.some.injEq, Prod.mk.injEq] at H
  obtain ⟨rfl, rfl⟩ := H
  go_enter Tryd.func109, Tryd.ntmps109
  go_wp2
  go_ret2
  exact ⟨by first | rfl | (simp; done) | (simp [*]; done), by repeat (first | exact Drawn0.refl _ | apply Drawn0.step)⟩
 ·rw [if_neg c4] at H
  have c4b0 : (a2 == 110) = false := beq_eq_false_iff_ne.mpr c4
  have c4b1 : (a2 != 110) = true := bne_iff_ne.mpr c4
  by_cases c5 : a2 = 101
  ·rw [if_pos c5] at H
   have c5b0 : (a2 == 101) = true := beq_iff_eq.mpr c5
   have c5b1 : (a2 != 101) = false := bne_eq_false_iff_eq.mpr c5
   clear c5
   simp only [Option.some.injEq, Prod.mk.injEq] at H
   obtain ⟨rfl, rfl⟩ := H
   go_enter Tryd.func109, Tryd.ntmps109
   go_wp2
   go_ret2
   exact ⟨by first | rfl | (simp; done) | (simp [*]; done), by repeat (first | exact Drawn0.refl _ | apply Drawn0.step)⟩
  ·rw [if_neg c5] at H
   have c5b0 : (a2 == 101) = false := beq_eq_false_iff_ne.mpr c5
   have c5b1 : (a2 != 101) = true := bne_iff_ne.mpr c5
   by_cases c6 : a2 = 115
   ·rw [if_pos c6] at H
    have c6b0 : (a2 == 115) = true := beq_iff_eq.mpr c6
    have c6b1 : (a2 != 115) = false := bne_eq_false_iff_eq.mpr c6
    clear c6
    simp only [Option.some.injEq, Prod.mk.injEq] at H
    obtain ⟨rfl, rfl⟩ := H
    go_enter Tryd.func109, Tryd.ntmps109
    go_wp2
    go_ret2
    exact ⟨by first | rfl | (simp; done) | (simp [*]; done), by repeat (first | exact Drawn0.refl _ | apply Drawn0.step)⟩
   ·rw [if_neg c6] at H
    have c6b0 : (a2 == 115) = false := beq_eq_false_iff_ne.mpr c6
    have c6b1 : (a2 != 115) = true := bne_iff_ne.mpr c6
    simp only [Option.some.injEq, Prod.mk.injEq] at H
    obtain ⟨rfl, rfl⟩ := H
    go_enter Tryd.func109, Tryd.ntmps109
    go_wp2
    go_ret2
    exact ⟨by first | rfl | (simp; done) | (simp [*]; done), by repeat (first | exact Drawn0.refl _ | apply Drawn0.step)⟩
mutual
def qY.j0 : Nat → Int → Bool → Int → Int → Int → Option (Int × Int × Int)
 | 0, _, _, _, _, _ => none
 | k + 1, x1, x5, x330000, x330001, x330002 => if x330002 = 0 then (if x1 = 110 then (some (x330000, wrap64 (x330001 - 2), 2)) else (if x1 = 101 then (some (wrap64 (x330000 + 1), x330001, 1)) else (if x1 = 115 then (some (x330000, wrap64 (x330001 + 1), 2)) else (some (wrap64 (x330000 - 2), x330001, 1))))) else (if x5 = true then (qY.j1 k x1 x5 (x1 == 101) x330000 x330001 x330002) else (qY.j1 k x1 x5 false x330000 x330001 x330002))
def qY.j1 : Nat → Int → Bool → Bool → Int → Int → Int → Option (Int × Int × Int)
 | 0, _, _, _, _, _, _ => none
 | k + 1, x1, x5, x67, x330000, x330001, x330002 => if x67 = true then (some (wrap64 (x330000 + 2), x330001, 0)) else (if x5 = true then (qY.j2 k x1 x5 (x1 == 115) x330000 x330001 x330002) else (qY.j2 k x1 x5 false x330000 x330001 x330002))
def qY.j2 : Nat → Int → Bool → Bool → Int → Int → Int → Option (Int × Int × Int)
 | 0, _, _, _, _, _, _ => none
 | k + 1, x1, x5, x79, x330000, x330001, x330002 => if x79 = true then (some (x330000, wrap64 (x330001 + 2), 0)) else ((qFB.f x330000 x330001 x1).bind fun bt331 => (if x5 = true then (some (bt331.1, bt331.2, 0)) else (some (bt331.1, bt331.2, x330002))))
end
def qY.f (k : Nat) (a0_0 : Int) (a0_1 : Int) (a0_2 : Int) (a1 : Int) : Option (Int × Int × Int) := if a0_2 = 2 then (if a1 = 110 then (qY.j0 k a1 true a0_0 a0_1 a0_2) else (if a1 = 115 then (qY.j0 k a1 true a0_0 a0_1 a0_2) else (if a0_2 = 1 then (if a1 = 101 then (qY.j0 k a1 true a0_0 a0_1 a0_2) else (qY.j0 k a1 (a1 == 119) a0_0 a0_1 a0_2)) else (qY.j0 k a1 false a0_0 a0_1 a0_2)))) else (if a0_2 = 1 then (if a1 = 101 then (qY.j0 k a1 true a0_0 a0_1 a0_2) else (qY.j0 k a1 (a1 == 119) a0_0 a0_1 a0_2)) else (qY.j0 k a1 false a0_0 a0_1 a0_2))
set_option maxHeartbeats 8000000 in
set_option maxRecDepth 100000 in
theorem qY.calls (k : Nat) (a0_0 : Int) (a0_1 : Int) (a0_2 : Int) (a1 : Int) (r1 : Int) (r2 : Int) (r3 : Int) (w : World) (h : qY.f k a0_0 a0_1 a0_2 a1 = some (r1, r2, r3)) :
  Calls Tryd.prog 88 #[.agg #[.int .i64 a0_0, .int .i64 a0_1, .int .i64 a0_2], .int .u8 a1] w fun e w' => e = .returned (.agg #[.int .i64 r1, .int .i64 r2, .int .i64 r3]) ∧ Below w.heap.size w w' := by
 have hu27 := Tryd.underlying27
 have HB := Aside0.mk (Below.refl w.heap.size w)
 have H : (if a0_2 = 2 then (if a1 = 110 then (qY.j0 k a1 true a0_0 a0_1 a0_2) else (if a1 = 115 then (qY.j0 k a1 true a0_0 a0_1 a0_2) else (if a0_2 = 1 then (if a1 = 101 then (qY.j0 k a1 true a0_0 a0_1 a0_2) else (qY.j0 k a1 (a1 == 119) a0_0 a0_1 a0_2)) else (qY.j0 k a1 false a0_0 a0_1 a0_2)))) else (if a0_2 = 1 then (if a1 = 101 then (qY.j0 k a1 true a0_0 a0_1 a0_2) else (qY.j0 k a1 (a1 == 119) a0_0 a0_1 a0_2)) else (qY.j0 k a1 false a0_0 a0_1 a0_2))) = some (r1, r2, r3) := h
 clear h
 have HC3 := Aside0.mk H
 clear H
 go_enter Tryd.func88, Tryd.ntmps88
 go_upto_region 1 with (first | ((with_reducible refine qe (N := 2) rfl ?_); refine qb ?hg (N := 2) ?hd (cs := #[.int .i64 a0_0, .int .i64 a0_1, .int .i64 a0_2]) (t := 27) ?hr ?_; (case hd => rfl); (case hg => rfl); (case hr => first | (go_simp; done) | (go_simp; rfl)); intro gb329 hg w4 hbox hb; have n0_ := Aside0.mk (qH bl hb); have n1_ := Aside0.mk (hbox); have n2_ := Aside0.mk ((gg hg)); have n3_ := Aside0.mk ((gg hg)); clear HB; have HB := n0_; have BK329 := n1_; have GW329 := n2_; have GE329 := n3_; clear n0_ n1_ n2_ n3_; clear hb hbox hg) | ((with_reducible refine qe (N := 4) rfl ?_); refine qb ?hg (N := 4) ?hd (cs := #[.int .i64 0, .int .i64 0, .int .i64 0]) (t := 27) ?hr ?_; (case hd => rfl); (case hg => rfl); (case hr => first | (go_simp; done) | (go_simp; rfl)); intro gb330 hg w5 hbox hb; have n0_ := Aside0.mk (bb BK329 hb); have n1_ := Aside0.mk (qH bl hb); have n2_ := Aside0.mk (hbox); have n3_ := Aside0.mk ((gg hg)); have n4_ := Aside0.mk ((gg hg)); have n5_ := Aside0.mk ((nl BK329 hg)); have n6_ := Aside0.mk ((nr BK329 hg)); clear BK329; clear HB; have BK329 := n0_; have HB := n1_; have BK330 := n2_; have GW330 := n3_; have GE330 := n4_; have NB329_330 := n5_; have NB330_329 := n6_; clear n0_ n1_ n2_ n3_ n4_ n5_ n6_; clear hb hbox hg))
 (try simp only [Act.put, List.setIfInBounds_toArray, List.set_cons_zero, List.set_cons_succ])
 go_cut [5] (fun v5 wc => ∃ (kq : Nat) (x5_2 : Bool), v5 = .bool x5_2 ∧ Aside0 (qY.j0 kq a1 x5_2 a0_0 a0_1 a0_2 = some (r1, r2, r3)) ∧ Aside0 (kq ≤ k) ∧ Aside0 (wc.heap[gb329]? = some (.cells #[.int .i64 a0_0, .int .i64 a0_1, .int .i64 a0_2] 27 (0, 0))) ∧ Aside0 (wc.heap[gb330]? = some (.cells #[.int .i64 0, .int .i64 0, .int .i64 0] 27 (0, 0))) ∧ Aside0 (Below w.heap.size w wc))
 case first =>
  have H := HC3.out
  clear HC3
  by_cases c6 : a0_2 = 2
  ·rw [if_pos c6] at H
   have c6b0 : (a0_2 == 2) = true := beq_iff_eq.mpr c6
   have c6b1 : (a0_2 != 2) = false := bne_eq_false_iff_eq.mpr c6
   clear c6
   (first | rw [c6b0] | (simp only [i64_w, i32_w]; rw [c6b0]) | skip)
   by_cases c7 : a1 = 110
   ·rw [if_pos c7] at H
    have c7b0 : (a1 == 110) = true := beq_iff_eq.mpr c7
    have c7b1 : (a1 != 110) = false := bne_eq_false_iff_eq.mpr c7
    clear c7
    have H' := Aside0.mk H
    clear H
    have hnb8 := NB329_330.out
    have hnc8 := NB330_329.out
    have hcz9_0 := bc BK329 0
    have hcz9_1 := bc BK329 1
    have hcz9_2 := bc BK329 2
    have hfz9_0 := qD BK329.out 0
    have hfz9_1 := qD BK329.out 1
    have hfz9_2 := qD BK329.out 2
    go_wp2
    go_meet
    case rel => exact ⟨_, (true), (by first | rfl | (simp; done) | (simp [*]; done)), H', ⟨by first | omega | exact Nat.le_refl _⟩, ⟨by (with_reducible repeat (first | refine qB ?_ _ | refine qC ?_ | refine qA ?_ _)); exact BK329.out⟩, ⟨by (with_reducible repeat (first | refine qB ?_ _ | refine qC ?_ | refine qA ?_ _)); exact BK330.out⟩, ⟨bl⟩⟩
   ·rw [if_neg c7] at H
    have c7b0 : (a1 == 110) = false := beq_eq_false_iff_ne.mpr c7
    have c7b1 : (a1 != 110) = true := bne_iff_ne.mpr c7
    by_cases c10 : a1 = 115
    ·rw [if_pos c10] at H
     have c10b0 : (a1 == 115) = true := beq_iff_eq.mpr c10
     have c10b1 : (a1 != 115) = false := bne_eq_false_iff_eq.mpr c10
     clear c10
     have H' := Aside0.mk H
     clear H
     have hnb11 := NB329_330.out
     have hnc11 := NB330_329.out
     have hcz12_0 := bc BK329 0
     have hcz12_1 := bc BK329 1
     have hcz12_2 := bc BK329 2
     have hfz12_0 := qD BK329.out 0
     have hfz12_1 := qD BK329.out 1
     have hfz12_2 := qD BK329.out 2
     go_wp2
     go_meet
     case rel => exact ⟨_, (true), (by first | rfl | (simp; done) | (simp [*]; done)), H', ⟨by first | omega | exact Nat.le_refl _⟩, ⟨by (with_reducible repeat (first | refine qB ?_ _ | refine qC ?_ | refine qA ?_ _)); exact BK329.out⟩, ⟨by (with_reducible repeat (first | refine qB ?_ _ | refine qC ?_ | refine qA ?_ _)); exact BK330.out⟩, ⟨bl⟩⟩
    ·rw [if_neg c10] at H
     have c10b0 : (a1 == 115) = false := beq_eq_false_iff_ne.mpr c10
     have c10b1 : (a1 != 115) = true := bne_iff_ne.mpr c10
     by_cases c13 : a0_2 = 1
     ·rw [if_pos c13] at H
      have c13b0 : (a0_2 == 1) = true := beq_iff_eq.mpr c13
      have c13b1 : (a0_2 != 1) = false := bne_eq_false_iff_eq.mpr c13
      clear c13
      by_cases c14 : a1 = 101
      ·rw [if_pos c14] at H
       have c14b0 : (a1 == 101) = true := beq_iff_eq.mpr c14
       have c14b1 : (a1 != 101) = false := bne_eq_false_iff_eq.mpr c14
       clear c14
       have H' := Aside0.mk H
       clear H
       have hnb15 := NB329_330.out
       have hnc15 := NB330_329.out
       have hcz16_0 := bc BK329 0
       have hcz16_1 := bc BK329 1
       have hcz16_2 := bc BK329 2
       have hfz16_0 := qD BK329.out 0
       have hfz16_1 := qD BK329.out 1
       have hfz16_2 := qD BK329.out 2
       go_wp2
       go_meet
       case rel => exact ⟨_, (true), (by first | rfl | (simp; done) | (simp [*]; done)), H', ⟨by first | omega | exact Nat.le_refl _⟩, ⟨by (with_reducible repeat (first | refine qB ?_ _ | refine qC ?_ | refine qA ?_ _)); exact BK329.out⟩, ⟨by (with_reducible repeat (first | refine qB ?_ _ | refine qC ?_ | refine qA ?_ _)); exact BK330.out⟩, ⟨bl⟩⟩
      ·rw [if_neg c14] at H
       have c14b0 : (a1 == 101) = false := beq_eq_false_iff_ne.mpr c14
       have c14b1 : (a1 != 101) = true := bne_iff_ne.mpr c14
       have H' := Aside0.mk H
       clear H
       have hnb17 := NB329_330.out
       have hnc17 := NB330_329.out
       have hcz18_0 := bc BK329 0
       have hcz18_1 := bc BK329 1
       have hcz18_2 := bc BK329 2
       have hfz18_0 := qD BK329.out 0
       have hfz18_1 := qD BK329.out 1
       have hfz18_2 := qD BK329.out 2
       go_wp2
       go_meet
       case rel => exact ⟨_, ((a1 == 119)), (by first | rfl | (simp; done) | (simp [*]; done)), H', ⟨by first | omega | exact Nat.le_refl _⟩, ⟨by (with_reducible repeat (first | refine qB ?_ _ | refine qC ?_ | refine qA ?_ _)); exact BK329.out⟩, ⟨by (with_reducible repeat (first | refine qB ?_ _ | refine qC ?_ | refine qA ?_ _)); exact BK330.out⟩, ⟨bl⟩⟩
     ·rw [if_neg c13] at H
      have c13b0 : (a0_2 == 1) = false := beq_eq_false_iff_ne.mpr c13
      have c13b1 : (a0_2 != 1) = true := bne_iff_ne.mpr c13
      have H' := Aside0.mk H
      clear H
      have hnb19 := NB329_330.out
      have hnc19 := NB330_329.out
      have hcz20_0 := bc BK329 0
      have hcz20_1 := bc BK329 1
      have hcz20_2 := bc BK329 2
      have hfz20_0 := qD BK329.out 0
      have hfz20_1 := qD BK329.out 1
      have hfz20_2 := qD BK329.out 2
      go_wp2
      go_meet
      case rel => exact ⟨_, (false), (by first | rfl | (simp; done) | (simp [*]; done)), H', ⟨by first | omega | exact Nat.le_refl _⟩, ⟨by (with_reducible repeat (first | refine qB ?_ _ | refine qC ?_ | refine qA ?_ _)); exact BK329.out⟩, ⟨by (with_reducible repeat (first | refine qB ?_ _ | refine qC ?_ | refine qA ?_ _)); exact BK330.out⟩, ⟨bl⟩⟩
  ·rw [if_neg c6] at H
   have c6b0 : (a0_2 == 2) = false := beq_eq_false_iff_ne.mpr c6
   have c6b1 : (a0_2 != 2) = true := bne_iff_ne.mpr c6
   (first | rw [c6b0] | (simp only [i64_w, i32_w]; rw [c6b0]) | skip)
   by_cases c21 : a0_2 = 1
   ·rw [if_pos c21] at H
    have c21b0 : (a0_2 == 1) = true := beq_iff_eq.mpr c21
    have c21b1 : (a0_2 != 1) = false := bne_eq_false_iff_eq.mpr c21
    clear c21
    by_cases c22 : a1 = 101
    ·rw [if_pos c22] at H
     have c22b0 : (a1 == 101) = true := beq_iff_eq.mpr c22
     have c22b1 : (a1 != 101) = false := bne_eq_false_iff_eq.mpr c22
     clear c22
     have H' := Aside0.mk H
     clear H
     have hnb23 := NB329_330.out
     have hnc23 := NB330_329.out
     have hcz24_0 := bc BK329 0
     have hcz24_1 := bc BK329 1
     have hcz24_2 := bc BK329 2
     have hfz24_0 := qD BK329.out 0
     have hfz24_1 := qD BK329.out 1
     have hfz24_2 := qD BK329.out 2
     go_wp2
     go_meet
     case rel => exact ⟨_, (true), (by first | rfl | (simp; done) | (simp [*]; done)), H', ⟨by first | omega | exact Nat.le_refl _⟩, ⟨by (with_reducible repeat (first | refine qB ?_ _ | refine qC ?_ | refine qA ?_ _)); exact BK329.out⟩, ⟨by (with_reducible repeat (first | refine qB ?_ _ | refine qC ?_ | refine qA ?_ _)); exact BK330.out⟩, ⟨bl⟩⟩
    ·rw [if_neg c22] at H
     have c22b0 : (a1 == 101) = false := beq_eq_false_iff_ne.mpr c22
     have c22b1 : (a1 != 101) = true := bne_iff_ne.mpr c22
     have H' := Aside0.mk H
     clear H
     have hnb25 := NB329_330.out
     have hnc25 := NB330_329.out
     have hcz26_0 := bc BK329 0
     have hcz26_1 := bc BK329 1
     have hcz26_2 := bc BK329 2
     have hfz26_0 := qD BK329.out 0
     have hfz26_1 := qD BK329.out 1
     have hfz26_2 := qD BK329.out 2
     go_wp2
     go_meet
     case rel => exact ⟨_, ((a1 == 119)), (by first | rfl | (simp; done) | (simp [*]; done)), H', ⟨by first | omega | exact Nat.le_refl _⟩, ⟨by (with_reducible repeat (first | refine qB ?_ _ | refine qC ?_ | refine qA ?_ _)); exact BK329.out⟩, ⟨by (with_reducible repeat (first | refine qB ?_ _ | refine qC ?_ | refine qA ?_ _)); exact BK330.out⟩, ⟨bl⟩⟩
   ·rw [if_neg c21] at H
    have c21b0 : (a0_2 == 1) = false := beq_eq_false_iff_ne.mpr c21
    have c21b1 : (a0_2 != 1) = true := bne_iff_ne.mpr c21
    have H' := Aside0.mk H
    clear H
    have hnb27 := NB329_330.out
    have hnc27 := NB330_329.out
    have hcz28_0 := bc BK329 0
    have hcz28_1 := bc BK329 1
    have hcz28_2 := bc BK329 2
    have hfz28_0 := qD BK329.out 0
    have hfz28_1 := qD BK329.out 1
    have hfz28_2 := qD BK329.out 2
    go_wp2
    go_meet
    case rel => exact ⟨_, (false), (by first | rfl | (simp; done) | (simp [*]; done)), H', ⟨by first | omega | exact Nat.le_refl _⟩, ⟨by (with_reducible repeat (first | refine qB ?_ _ | refine qC ?_ | refine qA ?_ _)); exact BK329.out⟩, ⟨by (with_reducible repeat (first | refine qB ?_ _ | refine qC ?_ | refine qA ?_ _)); exact BK330.out⟩, ⟨bl⟩⟩
 case rest =>
  clear HC3
  try clear c1
  try clear c2
  try clear p2
  try clear c6
  try clear c6b0
  try clear c6b1
  try clear c7
  try clear c7b0
  try clear c7b1
  try clear c8
  try clear c10
  try clear c10b0
  try clear c10b1
  try clear c11
  try clear c13
  try clear c13b0
  try clear c13b1
  try clear c14
  try clear c14b0
  try clear c14b1
  try clear c15
  try clear c17
  try clear c19
  try clear c21
  try clear c21b0
  try clear c21b1
  try clear c22
  try clear c22b0
  try clear c22b1
  try clear c23
  try clear c25
  try clear c27
  try clear hcz12_0
  try clear hcz12_1
  try clear hcz12_2
  try clear hcz16_0
  try clear hcz16_1
  try clear hcz16_2
  try clear hcz18_0
  try clear hcz18_1
  try clear hcz18_2
  try clear hcz20_0
  try clear hcz20_1
  try clear hcz20_2
  try clear hcz24_0
  try clear hcz24_1
  try clear hcz24_2
  try clear hcz26_0
  try clear hcz26_1
  try clear hcz26_2
  try clear hcz28_0
  try clear hcz28_1
  try clear hcz28_2
  try clear hcz9_0
  try clear hcz9_1
  try clear hcz9_2
  try clear hfz12_0
  try clear hfz12_1
  try clear hfz12_2
  try clear hfz16_0
  try clear hfz16_1
  try clear hfz16_2
  try clear hfz18_0
  try clear hfz18_1
  try clear hfz18_2
  try clear hfz20_0
  try clear hfz20_1
  try clear hfz20_2
  try clear hfz24_0
  try clear hfz24_1
  try clear hfz24_2
  try clear hfz26_0
  try clear hfz26_1
  try clear hfz26_2
  try clear hfz28_0
  try clear hfz28_1
  try clear hfz28_2
  try clear hfz9_0
  try clear hfz9_1
  try clear hfz9_2
  obtain ⟨kq, x5_2, rfl, HA, HJ2, BK329, BK330, HB⟩ := hcut
  cases kq with
  | zero => exact absurd HA.out (by simp [qY.j0])
  | succ kj2 =>
   have H := HA.out
   clear HA
   simp only [qY.j0] at H
   by_cases c29 : a0_2 = 0
   ·rw [if_pos c29] at H
    have c29b0 : (a0_2 == 0) = true := beq_iff_eq.mpr c29
    have c29b1 : (a0_2 != 0) = false := bne_eq_false_iff_eq.mpr c29
    clear c29
    by_cases c30 : a1 = 110
    ·rw [if_pos c30] at H
     have c30b0 : (a1 == 110) = true := beq_iff_eq.mpr c30
     have c30b1 : (a1 != 110) = false := bne_eq_false_iff_eq.mpr c30
     clear c30
     simp only [Option.some.injEq, Prod.mk.injEq] at H
     obtain ⟨rfl, rfl, rfl⟩ := H
     have hnb31 := NB329_330.out
     have hnc31 := NB330_329.out
     have hcz32_0 := bc BK329 0
     have hcz32_1 := bc BK329 1
     have hcz32_2 := bc BK329 2
     have hfz32_0 := qD BK329.out 0
     have hfz32_1 := qD BK329.out 1
     have hfz32_2 := qD BK329.out 2
     have hcz33_0 := bc BK330 0
     have hcz33_1 := bc BK330 1
     have hcz33_2 := bc BK330 2
     have hfz33_0 := qD BK330.out 0
     have hfz33_1 := qD BK330.out 1
     have hfz33_2 := qD BK330.out 2
     go_wp2
     refine bodyPost_ret (results_cell_row rfl _ _ gb330 27 #[.int .i64 a0_0, .int .i64 (wrap64 (a0_1 - 2)), .int .i64 2] (0, 0) _ rfl (by (with_reducible repeat (first | refine qB ?_ _ | refine qC ?_ | refine qA ?_ _)); refine qP (cs := #[.int .i64 a0_0, .int .i64 (wrap64 (a0_1 - 2)), .int .i64 0]) ?_ 2 _ rfl; (with_reducible repeat (first | refine qB ?_ _ | refine qC ?_ | refine qA ?_ _)); refine qP (cs := #[.int .i64 a0_0, .int .i64 0, .int .i64 0]) ?_ 1 _ rfl; (with_reducible repeat (first | refine qB ?_ _ | refine qC ?_ | refine qA ?_ _)); refine qP (cs := #[.int .i64 0, .int .i64 0, .int .i64 0]) ?_ 0 _ rfl; (with_reducible repeat (first | refine qB ?_ _ | refine qC ?_ | refine qA ?_ _)); exact BK330.out) Tryd.underlying27 rfl (by kernel_rfl)) rfl ?_
     exact ⟨by first | rfl | (simp [qL, qK] <;> rfl) | (simp [*, qL, qK] <;> rfl), bl⟩
    ·rw [if_neg c30] at H
     have c30b0 : (a1 == 110) = false := beq_eq_false_iff_ne.mpr c30
     have c30b1 : (a1 != 110) = true := bne_iff_ne.mpr c30
     by_cases c34 : a1 = 101
     ·rw [if_pos c34] at H
      have c34b0 : (a1 == 101) = true := beq_iff_eq.mpr c34
      have c34b1 : (a1 != 101) = false := bne_eq_false_iff_eq.mpr c34
      clear c34
      simp only [Option.some.injEq, Prod.mk.injEq] at H
      obtain ⟨rfl, rfl, rfl⟩ := H
      have hnb35 := NB329_330.out
      have hnc35 := NB330_329.out
      have hcz36_0 := bc BK329 0
      have hcz36_1 := bc BK329 1
      have hcz36_2 := bc BK329 2
      have hfz36_0 := qD BK329.out 0
      have hfz36_1 := qD BK329.out 1
      have hfz36_2 := qD BK329.out 2
      have hcz37_0 := bc BK330 0
      have hcz37_1 := bc BK330 1
      have hcz37_2 := bc BK330 2
      have hfz37_0 := qD BK330.out 0
      have hfz37_1 := qD BK330.out 1
      have hfz37_2 := qD BK330.out 2
      go_wp2
      refine bodyPost_ret (results_cell_row rfl _ _ gb330 27 #[.int .i64 (wrap64 (a0_0 + 1)), .int .i64 a0_1, .int .i64 1] (0, 0) _ rfl (by (with_reducible repeat (first | refine qB ?_ _ | refine qC ?_ | refine qA ?_ _)); refine qP (cs := #[.int .i64 (wrap64 (a0_0 + 1)), .int .i64 a0_1, .int .i64 0]) ?_ 2 _ rfl; (with_reducible repeat (first | refine qB ?_ _ | refine qC ?_ | refine qA ?_ _)); refine qP (cs := #[.int .i64 (wrap64 (a0_0 + 1)), .int .i64 0, .int .i64 0]) ?_ 1 _ rfl; (with_reducible repeat (first | refine qB ?_ _ | refine qC ?_ | refine qA ?_ _)); refine qP (cs := #[.int .i64 0, .int .i64 0, .int .i64 0]) ?_ 0 _ rfl; (with_reducible repeat (first | refine qB ?_ _ | refine qC ?_ | refine qA ?_ _)); exact BK330.out) Tryd.underlying27 rfl (by kernel_rfl)) rfl ?_
      exact ⟨by first | rfl | (simp [qL, qK] <;> rfl) | (simp [*, qL, qK] <;> rfl), bl⟩
     ·rw [if_neg c34] at H
      have c34b0 : (a1 == 101) = false := beq_eq_false_iff_ne.mpr c34
      have c34b1 : (a1 != 101) = true := bne_iff_ne.mpr c34
      by_cases c38 : a1 = 115
      ·rw [if_pos c38] at H
       have c38b0 : (a1 == 115) = true := beq_iff_eq.mpr c38
       have c38b1 : (a1 != 115) = false := bne_eq_false_iff_eq.mpr c38
       clear c38
       simp only [Option.some.injEq, Prod.mk.injEq] at H
       obtain ⟨rfl, rfl, rfl⟩ := H
       have hnb39 := NB329_330.out
       have hnc39 := NB330_329.out
       have hcz40_0 := bc BK329 0
       have hcz40_1 := bc BK329 1
       have hcz40_2 := bc BK329 2
       have hfz40_0 := qD BK329.out 0
       have hfz40_1 := qD BK329.out 1
       have hfz40_2 := qD BK329.out 2
       have hcz41_0 := bc BK330 0
       have hcz41_1 := bc BK330 1
       have hcz41_2 := bc BK330 2
       have hfz41_0 := qD BK330.out 0
       have hfz41_1 := qD BK330.out 1
       have hfz41_2 := qD BK330.out 2
       go_wp2
       refine bodyPost_ret (results_cell_row rfl _ _ gb330 27 #[.int .i64 a0_0, .int .i64 (wrap64 (a0_1 + 1)), .int .i64 2] (0, 0) _ rfl (by (with_reducible repeat (first | refine qB ?_ _ | refine qC ?_ | refine qA ?_ _)); refine qP (cs := #[.int .i64 a0_0, .int .i64 (wrap64 (a0_1 + 1)), .int .i64 0]) ?_ 2 _ rfl; (with_reducible repeat (first | refine qB ?_ _ | refine qC ?_ | refine qA ?_ _)); refine qP (cs := #[.int .i64 a0_0, .int .i64 0, .int .i64 0]) ?_ 1 _ rfl; (with_reducible repeat (first | refine qB ?_ _ | refine qC ?_ | refine qA ?_ _)); refine qP (cs := #[.int .i64 0, .int .i64 0, .int .i64 0]) ?_ 0 _ rfl; (with_reducible repeat (first | refine qB ?_ _ | refine qC ?_ | refine qA ?_ _)); exact BK330.out) Tryd.underlying27 rfl (by kernel_rfl)) rfl ?_
       exact ⟨by first | rfl | (simp [qL, qK] <;> rfl) | (simp [*, qL, qK] <;> rfl), bl⟩
      ·rw [if_neg c38] at H
       have c38b0 : (a1 == 115) = false := beq_eq_false_iff_ne.mpr c38
       have c38b1 : (a1 != 115) = true := bne_iff_ne.mpr c38
       simp only [Option.some.injEq, Prod.mk.injEq] at H
       obtain ⟨rfl, rfl, rfl⟩ := H
       have hnb42 := NB329_330.out
       have hnc42 := NB330_329.out
       have hcz43_0 := bc BK329 0
       have hcz43_1 := bc BK329 1
       have hcz43_2 := bc BK329 2
       have hfz43_0 := qD BK329.out 0
       have hfz43_1 := qD BK329.out 1
       have hfz43_2 := qD BK329.out 2
       have hcz44_0 := bc BK330 0
       have hcz44_1 := bc BK330 1
       have hcz44_2 := bc BK330 2
       have hfz44_0 := qD BK330.out 0
       have hfz44_1 := qD BK330.out 1
       have hfz44_2 := qD BK330.out 2
       go_wp2
       refine bodyPost_ret (results_cell_row rfl _ _ gb330 27 #[.int .i64 (wrap64 (a0_0 - 2)), .int .i64 a0_1, .int .i64 1] (0, 0) _ rfl (by (with_reducible repeat (first | refine qB ?_ _ | refine qC ?_ | refine qA ?_ _)); refine qP (cs := #[.int .i64 (wrap64 (a0_0 - 2)), .int .i64 a0_1, .int .i64 0]) ?_ 2 _ rfl; (with_reducible repeat (first | refine qB ?_ _ | refine qC ?_ | refine qA ?_ _)); refine qP (cs := #[.int .i64 (wrap64 (a0_0 - 2)), .int .i64 0, .int .i64 0]) ?_ 1 _ rfl; (with_reducible repeat (first | refine qB ?_ _ | refine qC ?_ | refine qA ?_ _)); refine qP (cs := #[.int .i64 0, .int .i64 0, .int .i64 0]) ?_ 0 _ rfl; (with_reducible repeat (first | refine qB ?_ _ | refine qC ?_ | refine qA ?_ _)); exact BK330.out) Tryd.underlying27 rfl (by kernel_rfl)) rfl ?_
       exact ⟨by first | rfl | (simp [qL, qK] <;> rfl) | (simp [*, qL, qK] <;> rfl), bl⟩
   ·rw [if_neg c29] at H
    have c29b0 : (a0_2 == 0) = false := beq_eq_false_iff_ne.mpr c29
    have c29b1 : (a0_2 != 0) = true := bne_iff_ne.mpr c29
    have HC45 := Aside0.mk H
    clear H
    have hnb46 := NB329_330.out
    have hnc46 := NB330_329.out
    have hcz47_0 := bc BK329 0
    have hcz47_1 := bc BK329 1
    have hcz47_2 := bc BK329 2
    have hfz47_0 := qD BK329.out 0
    have hfz47_1 := qD BK329.out 1
    have hfz47_2 := qD BK329.out 2
    go_upto_region 11 with (fail)
    go_cut [67] (fun v67 wc => ∃ (kq : Nat) (x67_44 : Bool), v67 = .bool x67_44 ∧ Aside0 (qY.j1 kq a1 x5_2 x67_44 a0_0 a0_1 a0_2 = some (r1, r2, r3)) ∧ Aside0 (kq ≤ kj2) ∧ Aside0 (wc.heap[gb329]? = some (.cells #[.int .i64 a0_0, .int .i64 a0_1, .int .i64 a0_2] 27 (0, 0))) ∧ Aside0 (wc.heap[gb330]? = some (.cells #[.int .i64 0, .int .i64 0, .int .i64 0] 27 (0, 0))) ∧ Aside0 (Below w.heap.size w wc))
    case first =>
     have H := HC45.out
     clear HC45
     by_cases c48 : x5_2 = true
     ·subst c48
      have H1 : (qY.j1 kj2 a1 true (a1 == 101) a0_0 a0_1 a0_2) = some (r1, r2, r3) := by rw [if_pos rfl] at H; exact H
      clear H
      have H := H1
      clear H1
      have H' := Aside0.mk H
      clear H
      go_wp2
      go_meet
      case rel => exact ⟨_, ((a1 == 101)), (by first | rfl | (simp; done) | (simp [*]; done)), H', ⟨by have := HJ2.out; first | omega | exact Nat.le_refl _⟩, ⟨by (with_reducible repeat (first | refine qB ?_ _ | refine qC ?_ | refine qA ?_ _)); exact BK329.out⟩, ⟨by (with_reducible repeat (first | refine qB ?_ _ | refine qC ?_ | refine qA ?_ _)); exact BK330.out⟩, ⟨bl⟩⟩
     ·replace c48 := Bool.eq_false_iff.mpr c48
      subst c48
      have H1 : (qY.j1 kj2 a1 false false a0_0 a0_1 a0_2) = some (r1, r2, r3) := by rw [if_neg (show ¬ (false = true) by decide)] at H; exact H
      clear H
      have H := H1
      clear H1
      have H' := Aside0.mk H
      clear H
      go_wp2
      go_meet
      case rel => exact ⟨_, (false), (by first | rfl | (simp; done) | (simp [*]; done)), H', ⟨by have := HJ2.out; first | omega | exact Nat.le_refl _⟩, ⟨by (with_reducible repeat (first | refine qB ?_ _ | refine qC ?_ | refine qA ?_ _)); exact BK329.out⟩, ⟨by (with_reducible repeat (first | refine qB ?_ _ | refine qC ?_ | refine qA ?_ _)); exact BK330.out⟩, ⟨bl⟩⟩
    case rest =>
     clear HC45
     try clear c1
     try clear c2
     try clear p2
     try clear c3
     try clear c4
     try clear c6
     try clear c6b0
     try clear c6b1
     try clear p6
     try clear c7
     try clear c7b0
     try clear c7b1
     try clear c8
     try clear c10
     try clear c10b0
     try clear c10b1
     try clear c11
     try clear c13
     try clear c13b0
     try clear c13b1
     try clear c14
     try clear c14b0
     try clear c14b1
     try clear c15
     try clear c17
     try clear c19
     try clear c21
     try clear c21b0
     try clear c21b1
     try clear c22
     try clear c22b0
     try clear c22b1
     try clear c23
     try clear c25
     try clear c27
     try clear c29
     try clear c29b0
     try clear c29b1
     try clear c30
     try clear c30b0
     try clear c30b1
     try clear c31
     try clear c34
     try clear c34b0
     try clear c34b1
     try clear c35
     try clear c38
     try clear c38b0
     try clear c38b1
     try clear c39
     try clear c42
     try clear c46
     try clear c48
     try clear hcz12_0
     try clear hcz12_1
     try clear hcz12_2
     try clear hcz16_0
     try clear hcz16_1
     try clear hcz16_2
     try clear hcz18_0
     try clear hcz18_1
     try clear hcz18_2
     try clear hcz20_0
     try clear hcz20_1
     try clear hcz20_2
     try clear hcz24_0
     try clear hcz24_1
     try clear hcz24_2
     try clear hcz26_0
     try clear hcz26_1
     try clear hcz26_2
     try clear hcz28_0
     try clear hcz28_1
     try clear hcz28_2
     try clear hcz32_0
     try clear hcz32_1
     try clear hcz32_2
     try clear hcz33_0
     try clear hcz33_1
     try clear hcz33_2
     try clear hcz36_0
     try clear hcz36_1
     try clear hcz36_2
     try clear hcz37_0
     try clear hcz37_1
     try clear hcz37_2
     try clear hcz40_0
     try clear hcz40_1
     try clear hcz40_2
     try clear hcz41_0
     try clear hcz41_1
     try clear hcz41_2
     try clear hcz43_0
     try clear hcz43_1
     try clear hcz43_2
     try clear hcz44_0
     try clear hcz44_1
     try clear hcz44_2
     try clear hcz47_0
     try clear hcz47_1
     try clear hcz47_2
     try clear hcz9_0
     try clear hcz9_1
     try clear hcz9_2
     try clear hfz12_0
     try clear hfz12_1
     try clear hfz12_2
     try clear hfz16_0
     try clear hfz16_1
     try clear hfz16_2
     try clear hfz18_0
     try clear hfz18_1
     try clear hfz18_2
     try clear hfz20_0
     try clear hfz20_1
     try clear hfz20_2
     try clear hfz24_0
     try clear hfz24_1
     try clear hfz24_2
     try clear hfz26_0
     try clear hfz26_1
     try clear hfz26_2
     try clear hfz28_0
     try clear hfz28_1
     try clear hfz28_2
     try clear hfz32_0
     try clear hfz32_1
     try clear hfz32_2
     try clear hfz33_0
     try clear hfz33_1
     try clear hfz33_2
     try clear hfz36_0
     try clear hfz36_1
     try clear hfz36_2
     try clear hfz37_0
     try clear hfz37_1
     try clear hfz37_2
     try clear hfz40_0
     try clear hfz40_1
     try clear hfz40_2
     try clear hfz41_0
     try clear hfz41_1
     try clear hfz41_2
     try clear hfz43_0
     try clear hfz43_1
     try clear hfz43_2
     try clear hfz44_0
     try clear hfz44_1
     try clear hfz44_2
     try clear hfz47_0
     try clear hfz47_1
     try clear hfz47_2
     try clear hfz9_0
     try clear hfz9_1
     try clear hfz9_2
     try clear p2
     obtain ⟨kq, x67_44, rfl, HA, HJ44, BK329, BK330, HB⟩ := hcut
     cases kq with
     | zero => exact absurd HA.out (by simp [qY.j1])
     | succ kj44 =>
      have H := HA.out
      clear HA
      simp only [qY.j1] at H
      by_cases c49 : x67_44 = true
      ·subst c49
       have H1 : (some (wrap64 (a0_0 + 2), a0_1, 0)) = some (r1, r2, r3) := by rw [if_pos rfl] at H; exact H
       clear H
       have H := H1
       clear H1
       simp only [Option.some.injEq, Prod.mk.injEq] at H
       obtain ⟨rfl, rfl, rfl⟩ := H
       have hnb50 := NB329_330.out
       have hnc50 := NB330_329.out
       have hcz51_0 := bc BK329 0
       have hcz51_1 := bc BK329 1
       have hcz51_2 := bc BK329 2
       have hfz51_0 := qD BK329.out 0
       have hfz51_1 := qD BK329.out 1
       have hfz51_2 := qD BK329.out 2
       have hcz52_0 := bc BK330 0
       have hcz52_1 := bc BK330 1
       have hcz52_2 := bc BK330 2
       have hfz52_0 := qD BK330.out 0
       have hfz52_1 := qD BK330.out 1
       have hfz52_2 := qD BK330.out 2
       go_wp2
       refine bodyPost_ret (results_cell_row rfl _ _ gb330 27 #[.int .i64 (wrap64 (a0_0 + 2)), .int .i64 a0_1, .int .i64 0] (0, 0) _ rfl (by (with_reducible repeat (first | refine qB ?_ _ | refine qC ?_ | refine qA ?_ _)); refine qP (cs := #[.int .i64 (wrap64 (a0_0 + 2)), .int .i64 a0_1, .int .i64 0]) ?_ 2 _ rfl; (with_reducible repeat (first | refine qB ?_ _ | refine qC ?_ | refine qA ?_ _)); refine qP (cs := #[.int .i64 (wrap64 (a0_0 + 2)), .int .i64 0, .int .i64 0]) ?_ 1 _ rfl; (with_reducible repeat (first | refine qB ?_ _ | refine qC ?_ | refine qA ?_ _)); refine qP (cs := #[.int .i64 0, .int .i64 0, .int .i64 0]) ?_ 0 _ rfl; (with_reducible repeat (first | refine qB ?_ _ | refine qC ?_ | refine qA ?_ _)); exact BK330.out) Tryd.underlying27 rfl (by kernel_rfl)) rfl ?_
       exact ⟨by first | rfl | (simp [qL, qK] <;> rfl) | (simp [*, qL, qK] <;> rfl), bl⟩
      ·replace c49 := Bool.eq_false_iff.mpr c49
       subst c49
       have H1 : (if x5_2 = true then (qY.j2 kj44 a1 x5_2 (a1 == 115) a0_0 a0_1 a0_2) else (qY.j2 kj44 a1 x5_2 false a0_0 a0_1 a0_2)) = some (r1, r2, r3) := by rw [if_neg (show ¬ (false = true) by decide)] at H; exact H
       clear H
       have H := H1
       clear H1
       have HC53 := Aside0.mk H
       clear H
       go_upto_region 13 with (fail)
       go_cut [79] (fun v79 wc => ∃ (kq : Nat) (x79_52 : Bool), v79 = .bool x79_52 ∧ Aside0 (qY.j2 kq a1 x5_2 x79_52 a0_0 a0_1 a0_2 = some (r1, r2, r3)) ∧ Aside0 (kq ≤ kj44) ∧ Aside0 (wc.heap[gb329]? = some (.cells #[.int .i64 a0_0, .int .i64 a0_1, .int .i64 a0_2] 27 (0, 0))) ∧ Aside0 (wc.heap[gb330]? = some (.cells #[.int .i64 0, .int .i64 0, .int .i64 0] 27 (0, 0))) ∧ Aside0 (Below w.heap.size w wc))
       case first =>
        have H := HC53.out
        clear HC53
        by_cases c54 : x5_2 = true
        ·subst c54
         have H1 : (qY.j2 kj44 a1 true (a1 == 115) a0_0 a0_1 a0_2) = some (r1, r2, r3) := by rw [if_pos rfl] at H; exact H
         clear H
         have H := H1
         clear H1
         have H' := Aside0.mk H
         clear H
         go_wp2
         go_meet
         case rel => exact ⟨_, ((a1 == 115)), (by first | rfl | (simp; done) | (simp [*]; done)), H', ⟨by have := HJ2.out; have := HJ44.out; first | omega | exact Nat.le_refl _⟩, ⟨by (with_reducible repeat (first | refine qB ?_ _ | refine qC ?_ | refine qA ?_ _)); exact BK329.out⟩, ⟨by (with_reducible repeat (first | refine qB ?_ _ | refine qC ?_ | refine qA ?_ _)); exact BK330.out⟩, ⟨bl⟩⟩
        ·replace c54 := Bool.eq_false_iff.mpr c54
         subst c54
         have H1 : (qY.j2 kj44 a1 false false a0_0 a0_1 a0_2) = some (r1, r2, r3) := by rw [if_neg (show ¬ (false = true) by decide)] at H; exact H
         clear H
         have H := H1
         clear H1
         have H' := Aside0.mk H
         clear H
         go_wp2
         go_meet
         case rel => exact ⟨_, (false), (by first | rfl | (simp; done) | (simp [*]; done)), H', ⟨by have := HJ2.out; have := HJ44.out; first | omega | exact Nat.le_refl _⟩, ⟨by (with_reducible repeat (first | refine qB ?_ _ | refine qC ?_ | refine qA ?_ _)); exact BK329.out⟩, ⟨by (with_reducible repeat (first | refine qB ?_ _ | refine qC ?_ | refine qA ?_ _)); exact BK330.out⟩, ⟨bl⟩⟩
       case rest =>
        clear HC53
        try clear c1
        try clear c2
        try clear p2
        try clear c3
        try clear c4
        try clear c5
        try clear c6
        try clear c6b0
        try clear c6b1
        try clear p6
        try clear c7
        try clear c7b0
        try clear c7b1
        try clear c8
        try clear c10
        try clear c10b0
        try clear c10b1
        try clear c11
        try clear c13
        try clear c13b0
        try clear c13b1
        try clear c14
        try clear c14b0
        try clear c14b1
        try clear c15
        try clear c17
        try clear c19
        try clear c21
        try clear c21b0
        try clear c21b1
        try clear c22
        try clear c22b0
        try clear c22b1
        try clear c23
        try clear c25
        try clear c27
        try clear c29
        try clear c29b0
        try clear c29b1
        try clear c30
        try clear c30b0
        try clear c30b1
        try clear c31
        try clear c34
        try clear c34b0
        try clear c34b1
        try clear c35
        try clear c38
        try clear c38b0
        try clear c38b1
        try clear c39
        try clear c42
        try clear c46
        try clear c48
        try clear c49
        try clear c50
        try clear c54
        try clear hcz12_0
        try clear hcz12_1
        try clear hcz12_2
        try clear hcz16_0
        try clear hcz16_1
        try clear hcz16_2
        try clear hcz18_0
        try clear hcz18_1
        try clear hcz18_2
        try clear hcz20_0
        try clear hcz20_1
        try clear hcz20_2
        try clear hcz24_0
        try clear hcz24_1
        try clear hcz24_2
        try clear hcz26_0
        try clear hcz26_1
        try clear hcz26_2
        try clear hcz28_0
        try clear hcz28_1
        try clear hcz28_2
        try clear hcz32_0
        try clear hcz32_1
        try clear hcz32_2
        try clear hcz33_0
        try clear hcz33_1
        try clear hcz33_2
        try clear hcz36_0
        try clear hcz36_1
        try clear hcz36_2
        try clear hcz37_0
        try clear hcz37_1
        try clear hcz37_2
        try clear hcz40_0
        try clear hcz40_1
        try clear hcz40_2
        try clear hcz41_0
        try clear hcz41_1
        try clear hcz41_2
        try clear hcz43_0
        try clear hcz43_1
        try clear hcz43_2
        try clear hcz44_0
        try clear hcz44_1
        try clear hcz44_2
        try clear hcz47_0
        try clear hcz47_1
        try clear hcz47_2
        try clear hcz51_0
        try clear hcz51_1
        try clear hcz51_2
        try clear hcz52_0
        try clear hcz52_1
        try clear hcz52_2
        try clear hcz9_0
        try clear hcz9_1
        try clear hcz9_2
        try clear hfz12_0
        try clear hfz12_1
        try clear hfz12_2
        try clear hfz16_0
        try clear hfz16_1
        try clear hfz16_2
        try clear hfz18_0
        try clear hfz18_1
        try clear hfz18_2
        try clear hfz20_0
        try clear hfz20_1
        try clear hfz20_2
        try clear hfz24_0
        try clear hfz24_1
        try clear hfz24_2
        try clear hfz26_0
        try clear hfz26_1
        try clear hfz26_2
        try clear hfz28_0
        try clear hfz28_1
        try clear hfz28_2
        try clear hfz32_0
        try clear hfz32_1
        try clear hfz32_2
        try clear hfz33_0
        try clear hfz33_1
        try clear hfz33_2
        try clear hfz36_0
        try clear hfz36_1
        try clear hfz36_2
        try clear hfz37_0
        try clear hfz37_1
        try clear hfz37_2
        try clear hfz40_0
        try clear hfz40_1
        try clear hfz40_2
        try clear hfz41_0
        try clear hfz41_1
        try clear hfz41_2
        try clear hfz43_0
        try clear hfz43_1
        try clear hfz43_2
        try clear hfz44_0
        try clear hfz44_1
        try clear hfz44_2
        try clear hfz47_0
        try clear hfz47_1
        try clear hfz47_2
        try clear hfz51_0
        try clear hfz51_1
        try clear hfz51_2
        try clear hfz52_0
        try clear hfz52_1
        try clear hfz52_2
        try clear hfz9_0
        try clear hfz9_1
        try clear hfz9_2
        try clear p2
        try clear p6
        obtain ⟨kq, x79_52, rfl, HA, HJ52, BK329, BK330, HB⟩ := hcut
        cases kq with
        | zero => exact absurd HA.out (by simp [qY.j2])
        | succ kj52 =>
         have H := HA.out
         clear HA
         simp only [qY.j2] at H
         by_cases c55 : x79_52 = true
         ·subst c55
          have H1 : (some (a0_0, wrap64 (a0_1 + 2), 0)) = some (r1, r2, r3) := by rw [if_pos rfl] at H; exact H
          clear H
          have H := H1
          clear H1
          simp only [Option.some.injEq, Prod.mk.injEq] at H
          obtain ⟨rfl, rfl, rfl⟩ := H
          have hnb56 := NB329_330.out
          have hnc56 := NB330_329.out
          have hcz57_0 := bc BK329 0
          have hcz57_1 := bc BK329 1
          have hcz57_2 := bc BK329 2
          have hfz57_0 := qD BK329.out 0
          have hfz57_1 := qD BK329.out 1
          have hfz57_2 := qD BK329.out 2
          have hcz58_0 := bc BK330 0
          have hcz58_1 := bc BK330 1
          have hcz58_2 := bc BK330 2
          have hfz58_0 := qD BK330.out 0
          have hfz58_1 := qD BK330.out 1
          have hfz58_2 := qD BK330.out 2
          go_wp2
          refine bodyPost_ret (results_cell_row rfl _ _ gb330 27 #[.int .i64 a0_0, .int .i64 (wrap64 (a0_1 + 2)), .int .i64 0] (0, 0) _ rfl (by (with_reducible repeat (first | refine qB ?_ _ | refine qC ?_ | refine qA ?_ _)); refine qP (cs := #[.int .i64 a0_0, .int .i64 (wrap64 (a0_1 + 2)), .int .i64 0]) ?_ 2 _ rfl; (with_reducible repeat (first | refine qB ?_ _ | refine qC ?_ | refine qA ?_ _)); refine qP (cs := #[.int .i64 a0_0, .int .i64 0, .int .i64 0]) ?_ 1 _ rfl; (with_reducible repeat (first | refine qB ?_ _ | refine qC ?_ | refine qA ?_ _)); refine qP (cs := #[.int .i64 0, .int .i64 0, .int .i64 0]) ?_ 0 _ rfl; (with_reducible repeat (first | refine qB ?_ _ | refine qC ?_ | refine qA ?_ _)); exact BK330.out) Tryd.underlying27 rfl (by kernel_rfl)) rfl ?_
          exact ⟨by first | rfl | (simp [qL, qK] <;> rfl) | (simp [*, qL, qK] <;> rfl), bl⟩
         ·replace c55 := Bool.eq_false_iff.mpr c55
          subst c55
          have H1 : ((qFB.f a0_0 a0_1 a1).bind fun bt331 => (if x5_2 = true then (some (bt331.1, bt331.2, 0)) else (some (bt331.1, bt331.2, a0_2)))) = some (r1, r2, r3) := by rw [if_neg (show ¬ (false = true) by decide)] at H; exact H
          clear H
          have H := H1
          clear H1
          replace H := Option.bind_eq_some_iff.mp H
          obtain ⟨⟨t331, t332⟩, A590, H⟩ := H
          replace H : (if x5_2 = true then (some (t331, t332, 0)) else (some (t331, t332, a0_2))) = some (r1, r2, r3) := H
          have A59 := Aside0.mk A590
          clear A590
          by_cases c60 : x5_2 = true
          ·subst c60
           have H1 : (some (t331, t332, 0)) = some (r1, r2, r3) := by rw [if_pos rfl] at H; exact H
           clear H
           have H := H1
           clear H1
           simp only [Option.some.injEq, Prod.mk.injEq] at H
           obtain ⟨rfl, rfl, rfl⟩ := H
           have hnb61 := NB329_330.out
           have hnc61 := NB330_329.out
           have hcz62_0 := bc BK329 0
           have hcz62_1 := bc BK329 1
           have hcz62_2 := bc BK329 2
           have hfz62_0 := qD BK329.out 0
           have hfz62_1 := qD BK329.out 1
           have hfz62_2 := qD BK329.out 2
           go_wp2_with (first | ((with_reducible refine qT (f := 109) rfl ?_); refine qDA (some 97) rfl rfl Tryd.func109 (by kernel_rfl) rfl #[.int .i64 a0_0, .int .i64 a0_1, .int .u8 a1] rfl (by (try simp only [List.map_toArray, List.map_cons, List.map_nil]); first | done | rfl | (simp only [List.length_drop, List.length_take]; rfl)) ?_; (with_reducible refine (qFB.calls a0_0 a0_1 a1 t331 t332 _ A59.out).mono ?_); rintro e w' ⟨rfl, ⟨nd, rfl⟩⟩; refine ⟨_, rfl, ?_⟩; (try (rw [qbB wc]; generalize hq_ : World.drewN wc _ = wc; have n0_ : Aside0 (wc.heap[gb329]? = some (.cells #[.int .i64 a0_0, .int .i64 a0_1, .int .i64 a0_2] 27 (0, 0))) := ⟨by rw [← hq_]; exact (by (with_reducible repeat (first | refine qB ?_ _ | refine qC ?_ | refine qA ?_ _)); exact BK329.out)⟩; have n1_ : Aside0 (wc.heap[gb330]? = some (.cells #[.int .i64 0, .int .i64 0, .int .i64 0] 27 (0, 0))) := ⟨by rw [← hq_]; exact (by (with_reducible repeat (first | refine qB ?_ _ | refine qC ?_ | refine qA ?_ _)); exact BK330.out)⟩; have n2_ : Aside0 (Below w.heap.size w wc) := ⟨by rw [← hq_]; exact bl⟩; clear BK329 BK330 HB hq_; have BK329 := n0_; have BK330 := n1_; have HB := n2_; clear n0_ n1_ n2_)); have hcz63_0 := bc BK330 0; have hcz63_1 := bc BK330 1; have hcz63_2 := bc BK330 2; have hfz63_0 := qD BK330.out 0; have hfz63_1 := qD BK330.out 1; have hfz63_2 := qD BK330.out 2))
           refine bodyPost_ret (results_cell_row rfl _ _ gb330 27 #[.int .i64 t331, .int .i64 t332, .int .i64 0] (0, 0) _ rfl (by (with_reducible repeat (first | refine qB ?_ _ | refine qC ?_ | refine qA ?_ _)); refine qP (cs := #[.int .i64 t331, .int .i64 t332, .int .i64 0]) ?_ 2 _ rfl; (with_reducible repeat (first | refine qB ?_ _ | refine qC ?_ | refine qA ?_ _)); refine qP (cs := #[.int .i64 t331, .int .i64 0, .int .i64 0]) ?_ 1 _ rfl; (with_reducible repeat (first | refine qB ?_ _ | refine qC ?_ | refine qA ?_ _)); refine qP (cs := #[.int .i64 0, .int .i64 0, .int .i64 0]) ?_ 0 _ rfl; (with_reducible repeat (first | refine qB ?_ _ | refine qC ?_ | refine qA ?_ _)); exact BK330.out) Tryd.underlying27 rfl (by kernel_rfl)) rfl ?_
           exact ⟨by first | rfl | (simp [qL, qK] <;> rfl) | (simp [*, qL, qK] <;> rfl), bl⟩
          ·replace c60 := Bool.eq_false_iff.mpr c60
           subst c60
           have H1 : (some (t331, t332, a0_2)) = some (r1, r2, r3) := by rw [if_neg (show ¬ (false = true) by decide)] at H; exact H
           clear H
           have H := H1
           clear H1
           simp only [Option.some.injEq, Prod.mk.injEq] at H
           obtain ⟨rfl, rfl, rfl⟩ := H
           have hnb64 := NB329_330.out
           have hnc64 := NB330_329.out
           have hcz65_0 := bc BK329 0
           have hcz65_1 := bc BK329 1
           have hcz65_2 := bc BK329 2
           have hfz65_0 := qD BK329.out 0
           have hfz65_1 := qD BK329.out 1
           have hfz65_2 := qD BK329.out 2
           go_wp2_with (first | ((with_reducible refine qT (f := 109) rfl ?_); refine qDA (some 97) rfl rfl Tryd.func109 (by kernel_rfl) rfl #[.int .i64 a0_0, .int .i64 a0_1, .int .u8 a1] rfl (by (try simp only [List.map_toArray, List.map_cons, List.map_nil]); first | done | rfl | (simp only [List.length_drop, List.length_take]; rfl)) ?_; (with_reducible refine (qFB.calls a0_0 a0_1 a1 t331 t332 _ A59.out).mono ?_); rintro e w' ⟨rfl, ⟨nd, rfl⟩⟩; refine ⟨_, rfl, ?_⟩; (try (rw [qbB wc]; generalize hq_ : World.drewN wc _ = wc; have n0_ : Aside0 (wc.heap[gb329]? = some (.cells #[.int .i64 a0_0, .int .i64 a0_1, .int .i64 a0_2] 27 (0, 0))) := ⟨by rw [← hq_]; exact (by (with_reducible repeat (first | refine qB ?_ _ | refine qC ?_ | refine qA ?_ _)); exact BK329.out)⟩; have n1_ : Aside0 (wc.heap[gb330]? = some (.cells #[.int .i64 0, .int .i64 0, .int .i64 0] 27 (0, 0))) := ⟨by rw [← hq_]; exact (by (with_reducible repeat (first | refine qB ?_ _ | refine qC ?_ | refine qA ?_ _)); exact BK330.out)⟩; have n2_ : Aside0 (Below w.heap.size w wc) := ⟨by rw [← hq_]; exact bl⟩; clear BK329 BK330 HB hq_; have BK329 := n0_; have BK330 := n1_; have HB := n2_; clear n0_ n1_ n2_)); have hcz66_0 := bc BK329 0; have hcz66_1 := bc BK329 1; have hcz66_2 := bc BK329 2; have hfz66_0 := qD BK329.out 0; have hfz66_1 := qD BK329.out 1; have hfz66_2 := qD BK329.out 2; have hcz67_0 := bc BK330 0; have hcz67_1 := bc BK330 1; have hcz67_2 := bc BK330 2; have hfz67_0 := qD BK330.out 0; have hfz67_1 := qD BK330.out 1; have hfz67_2 := qD BK330.out 2))
           refine bodyPost_ret (results_cell_row rfl _ _ gb330 27 #[.int .i64 t331, .int .i64 t332, .int .i64 a0_2] (0, 0) _ rfl (by (with_reducible repeat (first | refine qB ?_ _ | refine qC ?_ | refine qA ?_ _)); refine qP (cs := #[.int .i64 t331, .int .i64 t332, .int .i64 0]) ?_ 2 _ rfl; (with_reducible repeat (first | refine qB ?_ _ | refine qC ?_ | refine qA ?_ _)); refine qP (cs := #[.int .i64 t331, .int .i64 0, .int .i64 0]) ?_ 1 _ rfl; (with_reducible repeat (first | refine qB ?_ _ | refine qC ?_ | refine qA ?_ _)); refine qP (cs := #[.int .i64 0, .int .i64 0, .int .i64 0]) ?_ 0 _ rfl; (with_reducible repeat (first | refine qB ?_ _ | refine qC ?_ | refine qA ?_ _)); exact BK330.out) Tryd.underlying27 rfl (by kernel_rfl)) rfl ?_
           exact ⟨by first | rfl | (simp [qL, qK] <;> rfl) | (simp [*, qL, qK] <;> rfl), bl⟩
def qNA.f (k : Nat) (l0 : List ByteArray) (a1_0 : Int) (a1_1 : Int) (a1_2 : Int) (a2 : Int) : Option (Int × Int × Int × Bool) := (qY.f k a1_0 a1_1 a1_2 a2).bind fun bt335 => ((qd.f k l0 bt335.1 bt335.2.1 bt335.2.2).bind fun t339 => (some (bt335.1, bt335.2.1, bt335.2.2, t339)))
set_option maxHeartbeats 8000000 in
set_option maxRecDepth 100000 in
theorem qNA.calls (k : Nat) (A0 : Option Addr) (c0 : Nat) (l0 : List ByteArray) (a1_0 : Int) (a1_1 : Int) (a1_2 : Int) (a2 : Int) (r1 : Int) (r2 : Int) (r3 : Int) (r4 : Bool) (w : World) (hr0 : Kd.C Kd.string w A0 l0.length l0) (hc0 : l0.length ≤ c0) (h : qNA.f k l0 a1_0 a1_1 a1_2 a2 = some (r1, r2, r3, r4)) :
  Calls Tryd.prog 62 #[.slice A0 l0.length c0, .agg #[.int .i64 a1_0, .int .i64 a1_1, .int .i64 a1_2], .int .u8 a2] w fun e w' => e = .returned (.tuple #[.agg #[.int .i64 r1, .int .i64 r2, .int .i64 r3], .bool r4]) ∧ Below w.heap.size w w' := by
 have hu27 := Tryd.underlying27
 have HR0 := Aside0.mk hr0
 have HC0 := Aside0.mk hc0
 clear hr0 hc0
 have HB := Aside0.mk (Below.refl w.heap.size w)
 have H : ((qY.f k a1_0 a1_1 a1_2 a2).bind fun bt335 => ((qd.f k l0 bt335.1 bt335.2.1 bt335.2.2).bind fun t339 => (some (bt335.1, bt335.2.1, bt335.2.2, t339)))) = some (r1, r2, r3, r4) := h
 clear h
 replace H := Option.bind_eq_some_iff.mp H
 obtain ⟨⟨t335, t336, t337⟩, A40, H⟩ := H
 replace H : ((qd.f k l0 t335 t336 t337).bind fun t339 => (some (t335, t336, t337, t339))) = some (r1, r2, r3, r4) := H
 have A4 := Aside0.mk A40
 clear A40
 replace H := Option.bind_eq_some_iff.mp H
 obtain ⟨t339, A50, H⟩ := H
 replace H : (some (t335, t336, t337, t339)) = some (r1, r2, r3, r4) := H
 have A5 := Aside0.mk A50
 clear A50
 simp only [Option.some.injEq, Prod.mk.injEq] at H
 obtain ⟨rfl, rfl, rfl, rfl⟩ := H
 go_enter Tryd.func62, Tryd.ntmps62
 try go_wp2_with (first | ((with_reducible refine qe (N := 4) rfl ?_); refine qb ?hg (N := 4) ?hd (cs := #[.int .i64 a1_0, .int .i64 a1_1, .int .i64 a1_2]) (t := 27) ?hr ?_; (case hd => rfl); (case hg => rfl); (case hr => first | (go_simp; done) | (go_simp; rfl)); intro gb333 hg w6 hbox hb; have n0_ := Aside0.mk (qH bl hb); have n1_ := Aside0.mk (hbox); have n2_ := Aside0.mk ((gg hg)); have n3_ := Aside0.mk ((gg hg)); clear HB; have HB := n0_; have BK333 := n1_; have GW333 := n2_; have GE333 := n3_; clear n0_ n1_ n2_ n3_; clear hb hbox hg) | ((with_reducible refine qe (N := 6) rfl ?_); refine qb ?hg (N := 6) ?hd (cs := #[.int .i64 0, .int .i64 0, .int .i64 0]) (t := 27) ?hr ?_; (case hd => rfl); (case hg => rfl); (case hr => first | (go_simp; done) | (go_simp; rfl)); intro gb334 hg w7 hbox hb; have n0_ := Aside0.mk (bb BK333 hb); have n1_ := Aside0.mk (qH bl hb); have n2_ := Aside0.mk (hbox); have n3_ := Aside0.mk ((gg hg)); have n4_ := Aside0.mk ((gg hg)); have n5_ := Aside0.mk ((nl BK333 hg)); have n6_ := Aside0.mk ((nr BK333 hg)); clear BK333; clear HB; have BK333 := n0_; have HB := n1_; have BK334 := n2_; have GW334 := n3_; have GE334 := n4_; have NB333_334 := n5_; have NB334_333 := n6_; clear n0_ n1_ n2_ n3_ n4_ n5_ n6_; clear hb hbox hg; have hnb8 := NB333_334.out; have hnc8 := NB334_333.out; have hcz9_0 := bc BK333 0; have hcz9_1 := bc BK333 1; have hcz9_2 := bc BK333 2; have hfz9_0 := qD BK333.out 0; have hfz9_1 := qD BK333.out 1; have hfz9_2 := qD BK333.out 2) | ((with_reducible refine qT (f := 88) rfl ?_); refine qDA (some 11) rfl rfl Tryd.func88 (by kernel_rfl) rfl #[.agg #[.int .i64 a1_0, .int .i64 a1_1, .int .i64 a1_2], .int .u8 a2] rfl (by (try simp only [List.map_toArray, List.map_cons, List.map_nil]); first | done | rfl | (simp only [List.length_drop, List.length_take]; rfl)) ?_; (with_reducible refine (qY.calls k a1_0 a1_1 a1_2 a2 t335 t336 t337 _ A4.out).mono ?_); rintro e w10 ⟨rfl, hb⟩; refine ⟨_, rfl, ?_⟩; have n0_ := Aside0.mk (bb BK333 hb); have n1_ := Aside0.mk (bb BK334 hb); have n2_ := Aside0.mk (qH bl hb); clear BK333; clear BK334; clear HB; have BK333 := n0_; have BK334 := n1_; have HB := n2_; clear n0_ n1_ n2_; (try clear hb); (try clear hb2); (try clear hk); (try clear hi)) | ((with_reducible refine qe (N := 8) rfl ?_); refine qb ?hg (N := 8) ?hd (cs := #[.int .i64 0, .int .i64 0, .int .i64 0]) (t := 27) ?hr ?_; (case hd => rfl); (case hg => rfl); (case hr => first | (go_simp; done) | (go_simp; rfl)); intro gb338 hg w11 hbox hb; have n0_ := Aside0.mk (bb BK333 hb); have n1_ := Aside0.mk (bb BK334 hb); have n2_ := Aside0.mk (qH bl hb); have n3_ := Aside0.mk (hbox); have n4_ := Aside0.mk ((gg hg)); have n5_ := Aside0.mk ((gg hg)); have n6_ := Aside0.mk ((nl BK333 hg)); have n7_ := Aside0.mk ((nr BK333 hg)); have n8_ := Aside0.mk ((nl BK334 hg)); have n9_ := Aside0.mk ((nr BK334 hg)); clear BK333; clear BK334; clear HB; have BK333 := n0_; have BK334 := n1_; have HB := n2_; have BK338 := n3_; have GW338 := n4_; have GE338 := n5_; have NB333_338 := n6_; have NB338_333 := n7_; have NB334_338 := n8_; have NB338_334 := n9_; clear n0_ n1_ n2_ n3_ n4_ n5_ n6_ n7_ n8_ n9_; clear hb hbox hg; have hnb12 := NB338_333.out; have hnc12 := NB333_338.out; have hnb13 := NB338_334.out; have hnc13 := NB334_338.out; have hcz14_0 := bc BK338 0; have hcz14_1 := bc BK338 1; have hcz14_2 := bc BK338 2; have hfz14_0 := qD BK338.out 0; have hfz14_1 := qD BK338.out 1; have hfz14_2 := qD BK338.out 2))
 have n0_ : Aside0 ((((w11.setCell ⟨gb338, 0, none⟩ (.int .i64 t335)).setCell ⟨gb338, 1, none⟩ (.int .i64 t336)).setCell ⟨gb338, 2, none⟩ (.int .i64 t337)).heap[gb333]? = some (.cells #[.int .i64 a1_0, .int .i64 a1_1, .int .i64 a1_2] 27 (0, 0))) := ⟨by (with_reducible repeat (first | refine qB ?_ _ | refine qC ?_ | refine qA ?_ _)); refine qM ?_ NB333_338.out _; (with_reducible repeat (first | refine qB ?_ _ | refine qC ?_ | refine qA ?_ _)); refine qM ?_ NB333_338.out _; (with_reducible repeat (first | refine qB ?_ _ | refine qC ?_ | refine qA ?_ _)); refine qM ?_ NB333_338.out _; (with_reducible repeat (first | refine qB ?_ _ | refine qC ?_ | refine qA ?_ _)); exact BK333.out⟩
 have n1_ : Aside0 ((((w11.setCell ⟨gb338, 0, none⟩ (.int .i64 t335)).setCell ⟨gb338, 1, none⟩ (.int .i64 t336)).setCell ⟨gb338, 2, none⟩ (.int .i64 t337)).heap[gb334]? = some (.cells #[.int .i64 0, .int .i64 0, .int .i64 0] 27 (0, 0))) := ⟨by (with_reducible repeat (first | refine qB ?_ _ | refine qC ?_ | refine qA ?_ _)); refine qM ?_ NB334_338.out _; (with_reducible repeat (first | refine qB ?_ _ | refine qC ?_ | refine qA ?_ _)); refine qM ?_ NB334_338.out _; (with_reducible repeat (first | refine qB ?_ _ | refine qC ?_ | refine qA ?_ _)); refine qM ?_ NB334_338.out _; (with_reducible repeat (first | refine qB ?_ _ | refine qC ?_ | refine qA ?_ _)); exact BK334.out⟩
 have n2_ : Aside0 ((((w11.setCell ⟨gb338, 0, none⟩ (.int .i64 t335)).setCell ⟨gb338, 1, none⟩ (.int .i64 t336)).setCell ⟨gb338, 2, none⟩ (.int .i64 t337)).heap[gb338]? = some (.cells #[.int .i64 t335, .int .i64 t336, .int .i64 t337] 27 (0, 0))) := ⟨by (with_reducible repeat (first | refine qB ?_ _ | refine qC ?_ | refine qA ?_ _)); refine qP (cs := #[.int .i64 t335, .int .i64 t336, .int .i64 0]) ?_ 2 _ rfl; (with_reducible repeat (first | refine qB ?_ _ | refine qC ?_ | refine qA ?_ _)); refine qP (cs := #[.int .i64 t335, .int .i64 0, .int .i64 0]) ?_ 1 _ rfl; (with_reducible repeat (first | refine qB ?_ _ | refine qC ?_ | refine qA ?_ _)); refine qP (cs := #[.int .i64 0, .int .i64 0, .int .i64 0]) ?_ 0 _ rfl; (with_reducible repeat (first | refine qB ?_ _ | refine qC ?_ | refine qA ?_ _)); exact BK338.out⟩
 have n3_ : Aside0 (Below w.heap.size w (((w11.setCell ⟨gb338, 0, none⟩ (.int .i64 t335)).setCell ⟨gb338, 1, none⟩ (.int .i64 t336)).setCell ⟨gb338, 2, none⟩ (.int .i64 t337))) := ⟨bl⟩
 (try clear BK333)
 (try clear BK334)
 (try clear BK338)
 (try clear HB)
 generalize (((w11.setCell ⟨gb338, 0, none⟩ (.int .i64 t335)).setCell ⟨gb338, 1, none⟩ (.int .i64 t336)).setCell ⟨gb338, 2, none⟩ (.int .i64 t337)) = w15 at n0_ n1_ n2_ n3_ ⊢
 have BK333 := n0_
 have BK334 := n1_
 have BK338 := n2_
 have HB := n3_
 clear n0_ n1_ n2_ n3_
 have n0_ := Aside0.mk (qC BK333.out)
 have n1_ := Aside0.mk (qC BK334.out)
 have n2_ := Aside0.mk (qC BK338.out)
 have n3_ := Aside0.mk (qk HB.out)
 clear BK333
 clear BK334
 clear BK338
 clear HB
 have BK333 := n0_
 have BK334 := n1_
 have BK338 := n2_
 have HB := n3_
 clear n0_ n1_ n2_ n3_
 refine qyA (n := 6) (S := fun w' => w'.cell? ⟨gb338, 0, none⟩ = some (.int .i64 t335) ∧ w'.cell? ⟨gb338, 1, none⟩ = some (.int .i64 t336) ∧ w'.cell? ⟨gb338, 2, none⟩ = some (.int .i64 t337)) (ds := []) #[false, false, false, false, false, false] (by kernel_rfl) rfl rfl ⟨(qJ BK338.out 0).trans rfl, (qJ BK338.out 1).trans rfl, (qJ BK338.out 2).trans rfl⟩ (fun hHeld => ?_)
 generalize w15.drew = w16 at BK333 BK334 BK338 HB hHeld ⊢
 refine pure_ (i := 1) (N := some 13) (v := ?_) (a' := ?_) #[false, true, false, false, false, false] rfl rfl (by kernel_rfl) (fun _ _ _ h => h) (Or.inl ⟨by rfl, ?_⟩) ?_ ?_
 rotate_left
 ·intro w'
  go_simp
  first | (with_reducible rfl) | (rw [if_neg (by simp only [ByteArray.size_extract, ByteArray.size_append] at * <;> omega)]; try with_reducible rfl)
 rotate_left
 ·simp only [Act.put, List.setIfInBounds_toArray, List.set_cons_zero, List.set_cons_succ, i64_w, i32_w]
  rfl
 refine take_ (i := 0) (N := some 12) (v := ?_) (a' := ?_) #[true, true, false, false, false, false] rfl rfl (by kernel_rfl) (fun _ _ _ h => h) (Or.inl ⟨by rfl, ?_⟩) hHeld ?_ ?_
 rotate_left
 ·rintro w' ⟨s0, s1, s2⟩
  go_simp
  first | (with_reducible rfl) | (rw [if_neg (by simp only [ByteArray.size_extract, ByteArray.size_append] at * <;> omega)]; try with_reducible rfl)
 rotate_left
 ·simp only [Act.put, List.setIfInBounds_toArray, List.set_cons_zero, List.set_cons_succ, i64_w, i32_w]
  rfl
 refine take_ (i := 2) (N := some 14) (v := ?_) (a' := ?_) #[true, true, true, false, false, false] rfl rfl (by kernel_rfl) (fun _ _ _ h => h) (Or.inl ⟨by rfl, ?_⟩) hHeld ?_ ?_
 rotate_left
 ·rintro w' ⟨s0, s1, s2⟩
  go_simp
  first | (with_reducible rfl) | (rw [if_neg (by simp only [ByteArray.size_extract, ByteArray.size_append] at * <;> omega)]; try with_reducible rfl)
 rotate_left
 ·simp only [Act.put, List.setIfInBounds_toArray, List.set_cons_zero, List.set_cons_succ, i64_w, i32_w]
  rfl
 refine one_ (i := 3) (N := some 15) #[true, true, true, true, false, false] rfl rfl (by kernel_rfl) (by decide) (fun K hK => ?_)
 refine goes_ Tryd.func56 (by kernel_rfl) rfl #[.slice A0 l0.length c0, .agg #[.int .i64 t335, .int .i64 t336, .int .i64 t337]] (by rfl) rfl rfl (by (try simp only [List.map_toArray, List.map_cons, List.map_nil]); first | done | rfl | (simp only [List.length_drop, List.length_take]; rfl)) ?_
 with_reducible refine (qd.calls k _ _ l0 t335 t336 t337 t339 _ ?side1 ?side2 A5.out).mono ?_
 (case side1 => repeat (first | exact (Kd.qYA HR0.out HB.out) | (with_reducible refine Kd.qx ?_ _) | (with_reducible refine Kd.qw ?_ _) | (with_reducible refine Kd.qLA ?_)))
 (case side2 => exact HC0.out)
 rintro e w17 ⟨rfl, hb⟩
 refine ⟨_, rfl, ?_⟩
 have n0_ := Aside0.mk (bb BK333 hb)
 have n1_ := Aside0.mk (bb BK334 hb)
 have n2_ := Aside0.mk (bb BK338 hb)
 have n3_ := Aside0.mk (qH bl hb)
 clear BK333
 clear BK334
 clear BK338
 clear HB
 have BK333 := n0_
 have BK334 := n1_
 have BK338 := n2_
 have HB := n3_
 clear n0_ n1_ n2_ n3_
 (try clear hb)
 (try clear hb2)
 (try clear hk)
 (try clear hi)
 refine hK.out _ _ ⟨(qJ BK338.out 0).trans rfl, (qJ BK338.out 1).trans rfl, (qJ BK338.out 2).trans rfl⟩ (fun hHeld => ?_)
 clear hK K
 refine norm_ (a' := ?_) ?_ ?_
 rotate_left
 ·show Act.put _ (some 15) _ = _
  simp only [Act.put, List.setIfInBounds_toArray, List.set_cons_zero, List.set_cons_succ, i64_w, i32_w]
  rfl
 refine one_ (i := 4) (N := none) #[true, true, true, true, true, false] rfl rfl (by kernel_rfl) (by decide) (fun K hK => ?_)
 have hs18 : w17.cell? ⟨gb334, 0, none⟩ = some (.int .i64 0) := (qJ BK334.out 0).trans rfl
 have hfs18 := qD BK334.out 0
 have hns18_0 := NB333_334.out
 have hns18_2 := NB338_334.out
 have hms18_0 := NB334_333.out
 have hms18_2 := NB334_338.out
 have hs19 : w17.cell? ⟨gb334, 1, none⟩ = some (.int .i64 0) := (qJ BK334.out 1).trans rfl
 have hfs19 := qD BK334.out 1
 have hns19_0 := NB333_334.out
 have hns19_2 := NB338_334.out
 have hms19_0 := NB334_333.out
 have hms19_2 := NB334_338.out
 have hs20 : w17.cell? ⟨gb334, 2, none⟩ = some (.int .i64 0) := (qJ BK334.out 2).trans rfl
 have hfs20 := qD BK334.out 2
 have hns20_0 := NB333_334.out
 have hns20_2 := NB338_334.out
 have hms20_0 := NB334_333.out
 have hms20_2 := NB334_338.out
 refine skip_ (w1 := ?_) (by rfl) rfl ?_ ?_
 rotate_left
 ·go_simp
  rfl
 refine hK.out _ _ ⟨((qR (p := ⟨gb334, _, none⟩) NB338_334.out _).trans (((qR (p := ⟨gb334, _, none⟩) NB338_334.out _).trans (((qR (p := ⟨gb334, _, none⟩) NB338_334.out _).trans (hHeld.1)))))), ((qR (p := ⟨gb334, _, none⟩) NB338_334.out _).trans (((qR (p := ⟨gb334, _, none⟩) NB338_334.out _).trans (((qR (p := ⟨gb334, _, none⟩) NB338_334.out _).trans (hHeld.2.1)))))), ((qR (p := ⟨gb334, _, none⟩) NB338_334.out _).trans (((qR (p := ⟨gb334, _, none⟩) NB338_334.out _).trans (((qR (p := ⟨gb334, _, none⟩) NB338_334.out _).trans (hHeld.2.2))))))⟩ (fun hHeld => ?_)
 clear hK K
 refine pure_ (i := 5) (N := some 7) (v := ?_) (a' := ?_) #[true, true, true, true, true, true] rfl rfl (by kernel_rfl) (fun _ _ _ h => h) (Or.inl ⟨by rfl, ?_⟩) ?_ ?_
 rotate_left
 ·intro w'
  go_simp
  first | (with_reducible rfl) | (rw [if_neg (by simp only [ByteArray.size_extract, ByteArray.size_append] at * <;> omega)]; try with_reducible rfl)
 rotate_left
 ·simp only [Act.put, List.setIfInBounds_toArray, List.set_cons_zero, List.set_cons_succ, i64_w, i32_w]
  rfl
 refine done_ (by kernel_rfl) ?_
 try go_wp2
 refine bodyPost_ret (qQA rfl _ _ gb334 27 #[.int .i64 t335, .int .i64 t336, .int .i64 t337] (0, 0) _ rfl (by (with_reducible repeat (first | refine qB ?_ _ | refine qC ?_ | refine qA ?_ _)); refine qP (cs := #[.int .i64 t335, .int .i64 t336, .int .i64 0]) ?_ 2 _ rfl; (with_reducible repeat (first | refine qB ?_ _ | refine qC ?_ | refine qA ?_ _)); refine qP (cs := #[.int .i64 t335, .int .i64 0, .int .i64 0]) ?_ 1 _ rfl; (with_reducible repeat (first | refine qB ?_ _ | refine qC ?_ | refine qA ?_ _)); refine qP (cs := #[.int .i64 0, .int .i64 0, .int .i64 0]) ?_ 0 _ rfl; (with_reducible repeat (first | refine qB ?_ _ | refine qC ?_ | refine qA ?_ _)); exact BK334.out) Tryd.underlying27 rfl (by kernel_rfl)) rfl ?_
 exact ⟨by first | rfl | (simp [qL, qK] <;> rfl) | (simp [*, qL, qK] <;> rfl), bl⟩
end Go.Proofs.YtbpfhpjbeomfcaaDoor.P
namespace Go.Proofs.YtbpfhpjbeomfcaaDoor.P
open Go.RowKit Go.Proofs.YtbpfhpjbeomfcaaDoorW.PrintWords Go.Proofs.YtbpfhpjbeomfcaaDoorW.PrintLast Go.Proofs.YtbpfhpjbeomfcaaDoorW.PrintMore
attribute [local go_sem] qBA qz qKA qJA qq qp qAA qy
set_option linter.unusedVariables false
set_option linter.unusedSimpArgs false
attribute [local go_sem high] eqA27
def qf.l0 : Nat → List (S27) → Int → Int → Int → Int → Int → Option (Int)
 | 0, _, _, _, _, _, _ => none
 | k + 1, x0, x7, x8, x468000, x468001, x468002 => if x8 < x7 then (if 0 ≤ x8 then (if x8 < (x0.length : Int) then (if (x468000 == ((qI x0 x8).f0) && (x468001 == ((qI x0 x8).f1) && (x468002 == ((qI x0 x8).f2)))) = true then (some x8) else (qf.l0 k x0 x7 (wrap64 (x8 + 1)) x468000 x468001 x468002)) else (none)) else (none)) else (some (-1))
def qf.f (k : Nat) (l0 : List (S27)) (a1_0 : Int) (a1_1 : Int) (a1_2 : Int) : Option (Int) := qf.l0 k l0 (l0.length : Int) 0 a1_0 a1_1 a1_2
set_option maxHeartbeats 8000000 in
set_option maxRecDepth 100000 in
theorem qf.calls (k : Nat) (A0 : Option Addr) (c0 : Nat) (l0 : List (S27)) (a1_0 : Int) (a1_1 : Int) (a1_2 : Int) (r : Int) (w : World) (hr0 : Kd.C k27 w A0 l0.length l0) (hc0 : l0.length ≤ c0) (h : qf.f k l0 a1_0 a1_1 a1_2 = some r) :
  Calls Tryd.prog 110 #[.slice A0 l0.length c0, .agg #[.int .i64 a1_0, .int .i64 a1_1, .int .i64 a1_2]] w fun e w' => e = .returned (.int .i64 r) ∧ Below w.heap.size w w' := by
 have hu27 := Tryd.underlying27
 have HR0 := Aside0.mk hr0
 have HC0 := Aside0.mk hc0
 clear hr0 hc0
 have HB := Aside0.mk (Below.refl w.heap.size w)
 have H : (qf.l0 k l0 (l0.length : Int) 0 a1_0 a1_1 a1_2) = some r := h
 clear h
 have H' := Aside0.mk H
 clear H
 go_enter Tryd.func110, Tryd.ntmps110
 go_wp2_with (first | ((with_reducible refine qe (N := 3) rfl ?_); refine qb ?hg (N := 3) ?hd (cs := #[.int .i64 a1_0, .int .i64 a1_1, .int .i64 a1_2]) (t := 27) ?hr ?_; (case hd => rfl); (case hg => rfl); (case hr => first | (go_simp; done) | (go_simp; rfl)); intro gb467 hg w3 hbox hb; have n0_ := Aside0.mk (qH bl hb); have n1_ := Aside0.mk (hbox); have n2_ := Aside0.mk ((gg hg)); have n3_ := Aside0.mk ((gg hg)); clear HB; have HB := n0_; have BK467 := n1_; have GW467 := n2_; have GE467 := n3_; clear n0_ n1_ n2_ n3_; clear hb hbox hg))
 repeat (go_quiet (first | ((with_reducible refine qe (N := 3) rfl ?_); refine qb ?hg (N := 3) ?hd (cs := #[.int .i64 a1_0, .int .i64 a1_1, .int .i64 a1_2]) (t := 27) ?hr ?_; (case hd => rfl); (case hg => rfl); (case hr => first | (go_simp; done) | (go_simp; rfl)); intro gb467 hg w3 hbox hb; have n0_ := Aside0.mk (qH bl hb); have n1_ := Aside0.mk (hbox); have n2_ := Aside0.mk ((gg hg)); have n3_ := Aside0.mk ((gg hg)); clear HB; have HB := n0_; have BK467 := n1_; have GW467 := n2_; have GE467 := n3_; clear n0_ n1_ n2_ n3_; clear hb hbox hg)); try go_wp2_with (first | ((with_reducible refine qe (N := 3) rfl ?_); refine qb ?hg (N := 3) ?hd (cs := #[.int .i64 a1_0, .int .i64 a1_1, .int .i64 a1_2]) (t := 27) ?hr ?_; (case hd => rfl); (case hg => rfl); (case hr => first | (go_simp; done) | (go_simp; rfl)); intro gb467 hg w3 hbox hb; have n0_ := Aside0.mk (qH bl hb); have n1_ := Aside0.mk (hbox); have n2_ := Aside0.mk ((gg hg)); have n3_ := Aside0.mk ((gg hg)); clear HB; have HB := n0_; have BK467 := n1_; have GW467 := n2_; have GE467 := n3_; clear n0_ n1_ n2_ n3_; clear hb hbox hg)))
 go_loopg [8] k (fun kq v8 w' => ∃ (x8_1 : Int), v8 = .int .i64 x8_1 ∧ Aside0 (qf.l0 kq l0 (l0.length : Int) x8_1 a1_0 a1_1 a1_2 = some r) ∧ Aside0 (kq ≤ k) ∧ Aside0 (w'.heap[gb467]? = some (.cells #[.int .i64 a1_0, .int .i64 a1_1, .int .i64 a1_2] 27 (0, 0))) ∧ Aside0 (Below w.heap.size w w'))
 case atStart => exact ⟨(0), (by first | rfl | (simp; done) | (simp [*]; done)), H', ⟨Nat.le_refl _⟩, ⟨by (with_reducible repeat (first | refine qB ?_ _ | refine qC ?_ | refine qA ?_ _)); exact BK467.out⟩, ⟨bl⟩⟩
 case round =>
  clear H'
  try clear c1
  try clear p2
  obtain ⟨x8_1, rfl, HA, HK1, BK467, HB⟩ := hrel
  cases gk with
  | zero => exact absurd HA.out (by simp [qf.l0])
  | succ k1 =>
   have H := HA.out
   clear HA
   simp only [qf.l0] at H
   by_cases c4 : x8_1 < (l0.length : Int)
   ·rw [if_pos c4] at H
    have c4b0 : decide (x8_1 < (l0.length : Int)) = true := decide_eq_true c4
    clear c4
    by_cases c5 : 0 ≤ x8_1
    ·rw [if_pos c5] at H
     have c5b0 : decide (0 ≤ x8_1) = true := decide_eq_true c5
     clear c5
     by_cases c6 : x8_1 < (l0.length : Int)
     ·rw [if_pos c6] at H
      have c6b0 : decide (x8_1 < (l0.length : Int)) = true := decide_eq_true c6
      clear c6
      by_cases c7 : (a1_0 == ((qI l0 x8_1).f0) && (a1_1 == ((qI l0 x8_1).f1) && (a1_2 == ((qI l0 x8_1).f2)))) = true
      ·rw [if_pos c7] at H
       have c7b0 : (a1_0 == ((qI l0 x8_1).f0) && (a1_1 == ((qI l0 x8_1).f1) && (a1_2 == ((qI l0 x8_1).f2)))) = true := c7
       (try (have c7b1 : decide (a1_0 = ((qI l0 x8_1).f0) && (a1_1 == ((qI l0 x8_1).f1) && (a1_2 == ((qI l0 x8_1).f2)))) = true := by simpa using c7))
       (try (have c7b2 : (a1_0 == ((qI l0 x8_1).f0) && (a1_1 == ((qI l0 x8_1).f1) && (a1_2 == ((qI l0 x8_1).f2)))) = true := by simpa using c7))
       clear c7
       obtain rfl := Option.some.inj H
       have hcz8_0 := bc BK467 0
       have hcz8_1 := bc BK467 1
       have hcz8_2 := bc BK467 2
       have hfz8_0 := qD BK467.out 0
       have hfz8_1 := qD BK467.out 1
       have hfz8_2 := qD BK467.out 2
       have p468 : 0 ≤ (x8_1 : Int) := of_decide_eq_true (by first | (with_reducible assumption) | assumption)
       have q468 : x8_1 < (l0.length : Int) := of_decide_eq_true (by first | (with_reducible assumption) | assumption)
       obtain ⟨ad468, e468, hx468_0, hx468_1, hx468_2⟩ := qIB HR0.out x8_1 p468 q468
       cases e468
       replace hx468_0 := (HB.out.cell (World.block_lt_of_cell? w _ hx468_0)).trans hx468_0
       replace hx468_1 := (HB.out.cell (World.block_lt_of_cell? w _ hx468_1)).trans hx468_1
       replace hx468_2 := (HB.out.cell (World.block_lt_of_cell? w _ hx468_2)).trans hx468_2
       replace p468 := eq_true p468
       replace q468 := eq_true q468
       go_wp2
       repeat (go_quiet (fail); try go_wp2)
       go_ret
       exact ⟨by first | rfl | (simp [qL, qK] <;> rfl) | (simp [*, qL, qK] <;> rfl), bl⟩
      ·rw [if_neg c7] at H
       have c7b0 : (a1_0 == ((qI l0 x8_1).f0) && (a1_1 == ((qI l0 x8_1).f1) && (a1_2 == ((qI l0 x8_1).f2)))) = false := by simpa using c7
       (try (have c7b1 : decide (a1_0 = ((qI l0 x8_1).f0) && (a1_1 == ((qI l0 x8_1).f1) && (a1_2 == ((qI l0 x8_1).f2)))) = false := by simpa using c7))
       (try (have c7b2 : (a1_0 == ((qI l0 x8_1).f0) && (a1_1 == ((qI l0 x8_1).f1) && (a1_2 == ((qI l0 x8_1).f2)))) = false := by simpa using c7))
       (try (have c7b3 : ¬ (a1_0 = ((qI l0 x8_1).f0) && (a1_1 == ((qI l0 x8_1).f1) && (a1_2 == ((qI l0 x8_1).f2)))) := by simpa using c7))
       clear c7
       have H' := Aside0.mk H
       clear H
       have hcz9_0 := bc BK467 0
       have hcz9_1 := bc BK467 1
       have hcz9_2 := bc BK467 2
       have hfz9_0 := qD BK467.out 0
       have hfz9_1 := qD BK467.out 1
       have hfz9_2 := qD BK467.out 2
       have p468 : 0 ≤ (x8_1 : Int) := of_decide_eq_true (by first | (with_reducible assumption) | assumption)
       have q468 : x8_1 < (l0.length : Int) := of_decide_eq_true (by first | (with_reducible assumption) | assumption)
       obtain ⟨ad468, e468, hx468_0, hx468_1, hx468_2⟩ := qIB HR0.out x8_1 p468 q468
       cases e468
       replace hx468_0 := (HB.out.cell (World.block_lt_of_cell? w _ hx468_0)).trans hx468_0
       replace hx468_1 := (HB.out.cell (World.block_lt_of_cell? w _ hx468_1)).trans hx468_1
       replace hx468_2 := (HB.out.cell (World.block_lt_of_cell? w _ hx468_2)).trans hx468_2
       replace p468 := eq_true p468
       replace q468 := eq_true q468
       go_wp2
       repeat (go_quiet (fail); try go_wp2)
       go_roundg k1
       case measure => have := HK1.out; omega
       case rel => exact ⟨(wrap64 (x8_1 + 1)), (by first | rfl | (simp; done) | (simp [*]; done)), H', ⟨by have := HK1.out; omega⟩, ⟨by (with_reducible repeat (first | refine qB ?_ _ | refine qC ?_ | refine qA ?_ _)); exact BK467.out⟩, ⟨bl⟩⟩
     ·rw [if_neg c6] at H
      exact absurd H (by simp)
    ·rw [if_neg c5] at H
     exact absurd H (by simp)
   ·rw [if_neg c4] at H
    have c4b0 : decide (x8_1 < (l0.length : Int)) = false := decide_eq_false c4
    clear c4
    obtain rfl := Option.some.inj H
    go_wp2
    repeat (go_quiet (fail); try go_wp2)
    go_ret
    exact ⟨by first | rfl | (simp [qL, qK] <;> rfl) | (simp [*, qL, qK] <;> rfl), bl⟩
end Go.Proofs.YtbpfhpjbeomfcaaDoor.P
namespace Go.Proofs.YtbpfhpjbeomfcaaDoor.P
open Go.RowKit Go.Proofs.YtbpfhpjbeomfcaaDoorW.PrintWords Go.Proofs.YtbpfhpjbeomfcaaDoorW.PrintLast Go.Proofs.YtbpfhpjbeomfcaaDoorW.PrintMore
attribute [local go_sem] qBA qz qKA qJA qq qp qAA qy
set_option linter.unusedVariables false
set_option linter.unusedSimpArgs false
def ql.f (k : Nat) (l0 : List (S27)) (a1_0 : Int) (a1_1 : Int) (a1_2 : Int) : Option (Bool) := (qf.f k l0 a1_0 a1_1 a1_2).bind fun t470 => (some (decide (t470 ≥ 0)))
set_option maxHeartbeats 8000000 in
set_option maxRecDepth 100000 in
theorem ql.calls (k : Nat) (A0 : Option Addr) (c0 : Nat) (l0 : List (S27)) (a1_0 : Int) (a1_1 : Int) (a1_2 : Int) (r : Bool) (w : World) (hr0 : Kd.C k27 w A0 l0.length l0) (hc0 : l0.length ≤ c0) (h : ql.f k l0 a1_0 a1_1 a1_2 = some r) :
  Calls Tryd.prog 91 #[.slice A0 l0.length c0, .agg #[.int .i64 a1_0, .int .i64 a1_1, .int .i64 a1_2]] w fun e w' => e = .returned (.bool r) ∧ Below w.heap.size w w' := by
 have hu27 := Tryd.underlying27
 have HR0 := Aside0.mk hr0
 have HC0 := Aside0.mk hc0
 clear hr0 hc0
 have HB := Aside0.mk (Below.refl w.heap.size w)
 have H : ((qf.f k l0 a1_0 a1_1 a1_2).bind fun t470 => (some (decide (t470 ≥ 0)))) = some r := h
 clear h
 replace H := Option.bind_eq_some_iff.mp H
 obtain ⟨t470, A30, H⟩ := H
 replace H : (some (decide (t470 ≥ 0))) = some r := H
 have A3 := Aside0.mk A30
 clear A30
 obtain rfl := Option.some.inj H
 go_enter Tryd.func91, Tryd.ntmps91
 go_wp2_with (first | ((with_reducible refine qe (N := 3) rfl ?_); refine qb ?hg (N := 3) ?hd (cs := #[.int .i64 a1_0, .int .i64 a1_1, .int .i64 a1_2]) (t := 27) ?hr ?_; (case hd => rfl); (case hg => rfl); (case hr => first | (go_simp; done) | (go_simp; rfl)); intro gb469 hg w4 hbox hb; have n0_ := Aside0.mk (qH bl hb); have n1_ := Aside0.mk (hbox); have n2_ := Aside0.mk ((gg hg)); have n3_ := Aside0.mk ((gg hg)); clear HB; have HB := n0_; have BK469 := n1_; have GW469 := n2_; have GE469 := n3_; clear n0_ n1_ n2_ n3_; clear hb hbox hg; have hcz5_0 := bc BK469 0; have hcz5_1 := bc BK469 1; have hcz5_2 := bc BK469 2; have hfz5_0 := qD BK469.out 0; have hfz5_1 := qD BK469.out 1; have hfz5_2 := qD BK469.out 2) | ((with_reducible refine qT (f := 110) rfl ?_); refine qDA (some 7) rfl rfl Tryd.func110 (by kernel_rfl) rfl #[.slice A0 l0.length c0, .agg #[.int .i64 a1_0, .int .i64 a1_1, .int .i64 a1_2]] rfl (by (try simp only [List.map_toArray, List.map_cons, List.map_nil]); first | done | rfl | (simp only [List.length_drop, List.length_take]; rfl)) ?_; (with_reducible refine (qf.calls k _ _ l0 a1_0 a1_1 a1_2 t470 _ ?side1 ?side2 A3.out).mono ?_); (case side1 => repeat (first | exact (Kd.qYA HR0.out HB.out) | (with_reducible refine Kd.qx ?_ _) | (with_reducible refine Kd.qw ?_ _) | (with_reducible refine Kd.qLA ?_))); (case side2 => exact HC0.out); rintro e w6 ⟨rfl, hb⟩; refine ⟨_, rfl, ?_⟩; have n0_ := Aside0.mk (bb BK469 hb); have n1_ := Aside0.mk (qH bl hb); clear BK469; clear HB; have BK469 := n0_; have HB := n1_; clear n0_ n1_; (try clear hb); (try clear hb2); (try clear hk); (try clear hi)))
 go_ret
 exact ⟨by first | rfl | (simp [qL, qK] <;> rfl) | (simp [*, qL, qK] <;> rfl), bl⟩
end Go.Proofs.YtbpfhpjbeomfcaaDoor.P
namespace Go.Proofs.YtbpfhpjbeomfcaaDoor
open Go.RowKit Go.Proofs.YtbpfhpjbeomfcaaDoorW.PrintWords Go.Proofs.YtbpfhpjbeomfcaaDoorW.PrintLast
set_option linter.unusedVariables false
set_option linter.unusedSimpArgs false
def KeptUp (w w' : World) (v : Value) (n : Nat) : Prop := ∀ (p : Addr) (u : Value), w.cell? p = some u → (some p.block = v.ownBlock → p.off < n) → w'.cell? p = some u
theorem cell_of_block {w w' : World} {p : Addr} (h : w'.heap[p.block]? = w.heap[p.block]?) : w'.cell? p = w.cell? p := by unfold World.cell?; rw [h]
section
variable {P : Program} (w : World)
theorem append_kept (base : Nat) (t ty e : TypeId) (i : TypeInfo) (z : Value) (size bytes : Nat) (ht : P.underlying t = some (.slice e)) (hi : P.info? e = some i) (hz : i.zero = some z)
  (hsize : i.size = size) (hby : i.bytes = bytes) (hzs : z.cells.size = size) (hsz : 0 < size)
  (v : Value) (n : Nat) (xs : List Value) (hown : w.ownsRow base e size v n xs)
  (a : Addr) (m c : Nat) (news : List Value) (hl : news.length = m * size) (hnews : ∀ j u, news[j]? = some u → w.cell? (a.add j) = some u) (h1 : ∀ u ∈ news, u.oneCell' = true)
  (h63 : n + m ≤ maxLen) (hbytes : (n + m) * bytes ≤ 140737488355328) (hbase : base ≤ w.heap.size) {v' : Value} {w' : World}
  (hr : (Builtin.append_ #[t, t] ty #[v, .slice (some a) m c]).run P w = .ok v' w') : KeptUp w w' v (n * size) := by
 obtain ⟨v2, w2, hr2, hown2, hg2, _, _⟩ := run_append_own_at (P := P) w base t ty e i z size bytes ht hi hz hsize hby hzs hsz v n xs hown a m c news hl hnews h1 h63 hbytes hbase
 rw [hr] at hr2
 injection hr2 with e1 e2
 subst e1
 subst e2
 intro p u hp hb
 have hlt := World.block_lt_of_cell? w p hp
 by_cases hpb : some p.block = v.ownBlock
 ·have hoff := hb hpb
  rcases hown.2 with ⟨rfl, _⟩ | ⟨g, cap, cur, rfl, hbg, hg, hnc, hcm, hcs, htake⟩
  ·cases hpb
  ·obtain rfl : p.block = g := Option.some.inj hpb
   subst hsize
   have hsmall : n + m ≤ 9223372036854775807 := by simp only [maxLen] at h63; omega
   by_cases hroom : n + m ≤ cap
   ·have hfit : n * i.size + news.length ≤ cur.size := by rw [hl, hcs, ← Nat.add_mul]; exact Nat.mul_le_mul_right _ hroom
    have hr3 := run_append_room (P := P) w t ty e i ht hi p.block n cap cur hg a m c news hl hnews h1 hroom hfit
    rw [hr] at hr3
    injection hr3 with e1 e2
    subst e1
    rcases hown2.2 with ⟨h3, _⟩ | ⟨g', cap', cur', he, _, hg', _, _, _, htake'⟩
    ·cases h3
    ·injection he with he1 he2 he3
     injection he1 with he1
     injection he1 with he1
     subst he1
     unfold World.cell? at hp ⊢
     rw [hg] at hp
     rw [hg']
     simp only at hp ⊢
     split at hp
     ·cases hp
     ·rename_i hs
      rw [if_neg hs]
      have q1 : xs[p.off]? = some u := by
       rw [← htake, List.getElem?_take, if_pos hoff, Array.getElem?_toList]; exact hp
      have q2 : (cur'.toList.take ((n + m) * i.size))[p.off]? = some u := by
       rw [htake', List.getElem?_append_left (by have := (List.getElem?_eq_some_iff.1 q1).1; exact this)]; exact q1
      rw [List.getElem?_take] at q2
      split at q2
      ·rwa [Array.getElem?_toList] at q2
      ·cases q2
   ·have holds : ∀ j u, xs[j]? = some u → w.cell? ((⟨p.block, 0, none⟩ : Addr).add j) = some u := hown.cells (g := p.block) rfl
    subst hby
    have hr3 := run_append_grow (P := P) w t ty e i z ht hi hz ⟨p.block, 0, none⟩ n cap xs hown.1 holds a m c news hl hnews (by omega) (by omega) (growslice_fits (by omega) hbytes)
    rw [hr] at hr3
    injection hr3 with e1 e2
    subst e2
    refine (cell_of_block ?_).trans hp
    exact heap_alloc_old w.drew _ hlt
 ·exact (cell_of_block (hg2.block p.block hlt hpb)).trans hp
end
section
variable {P : Program} {ops : Array Oper} {o : Oper} {a : Act} {Q : Exit → Act → World → Prop} {Kc : Act → World → Prop} {α : Type}
theorem qrA (d : Kd α) {Rr : α → List Value → Prop} {w0 W : World} (base : Nat) (hw : Region.wanted o (yielded ops a.tmps) = true) (s x : Operand) (t e : TypeId) (z : Value) (bytes : Nat)
  (ho : o.op = .call { callee := .builtin .append, args := #[s, x], argTypes := #[t, t] })
  (ht : P.underlying t = some (.slice e)) (hinfo : (P.info? e).map (fun i => (i.zero, i.size, i.bytes)) = some (some z, d.sz, bytes)) (hz : z.cells.size = d.sz) (hs0 : 0 < d.sz) (hb0 : 0 < bytes)
  (v : Value) (xs ys : List α) (A : Option Addr) (m c : Nat) (ok okp : Nat → Prop) (hs : a.eval s = v) (hx : a.eval x = .slice A m c)
  (HO : d.R e W base ok v xs) (HR : ReadsRow Rr d.sz W A m ys) (hKM : ∀ x cs, Rr x cs → d.M W base okp x cs) (hokp : ∀ k, okp k → ok k ∧ some k ≠ v.ownBlock) (hfresh : ∀ k, W.heap.size ≤ k → ok k)
  (HB : Below base w0 W) (hbase : base ≤ W.heap.size) (hl : (xs.length + m) * bytes ≤ 140737488355328)
  (h : ∀ v1 w1, d.R e w1 base ok v1 (xs ++ ys) → Below base w0 w1 → W.grownBy w1 v.ownBlock → (v1.ownBlock = v.ownBlock ∨ ∃ b, v1.ownBlock = some b ∧ W.heap.size ≤ b) → KeptUp W w1 v (xs.length * d.sz) → Kc (a.put o.dst v1) w1) :
  if Region.wanted o (yielded ops a.tmps) = true then Oper.wp P o a W Kc Q else Kc (a.put o.dst undef) W := by
 have main := Kd.R_append_rows_step (Q := Q) (Kc := fun a' w1 => ∃ v1, a' = a.put o.dst v1 ∧ (KeptUp W w1 v (xs.length * d.sz) → Kc (a.put o.dst v1) w1)) d base hw s x t e z bytes ho ht hinfo hz hs0 hb0 v xs ys A m c ok okp hs hx HO HR hKM hokp hfresh HB hbase hl
  (fun v1 w1 g1 g2 g3 g4 => ⟨v1, rfl, fun hk => h v1 w1 g1 g2 g3 g4 hk⟩)
 rw [if_pos hw] at main ⊢
 obtain ⟨i0, hi, hzz⟩ := Option.map_eq_some_iff.1 hinfo
 simp only [Prod.mk.injEq] at hzz
 obtain ⟨hz0, hz1, hz2⟩ := hzz
 have hm : ys.length = m := HR.1
 have hlen : xs.length + m ≤ 140737488355328 := Nat.le_trans (Nat.le_mul_of_pos_right _ hb0) hl
 obtain ⟨hok, inner, hown, hr⟩ := HO
 have hkeep : ∀ v1 w1, (Builtin.append_ #[t, t] o.type #[v, .slice A m c]).run P W = .ok v1 w1 → KeptUp W w1 v (xs.length * d.sz) := by
  intro v1 w1 hrun
  rcases A with _ | ad
  ·have h0 : m = 0 := by
    rcases Nat.eq_zero_or_pos m with h0 | h0
    ·exact h0
    ·obtain ⟨ad, h, _⟩ := HR.2.2 h0
     cases h
   subst h0
   have e0 : (Builtin.append_ #[t, t] o.type #[v, .slice none 0 c]).run P W = .ok v W := by
    rcases hown.2 with ⟨rfl, hn⟩ | ⟨g, cap, cur, rfl, _, _, hnc, _⟩
    ·simp [Builtin.append_, run_underlying ht, sizeOf, typeInfo, hi, Builtin.lenOf, Builtin.firstCells]
    ·simp [Builtin.append_, run_underlying ht, sizeOf, typeInfo, hi, Builtin.lenOf, Builtin.firstCells, hnc, storeCells]
   rw [hrun] at e0
   injection e0 with _ e2
   subst e2
   exact fun p u hp _ => hp
  ·obtain ⟨news, hnr, hnc⟩ := ReadsRow.qaC HR
   have hnM : Reps (d.M W base okp) d.sz ys news := hnr.imp_ (fun p c hp => hKM p c hp)
   have hone : ∀ u ∈ news, u.oneCell' = true := by
    intro u hu
    obtain ⟨q, hq, rfl⟩ := List.mem_iff_getElem.1 hu
    have hql : q / d.sz < ys.length := by
     rw [Nat.div_lt_iff_lt_mul hs0]
     rw [← hnM.1]
     exact hq
    have hc := hnM.2 (q / d.sz) _ (List.getElem?_eq_getElem hql)
    refine d.K_one (d.K_of_M hc) _ ?_
    rw [List.mem_iff_getElem?]
    refine ⟨q % d.sz, ?_⟩
    rw [List.getElem?_take, if_pos (Nat.mod_lt _ hs0), List.getElem?_drop, Nat.mul_comm, Nat.div_add_mod, List.getElem?_eq_getElem hq]
   exact append_kept (P := P) W base t o.type e i0 z d.sz bytes ht hi hz0 hz1 hz2 hz hs0 v xs.length inner hown ad m c news (by rw [hnM.1, hm]) hnc hone (by simp only [maxLen]; omega) hl hbase hrun
 clear hr
 unfold Oper.wp execOp at main ⊢
 cases hrun : (Builtin.append_ #[t, t] o.type #[v, .slice A m c]).run P W with
 | ok v1 w1 =>
  have hk := hkeep v1 w1 hrun
  simp only [ho, resolve, invoke, builtin, Sem.run_bind, Sem.run_pure, Result.andThen_ok, List.map_toArray, List.map_cons, List.map_nil, hs, hx, hrun] at main ⊢
  obtain ⟨v2, e2, h2⟩ := main
  have h3 := h2 hk
  rw [← e2] at h3
  exact h3
 | halt e w1 =>
  simp only [ho, resolve, invoke, builtin, Sem.run_bind, Sem.run_pure, Result.andThen_ok, List.map_toArray, List.map_cons, List.map_nil, hs, hx, hrun, Result.andThen] at main ⊢
  unfold Oper.upon at main ⊢
  cases e <;> exact main
theorem R_off1 (d : Kd α) {e : Nat} {W : World} {base : Nat} {ok : Nat → Prop} {ad : Addr} {n c : Nat} {xs : List α} (h : d.R e W base ok (.slice (some ad) n c) xs) (hs : d.sz = 1) (i : Int) (h0 : 0 ≤ i) (h1 : i < (xs.length : Int)) : (ad.add i.toNat).off < xs.length * d.sz := by
 obtain ⟨_, inner, hown, _⟩ := h
 rcases hown.2 with ⟨h3, _⟩ | ⟨g, cap, cur, he, _⟩
 ·cases h3
 ·injection he with he1
  injection he1 with he1
  subst he1
  rw [hs, Nat.mul_one]
  show ((⟨g, 0, none⟩ : Addr).add i.toNat).off < _
  rw [add_plain]
  show i.toNat < xs.length
  omega
theorem R_apart1 {β : Type} (d : Kd α) (d' : Kd β) {e e' : Nat} {W : World} {base base' : Nat} {ok ok' : Nat → Prop} {ad : Addr} {n c : Nat} {v : Value} {xs : List α} {ys : List β} (h : d.R e W base ok (.slice (some ad) n c) xs) (h' : d'.R e' W base' ok' v ys) (hne : e ≠ e') (i : Nat) :
  some (ad.add i).block ≠ v.ownBlock := by
 obtain ⟨in1, ho1⟩ := Kd.R_own h
 obtain ⟨in2, ho2⟩ := Kd.R_own h'
 rw [qX]
 rcases own_type_ne ho1 ho2 hne with h3 | h3
 ·cases h3
 ·exact h3
end
end Go.Proofs.YtbpfhpjbeomfcaaDoor
