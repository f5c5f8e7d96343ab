/- The program's BoxesReached returns what the reference's returns, for all texts and boxes (the law lets longer texts by). No further condition. -/
import Derived.Test.YtdagdhmcebeadaaDoorKFnExactBoxesReached2
import Derived.Shelf.SlGeneric
import Derived.Shelf.Small.Strs
import Derived.Shelf.Strings.Search1
import Derived.Ground.NamesProg
import Derived.Shelf.Strings.Split
import Derived.Shelf.Strings.Count
import Derived.Shelf.Strings.SlTrimAscii
import Derived.Test.YtdagdhmcebeadaaDoorProg
import Derived.Laws.Append
import Derived.Laws.AppendOwn
import Derived.Maps.AppendAt

namespace Go.Proofs.YtdagdhmcebeadaaDoor.P
open Go.RowKit Go.Proofs.YtdagdhmcebeadaaDoorW.PrintWords Go.Proofs.YtdagdhmcebeadaaDoorW.PrintLast Go.Proofs.YtdagdhmcebeadaaDoorW.PrintMore
attribute [local go_sem] qDA qBA qLA qKA qq qp qCA qAA
set_option linter.unusedVariables false
set_option linter.unusedSimpArgs false
def ql.l0 : Nat → List (S27) → List Int → Int → Int → List (S27) → List ByteArray → Option ((List (S27)) × Bool)
 | 0, _, _, _, _, _, _ => none
 | k + 1, x9, x22, x23, x24, x277000, x277001 => if x24 < x23 then (if 0 ≤ x24 then (if x24 < (x22.length : Int) then (if 0 ≤ (rd x22 x24) then (if (rd x22 x24) < (x277000.length : Int) then (if x9.length < 5864062014805 then (ql.l0 k (x9 ++ [(⟨(qK x277000 (rd x22 x24)).f0, (qK x277000 (rd x22 x24)).f1, (qK x277000 (rd x22 x24)).f2⟩ : S27)]) x22 x23 (wrap64 (x24 + 1)) x277000 x277001) else (none)) else (none)) else (none)) else (none)) else (none)) else (some (x9, true))
def ql.f (k : Nat) (a0 : ByteArray) (a1_0 : Int) (a1_1 : Int) (a1_2 : Int) : Option ((List (S27)) × Bool) := (qbA.f k a0 a1_0 a1_1 a1_2).bind fun bt263 => (if bt263.2.2.2.2.2 = true then ((qb.f k bt263.2.2.2.1 bt263.2.2.2.2.1).bind fun t277 => (ql.l0 k ([] : List (S27)) t277 (t277.length : Int) 0 bt263.2.2.2.1 bt263.2.2.2.2.1)) else (some (([] : List (S27)), false)))
set_option maxHeartbeats 8000000 in
set_option maxRecDepth 100000 in
theorem ql.calls (k : Nat) (a0 : ByteArray) (a1_0 : Int) (a1_1 : Int) (a1_2 : Int) (r1 : List (S27)) (r2 : Bool) (w : World) (h : ql.f k a0 a1_0 a1_1 a1_2 = some (r1, r2)) :
  Calls Tryd.prog 4 #[.string a0, .agg #[.int .i64 a1_0, .int .i64 a1_1, .int .i64 a1_2]] w fun e w' => ∃ v0_ : Value, e = .returned (.tuple #[v0_, .bool r2]) ∧ Kd.R k27 27 w' w.heap.size (fun _ => True) v0_ r1 ∧ Below w.heap.size w w' := by
 have hu27 := Tryd.underlying27
 have hu34 := Tryd.underlying34
 have hu37 := Tryd.underlying37
 have HB := Aside0.mk (Below.refl w.heap.size w)
 have H : ((qbA.f k a0 a1_0 a1_1 a1_2).bind fun bt263 => (if bt263.2.2.2.2.2 = true then ((qb.f k bt263.2.2.2.1 bt263.2.2.2.2.1).bind fun t277 => (ql.l0 k ([] : List (S27)) t277 (t277.length : Int) 0 bt263.2.2.2.1 bt263.2.2.2.2.1)) else (some (([] : List (S27)), false)))) = some (r1, r2) := h
 clear h
 replace H := Option.bind_eq_some_iff.mp H
 obtain ⟨⟨t263, t264, t265, t268, t271, t274⟩, A30, H⟩ := H
 replace H : (if t274 = true then ((qb.f k t268 t271).bind fun t277 => (ql.l0 k ([] : List (S27)) t277 (t277.length : Int) 0 t268 t271)) else (some (([] : List (S27)), false))) = some (r1, r2) := H
 have A3 := Aside0.mk A30
 clear A30
 by_cases c4 : t274 = true
 ·subst c4
  have H1 : ((qb.f k t268 t271).bind fun t277 => (ql.l0 k ([] : List (S27)) t277 (t277.length : Int) 0 t268 t271)) = some (r1, r2) := by rw [if_pos rfl] at H; exact H
  clear H
  have H := H1
  clear H1
  replace H := Option.bind_eq_some_iff.mp H
  obtain ⟨t277, A50, H⟩ := H
  replace H : (ql.l0 k ([] : List (S27)) t277 (t277.length : Int) 0 t268 t271) = some (r1, r2) := H
  have A5 := Aside0.mk A50
  clear A50
  have H' := Aside0.mk H
  clear H
  go_enter Tryd.func4, Tryd.ntmps4
  go_wp2_with (first | ((with_reducible refine qd (N := 3) rfl ?_); refine qY ?hg (N := 3) ?hd (cs := #[.int .i64 a1_0, .int .i64 a1_1, .int .i64 a1_2]) (t := 27) ?hr ?_; (case hd => rfl); (case hg => rfl); (case hr => first | (go_simp; done) | (go_simp; rfl)); intro gb262 hg w6 hbox hb; have n0_ := Aside0.mk (qG bl hb); have n1_ := Aside0.mk (hbox); have n2_ := Aside0.mk ((gg hg)); have n3_ := Aside0.mk ((gg hg)); clear HB; have HB := n0_; have BK262 := n1_; have GW262 := n2_; have GE262 := n3_; clear n0_ n1_ n2_ n3_; clear hb hbox hg; have hcz7_0 := bc BK262 0; have hcz7_1 := bc BK262 1; have hcz7_2 := bc BK262 2; have hfz7_0 := qC BK262.out 0; have hfz7_1 := qC BK262.out 1; have hfz7_2 := qC BK262.out 2) | ((with_reducible refine qS (f := 10) rfl ?_); refine qt (some 15) rfl rfl Tryd.func10 (by kernel_rfl) rfl #[.string a0, .agg #[.int .i64 a1_0, .int .i64 a1_1, .int .i64 a1_2]] rfl (by (try simp only [List.map_toArray, List.map_cons, List.map_nil]); first | done | rfl | (simp only [List.length_drop, List.length_take]; rfl)) ?_; (with_reducible refine (qbA.calls k a0 a1_0 a1_1 a1_2 t263 t264 t265 t268 t271 true _ A3.out).mono ?_); rintro e w8 ⟨v266, v269, v272, rfl, ho0, ho1, ho2, hb⟩; refine ⟨_, rfl, ?_⟩; have n0_ := Aside0.mk (Kd.qHA ho0 (qg bl)); have n1_ := Aside0.mk (Kd.qHA (Kd.qgB ho1 (g := gb262) (o := .cells #[.int .i64 a1_0, .int .i64 a1_1, .int .i64 a1_2] 27 (0, 0)) (by (with_reducible repeat (first | refine qB ?_ _ | refine qD ?_ | refine qA ?_ _)); exact BK262.out)) (qg bl)); have n2_ := Aside0.mk (Kd.qHA ho2 (qg bl)); have n3_ := Aside0.mk (bb BK262 hb); have n4_ := Aside0.mk (qG bl hb); clear BK262; clear HB; have HO267 := n0_; have HO270 := n1_; have HO273 := n2_; have BK262 := n3_; have HB := n4_; clear n0_ n1_ n2_ n3_ n4_; (try clear hb); (try clear hb2); (try clear hk); (try clear hi); (try clear ho0); (try clear ho1); (try clear ho2)) | ((with_reducible refine qd (N := 6) rfl ?_); refine qY ?hg (N := 6) ?hd (cs := #[.int .i64 0, .int .i64 0, .slice none 0 0]) (t := 34) ?hr ?_; (case hd => rfl); (case hg => rfl); (case hr => first | (go_simp; done) | (go_simp; rfl)); intro gb275 hg w9 hbox hb; have n0_ := Aside0.mk (Kd.qa (by (with_reducible repeat (first | apply Kd.qF | apply Kd.qE | apply Kd.qH)); exact HO267.out) hb); have n1_ := Aside0.mk (Kd.qa (by (with_reducible repeat (first | apply Kd.qF | apply Kd.qE | apply Kd.qH)); exact HO270.out) hb); have n2_ := Aside0.mk (Kd.qa (by (with_reducible repeat (first | apply Kd.qF | apply Kd.qE | apply Kd.qH)); exact HO273.out) hb); have n3_ := Aside0.mk (bb BK262 hb); have n4_ := Aside0.mk (qG bl hb); have n5_ := Aside0.mk (hbox); have n6_ := Aside0.mk ((gg hg)); have n7_ := Aside0.mk ((gg hg)); have n8_ := Aside0.mk ((nl BK262 hg)); have n9_ := Aside0.mk ((nr BK262 hg)); clear HO267; clear HO270; clear HO273; clear BK262; clear HB; have HO267 := n0_; have HO270 := n1_; have HO273 := n2_; have BK262 := n3_; have HB := n4_; have BK275 := n5_; have GW275 := n6_; have GE275 := n7_; have NB262_275 := n8_; have NB275_262 := n9_; clear n0_ n1_ n2_ n3_ n4_ n5_ n6_ n7_ n8_ n9_; clear hb hbox hg) | ((with_reducible refine qd (N := 7) rfl ?_); refine qY ?hg (N := 7) ?hd (cs := #[.slice none 0 0, .slice none 0 0]) (t := 37) ?hr ?_; (case hd => rfl); (case hg => rfl); (case hr => first | (go_simp; done) | (go_simp; rfl)); intro gb276 hg w10 hbox hb; have n0_ := Aside0.mk (Kd.qa (by (with_reducible repeat (first | apply Kd.qF | apply Kd.qE | apply Kd.qH)); exact HO267.out) hb); have n1_ := Aside0.mk (Kd.qa (by (with_reducible repeat (first | apply Kd.qF | apply Kd.qE | apply Kd.qH)); exact HO270.out) hb); have n2_ := Aside0.mk (Kd.qa (by (with_reducible repeat (first | apply Kd.qF | apply Kd.qE | apply Kd.qH)); exact HO273.out) hb); have n3_ := Aside0.mk (bb BK262 hb); have n4_ := Aside0.mk (bb BK275 hb); have n5_ := Aside0.mk (qG bl hb); have n6_ := Aside0.mk (hbox); have n7_ := Aside0.mk ((gg hg)); have n8_ := Aside0.mk ((gg hg)); have n9_ := Aside0.mk ((nl BK262 hg)); have n10_ := Aside0.mk ((nr BK262 hg)); have n11_ := Aside0.mk ((nl BK275 hg)); have n12_ := Aside0.mk ((nr BK275 hg)); clear HO267; clear HO270; clear HO273; clear BK262; clear BK275; clear HB; have HO267 := n0_; have HO270 := n1_; have HO273 := n2_; have BK262 := n3_; have BK275 := n4_; have HB := n5_; have BK276 := n6_; have GW276 := n7_; have GE276 := n8_; have NB262_276 := n9_; have NB276_262 := n10_; have NB275_276 := n11_; have NB276_275 := n12_; clear n0_ n1_ n2_ n3_ n4_ n5_ n6_ n7_ n8_ n9_ n10_ n11_ n12_; clear hb hbox hg; have hnb11 := NB275_262.out; have hnc11 := NB262_275.out; have hnb12 := NB275_276.out; have hnc12 := NB276_275.out; have hcz13_0 := bc BK275 0; have hcz13_1 := bc BK275 1; have hcz13_2 := bc BK275 2; have hfz13_0 := qC BK275.out 0; have hfz13_1 := qC BK275.out 1; have hfz13_2 := qC BK275.out 2; obtain ⟨Ao14, co14, eo14⟩ := Kd.qo HO267.out; subst eo14; obtain ⟨Ao15, co15, eo15⟩ := Kd.qo HO270.out; subst eo15; have hnb16 := NB276_262.out; have hnc16 := NB262_276.out; have hcz17_0 := bc BK276 0; have hcz17_1 := bc BK276 1; have hfz17_0 := qC BK276.out 0; have hfz17_1 := qC BK276.out 1; obtain ⟨Ao18, co18, eo18⟩ := Kd.qo HO273.out; subst eo18) | ((with_reducible refine qS (f := 11) rfl ?_); refine qt (some 22) rfl rfl Tryd.func11 (by kernel_rfl) rfl #[.agg #[.slice Ao15 t268.length co15, .slice Ao18 t271.length co18]] rfl (by (try simp only [List.map_toArray, List.map_cons, List.map_nil]); first | done | rfl | (simp only [List.length_drop, List.length_take]; rfl)) ?_; (with_reducible refine (qb.calls k _ _ t268 _ _ t271 t277 _ ?side1 ?side2 ?side3 ?side4 A5.out).mono ?_); (case side1 => refine (Kd.qT (e := 27) (base := w.heap.size) (ok := fun k_ => (True ∧ k_ ≠ gb262)) (n := t268.length) (c := co15) ?_).2.2; exact (by (with_reducible repeat (first | apply Kd.qF | apply Kd.qE | apply Kd.qH)); exact (Kd.qh (Kd.qh (Kd.R_far (p := ⟨gb276, 1, none⟩) (Kd.R_far (p := ⟨gb276, 0, none⟩) (Kd.R_far (p := ⟨gb275, 2, none⟩) (Kd.R_far (p := ⟨gb275, 1, none⟩) (Kd.R_far (p := ⟨gb275, 0, none⟩) (Kd.qEA (Kd.qEA HO270.out BK275.out (by decide)) BK276.out (by decide)) (fun _ hk => hk.1.2) (.int .i64 t263)) (fun _ hk => hk.1.2) (.int .i64 t264)) (fun _ hk => hk.1.2) (.slice Ao14 t265.length co14)) (fun _ hk => hk.2) (.slice Ao15 t268.length co15)) (fun _ hk => hk.2) (.slice Ao18 t271.length co18)) (fun _ h_ => h_.1)) (fun _ h_ => h_.1)))); (case side2 => exact (Kd.qT HO270.out).2.1); (case side3 => refine (Kd.qT (e := 9) (base := w.heap.size) (ok := fun k_ => True) (n := t271.length) (c := co18) ?_).2.2; exact (by (with_reducible repeat (first | apply Kd.qF | apply Kd.qE | apply Kd.qH)); exact (Kd.qh (Kd.qh (Kd.R_far (p := ⟨gb276, 1, none⟩) (Kd.R_far (p := ⟨gb276, 0, none⟩) (Kd.R_far (p := ⟨gb275, 2, none⟩) (Kd.R_far (p := ⟨gb275, 1, none⟩) (Kd.R_far (p := ⟨gb275, 0, none⟩) (Kd.qEA (Kd.qEA HO273.out BK275.out (by decide)) BK276.out (by decide)) (fun _ hk => hk.1.2) (.int .i64 t263)) (fun _ hk => hk.1.2) (.int .i64 t264)) (fun _ hk => hk.1.2) (.slice Ao14 t265.length co14)) (fun _ hk => hk.2) (.slice Ao15 t268.length co15)) (fun _ hk => hk.2) (.slice Ao18 t271.length co18)) (fun _ h_ => h_.1)) (fun _ h_ => h_.1)))); (case side4 => exact (Kd.qT HO273.out).2.1); rintro e w19 ⟨v278, rfl, ho0, hb⟩; refine ⟨_, rfl, ?_⟩; have n0_ := Aside0.mk (Kd.qa (by (with_reducible repeat (first | apply Kd.qF | apply Kd.qE | apply Kd.qH)); exact (Kd.qh (Kd.qh (Kd.R_far (p := ⟨gb276, 1, none⟩) (Kd.R_far (p := ⟨gb276, 0, none⟩) (Kd.R_far (p := ⟨gb275, 2, none⟩) (Kd.R_far (p := ⟨gb275, 1, none⟩) (Kd.R_far (p := ⟨gb275, 0, none⟩) (Kd.qEA (Kd.qEA HO267.out BK275.out (by decide)) BK276.out (by decide)) (fun _ hk => hk.1.2) (.int .i64 t263)) (fun _ hk => hk.1.2) (.int .i64 t264)) (fun _ hk => hk.1.2) (.slice Ao14 t265.length co14)) (fun _ hk => hk.2) (.slice Ao15 t268.length co15)) (fun _ hk => hk.2) (.slice Ao18 t271.length co18)) (fun _ h_ => h_.1)) (fun _ h_ => h_.1))) hb); have n1_ := Aside0.mk (Kd.qa (by (with_reducible repeat (first | apply Kd.qF | apply Kd.qE | apply Kd.qH)); exact (Kd.qh (Kd.qh (Kd.R_far (p := ⟨gb276, 1, none⟩) (Kd.R_far (p := ⟨gb276, 0, none⟩) (Kd.R_far (p := ⟨gb275, 2, none⟩) (Kd.R_far (p := ⟨gb275, 1, none⟩) (Kd.R_far (p := ⟨gb275, 0, none⟩) (Kd.qEA (Kd.qEA HO270.out BK275.out (by decide)) BK276.out (by decide)) (fun _ hk => hk.1.2) (.int .i64 t263)) (fun _ hk => hk.1.2) (.int .i64 t264)) (fun _ hk => hk.1.2) (.slice Ao14 t265.length co14)) (fun _ hk => hk.2) (.slice Ao15 t268.length co15)) (fun _ hk => hk.2) (.slice Ao18 t271.length co18)) (fun _ h_ => h_.1)) (fun _ h_ => h_.1))) hb); have n2_ := Aside0.mk (Kd.qa (by (with_reducible repeat (first | apply Kd.qF | apply Kd.qE | apply Kd.qH)); exact (Kd.qh (Kd.qh (Kd.R_far (p := ⟨gb276, 1, none⟩) (Kd.R_far (p := ⟨gb276, 0, none⟩) (Kd.R_far (p := ⟨gb275, 2, none⟩) (Kd.R_far (p := ⟨gb275, 1, none⟩) (Kd.R_far (p := ⟨gb275, 0, none⟩) (Kd.qEA (Kd.qEA HO273.out BK275.out (by decide)) BK276.out (by decide)) (fun _ hk => hk.1.2) (.int .i64 t263)) (fun _ hk => hk.1.2) (.int .i64 t264)) (fun _ hk => hk.1.2) (.slice Ao14 t265.length co14)) (fun _ hk => hk.2) (.slice Ao15 t268.length co15)) (fun _ hk => hk.2) (.slice Ao18 t271.length co18)) (fun _ h_ => h_.1)) (fun _ h_ => h_.1))) hb); have n3_ := Aside0.mk (Kd.qHA ho0 (qg bl)); have n4_ := Aside0.mk (qUA (g := gb262) (o := .cells #[.int .i64 a1_0, .int .i64 a1_1, .int .i64 a1_2] 27 (0, 0)) (by (with_reducible repeat (first | refine qB ?_ _ | refine qD ?_ | refine qA ?_ _)); refine qN ?_ NB262_276.out _; (with_reducible repeat (first | refine qB ?_ _ | refine qD ?_ | refine qA ?_ _)); refine qN ?_ NB262_276.out _; (with_reducible repeat (first | refine qB ?_ _ | refine qD ?_ | refine qA ?_ _)); refine qN ?_ NB262_275.out _; (with_reducible repeat (first | refine qB ?_ _ | refine qD ?_ | refine qA ?_ _)); refine qN ?_ NB262_275.out _; (with_reducible repeat (first | refine qB ?_ _ | refine qD ?_ | refine qA ?_ _)); refine qN ?_ NB262_275.out _; (with_reducible repeat (first | refine qB ?_ _ | refine qD ?_ | refine qA ?_ _)); exact BK262.out) hb); have n5_ := Aside0.mk (qUA (g := gb275) (o := .cells #[.int .i64 t263, .int .i64 t264, .slice Ao14 t265.length co14] 34 (0, 0)) (by (with_reducible repeat (first | refine qB ?_ _ | refine qD ?_ | refine qA ?_ _)); refine qN ?_ NB275_276.out _; (with_reducible repeat (first | refine qB ?_ _ | refine qD ?_ | refine qA ?_ _)); refine qN ?_ NB275_276.out _; (with_reducible repeat (first | refine qB ?_ _ | refine qD ?_ | refine qA ?_ _)); refine qQ (cs := #[.int .i64 t263, .int .i64 t264, .slice none 0 0]) ?_ 2 _ rfl; (with_reducible repeat (first | refine qB ?_ _ | refine qD ?_ | refine qA ?_ _)); refine qQ (cs := #[.int .i64 t263, .int .i64 0, .slice none 0 0]) ?_ 1 _ rfl; (with_reducible repeat (first | refine qB ?_ _ | refine qD ?_ | refine qA ?_ _)); refine qQ (cs := #[.int .i64 0, .int .i64 0, .slice none 0 0]) ?_ 0 _ rfl; (with_reducible repeat (first | refine qB ?_ _ | refine qD ?_ | refine qA ?_ _)); exact BK275.out) hb); have n6_ := Aside0.mk (qUA (g := gb276) (o := .cells #[.slice Ao15 t268.length co15, .slice Ao18 t271.length co18] 37 (0, 0)) (by (with_reducible repeat (first | refine qB ?_ _ | refine qD ?_ | refine qA ?_ _)); refine qQ (cs := #[.slice Ao15 t268.length co15, .slice none 0 0]) ?_ 1 _ rfl; (with_reducible repeat (first | refine qB ?_ _ | refine qD ?_ | refine qA ?_ _)); refine qQ (cs := #[.slice none 0 0, .slice none 0 0]) ?_ 0 _ rfl; (with_reducible repeat (first | refine qB ?_ _ | refine qD ?_ | refine qA ?_ _)); refine qN ?_ NB276_275.out _; (with_reducible repeat (first | refine qB ?_ _ | refine qD ?_ | refine qA ?_ _)); refine qN ?_ NB276_275.out _; (with_reducible repeat (first | refine qB ?_ _ | refine qD ?_ | refine qA ?_ _)); refine qN ?_ NB276_275.out _; (with_reducible repeat (first | refine qB ?_ _ | refine qD ?_ | refine qA ?_ _)); exact BK276.out) hb); have n7_ := Aside0.mk (qG bl hb); clear HO267; clear HO270; clear HO273; clear BK262; clear BK275; clear BK276; clear HB; have HO267 := n0_; have HO270 := n1_; have HO273 := n2_; have HO279 := n3_; have BK262 := n4_; have BK275 := n5_; have BK276 := n6_; have HB := n7_; clear n0_ n1_ n2_ n3_ n4_ n5_ n6_ n7_; (try clear hb); (try clear hb2); (try clear hk); (try clear hi); (try clear ho0); obtain ⟨Ao20, co20, eo20⟩ := Kd.qo HO279.out; subst eo20))
  go_loopg [9, 24] k (fun kq v9 v24 w' => ∃ (x9_1 : List (S27)) (x24_1 : Int), v24 = .int .i64 x24_1 ∧ Aside0 (ql.l0 kq x9_1 t277 (t277.length : Int) x24_1 t268 t271 = some (r1, r2)) ∧ Aside0 (kq ≤ k) ∧ Aside0 (Kd.R k27 27 w' w.heap.size (fun k_ => some k_ ≠ ((.slice Ao15 t268.length co15) : Value).ownBlock ∧ k_ ≠ gb262) v9 x9_1) ∧ Aside0 (Kd.R (Kd.int .i64) 3 w' w.heap.size (fun _ => True) (.slice Ao20 t277.length co20) t277) ∧ Aside0 (Kd.R (Kd.int .u8) 5 w' w.heap.size (fun _ => True) (.slice Ao14 t265.length co14) t265) ∧ Aside0 (Kd.R k27 27 w' w.heap.size (fun k_ => some k_ ≠ (v9 : Value).ownBlock ∧ k_ ≠ gb262) (.slice Ao15 t268.length co15) t268) ∧ Aside0 (Kd.R Kd.string 9 w' w.heap.size (fun _ => True) (.slice Ao18 t271.length co18) t271) ∧ Aside0 (w'.heap[gb262]? = some (.cells #[.int .i64 a1_0, .int .i64 a1_1, .int .i64 a1_2] 27 (0, 0))) ∧ Aside0 (w'.heap[gb275]? = some (.cells #[.int .i64 t263, .int .i64 t264, (.slice Ao14 t265.length co14)] 34 (0, 0))) ∧ Aside0 (w'.heap[gb276]? = some (.cells #[(.slice Ao15 t268.length co15), (.slice Ao18 t271.length co18)] 37 (0, 0))) ∧ Aside0 (Below w.heap.size w w'))
  case atStart => exact ⟨(([] : List (S27))), (0), (by first | rfl | (simp; done) | (simp [*]; done)), H', ⟨Nat.le_refl _⟩, ⟨by first | exact Kd.R_nil _ _ _ _ _ | exact Kd.N_nil _ _ _ _ _ | exact Kd.V_nil _ _ _ _ _ | exact Kd.Q_nil _ _ _ _ _ | exact Kd.S_nil _ _ _ _ _⟩, ⟨by (with_reducible repeat (first | apply Kd.qF | apply Kd.qE | apply Kd.qH)); exact HO279.out⟩, ⟨by (with_reducible repeat (first | apply Kd.qF | apply Kd.qE | apply Kd.qH)); exact HO267.out⟩, ⟨by (with_reducible repeat (first | apply Kd.qF | apply Kd.qE | apply Kd.qH)); exact Kd.qh HO270.out (fun _ hk => ⟨(by simp [Value.ownBlock]), hk.2⟩)⟩, ⟨by (with_reducible repeat (first | apply Kd.qF | apply Kd.qE | apply Kd.qH)); exact HO273.out⟩, ⟨by (with_reducible repeat (first | refine qB ?_ _ | refine qD ?_ | refine qA ?_ _)); exact BK262.out⟩, ⟨by (with_reducible repeat (first | refine qB ?_ _ | refine qD ?_ | refine qA ?_ _)); exact BK275.out⟩, ⟨by (with_reducible repeat (first | refine qB ?_ _ | refine qD ?_ | refine qA ?_ _)); exact BK276.out⟩, ⟨bl⟩⟩
  case round =>
   clear H'
   try clear c1
   try clear p2
   try clear c4
   try clear c10
   try clear c11
   try clear c12
   try clear c16
   try clear hcz13_0
   try clear hcz13_1
   try clear hcz13_2
   try clear hcz17_0
   try clear hcz17_1
   try clear hcz7_0
   try clear hcz7_1
   try clear hcz7_2
   try clear hfz13_0
   try clear hfz13_1
   try clear hfz13_2
   try clear hfz17_0
   try clear hfz17_1
   try clear hfz7_0
   try clear hfz7_1
   try clear hfz7_2
   obtain ⟨x9_1, x24_1, rfl, HA, HK1, HO_9, HO_22, HO_276002, HO_277000, HO_277001, BK262, BK275, BK276, HB⟩ := hrel
   cases gk with
   | zero => exact absurd HA.out (by simp [ql.l0])
   | succ k1 =>
    have H := HA.out
    clear HA
    simp only [ql.l0] at H
    by_cases c21 : x24_1 < (t277.length : Int)
    ·rw [if_pos c21] at H
     have c21b0 : decide (x24_1 < (t277.length : Int)) = true := decide_eq_true c21
     clear c21
     by_cases c22 : 0 ≤ x24_1
     ·rw [if_pos c22] at H
      have c22b0 : decide (0 ≤ x24_1) = true := decide_eq_true c22
      clear c22
      by_cases c23 : x24_1 < (t277.length : Int)
      ·rw [if_pos c23] at H
       have c23b0 : decide (x24_1 < (t277.length : Int)) = true := decide_eq_true c23
       clear c23
       by_cases c24 : 0 ≤ (rd t277 x24_1)
       ·rw [if_pos c24] at H
        have c24b0 : decide (0 ≤ (rd t277 x24_1)) = true := decide_eq_true c24
        clear c24
        by_cases c25 : (rd t277 x24_1) < (t268.length : Int)
        ·rw [if_pos c25] at H
         have c25b0 : decide ((rd t277 x24_1) < (t268.length : Int)) = true := decide_eq_true c25
         clear c25
         by_cases c26 : x9_1.length < 5864062014805
         ·rw [if_pos c26] at H
          have LMc26 := Aside0.mk c26
          clear c26
          obtain ⟨y282, hy282⟩ : ∃ y_ : List (S27), y_ = (x9_1 ++ [(⟨(qK t268 (rd t277 x24_1)).f0, (qK t268 (rd t277 x24_1)).f1, (qK t268 (rd t277 x24_1)).f2⟩ : S27)]) := ⟨_, rfl⟩
          replace H : (ql.l0 k1 y282 t277 (t277.length : Int) (wrap64 (x24_1 + 1)) t268 t271) = some (r1, r2) := by first | (rw [hy282]; with_reducible exact H) | (have H2_ := (Option.bind_some _ _).symm.trans H; rw [hy282]; with_reducible exact H2_) | (have H2_ := (Option.bind_some _ _).symm.trans H; with_reducible exact H2_) | with_reducible exact H | (rw [hy282]; exact H) | exact H
          have Ny282 := Aside0.mk hy282
          clear hy282
          have H' := Aside0.mk H
          clear H
          have p280 : 0 ≤ (x24_1 : Int) := of_decide_eq_true (by first | (with_reducible assumption) | assumption)
          have q280 : x24_1 < (t277.length : Int) := of_decide_eq_true (by first | (with_reducible assumption) | assumption)
          obtain ⟨ad280, e280, hx280_0⟩ := Kd.qAB (Kd.qT HO_22.out).2.2 x24_1 p280 q280
          cases e280
          replace p280 := eq_true p280
          replace q280 := eq_true q280
          have hnb27 := NB276_262.out
          have hnc27 := NB262_276.out
          have hnb28 := NB276_275.out
          have hnc28 := NB275_276.out
          have hcz29_0 := bc BK276 0
          have hcz29_1 := bc BK276 1
          have hfz29_0 := qC BK276.out 0
          have hfz29_1 := qC BK276.out 1
          have p281 : 0 ≤ ((rd t277 x24_1) : Int) := of_decide_eq_true (by first | (with_reducible assumption) | assumption)
          have q281 : (rd t277 x24_1) < (t268.length : Int) := of_decide_eq_true (by first | (with_reducible assumption) | assumption)
          obtain ⟨ad281, e281, hx281_0, hx281_1, hx281_2⟩ := qnA (Kd.qT HO_277000.out).2.2 (rd t277 x24_1) p281 q281
          cases e281
          replace p281 := eq_true p281
          replace q281 := eq_true q281
          go_wp2_with (first | ((with_reducible refine qiA (b := .append) (xs := #[.tmp 28, .tmp 34]) rfl ?_); at_builtin; refine Kd.qJC k27 (w0 := w) w.heap.size rfl (.tmp 28) (.tmp 34) 24 27 (.agg #[(.int .i64 0), (.int .i64 0), (.int .i64 0)]) 24 rfl Tryd.underlying24 info27 rfl (by decide) (by omega) u9 x9_1 (⟨(qK t268 (rd t277 x24_1)).f0, (qK t268 (rd t277 x24_1)).f1, (qK t268 (rd t277 x24_1)).f2⟩ : S27) [.int .i64 ((qK t268 (rd t277 x24_1)).f0), .int .i64 ((qK t268 (rd t277 x24_1)).f1), .int .i64 ((qK t268 (rd t277 x24_1)).f2)] (fun k_ => some k_ ≠ (.slice (some ad281) t268.length co15 : Value).ownBlock ∧ k_ ≠ gb262) (fun _ => False) rfl rfl ?aP (fun _ hk => hk.elim) ?aF ?aO ?aB ?aS ?aL ?_; (case aP => exact qVB _ _ _ (⟨(qK t268 (rd t277 x24_1)).f0, (qK t268 (rd t277 x24_1)).f1, (qK t268 (rd t277 x24_1)).f2⟩ : S27)); (case aB => exact bl); (case aF => exact (fun k_ hk => ⟨Kd.fresh' (Kd.R_lt (by (with_reducible repeat (first | apply Kd.qF | apply Kd.qE | apply Kd.qH)); exact HO_277000.out)) k_ hk, Kd.freshB (g := gb262) (o := .cells #[.int .i64 a1_0, .int .i64 a1_1, .int .i64 a1_2] 27 (0, 0)) (by (with_reducible repeat (first | refine qB ?_ _ | refine qD ?_ | refine qA ?_ _)); exact BK262.out) k_ hk⟩)); (case aO => exact (by (with_reducible repeat (first | apply Kd.qF | apply Kd.qE | apply Kd.qH)); exact HO_9.out)); (case aS => exact (qg bl)); (case aL => have := LMc26.out; omega); intro v283 w30 ho hb hg hat; rw [← Ny282.out] at ho; have n0_ := Aside0.mk (Kd.qCB (by (with_reducible repeat (first | apply Kd.qF | apply Kd.qE | apply Kd.qH)); exact HO_22.out) (Kd.qxA (by (with_reducible repeat (first | apply Kd.qF | apply Kd.qE | apply Kd.qH)); exact HO_9.out)) (by decide) hg); have n1_ := Aside0.mk (Kd.qCB (by (with_reducible repeat (first | apply Kd.qF | apply Kd.qE | apply Kd.qH)); exact HO_276002.out) (Kd.qxA (by (with_reducible repeat (first | apply Kd.qF | apply Kd.qE | apply Kd.qH)); exact HO_9.out)) (by decide) hg); have n2_ := Aside0.mk (Kd.qlA (ok := (fun k_ => k_ ≠ gb262)) (by (with_reducible repeat (first | apply Kd.qF | apply Kd.qE | apply Kd.qH)); exact Kd.qh HO_277000.out (fun _ hk => ⟨hk.2, hk.1⟩)) hg hat); have n3_ := Aside0.mk (Kd.qCB (by (with_reducible repeat (first | apply Kd.qF | apply Kd.qE | apply Kd.qH)); exact HO_277001.out) (Kd.qxA (by (with_reducible repeat (first | apply Kd.qF | apply Kd.qE | apply Kd.qH)); exact HO_9.out)) (by decide) hg); have n4_ := Aside0.mk (qFA (g := gb262) (o := .cells #[.int .i64 a1_0, .int .i64 a1_1, .int .i64 a1_2] 27 (0, 0)) (by (with_reducible repeat (first | refine qB ?_ _ | refine qD ?_ | refine qA ?_ _)); exact BK262.out) hg (Kd.qU HO_9.out (fun _ hk => hk.2))); have n5_ := Aside0.mk (qFA (g := gb275) (o := .cells #[.int .i64 t263, .int .i64 t264, .slice Ao14 t265.length co14] 34 (0, 0)) (by (with_reducible repeat (first | refine qB ?_ _ | refine qD ?_ | refine qA ?_ _)); exact BK275.out) hg (Kd.R_ne HO_9.out BK275.out (by decide))); have n6_ := Aside0.mk (qFA (g := gb276) (o := .cells #[.slice (some ad281) t268.length co15, .slice Ao18 t271.length co18] 37 (0, 0)) (by (with_reducible repeat (first | refine qB ?_ _ | refine qD ?_ | refine qA ?_ _)); exact BK276.out) hg (Kd.R_ne HO_9.out BK276.out (by decide))); have n7_ := Aside0.mk (hb); have n8_ := Aside0.mk (ho); clear HO_22; clear HO_276002; clear HO_277000; clear HO_277001; clear BK262; clear BK275; clear BK276; clear HB; clear HO_9; have HO_22 := n0_; have HO_276002 := n1_; have HO_277000 := n2_; have HO_277001 := n3_; have BK262 := n4_; have BK275 := n5_; have BK276 := n6_; have HB := n7_; have HO284 := n8_; clear n0_ n1_ n2_ n3_ n4_ n5_ n6_ n7_ n8_; clear ho hb hg hat))
          go_roundg k1
          case measure => have := HK1.out; omega
          case rel => exact ⟨(y282), (wrap64 (x24_1 + 1)), (by first | rfl | (simp; done) | (simp [*]; done)), H', ⟨by have := HK1.out; omega⟩, ⟨by (with_reducible repeat (first | apply Kd.qF | apply Kd.qE | apply Kd.qH)); exact HO284.out⟩, ⟨by (with_reducible repeat (first | apply Kd.qF | apply Kd.qE | apply Kd.qH)); exact HO_22.out⟩, ⟨by (with_reducible repeat (first | apply Kd.qF | apply Kd.qE | apply Kd.qH)); exact HO_276002.out⟩, ⟨by (with_reducible repeat (first | apply Kd.qF | apply Kd.qE | apply Kd.qH)); exact Kd.qh HO_277000.out (fun _ hk => ⟨hk.2, hk.1⟩)⟩, ⟨by (with_reducible repeat (first | apply Kd.qF | apply Kd.qE | apply Kd.qH)); exact HO_277001.out⟩, ⟨by (with_reducible repeat (first | refine qB ?_ _ | refine qD ?_ | refine qA ?_ _)); exact BK262.out⟩, ⟨by (with_reducible repeat (first | refine qB ?_ _ | refine qD ?_ | refine qA ?_ _)); exact BK275.out⟩, ⟨by (with_reducible repeat (first | refine qB ?_ _ | refine qD ?_ | refine qA ?_ _)); exact BK276.out⟩, ⟨bl⟩⟩
         ·rw [if_neg c26] at H
          exact absurd H (by simp)
        ·rw [if_neg c25] at H
         exact absurd H (by simp)
       ·rw [if_neg c24] at H
        exact absurd H (by simp)
      ·rw [if_neg c23] at H
       exact absurd H (by simp)
     ·rw [if_neg c22] at H
      exact absurd H (by simp)
    ·rw [if_neg c21] at H
     have c21b0 : decide (x24_1 < (t277.length : Int)) = false := decide_eq_false c21
     clear c21
     simp only [Option.some.injEq, Prod.mk.injEq] at H
     obtain ⟨rfl, rfl⟩ := H
     go_wp2
     go_ret2
     exact ⟨_, by first | rfl | (simp [qJ, qI] <;> rfl) | (simp [*, qJ, qI] <;> rfl), by (with_reducible repeat (first | apply Kd.qF | apply Kd.qE | apply Kd.qH)); exact Kd.qh HO_9.out (fun _ hk => trivial), bl⟩
 ·replace c4 := Bool.eq_false_iff.mpr c4
  subst c4
  have H1 : (some (([] : List (S27)), false)) = some (r1, r2) := by rw [if_neg (show ¬ (false = true) by decide)] at H; exact H
  clear H
  have H := H1
  clear H1
  simp only [Option.some.injEq, Prod.mk.injEq] at H
  obtain ⟨rfl, rfl⟩ := H
  go_enter Tryd.func4, Tryd.ntmps4
  go_wp2_with (first | ((with_reducible refine qd (N := 3) rfl ?_); refine qY ?hg (N := 3) ?hd (cs := #[.int .i64 a1_0, .int .i64 a1_1, .int .i64 a1_2]) (t := 27) ?hr ?_; (case hd => rfl); (case hg => rfl); (case hr => first | (go_simp; done) | (go_simp; rfl)); intro gb262 hg w31 hbox hb; have n0_ := Aside0.mk (qG bl hb); have n1_ := Aside0.mk (hbox); have n2_ := Aside0.mk ((gg hg)); have n3_ := Aside0.mk ((gg hg)); clear HB; have HB := n0_; have BK262 := n1_; have GW262 := n2_; have GE262 := n3_; clear n0_ n1_ n2_ n3_; clear hb hbox hg; have hcz32_0 := bc BK262 0; have hcz32_1 := bc BK262 1; have hcz32_2 := bc BK262 2; have hfz32_0 := qC BK262.out 0; have hfz32_1 := qC BK262.out 1; have hfz32_2 := qC BK262.out 2) | ((with_reducible refine qS (f := 10) rfl ?_); refine qt (some 15) rfl rfl Tryd.func10 (by kernel_rfl) rfl #[.string a0, .agg #[.int .i64 a1_0, .int .i64 a1_1, .int .i64 a1_2]] rfl (by (try simp only [List.map_toArray, List.map_cons, List.map_nil]); first | done | rfl | (simp only [List.length_drop, List.length_take]; rfl)) ?_; (with_reducible refine (qbA.calls k a0 a1_0 a1_1 a1_2 t263 t264 t265 t268 t271 false _ A3.out).mono ?_); rintro e w33 ⟨v266, v269, v272, rfl, ho0, ho1, ho2, hb⟩; refine ⟨_, rfl, ?_⟩; have n0_ := Aside0.mk (Kd.qHA ho0 (qg bl)); have n1_ := Aside0.mk (Kd.qHA (Kd.qgB ho1 (g := gb262) (o := .cells #[.int .i64 a1_0, .int .i64 a1_1, .int .i64 a1_2] 27 (0, 0)) (by (with_reducible repeat (first | refine qB ?_ _ | refine qD ?_ | refine qA ?_ _)); exact BK262.out)) (qg bl)); have n2_ := Aside0.mk (Kd.qHA ho2 (qg bl)); have n3_ := Aside0.mk (bb BK262 hb); have n4_ := Aside0.mk (qG bl hb); clear BK262; clear HB; have HO267 := n0_; have HO270 := n1_; have HO273 := n2_; have BK262 := n3_; have HB := n4_; clear n0_ n1_ n2_ n3_ n4_; (try clear hb); (try clear hb2); (try clear hk); (try clear hi); (try clear ho0); (try clear ho1); (try clear ho2)) | ((with_reducible refine qd (N := 6) rfl ?_); refine qY ?hg (N := 6) ?hd (cs := #[.int .i64 0, .int .i64 0, .slice none 0 0]) (t := 34) ?hr ?_; (case hd => rfl); (case hg => rfl); (case hr => first | (go_simp; done) | (go_simp; rfl)); intro gb275 hg w34 hbox hb; have n0_ := Aside0.mk (Kd.qa (by (with_reducible repeat (first | apply Kd.qF | apply Kd.qE | apply Kd.qH)); exact HO267.out) hb); have n1_ := Aside0.mk (Kd.qa (by (with_reducible repeat (first | apply Kd.qF | apply Kd.qE | apply Kd.qH)); exact HO270.out) hb); have n2_ := Aside0.mk (Kd.qa (by (with_reducible repeat (first | apply Kd.qF | apply Kd.qE | apply Kd.qH)); exact HO273.out) hb); have n3_ := Aside0.mk (bb BK262 hb); have n4_ := Aside0.mk (qG bl hb); have n5_ := Aside0.mk (hbox); have n6_ := Aside0.mk ((gg hg)); have n7_ := Aside0.mk ((gg hg)); have n8_ := Aside0.mk ((nl BK262 hg)); have n9_ := Aside0.mk ((nr BK262 hg)); clear HO267; clear HO270; clear HO273; clear BK262; clear HB; have HO267 := n0_; have HO270 := n1_; have HO273 := n2_; have BK262 := n3_; have HB := n4_; have BK275 := n5_; have GW275 := n6_; have GE275 := n7_; have NB262_275 := n8_; have NB275_262 := n9_; clear n0_ n1_ n2_ n3_ n4_ n5_ n6_ n7_ n8_ n9_; clear hb hbox hg) | ((with_reducible refine qd (N := 7) rfl ?_); refine qY ?hg (N := 7) ?hd (cs := #[.slice none 0 0, .slice none 0 0]) (t := 37) ?hr ?_; (case hd => rfl); (case hg => rfl); (case hr => first | (go_simp; done) | (go_simp; rfl)); intro gb276 hg w35 hbox hb; have n0_ := Aside0.mk (Kd.qa (by (with_reducible repeat (first | apply Kd.qF | apply Kd.qE | apply Kd.qH)); exact HO267.out) hb); have n1_ := Aside0.mk (Kd.qa (by (with_reducible repeat (first | apply Kd.qF | apply Kd.qE | apply Kd.qH)); exact HO270.out) hb); have n2_ := Aside0.mk (Kd.qa (by (with_reducible repeat (first | apply Kd.qF | apply Kd.qE | apply Kd.qH)); exact HO273.out) hb); have n3_ := Aside0.mk (bb BK262 hb); have n4_ := Aside0.mk (bb BK275 hb); have n5_ := Aside0.mk (qG bl hb); have n6_ := Aside0.mk (hbox); have n7_ := Aside0.mk ((gg hg)); have n8_ := Aside0.mk ((gg hg)); have n9_ := Aside0.mk ((nl BK262 hg)); have n10_ := Aside0.mk ((nr BK262 hg)); have n11_ := Aside0.mk ((nl BK275 hg)); have n12_ := Aside0.mk ((nr BK275 hg)); clear HO267; clear HO270; clear HO273; clear BK262; clear BK275; clear HB; have HO267 := n0_; have HO270 := n1_; have HO273 := n2_; have BK262 := n3_; have BK275 := n4_; have HB := n5_; have BK276 := n6_; have GW276 := n7_; have GE276 := n8_; have NB262_276 := n9_; have NB276_262 := n10_; have NB275_276 := n11_; have NB276_275 := n12_; clear n0_ n1_ n2_ n3_ n4_ n5_ n6_ n7_ n8_ n9_ n10_ n11_ n12_; clear hb hbox hg; have hnb36 := NB275_262.out; have hnc36 := NB262_275.out; have hnb37 := NB275_276.out; have hnc37 := NB276_275.out; have hcz38_0 := bc BK275 0; have hcz38_1 := bc BK275 1; have hcz38_2 := bc BK275 2; have hfz38_0 := qC BK275.out 0; have hfz38_1 := qC BK275.out 1; have hfz38_2 := qC BK275.out 2; obtain ⟨Ao39, co39, eo39⟩ := Kd.qo HO267.out; subst eo39; obtain ⟨Ao40, co40, eo40⟩ := Kd.qo HO270.out; subst eo40; have hnb41 := NB276_262.out; have hnc41 := NB262_276.out; have hcz42_0 := bc BK276 0; have hcz42_1 := bc BK276 1; have hfz42_0 := qC BK276.out 0; have hfz42_1 := qC BK276.out 1; obtain ⟨Ao43, co43, eo43⟩ := Kd.qo HO273.out; subst eo43))
  go_ret2
  exact ⟨_, by first | rfl | (simp [qJ, qI] <;> rfl) | (simp [*, qJ, qI] <;> rfl), by first | exact Kd.R_nil _ _ _ _ _ | exact Kd.N_nil _ _ _ _ _ | exact Kd.V_nil _ _ _ _ _ | exact Kd.Q_nil _ _ _ _ _ | exact Kd.S_nil _ _ _ _ _, bl⟩
def qSA.f (a0_0 : Int) (a0_1 : Int) (a0_2 : Int) : Option (Int × Int × Int) := some (a0_0, a0_1, a0_2)
set_option maxHeartbeats 8000000 in
set_option maxRecDepth 100000 in
theorem qSA.calls (a0_0 : Int) (a0_1 : Int) (a0_2 : Int) (r1 : Int) (r2 : Int) (r3 : Int) (w : World) (h : qSA.f a0_0 a0_1 a0_2 = some (r1, r2, r3)) :
  Calls Tryd.prog 5 #[.agg #[.int .i64 a0_0, .int .i64 a0_1, .int .i64 a0_2]] w fun e w' => e = .returned (.agg #[.int .i64 r1, .int .i64 r2, .int .i64 r3]) ∧ Below w.heap.size w w' := by
 have hu23 := Tryd.underlying23
 have hu27 := Tryd.underlying27
 have HB := Aside0.mk (Below.refl w.heap.size w)
 have H : (some (a0_0, a0_1, a0_2)) = some (r1, r2, r3) := h
 clear h
 simp only [Option.some.injEq, Prod.mk.injEq] at H
 obtain ⟨rfl, rfl, rfl⟩ := H
 go_enter Tryd.func5, Tryd.ntmps5
 go_wp2_with (first | ((with_reducible refine qd (N := 1) rfl ?_); refine qY ?hg (N := 1) ?hd (cs := #[.int .i64 a0_0, .int .i64 a0_1, .int .i64 a0_2]) (t := 23) ?hr ?_; (case hd => rfl); (case hg => rfl); (case hr => first | (go_simp; done) | (go_simp; rfl)); intro gb285 hg w2 hbox hb; have n0_ := Aside0.mk (qG bl hb); have n1_ := Aside0.mk (hbox); have n2_ := Aside0.mk ((gg hg)); have n3_ := Aside0.mk ((gg hg)); clear HB; have HB := n0_; have BK285 := n1_; have GW285 := n2_; have GE285 := n3_; clear n0_ n1_ n2_ n3_; clear hb hbox hg) | ((with_reducible refine qd (N := 2) rfl ?_); refine qY ?hg (N := 2) ?hd (cs := #[.int .i64 0, .int .i64 0, .int .i64 0]) (t := 27) ?hr ?_; (case hd => rfl); (case hg => rfl); (case hr => first | (go_simp; done) | (go_simp; rfl)); intro gb286 hg w3 hbox hb; have n0_ := Aside0.mk (bb BK285 hb); have n1_ := Aside0.mk (qG bl hb); have n2_ := Aside0.mk (hbox); have n3_ := Aside0.mk ((gg hg)); have n4_ := Aside0.mk ((gg hg)); have n5_ := Aside0.mk ((nl BK285 hg)); have n6_ := Aside0.mk ((nr BK285 hg)); clear BK285; clear HB; have BK285 := n0_; have HB := n1_; have BK286 := n2_; have GW286 := n3_; have GE286 := n4_; have NB285_286 := n5_; have NB286_285 := n6_; clear n0_ n1_ n2_ n3_ n4_ n5_ n6_; clear hb hbox hg) | ((with_reducible refine qd (N := 3) rfl ?_); refine qY ?hg (N := 3) ?hd (cs := #[.int .i64 0, .int .i64 0, .int .i64 0]) (t := 27) ?hr ?_; (case hd => rfl); (case hg => rfl); (case hr => first | (go_simp; done) | (go_simp; rfl)); intro gb287 hg w4 hbox hb; have n0_ := Aside0.mk (bb BK285 hb); have n1_ := Aside0.mk (bb BK286 hb); have n2_ := Aside0.mk (qG bl hb); have n3_ := Aside0.mk (hbox); have n4_ := Aside0.mk ((gg hg)); have n5_ := Aside0.mk ((gg hg)); have n6_ := Aside0.mk ((nl BK285 hg)); have n7_ := Aside0.mk ((nr BK285 hg)); have n8_ := Aside0.mk ((nl BK286 hg)); have n9_ := Aside0.mk ((nr BK286 hg)); clear BK285; clear BK286; clear HB; have BK285 := n0_; have BK286 := n1_; have HB := n2_; have BK287 := n3_; have GW287 := n4_; have GE287 := n5_; have NB285_287 := n6_; have NB287_285 := n7_; have NB286_287 := n8_; have NB287_286 := n9_; clear n0_ n1_ n2_ n3_ n4_ n5_ n6_ n7_ n8_ n9_; clear hb hbox hg; have hnb5 := NB285_286.out; have hnc5 := NB286_285.out; have hnb6 := NB285_287.out; have hnc6 := NB287_285.out; have hcz7_0 := bc BK285 0; have hcz7_1 := bc BK285 1; have hcz7_2 := bc BK285 2; have hfz7_0 := qC BK285.out 0; have hfz7_1 := qC BK285.out 1; have hfz7_2 := qC BK285.out 2; have hnb8 := NB287_286.out; have hnc8 := NB286_287.out; have hcz9_0 := bc BK287 0; have hcz9_1 := bc BK287 1; have hcz9_2 := bc BK287 2; have hfz9_0 := qC BK287.out 0; have hfz9_1 := qC BK287.out 1; have hfz9_2 := qC BK287.out 2; have hcz10_0 := bc BK286 0; have hcz10_1 := bc BK286 1; have hcz10_2 := bc BK286 2; have hfz10_0 := qC BK286.out 0; have hfz10_1 := qC BK286.out 1; have hfz10_2 := qC BK286.out 2))
 refine bodyPost_ret (results_cell_row rfl _ _ gb286 27 #[.int .i64 a0_0, .int .i64 a0_1, .int .i64 a0_2] (0, 0) _ rfl (by (with_reducible repeat (first | refine qB ?_ _ | refine qD ?_ | refine qA ?_ _)); refine qQ (cs := #[.int .i64 a0_0, .int .i64 a0_1, .int .i64 0]) ?_ 2 _ rfl; (with_reducible repeat (first | refine qB ?_ _ | refine qD ?_ | refine qA ?_ _)); refine qQ (cs := #[.int .i64 a0_0, .int .i64 0, .int .i64 0]) ?_ 1 _ rfl; (with_reducible repeat (first | refine qB ?_ _ | refine qD ?_ | refine qA ?_ _)); refine qQ (cs := #[.int .i64 0, .int .i64 0, .int .i64 0]) ?_ 0 _ rfl; (with_reducible repeat (first | refine qB ?_ _ | refine qD ?_ | refine qA ?_ _)); refine qN ?_ NB286_287.out _; (with_reducible repeat (first | refine qB ?_ _ | refine qD ?_ | refine qA ?_ _)); refine qN ?_ NB286_287.out _; (with_reducible repeat (first | refine qB ?_ _ | refine qD ?_ | refine qA ?_ _)); refine qN ?_ NB286_287.out _; (with_reducible repeat (first | refine qB ?_ _ | refine qD ?_ | refine qA ?_ _)); exact BK286.out) Tryd.underlying27 rfl (by kernel_rfl)) rfl ?_
 exact ⟨by first | rfl | (simp [qJ, qI] <;> rfl) | (simp [*, qJ, qI] <;> rfl), bl⟩
def qXA.f (a0 : Int) (a1 : Int) (a2 : Int) : Option (Bool) := if a1 ≤ a0 then (some (decide (a0 ≤ a2))) else (some false)
set_option maxHeartbeats 8000000 in
set_option maxRecDepth 100000 in
theorem qXA.calls (a0 : Int) (a1 : Int) (a2 : Int) (r : Bool) (w : World) (h : qXA.f a0 a1 a2 = some r) :
  Calls Tryd.prog 51 #[.int .i64 a0, .int .i64 a1, .int .i64 a2] w fun e w' => e = .returned (.bool r) ∧ Drawn0 w w' := by
 have H : (if a1 ≤ a0 then (some (decide (a0 ≤ a2))) else (some false)) = some r := h
 clear h
 by_cases c4 : a1 ≤ a0
 ·rw [if_pos c4] at H
  have c4b0 : decide (a1 ≤ a0) = true := decide_eq_true c4
  clear c4
  obtain rfl := Option.some.inj H
  go_enter Tryd.func51, Tryd.ntmps51
  go_wp2
  go_ret
  exact ⟨by first | rfl | (simp; done) | (simp [*]; done), by repeat (first | exact Drawn0.refl _ | apply Drawn0.step)⟩
 ·rw [if_neg c4] at H
  have c4b0 : decide (a1 ≤ a0) = false := decide_eq_false c4
  clear c4
  obtain rfl := Option.some.inj H
  go_enter Tryd.func51, Tryd.ntmps51
  go_wp2
  go_ret
  exact ⟨by first | rfl | (simp; done) | (simp [*]; done), by repeat (first | exact Drawn0.refl _ | apply Drawn0.step)⟩
end Go.Proofs.YtdagdhmcebeadaaDoor.P
namespace Go.Proofs
open Go.Shelf
def Tryd.lays138_ren : Go.Shelf.Ren := ⟨fun | 138 => 50 | 195 => 68 | 218 => 69 | 143 => 70 | 219 => 81 | 217 => 87 | 225 => 88 | 224 => 89 | 267 => 90 | 266 => 94 | 314 => 95 | n => n, fun | 9 => 9 | 3 => 3 | 4 => 4 | 5 => 5 | 0 => 0 | 46 => 61 | 146 => 129 | 51 => 80 | n => n, fun | 1 => 0 | n => n⟩
theorem Tryd.lays138 : Go.Proofs.Lays.n138 Tryd.prog Tryd.lays138_ren := {
 mixed := by kernel_rfl
 f138 := Tryd.func50.trans (congrArg some (by kernel_rfl))
 f143 := Tryd.func70.trans (congrArg some (by kernel_rfl))
 f195 := Tryd.func68.trans (congrArg some (by kernel_rfl))
 f217 := Tryd.func87.trans (congrArg some (by kernel_rfl))
 f218 := Tryd.func69.trans (congrArg some (by kernel_rfl))
 f219 := Tryd.func81.trans (congrArg some (by kernel_rfl))
 f224 := Tryd.func89.trans (congrArg some (by kernel_rfl))
 f225 := Tryd.func88.trans (congrArg some (by kernel_rfl))
 f266 := Tryd.func94.trans (congrArg some (by kernel_rfl))
 f267 := Tryd.func90.trans (congrArg some (by kernel_rfl))
 f314 := Tryd.func95.trans (congrArg some (by kernel_rfl))
 t0 := Tryd.underlying0
 a0 := Tryd.isAgg0
 z0 := Tryd.sizeOf0
 v0 := Tryd.zeroValue0
 t3 := Tryd.underlying3
 a3 := Tryd.isAgg3
 z3 := Tryd.sizeOf3
 v3 := Tryd.zeroValue3
 t4 := Tryd.underlying4
 a4 := Tryd.isAgg4
 z4 := Tryd.sizeOf4
 v4 := Tryd.zeroValue4
 t5 := Tryd.underlying5
 a5 := Tryd.isAgg5
 z5 := Tryd.sizeOf5
 v5 := Tryd.zeroValue5
 t9 := Tryd.underlying9
 a9 := Tryd.isAgg9
 z9 := Tryd.sizeOf9
 v9 := Tryd.zeroValue9
 t46 := Tryd.underlying61
 a46 := Tryd.isAgg61
 z46 := Tryd.sizeOf61
 v46 := Tryd.zeroValue61
 t51 := Tryd.underlying80
 a51 := Tryd.isAgg80
 z51 := Tryd.sizeOf80
 v51 := Tryd.zeroValue80
 t146 := Tryd.underlying129
 a146 := Tryd.isAgg129
 z146 := Tryd.sizeOf129
 v146 := Tryd.zeroValue129
 g1 := by kernel_rfl }
open Go.RowKit Go.Lib in
theorem Tryd.strings_Count_one (s : ByteArray) (c : UInt8) (w : World) :
  Calls Tryd.prog 50 #[.string s, .string ⟨#[c]⟩] w fun e w' => e = .returned (.int .i64 (Lib.countByte s.data.toList c)) ∧ w' = w := Any.strings_Count_one Tryd.lays138 s c w
def Tryd.lays146_ren : Go.Shelf.Ren := ⟨fun | 146 => 66 | 221 => 73 | 268 => 82 | 138 => 50 | 143 => 70 | 195 => 68 | 197 => 84 | 218 => 69 | 219 => 81 | 260 => 91 | 217 => 87 | 225 => 88 | 224 => 89 | 267 => 90 | 266 => 94 | 314 => 95 | n => n, fun | 9 => 9 | 31 => 35 | 3 => 3 | 4 => 4 | 0 => 0 | 105 => 124 | 21 => 21 | 5 => 5 | 46 => 61 | 119 => 131 | 139 => 134 | 138 => 133 | 146 => 129 | 51 => 80 | n => n, fun | 1 => 0 | 3 => 1 | 4 => 2 | n => n⟩
theorem Tryd.lays146 : Go.Proofs.Lays.n146 Tryd.prog Tryd.lays146_ren := {
 mixed := by kernel_rfl
 f138 := Tryd.func50.trans (congrArg some (by kernel_rfl))
 f143 := Tryd.func70.trans (congrArg some (by kernel_rfl))
 f146 := Tryd.func66.trans (congrArg some (by kernel_rfl))
 f195 := Tryd.func68.trans (congrArg some (by kernel_rfl))
 f197 := Tryd.func84.trans (congrArg some (by kernel_rfl))
 f217 := Tryd.func87.trans (congrArg some (by kernel_rfl))
 f218 := Tryd.func69.trans (congrArg some (by kernel_rfl))
 f219 := Tryd.func81.trans (congrArg some (by kernel_rfl))
 f221 := Tryd.func73.trans (congrArg some (by kernel_rfl))
 f224 := Tryd.func89.trans (congrArg some (by kernel_rfl))
 f225 := Tryd.func88.trans (congrArg some (by kernel_rfl))
 f260 := Tryd.func91.trans (congrArg some (by kernel_rfl))
 f266 := Tryd.func94.trans (congrArg some (by kernel_rfl))
 f267 := Tryd.func90.trans (congrArg some (by kernel_rfl))
 f268 := Tryd.func82.trans (congrArg some (by kernel_rfl))
 f314 := Tryd.func95.trans (congrArg some (by kernel_rfl))
 t0 := Tryd.underlying0
 a0 := Tryd.isAgg0
 z0 := Tryd.sizeOf0
 v0 := Tryd.zeroValue0
 t3 := Tryd.underlying3
 a3 := Tryd.isAgg3
 z3 := Tryd.sizeOf3
 v3 := Tryd.zeroValue3
 t4 := Tryd.underlying4
 a4 := Tryd.isAgg4
 z4 := Tryd.sizeOf4
 v4 := Tryd.zeroValue4
 t5 := Tryd.underlying5
 a5 := Tryd.isAgg5
 z5 := Tryd.sizeOf5
 v5 := Tryd.zeroValue5
 t9 := Tryd.underlying9
 a9 := Tryd.isAgg9
 z9 := Tryd.sizeOf9
 v9 := Tryd.zeroValue9
 t21 := Tryd.underlying21
 a21 := Tryd.isAgg21
 z21 := Tryd.sizeOf21
 v21 := Tryd.zeroValue21
 t31 := Tryd.underlying35
 a31 := Tryd.isAgg35
 z31 := Tryd.sizeOf35
 v31 := Tryd.zeroValue35
 t46 := Tryd.underlying61
 a46 := Tryd.isAgg61
 z46 := Tryd.sizeOf61
 v46 := Tryd.zeroValue61
 t51 := Tryd.underlying80
 a51 := Tryd.isAgg80
 z51 := Tryd.sizeOf80
 v51 := Tryd.zeroValue80
 t105 := Tryd.underlying124
 a105 := Tryd.isAgg124
 z105 := Tryd.sizeOf124
 v105 := Tryd.zeroValue124
 t119 := Tryd.underlying131
 a119 := Tryd.isAgg131
 z119 := Tryd.sizeOf131
 t138 := Tryd.underlying133
 a138 := Tryd.isAgg133
 z138 := Tryd.sizeOf133
 v138 := Tryd.zeroValue133
 t139 := Tryd.underlying134
 a139 := Tryd.isAgg134
 z139 := Tryd.sizeOf134
 v139 := Tryd.zeroValue134
 t146 := Tryd.underlying129
 a146 := Tryd.isAgg129
 z146 := Tryd.sizeOf129
 v146 := Tryd.zeroValue129
 g1 := by kernel_rfl
 g3 := by kernel_rfl
 g4 := by kernel_rfl }
open Go.RowKit Go.Lib in
theorem Tryd.strings_Split (s sep : ByteArray) (m : Int) (w : World) (hs : s.size < 4294967281) (hm : w.cell? ⟨0, 0, none⟩ = some (.int .i64 m)) (h1 : 1 ≤ sep.size) :
  Calls Tryd.prog 66 #[.string s, .string sep] w fun e w' =>
   e = .returned (.slice (some ⟨w.heap.size, 0, none⟩) (Lib.countB s sep + 1) (Lib.countB s sep + 1)) ∧ w' = w.alloc (.cells ((Lib.splitB sep 0 (Lib.countB s sep) s).map Value.string).toArray 9) := Any.strings_Split Tryd.lays146 (by kernel_rfl) s sep m w hs hm h1
def Tryd.lays160_ren : Go.Shelf.Ren := ⟨fun | 160 => 67 | 232 => 75 | 231 => 74 | 227 => 76 | 234 => 78 | 233 => 77 | 236 => 80 | 235 => 79 | 228 => 83 | 271 => 86 | 151 => 85 | 197 => 84 | 120 => 93 | 152 => 92 | 260 => 91 | 137 => 96 | 119 => 97 | 224 => 89 | 225 => 88 | 217 => 87 | 266 => 94 | n => n, fun | 9 => 9 | 4 => 4 | 3 => 3 | 5 => 5 | 117 => 118 | 116 => 117 | 0 => 0 | 124 => 121 | 21 => 21 | 105 => 124 | 46 => 61 | 119 => 131 | 139 => 134 | 138 => 133 | n => n, fun | 3 => 1 | 4 => 2 | n => n⟩
theorem Tryd.lays160 : Go.Proofs.Lays.n160 Tryd.prog Tryd.lays160_ren := {
 mixed := by kernel_rfl
 f119 := Tryd.func97.trans (congrArg some (by kernel_rfl))
 f120 := Tryd.func93.trans (congrArg some (by kernel_rfl))
 f137 := Tryd.func96.trans (congrArg some (by kernel_rfl))
 f151 := Tryd.func85.trans (congrArg some (by kernel_rfl))
 f152 := Tryd.func92.trans (congrArg some (by kernel_rfl))
 f160 := Tryd.func67.trans (congrArg some (by kernel_rfl))
 f197 := Tryd.func84.trans (congrArg some (by kernel_rfl))
 f217 := Tryd.func87.trans (congrArg some (by kernel_rfl))
 f224 := Tryd.func89.trans (congrArg some (by kernel_rfl))
 f225 := Tryd.func88.trans (congrArg some (by kernel_rfl))
 f227 := Tryd.func76.trans (congrArg some (by kernel_rfl))
 f228 := Tryd.func83.trans (congrArg some (by kernel_rfl))
 f231 := Tryd.func74.trans (congrArg some (by kernel_rfl))
 f232 := Tryd.func75.trans (congrArg some (by kernel_rfl))
 f233 := Tryd.func77.trans (congrArg some (by kernel_rfl))
 f234 := Tryd.func78.trans (congrArg some (by kernel_rfl))
 f235 := Tryd.func79.trans (congrArg some (by kernel_rfl))
 f236 := Tryd.func80.trans (congrArg some (by kernel_rfl))
 f260 := Tryd.func91.trans (congrArg some (by kernel_rfl))
 f266 := Tryd.func94.trans (congrArg some (by kernel_rfl))
 f271 := Tryd.func86.trans (congrArg some (by kernel_rfl))
 t0 := Tryd.underlying0
 a0 := Tryd.isAgg0
 z0 := Tryd.sizeOf0
 v0 := Tryd.zeroValue0
 t3 := Tryd.underlying3
 a3 := Tryd.isAgg3
 z3 := Tryd.sizeOf3
 v3 := Tryd.zeroValue3
 t4 := Tryd.underlying4
 a4 := Tryd.isAgg4
 z4 := Tryd.sizeOf4
 v4 := Tryd.zeroValue4
 t5 := Tryd.underlying5
 a5 := Tryd.isAgg5
 z5 := Tryd.sizeOf5
 v5 := Tryd.zeroValue5
 t9 := Tryd.underlying9
 a9 := Tryd.isAgg9
 z9 := Tryd.sizeOf9
 v9 := Tryd.zeroValue9
 t21 := Tryd.underlying21
 a21 := Tryd.isAgg21
 z21 := Tryd.sizeOf21
 v21 := Tryd.zeroValue21
 t46 := Tryd.underlying61
 a46 := Tryd.isAgg61
 z46 := Tryd.sizeOf61
 v46 := Tryd.zeroValue61
 t105 := Tryd.underlying124
 a105 := Tryd.isAgg124
 z105 := Tryd.sizeOf124
 v105 := Tryd.zeroValue124
 t116 := Tryd.underlying117
 a116 := Tryd.isAgg117
 z116 := Tryd.sizeOf117
 t117 := Tryd.underlying118
 a117 := Tryd.isAgg118
 z117 := Tryd.sizeOf118
 v117 := Tryd.zeroValue118
 t119 := Tryd.underlying131
 a119 := Tryd.isAgg131
 z119 := Tryd.sizeOf131
 t124 := Tryd.underlying121
 a124 := Tryd.isAgg121
 z124 := Tryd.sizeOf121
 v124 := Tryd.zeroValue121
 t138 := Tryd.underlying133
 a138 := Tryd.isAgg133
 z138 := Tryd.sizeOf133
 v138 := Tryd.zeroValue133
 t139 := Tryd.underlying134
 a139 := Tryd.isAgg134
 z139 := Tryd.sizeOf134
 v139 := Tryd.zeroValue134
 g3 := by kernel_rfl
 g4 := by kernel_rfl }
end Go.Proofs
namespace Go.Proofs.YtdagdhmcebeadaaDoor
open Go.RowKit Go.Proofs.YtdagdhmcebeadaaDoorW.PrintWords Go.Proofs.YtdagdhmcebeadaaDoorW.PrintLast
set_option linter.unusedVariables false
set_option linter.unusedSimpArgs false
def strings_Split.f (a0 a1 : ByteArray) : Option (List ByteArray) := if a0.size < 4294967281 ∧ 1 ≤ a1.size then some (Lib.splitB a1 0 (Lib.countB a0 a1) a0) else none
theorem strings_Split.calls (a0 a1 : ByteArray) (r : List ByteArray) (w : World) (hL : Laid w) (h : strings_Split.f a0 a1 = some r) :
  Calls Tryd.prog 66 #[.string a0, .string a1] w fun e w' => ∃ v0_ : Value, e = .returned v0_ ∧ Kd.R Kd.string 9 w' w.heap.size (fun _ => True) v0_ r ∧ Below w.heap.size w w' := by
 unfold strings_Split.f at h
 split at h
 ·rename_i hs
  obtain rfl := Option.some.inj h
  obtain ⟨m, hm⟩ := hL
  have hlen := Lib.splitB_all a1 hs.2 0 _ a0 rfl
  have hle := Lib.countB_le a1 hs.2 a0.size a0 (Nat.le_refl _)
  refine (Tryd.strings_Split a0 a1 m w hs.1 hm hs.2).mono fun e w' ⟨h1, h2⟩ => ⟨_, h1, ?_, ?_⟩
  ·subst h2
   generalize Lib.splitB a1 0 (Lib.countB a0 a1) a0 = l at *
   rw [← hlen]
   refine Kd.R_of_own ⟨by rw [encs_length, Nat.mul_one], .inr ⟨w.heap.size, l.length, (l.map Value.string).toArray, rfl, Nat.le_refl _, ?_, Nat.le_refl _, ?_, ?_, ?_⟩⟩ (fun _ _ => trivial)
   ·exact qbC _ _
   ·unfold maxLen; omega
   ·simp
   ·simp only [encs, Nat.mul_one]
    rw [List.take_of_length_le (by simp)]
  ·subst h2
   exact qv (Below.refl _ _) _
 ·cases h
def qmA.f (a0 a1 : ByteArray) : Option ByteArray := if a0.size ≤ 9223372036854775807 ∧ a1.size < 4294967281 ∧ (a1.data.toList.all fun b => decide (b.toNat < 128)) = true then some ⟨(Lib.trimS a0.data.toList a1.data.toList).toArray⟩ else none
theorem qmA.calls (a0 a1 : ByteArray) (r : ByteArray) (w : World) (h : qmA.f a0 a1 = some r) :
  Calls Tryd.prog 67 #[.string a0, .string a1] w fun e w' => e = .returned (.string r) ∧ Below w.heap.size w w' := by
 unfold qmA.f at h
 split at h
 ·rename_i hs
  obtain rfl := Option.some.inj h
  exact Any.strings_Trim_laid Tryd.lays160 (by kernel_rfl) a0 a1 w hs.1 hs.2.1 (ascii_of_all hs.2.2)
 ·cases h
end Go.Proofs.YtdagdhmcebeadaaDoor
namespace Go.Proofs.YtdagdhmcebeadaaDoor.P
open Go.RowKit Go.Proofs.YtdagdhmcebeadaaDoorW.PrintWords Go.Proofs.YtdagdhmcebeadaaDoorW.PrintLast Go.Proofs.YtdagdhmcebeadaaDoorW.PrintMore
attribute [local go_sem] qDA qBA qLA qKA qq qp qCA qAA
set_option linter.unusedVariables false
set_option linter.unusedSimpArgs false
def qOA.l0 : Nat → ByteArray → Int → List ByteArray → Int → Int → Option (List ByteArray × Bool)
 | 0, _, _, _, _, _ => none
 | k + 1, x1, x7, x11, x17, x18 => if x18 < x17 then (if 0 ≤ x18 then (if x18 < (x11.length : Int) then (if ((rdOf ByteArray.empty x11 x18).size : Int) = x7 then ((qmA.f (rdOf ByteArray.empty x11 x18) x1).bind fun t297 => (if t297.toList = ([] : List UInt8) then (qOA.l0 k x1 x7 x11 x17 (wrap64 (x18 + 1))) else (some (([] : List ByteArray), false)))) else (some (([] : List ByteArray), false))) else (none)) else (none)) else ((qXA.f (x11.length : Int) 1 7).bind fun t298 => (if t298 = true then ((qXA.f x7 1 7).bind fun t299 => (if t299 = true then (some (x11, decide ((wrap64 (x7 * (x11.length : Int))) ≤ 36))) else (some (x11, false)))) else (some (x11, false))))
def qOA.f (k : Nat) (a0 : ByteArray) (a1 : ByteArray) : Option (List ByteArray × Bool) := (strings_Split.f a0 (⟨#[47]⟩ : ByteArray)).bind fun t292 => (if 0 < (t292.length : Int) then (qOA.l0 k a1 ((rdOf ByteArray.empty t292 0).size : Int) t292 (t292.length : Int) 0) else (none))
set_option maxHeartbeats 8000000 in
set_option maxRecDepth 100000 in
theorem qOA.calls (k : Nat) (a0 : ByteArray) (a1 : ByteArray) (r1 : List ByteArray) (r2 : Bool) (w : World) (hL : Laid w) (h : qOA.f k a0 a1 = some (r1, r2)) :
  Calls Tryd.prog 49 #[.string a0, .string a1] w fun e w' => ∃ v0_ : Value, e = .returned (.tuple #[v0_, .bool r2]) ∧ Kd.R Kd.string 9 w' w.heap.size (fun _ => True) v0_ r1 ∧ Below w.heap.size w w' := by
 have HLD := Aside0.mk hL
 clear hL
 have HB := Aside0.mk (Below.refl w.heap.size w)
 have H : ((strings_Split.f a0 (⟨#[47]⟩ : ByteArray)).bind fun t292 => (if 0 < (t292.length : Int) then (qOA.l0 k a1 ((rdOf ByteArray.empty t292 0).size : Int) t292 (t292.length : Int) 0) else (none))) = some (r1, r2) := h
 clear h
 replace H := Option.bind_eq_some_iff.mp H
 obtain ⟨t292, A30, H⟩ := H
 replace H : (if 0 < (t292.length : Int) then (qOA.l0 k a1 ((rdOf ByteArray.empty t292 0).size : Int) t292 (t292.length : Int) 0) else (none)) = some (r1, r2) := H
 have A3 := Aside0.mk A30
 clear A30
 by_cases c4 : 0 < (t292.length : Int)
 ·rw [if_pos c4] at H
  have c4b0 : decide (0 < (t292.length : Int)) = true := decide_eq_true c4
  have c4b1 : decide (0 < t292.length) = true := decide_eq_true (by omega)
  clear c4
  have H' := Aside0.mk H
  clear H
  go_enter Tryd.func49, Tryd.ntmps49
  go_wp2_with (first | ((with_reducible refine qS (f := 66) rfl ?_); refine qt (some 11) rfl rfl Tryd.func66 (by kernel_rfl) rfl #[.string a0, .string (⟨#[47]⟩ : ByteArray)] rfl (by (try simp only [List.map_toArray, List.map_cons, List.map_nil]); first | done | rfl | (simp only [List.length_drop, List.length_take]; rfl)) ?_; (with_reducible refine (strings_Split.calls a0 (⟨#[47]⟩ : ByteArray) t292 _ ?side1 A3.out).mono ?_); (case side1 => first | exact HLD.out | exact Laid.below HLD.out (by repeat (first | (with_reducible first | exact HB.out | apply qv | apply qu | apply qm | refine qVA ?_ (Aside0.out (by with_reducible assumption))) | exact HB.out))); rintro e w5 ⟨v293, rfl, ho0, hb⟩; refine ⟨_, rfl, ?_⟩; have n0_ := Aside0.mk (Kd.qHA ho0 (qg bl)); have n1_ := Aside0.mk (qG bl hb); clear HB; have HO294 := n0_; have HB := n1_; clear n0_ n1_; (try clear hb); (try clear hb2); (try clear hk); (try clear hi); (try clear ho0); obtain ⟨Ao6, co6, eo6⟩ := Kd.qo HO294.out; subst eo6; have p295 : 0 ≤ (0 : Int) := (by omega); have q295 : 0 < (t292.length : Int) := of_decide_eq_true (by first | (with_reducible assumption) | assumption); obtain ⟨ad295, e295, hx295_0⟩ := Kd.qKB (Kd.qT HO294.out).2.2 0 p295 q295; cases e295; have qi295 : (0 < t292.length) = True := eq_true (by omega); (try rw [show ((0 : Int)).toNat = 0 from rfl] at hx295_0); (try rw [Addr.add_zero'] at hx295_0); replace p295 := eq_true p295; replace q295 := eq_true q295))
  go_loopg [18] k (fun kq v18 w' => ∃ (x18_1 : Int), v18 = .int .i64 x18_1 ∧ Aside0 (qOA.l0 kq a1 ((rdOf ByteArray.empty t292 0).size : Int) t292 (t292.length : Int) x18_1 = some (r1, r2)) ∧ Aside0 (kq ≤ k) ∧ Aside0 (Kd.R Kd.string 9 w' w.heap.size (fun _ => True) (.slice (some ad295) t292.length co6) t292) ∧ Aside0 (Below w.heap.size w w'))
  case atStart => exact ⟨(0), (by first | rfl | (simp; done) | (simp [*]; done)), H', ⟨Nat.le_refl _⟩, ⟨by (with_reducible repeat (first | apply Kd.qF | apply Kd.qE | apply Kd.qH)); exact HO294.out⟩, ⟨bl⟩⟩
  case round =>
   clear H'
   try clear p2
   try clear q2
   try clear hx2
   try clear qi2
   try clear c4
   try clear c4b0
   try clear c4b1
   try clear c6
   try clear hx295_0
   try clear p295
   try clear q295
   obtain ⟨x18_1, rfl, HA, HK1, HO_11, HB⟩ := hrel
   cases gk with
   | zero => exact absurd HA.out (by simp [qOA.l0])
   | succ k1 =>
    have H := HA.out
    clear HA
    simp only [qOA.l0] at H
    by_cases c7 : x18_1 < (t292.length : Int)
    ·rw [if_pos c7] at H
     have c7b0 : decide (x18_1 < (t292.length : Int)) = true := decide_eq_true c7
     clear c7
     by_cases c8 : 0 ≤ x18_1
     ·rw [if_pos c8] at H
      have c8b0 : decide (0 ≤ x18_1) = true := decide_eq_true c8
      clear c8
      by_cases c9 : x18_1 < (t292.length : Int)
      ·rw [if_pos c9] at H
       have c9b0 : decide (x18_1 < (t292.length : Int)) = true := decide_eq_true c9
       clear c9
       by_cases c10 : ((rdOf ByteArray.empty t292 x18_1).size : Int) = ((rdOf ByteArray.empty t292 0).size : Int)
       ·rw [if_pos c10] at H
        have c10b0 : (((rdOf ByteArray.empty t292 x18_1).size : Int) == ((rdOf ByteArray.empty t292 0).size : Int)) = true := beq_iff_eq.mpr c10
        have c10b1 : (((rdOf ByteArray.empty t292 x18_1).size : Int) != ((rdOf ByteArray.empty t292 0).size : Int)) = false := bne_eq_false_iff_eq.mpr c10
        have c10b2 : ((rdOf ByteArray.empty t292 x18_1).size == (rdOf ByteArray.empty t292 0).size) = true := by first | simpa using c10 | (simp at c10 ⊢; omega)
        clear c10
        replace H := Option.bind_eq_some_iff.mp H
        obtain ⟨t297, A110, H⟩ := H
        replace H : (if t297.toList = ([] : List UInt8) then (qOA.l0 k1 a1 ((rdOf ByteArray.empty t292 0).size : Int) t292 (t292.length : Int) (wrap64 (x18_1 + 1))) else (some (([] : List ByteArray), false))) = some (r1, r2) := H
        have A11 := Aside0.mk A110
        clear A110
        by_cases c12 : t297.toList = ([] : List UInt8)
        ·rw [if_pos c12] at H
         have c12b0 : (t297.toList == ([] : List UInt8)) = true := beq_iff_eq.mpr c12
         have c12b1 : (t297.toList != ([] : List UInt8)) = false := bne_eq_false_iff_eq.mpr c12
         clear c12
         have H' := Aside0.mk H
         clear H
         have p296 : 0 ≤ (x18_1 : Int) := of_decide_eq_true (by first | (with_reducible assumption) | assumption)
         have q296 : x18_1 < (t292.length : Int) := of_decide_eq_true (by first | (with_reducible assumption) | assumption)
         obtain ⟨ad296, e296, hx296_0⟩ := Kd.qKB (Kd.qT HO_11.out).2.2 x18_1 p296 q296
         obtain rfl : ad295 = ad296 := (by injection e296)
         replace p296 := eq_true p296
         replace q296 := eq_true q296
         go_wp2_with (first | (go_at_call 67; (with_reducible refine (qmA.calls (rdOf ByteArray.empty t292 x18_1) a1 t297 _ A11.out).mono ?_); rintro e w13 ⟨rfl, hb⟩; have n0_ := Aside0.mk (Kd.qa (by (with_reducible repeat (first | apply Kd.qF | apply Kd.qE | apply Kd.qH)); exact HO_11.out) hb); have n1_ := Aside0.mk (qG bl hb); clear HO_11; clear HB; have HO_11 := n0_; have HB := n1_; clear n0_ n1_; (try clear hb); (try clear hb2); (try clear hk); (try clear hi)))
         go_roundg k1
         case measure => have := HK1.out; omega
         case rel => exact ⟨(wrap64 (x18_1 + 1)), (by first | rfl | (simp; done) | (simp [*]; done)), H', ⟨by have := HK1.out; omega⟩, ⟨by (with_reducible repeat (first | apply Kd.qF | apply Kd.qE | apply Kd.qH)); exact HO_11.out⟩, ⟨bl⟩⟩
        ·rw [if_neg c12] at H
         have c12b0 : (t297.toList == ([] : List UInt8)) = false := beq_eq_false_iff_ne.mpr c12
         have c12b1 : (t297.toList != ([] : List UInt8)) = true := bne_iff_ne.mpr c12
         simp only [Option.some.injEq, Prod.mk.injEq] at H
         obtain ⟨rfl, rfl⟩ := H
         have p296 : 0 ≤ (x18_1 : Int) := of_decide_eq_true (by first | (with_reducible assumption) | assumption)
         have q296 : x18_1 < (t292.length : Int) := of_decide_eq_true (by first | (with_reducible assumption) | assumption)
         obtain ⟨ad296, e296, hx296_0⟩ := Kd.qKB (Kd.qT HO_11.out).2.2 x18_1 p296 q296
         obtain rfl : ad295 = ad296 := (by injection e296)
         replace p296 := eq_true p296
         replace q296 := eq_true q296
         go_wp2_with (first | (go_at_call 67; (with_reducible refine (qmA.calls (rdOf ByteArray.empty t292 x18_1) a1 t297 _ A11.out).mono ?_); rintro e w14 ⟨rfl, hb⟩; have n0_ := Aside0.mk (Kd.qa (by (with_reducible repeat (first | apply Kd.qF | apply Kd.qE | apply Kd.qH)); exact HO_11.out) hb); have n1_ := Aside0.mk (qG bl hb); clear HO_11; clear HB; have HO_11 := n0_; have HB := n1_; clear n0_ n1_; (try clear hb); (try clear hb2); (try clear hk); (try clear hi)))
         go_ret2
         exact ⟨_, by first | rfl | (simp [qJ, qI] <;> rfl) | (simp [*, qJ, qI] <;> rfl), by first | exact Kd.R_nil _ _ _ _ _ | exact Kd.N_nil _ _ _ _ _ | exact Kd.V_nil _ _ _ _ _ | exact Kd.Q_nil _ _ _ _ _ | exact Kd.S_nil _ _ _ _ _, bl⟩
       ·rw [if_neg c10] at H
        have c10b0 : (((rdOf ByteArray.empty t292 x18_1).size : Int) == ((rdOf ByteArray.empty t292 0).size : Int)) = false := beq_eq_false_iff_ne.mpr c10
        have c10b1 : (((rdOf ByteArray.empty t292 x18_1).size : Int) != ((rdOf ByteArray.empty t292 0).size : Int)) = true := bne_iff_ne.mpr c10
        have c10b2 : ((rdOf ByteArray.empty t292 x18_1).size == (rdOf ByteArray.empty t292 0).size) = false := by first | simpa using c10 | (simp at c10 ⊢; omega)
        simp only [Option.some.injEq, Prod.mk.injEq] at H
        obtain ⟨rfl, rfl⟩ := H
        have p296 : 0 ≤ (x18_1 : Int) := of_decide_eq_true (by first | (with_reducible assumption) | assumption)
        have q296 : x18_1 < (t292.length : Int) := of_decide_eq_true (by first | (with_reducible assumption) | assumption)
        obtain ⟨ad296, e296, hx296_0⟩ := Kd.qKB (Kd.qT HO_11.out).2.2 x18_1 p296 q296
        obtain rfl : ad295 = ad296 := (by injection e296)
        replace p296 := eq_true p296
        replace q296 := eq_true q296
        go_wp2
        go_ret2
        exact ⟨_, by first | rfl | (simp [qJ, qI] <;> rfl) | (simp [*, qJ, qI] <;> rfl), by first | exact Kd.R_nil _ _ _ _ _ | exact Kd.N_nil _ _ _ _ _ | exact Kd.V_nil _ _ _ _ _ | exact Kd.Q_nil _ _ _ _ _ | exact Kd.S_nil _ _ _ _ _, bl⟩
      ·rw [if_neg c9] at H
       exact absurd H (by simp)
     ·rw [if_neg c8] at H
      exact absurd H (by simp)
    ·rw [if_neg c7] at H
     have c7b0 : decide (x18_1 < (t292.length : Int)) = false := decide_eq_false c7
     clear c7
     replace H := Option.bind_eq_some_iff.mp H
     obtain ⟨t298, A150, H⟩ := H
     replace H : (if t298 = true then ((qXA.f ((rdOf ByteArray.empty t292 0).size : Int) 1 7).bind fun t299 => (if t299 = true then (some (t292, decide ((wrap64 (((rdOf ByteArray.empty t292 0).size : Int) * (t292.length : Int))) ≤ 36))) else (some (t292, false)))) else (some (t292, false))) = some (r1, r2) := H
     have A15 := Aside0.mk A150
     clear A150
     by_cases c16 : t298 = true
     ·subst c16
      have H1 : ((qXA.f ((rdOf ByteArray.empty t292 0).size : Int) 1 7).bind fun t299 => (if t299 = true then (some (t292, decide ((wrap64 (((rdOf ByteArray.empty t292 0).size : Int) * (t292.length : Int))) ≤ 36))) else (some (t292, false)))) = some (r1, r2) := by rw [if_pos rfl] at H; exact H
      clear H
      have H := H1
      clear H1
      replace H := Option.bind_eq_some_iff.mp H
      obtain ⟨t299, A170, H⟩ := H
      replace H : (if t299 = true then (some (t292, decide ((wrap64 (((rdOf ByteArray.empty t292 0).size : Int) * (t292.length : Int))) ≤ 36))) else (some (t292, false))) = some (r1, r2) := H
      have A17 := Aside0.mk A170
      clear A170
      by_cases c18 : t299 = true
      ·subst c18
       have H1 : (some (t292, decide ((wrap64 (((rdOf ByteArray.empty t292 0).size : Int) * (t292.length : Int))) ≤ 36))) = some (r1, r2) := by rw [if_pos rfl] at H; exact H
       clear H
       have H := H1
       clear H1
       simp only [Option.some.injEq, Prod.mk.injEq] at H
       obtain ⟨rfl, rfl⟩ := H
       go_wp2_with (first | ((with_reducible refine qS (f := 51) rfl ?_); refine qt (some 36) rfl rfl Tryd.func51 (by kernel_rfl) rfl #[.int .i64 (t292.length : Int), .int .i64 1, .int .i64 7] rfl (by (try simp only [List.map_toArray, List.map_cons, List.map_nil]); first | done | rfl | (simp only [List.length_drop, List.length_take]; rfl)) ?_; (with_reducible refine (qXA.calls (t292.length : Int) 1 7 true _ A15.out).mono ?_); rintro e w' ⟨rfl, ⟨nd, rfl⟩⟩; refine ⟨_, rfl, ?_⟩) | (go_at_call 51; (with_reducible refine (qXA.calls ((rdOf ByteArray.empty t292 0).size : Int) 1 7 true _ A17.out).mono ?_); rintro e w' ⟨rfl, ⟨nd, rfl⟩⟩))
       go_ret2
       exact ⟨_, by first | rfl | (simp [qJ, qI] <;> rfl) | (simp [*, qJ, qI] <;> rfl), by (with_reducible repeat (first | apply Kd.qF | apply Kd.qE | apply Kd.qH)); exact HO_11.out, bl⟩
      ·replace c18 := Bool.eq_false_iff.mpr c18
       subst c18
       have H1 : (some (t292, false)) = some (r1, r2) := by rw [if_neg (show ¬ (false = true) by decide)] at H; exact H
       clear H
       have H := H1
       clear H1
       simp only [Option.some.injEq, Prod.mk.injEq] at H
       obtain ⟨rfl, rfl⟩ := H
       go_wp2_with (first | ((with_reducible refine qS (f := 51) rfl ?_); refine qt (some 36) rfl rfl Tryd.func51 (by kernel_rfl) rfl #[.int .i64 (t292.length : Int), .int .i64 1, .int .i64 7] rfl (by (try simp only [List.map_toArray, List.map_cons, List.map_nil]); first | done | rfl | (simp only [List.length_drop, List.length_take]; rfl)) ?_; (with_reducible refine (qXA.calls (t292.length : Int) 1 7 true _ A15.out).mono ?_); rintro e w' ⟨rfl, ⟨nd, rfl⟩⟩; refine ⟨_, rfl, ?_⟩) | (go_at_call 51; (with_reducible refine (qXA.calls ((rdOf ByteArray.empty t292 0).size : Int) 1 7 false _ A17.out).mono ?_); rintro e w' ⟨rfl, ⟨nd, rfl⟩⟩))
       go_ret2
       exact ⟨_, by first | rfl | (simp [qJ, qI] <;> rfl) | (simp [*, qJ, qI] <;> rfl), by (with_reducible repeat (first | apply Kd.qF | apply Kd.qE | apply Kd.qH)); exact HO_11.out, bl⟩
     ·replace c16 := Bool.eq_false_iff.mpr c16
      subst c16
      have H1 : (some (t292, false)) = some (r1, r2) := by rw [if_neg (show ¬ (false = true) by decide)] at H; exact H
      clear H
      have H := H1
      clear H1
      simp only [Option.some.injEq, Prod.mk.injEq] at H
      obtain ⟨rfl, rfl⟩ := H
      go_wp2_with (first | ((with_reducible refine qS (f := 51) rfl ?_); refine qt (some 36) rfl rfl Tryd.func51 (by kernel_rfl) rfl #[.int .i64 (t292.length : Int), .int .i64 1, .int .i64 7] rfl (by (try simp only [List.map_toArray, List.map_cons, List.map_nil]); first | done | rfl | (simp only [List.length_drop, List.length_take]; rfl)) ?_; (with_reducible refine (qXA.calls (t292.length : Int) 1 7 false _ A15.out).mono ?_); rintro e w' ⟨rfl, ⟨nd, rfl⟩⟩; refine ⟨_, rfl, ?_⟩))
      go_ret2
      exact ⟨_, by first | rfl | (simp [qJ, qI] <;> rfl) | (simp [*, qJ, qI] <;> rfl), by (with_reducible repeat (first | apply Kd.qF | apply Kd.qE | apply Kd.qH)); exact HO_11.out, bl⟩
 ·rw [if_neg c4] at H
  exact absurd H (by simp)
end Go.Proofs.YtdagdhmcebeadaaDoor.P
namespace Go.Proofs.YtdagdhmcebeadaaDoor
open Go.RowKit Go.Proofs.YtdagdhmcebeadaaDoorW.PrintWords Go.Proofs.YtdagdhmcebeadaaDoorW.PrintLast
set_option linter.unusedVariables false
set_option linter.unusedSimpArgs false
def qaA.f (a0 a1 : ByteArray) : Option Int := match a1.data.toList with | [c] => some (Lib.countByte a0.data.toList c) | _ => none
theorem qaA.calls (a0 a1 : ByteArray) (r : Int) (w : World) (h : qaA.f a0 a1 = some r) :
  Calls Tryd.prog 50 #[.string a0, .string a1] w fun e w' => e = .returned (.int .i64 r) ∧ Drawn0 w w' := by
 unfold qaA.f at h
 split at h
 ·rename_i c hc
  obtain rfl := Option.some.inj h
  obtain ⟨⟨l⟩⟩ := a1
  obtain rfl : l = [c] := hc
  exact (Tryd.strings_Count_one a0 c w).mono fun e w' ⟨h1, h2⟩ => ⟨h1, by rw [h2]; exact Drawn0.refl w⟩
 ·cases h
end Go.Proofs.YtdagdhmcebeadaaDoor
namespace Go.Proofs.YtdagdhmcebeadaaDoor.P
open Go.RowKit Go.Proofs.YtdagdhmcebeadaaDoorW.PrintWords Go.Proofs.YtdagdhmcebeadaaDoorW.PrintLast Go.Proofs.YtdagdhmcebeadaaDoorW.PrintMore
attribute [local go_sem] qDA qBA qLA qKA qq qp qCA qAA
set_option linter.unusedVariables false
set_option linter.unusedSimpArgs false
def qvA.f (k : Nat) (a0 : ByteArray) : Option (List ByteArray × Bool) := (qOA.f k a0 (⟨#[46, 35, 45, 111]⟩ : ByteArray)).bind fun bt300 => (if bt300.2 = true then ((qaA.f a0 (⟨#[111]⟩ : ByteArray)).bind fun t304 => (some (bt300.1, decide (t304 ≤ 1)))) else (some (bt300.1, false)))
set_option maxHeartbeats 8000000 in
set_option maxRecDepth 100000 in
theorem qvA.calls (k : Nat) (a0 : ByteArray) (r1 : List ByteArray) (r2 : Bool) (w : World) (hL : Laid w) (h : qvA.f k a0 = some (r1, r2)) :
  Calls Tryd.prog 30 #[.string a0] w fun e w' => ∃ v0_ : Value, e = .returned (.tuple #[v0_, .bool r2]) ∧ Kd.R Kd.string 9 w' w.heap.size (fun _ => True) v0_ r1 ∧ Below w.heap.size w w' := by
 have HLD := Aside0.mk hL
 clear hL
 have HB := Aside0.mk (Below.refl w.heap.size w)
 have H : ((qOA.f k a0 (⟨#[46, 35, 45, 111]⟩ : ByteArray)).bind fun bt300 => (if bt300.2 = true then ((qaA.f a0 (⟨#[111]⟩ : ByteArray)).bind fun t304 => (some (bt300.1, decide (t304 ≤ 1)))) else (some (bt300.1, false)))) = some (r1, r2) := h
 clear h
 replace H := Option.bind_eq_some_iff.mp H
 obtain ⟨⟨t300, t301⟩, A20, H⟩ := H
 replace H : (if t301 = true then ((qaA.f a0 (⟨#[111]⟩ : ByteArray)).bind fun t304 => (some (t300, decide (t304 ≤ 1)))) else (some (t300, false))) = some (r1, r2) := H
 have A2 := Aside0.mk A20
 clear A20
 by_cases c3 : t301 = true
 ·subst c3
  have H1 : ((qaA.f a0 (⟨#[111]⟩ : ByteArray)).bind fun t304 => (some (t300, decide (t304 ≤ 1)))) = some (r1, r2) := by rw [if_pos rfl] at H; exact H
  clear H
  have H := H1
  clear H1
  replace H := Option.bind_eq_some_iff.mp H
  obtain ⟨t304, A40, H⟩ := H
  replace H : (some (t300, decide (t304 ≤ 1))) = some (r1, r2) := H
  have A4 := Aside0.mk A40
  clear A40
  simp only [Option.some.injEq, Prod.mk.injEq] at H
  obtain ⟨rfl, rfl⟩ := H
  go_enter Tryd.func30, Tryd.ntmps30
  go_wp2_with (first | ((with_reducible refine qS (f := 49) rfl ?_); refine qt (some 8) rfl rfl Tryd.func49 (by kernel_rfl) rfl #[.string a0, .string (⟨#[46, 35, 45, 111]⟩ : ByteArray)] rfl (by (try simp only [List.map_toArray, List.map_cons, List.map_nil]); first | done | rfl | (simp only [List.length_drop, List.length_take]; rfl)) ?_; (with_reducible refine (qOA.calls k a0 (⟨#[46, 35, 45, 111]⟩ : ByteArray) t300 true _ ?side1 A2.out).mono ?_); (case side1 => first | exact HLD.out | exact Laid.below HLD.out (by repeat (first | (with_reducible first | exact HB.out | apply qv | apply qu | apply qm | refine qVA ?_ (Aside0.out (by with_reducible assumption))) | exact HB.out))); rintro e w5 ⟨v302, rfl, ho0, hb⟩; refine ⟨_, rfl, ?_⟩; have n0_ := Aside0.mk (Kd.qHA ho0 (qg bl)); have n1_ := Aside0.mk (qG bl hb); clear HB; have HO303 := n0_; have HB := n1_; clear n0_ n1_; (try clear hb); (try clear hb2); (try clear hk); (try clear hi); (try clear ho0)) | (go_at_call 50; (with_reducible refine (qaA.calls a0 (⟨#[111]⟩ : ByteArray) t304 _ A4.out).mono ?_); rintro e w' ⟨rfl, ⟨nd, rfl⟩⟩))
  go_ret2
  exact ⟨_, by first | rfl | (simp [qJ, qI] <;> rfl) | (simp [*, qJ, qI] <;> rfl), by (with_reducible repeat (first | apply Kd.qF | apply Kd.qE | apply Kd.qH)); exact HO303.out, bl⟩
 ·replace c3 := Bool.eq_false_iff.mpr c3
  subst c3
  have H1 : (some (t300, false)) = some (r1, r2) := by rw [if_neg (show ¬ (false = true) by decide)] at H; exact H
  clear H
  have H := H1
  clear H1
  simp only [Option.some.injEq, Prod.mk.injEq] at H
  obtain ⟨rfl, rfl⟩ := H
  go_enter Tryd.func30, Tryd.ntmps30
  go_wp2_with (first | ((with_reducible refine qS (f := 49) rfl ?_); refine qt (some 8) rfl rfl Tryd.func49 (by kernel_rfl) rfl #[.string a0, .string (⟨#[46, 35, 45, 111]⟩ : ByteArray)] rfl (by (try simp only [List.map_toArray, List.map_cons, List.map_nil]); first | done | rfl | (simp only [List.length_drop, List.length_take]; rfl)) ?_; (with_reducible refine (qOA.calls k a0 (⟨#[46, 35, 45, 111]⟩ : ByteArray) t300 false _ ?side1 A2.out).mono ?_); (case side1 => first | exact HLD.out | exact Laid.below HLD.out (by repeat (first | (with_reducible first | exact HB.out | apply qv | apply qu | apply qm | refine qVA ?_ (Aside0.out (by with_reducible assumption))) | exact HB.out))); rintro e w6 ⟨v302, rfl, ho0, hb⟩; refine ⟨_, rfl, ?_⟩; have n0_ := Aside0.mk (Kd.qHA ho0 (qg bl)); have n1_ := Aside0.mk (qG bl hb); clear HB; have HO303 := n0_; have HB := n1_; clear n0_ n1_; (try clear hb); (try clear hb2); (try clear hk); (try clear hi); (try clear ho0)))
  go_ret2
  exact ⟨_, by first | rfl | (simp [qJ, qI] <;> rfl) | (simp [*, qJ, qI] <;> rfl), by (with_reducible repeat (first | apply Kd.qF | apply Kd.qE | apply Kd.qH)); exact HO303.out, bl⟩
def qMA.f (l0 : List ByteArray) (a1 : Int) (a2 : Int) : Option (Bool) := (qXA.f a2 0 (wrap64 ((l0.length : Int) - 1))).bind fun t305 => (if t305 = true then (if 0 < (l0.length : Int) then ((qXA.f a1 0 (wrap64 (((rdOf ByteArray.empty l0 0).size : Int) - 1))).bind fun t307 => (some t307)) else (none)) else (some false))
set_option maxHeartbeats 8000000 in
set_option maxRecDepth 100000 in
theorem qMA.calls (A0 : Option Addr) (c0 : Nat) (l0 : List ByteArray) (a1 : Int) (a2 : Int) (r : Bool) (w : World) (hr0 : Kd.C Kd.string w A0 l0.length l0) (hc0 : l0.length ≤ c0) (h : qMA.f l0 a1 a2 = some r) :
  Calls Tryd.prog 52 #[.slice A0 l0.length c0, .int .i64 a1, .int .i64 a2] w fun e w' => e = .returned (.bool r) ∧ Drawn0 w w' := by
 have HR0 := Aside0.mk hr0
 have HC0 := Aside0.mk hc0
 clear hr0 hc0
 have H : ((qXA.f a2 0 (wrap64 ((l0.length : Int) - 1))).bind fun t305 => (if t305 = true then (if 0 < (l0.length : Int) then ((qXA.f a1 0 (wrap64 (((rdOf ByteArray.empty l0 0).size : Int) - 1))).bind fun t307 => (some t307)) else (none)) else (some false))) = some r := h
 clear h
 replace H := Option.bind_eq_some_iff.mp H
 obtain ⟨t305, A40, H⟩ := H
 replace H : (if t305 = true then (if 0 < (l0.length : Int) then ((qXA.f a1 0 (wrap64 (((rdOf ByteArray.empty l0 0).size : Int) - 1))).bind fun t307 => (some t307)) else (none)) else (some false)) = some r := H
 have A4 := Aside0.mk A40
 clear A40
 by_cases c5 : t305 = true
 ·subst c5
  have H1 : (if 0 < (l0.length : Int) then ((qXA.f a1 0 (wrap64 (((rdOf ByteArray.empty l0 0).size : Int) - 1))).bind fun t307 => (some t307)) else (none)) = some r := by rw [if_pos rfl] at H; exact H
  clear H
  have H := H1
  clear H1
  by_cases c6 : 0 < (l0.length : Int)
  ·rw [if_pos c6] at H
   have c6b0 : decide (0 < (l0.length : Int)) = true := decide_eq_true c6
   have c6b1 : decide (0 < l0.length) = true := decide_eq_true (by omega)
   clear c6
   replace H := Option.bind_eq_some_iff.mp H
   obtain ⟨t307, A70, H⟩ := H
   replace H : (some t307) = some r := H
   have A7 := Aside0.mk A70
   clear A70
   obtain rfl := Option.some.inj H
   go_enter Tryd.func52, Tryd.ntmps52
   go_wp2_with (first | ((with_reducible refine qS (f := 51) rfl ?_); refine qt (some 11) rfl rfl Tryd.func51 (by kernel_rfl) rfl #[.int .i64 a2, .int .i64 0, .int .i64 (wrap64 ((l0.length : Int) - 1))] rfl (by (try simp only [List.map_toArray, List.map_cons, List.map_nil]); first | done | rfl | (simp only [List.length_drop, List.length_take]; rfl)) ?_; (with_reducible refine (qXA.calls a2 0 (wrap64 ((l0.length : Int) - 1)) true _ A4.out).mono ?_); rintro e w' ⟨rfl, ⟨nd, rfl⟩⟩; refine ⟨_, rfl, ?_⟩; have p306 : 0 ≤ (0 : Int) := (by omega); have q306 : 0 < (l0.length : Int) := of_decide_eq_true (by first | (with_reducible assumption) | assumption); obtain ⟨ad306, e306, hx306_0⟩ := Kd.qKB HR0.out 0 p306 q306; cases e306; have qi306 : (0 < l0.length) = True := eq_true (by omega); (try rw [show ((0 : Int)).toNat = 0 from rfl] at hx306_0); (try rw [Addr.add_zero'] at hx306_0); replace p306 := eq_true p306; replace q306 := eq_true q306) | (go_at_call 51; (with_reducible refine (qXA.calls a1 0 (wrap64 (((rdOf ByteArray.empty l0 0).size : Int) - 1)) t307 _ A7.out).mono ?_); rintro e w' ⟨rfl, ⟨nd, rfl⟩⟩))
   go_ret
   exact ⟨by first | rfl | (simp; done) | (simp [*]; done), by repeat (first | exact Drawn0.refl _ | apply Drawn0.step)⟩
  ·rw [if_neg c6] at H
   exact absurd H (by simp)
 ·replace c5 := Bool.eq_false_iff.mpr c5
  subst c5
  have H1 : (some false) = some r := by rw [if_neg (show ¬ (false = true) by decide)] at H; exact H
  clear H
  have H := H1
  clear H1
  obtain rfl := Option.some.inj H
  go_enter Tryd.func52, Tryd.ntmps52
  go_wp2_with (first | ((with_reducible refine qS (f := 51) rfl ?_); refine qt (some 11) rfl rfl Tryd.func51 (by kernel_rfl) rfl #[.int .i64 a2, .int .i64 0, .int .i64 (wrap64 ((l0.length : Int) - 1))] rfl (by (try simp only [List.map_toArray, List.map_cons, List.map_nil]); first | done | rfl | (simp only [List.length_drop, List.length_take]; rfl)) ?_; (with_reducible refine (qXA.calls a2 0 (wrap64 ((l0.length : Int) - 1)) false _ A4.out).mono ?_); rintro e w' ⟨rfl, ⟨nd, rfl⟩⟩; refine ⟨_, rfl, ?_⟩))
  go_ret
  exact ⟨by first | rfl | (simp; done) | (simp [*]; done), by repeat (first | exact Drawn0.refl _ | apply Drawn0.step)⟩
def qTA.f (l0 : List ByteArray) (a1 : Int) (a2 : Int) : Option (Int) := (qMA.f l0 a1 a2).bind fun t308 => (if t308 = true then (if 0 ≤ a2 then (if a2 < (l0.length : Int) then (if 0 ≤ a1 then (if a1 < ((rdOf ByteArray.empty l0 a2).size : Int) then (some (bt (rdOf ByteArray.empty l0 a2) a1)) else (none)) else (none)) else (none)) else (none)) else (some 0))
set_option maxHeartbeats 8000000 in
set_option maxRecDepth 100000 in
theorem qTA.calls (A0 : Option Addr) (c0 : Nat) (l0 : List ByteArray) (a1 : Int) (a2 : Int) (r : Int) (w : World) (hr0 : Kd.C Kd.string w A0 l0.length l0) (hc0 : l0.length ≤ c0) (h : qTA.f l0 a1 a2 = some r) :
  Calls Tryd.prog 53 #[.slice A0 l0.length c0, .int .i64 a1, .int .i64 a2] w fun e w' => e = .returned (.int .u8 r) ∧ Drawn0 w w' := by
 have HR0 := Aside0.mk hr0
 have HC0 := Aside0.mk hc0
 clear hr0 hc0
 have H : ((qMA.f l0 a1 a2).bind fun t308 => (if t308 = true then (if 0 ≤ a2 then (if a2 < (l0.length : Int) then (if 0 ≤ a1 then (if a1 < ((rdOf ByteArray.empty l0 a2).size : Int) then (some (bt (rdOf ByteArray.empty l0 a2) a1)) else (none)) else (none)) else (none)) else (none)) else (some 0))) = some r := h
 clear h
 replace H := Option.bind_eq_some_iff.mp H
 obtain ⟨t308, A40, H⟩ := H
 replace H : (if t308 = true then (if 0 ≤ a2 then (if a2 < (l0.length : Int) then (if 0 ≤ a1 then (if a1 < ((rdOf ByteArray.empty l0 a2).size : Int) then (some (bt (rdOf ByteArray.empty l0 a2) a1)) else (none)) else (none)) else (none)) else (none)) else (some 0)) = some r := H
 have A4 := Aside0.mk A40
 clear A40
 by_cases c5 : t308 = true
 ·subst c5
  have H1 : (if 0 ≤ a2 then (if a2 < (l0.length : Int) then (if 0 ≤ a1 then (if a1 < ((rdOf ByteArray.empty l0 a2).size : Int) then (some (bt (rdOf ByteArray.empty l0 a2) a1)) else (none)) else (none)) else (none)) else (none)) = some r := by rw [if_pos rfl] at H; exact H
  clear H
  have H := H1
  clear H1
  by_cases c6 : 0 ≤ a2
  ·rw [if_pos c6] at H
   have c6b0 : decide (0 ≤ a2) = true := decide_eq_true c6
   clear c6
   by_cases c7 : a2 < (l0.length : Int)
   ·rw [if_pos c7] at H
    have c7b0 : decide (a2 < (l0.length : Int)) = true := decide_eq_true c7
    clear c7
    by_cases c8 : 0 ≤ a1
    ·rw [if_pos c8] at H
     have c8b0 : decide (0 ≤ a1) = true := decide_eq_true c8
     clear c8
     by_cases c9 : a1 < ((rdOf ByteArray.empty l0 a2).size : Int)
     ·rw [if_pos c9] at H
      have c9b0 : decide (a1 < ((rdOf ByteArray.empty l0 a2).size : Int)) = true := decide_eq_true c9
      clear c9
      obtain rfl := Option.some.inj H
      go_enter Tryd.func53, Tryd.ntmps53
      go_wp2_with (first | ((with_reducible refine qS (f := 52) rfl ?_); refine qt (some 10) rfl rfl Tryd.func52 (by kernel_rfl) rfl #[.slice A0 l0.length c0, .int .i64 a1, .int .i64 a2] rfl (by (try simp only [List.map_toArray, List.map_cons, List.map_nil]); first | done | rfl | (simp only [List.length_drop, List.length_take]; rfl)) ?_; (with_reducible refine (qMA.calls _ _ l0 a1 a2 true _ ?side1 ?side2 A4.out).mono ?_); (case side1 => repeat (first | exact HR0.out | (with_reducible refine Kd.qz ?_ _) | (with_reducible refine Kd.qy ?_ _) | (with_reducible refine Kd.qNA ?_))); (case side2 => exact HC0.out); rintro e w' ⟨rfl, ⟨nd, rfl⟩⟩; refine ⟨_, rfl, ?_⟩; have p309 : 0 ≤ (a2 : Int) := of_decide_eq_true (by first | (with_reducible assumption) | assumption); have q309 : a2 < (l0.length : Int) := of_decide_eq_true (by first | (with_reducible assumption) | assumption); obtain ⟨ad309, e309, hx309_0⟩ := Kd.qKB HR0.out a2 p309 q309; cases e309; replace p309 := eq_true p309; replace q309 := eq_true q309; have p10 : 0 ≤ (a1 : Int) := of_decide_eq_true (by first | (with_reducible assumption) | assumption); have q10 : a1 < ((rdOf ByteArray.empty l0 a2).size : Int) := of_decide_eq_true (by first | (with_reducible assumption) | assumption); have hx10 := bt_at (rdOf ByteArray.empty l0 a2) a1; replace p10 := eq_true p10; replace q10 := eq_true q10))
      go_ret
      exact ⟨by first | rfl | (simp; done) | (simp [*]; done), by repeat (first | exact Drawn0.refl _ | apply Drawn0.step)⟩
     ·rw [if_neg c9] at H
      exact absurd H (by simp)
    ·rw [if_neg c8] at H
     exact absurd H (by simp)
   ·rw [if_neg c7] at H
    exact absurd H (by simp)
  ·rw [if_neg c6] at H
   exact absurd H (by simp)
 ·replace c5 := Bool.eq_false_iff.mpr c5
  subst c5
  have H1 : (some 0) = some r := by rw [if_neg (show ¬ (false = true) by decide)] at H; exact H
  clear H
  have H := H1
  clear H1
  obtain rfl := Option.some.inj H
  go_enter Tryd.func53, Tryd.ntmps53
  go_wp2_with (first | ((with_reducible refine qS (f := 52) rfl ?_); refine qt (some 10) rfl rfl Tryd.func52 (by kernel_rfl) rfl #[.slice A0 l0.length c0, .int .i64 a1, .int .i64 a2] rfl (by (try simp only [List.map_toArray, List.map_cons, List.map_nil]); first | done | rfl | (simp only [List.length_drop, List.length_take]; rfl)) ?_; (with_reducible refine (qMA.calls _ _ l0 a1 a2 false _ ?side1 ?side2 A4.out).mono ?_); (case side1 => repeat (first | exact HR0.out | (with_reducible refine Kd.qz ?_ _) | (with_reducible refine Kd.qy ?_ _) | (with_reducible refine Kd.qNA ?_))); (case side2 => exact HC0.out); rintro e w' ⟨rfl, ⟨nd, rfl⟩⟩; refine ⟨_, rfl, ?_⟩))
  go_ret
  exact ⟨by first | rfl | (simp; done) | (simp [*]; done), by repeat (first | exact Drawn0.refl _ | apply Drawn0.step)⟩
def qrA.f (a0_0 : Int) (a0_1 : Int) (a0_2 : Int) : Option ((List (S94))) := if a0_2 = 1 then (some (([(⟨a0_0, a0_1⟩ : S94), (⟨wrap64 (a0_0 + 1), a0_1⟩ : S94)] : List (S94)))) else (if a0_2 = 2 then (some (([(⟨a0_0, a0_1⟩ : S94), (⟨a0_0, wrap64 (a0_1 + 1)⟩ : S94)] : List (S94)))) else (some (([(⟨a0_0, a0_1⟩ : S94)] : List (S94)))))
set_option maxHeartbeats 8000000 in
set_option maxRecDepth 100000 in
theorem qrA.calls (a0_0 : Int) (a0_1 : Int) (a0_2 : Int) (r : List (S94)) (w : World) (h : qrA.f a0_0 a0_1 a0_2 = some r) :
  Calls Tryd.prog 55 #[.agg #[.int .i64 a0_0, .int .i64 a0_1, .int .i64 a0_2]] w fun e w' => ∃ v0_ : Value, e = .returned (v0_) ∧ Kd.R k94 94 w' w.heap.size (fun _ => True) v0_ r ∧ Below w.heap.size w w' := by
 have hu27 := Tryd.underlying27
 have hu94 := Tryd.underlying94
 have HB := Aside0.mk (Below.refl w.heap.size w)
 have H : (if a0_2 = 1 then (some (([(⟨a0_0, a0_1⟩ : S94), (⟨wrap64 (a0_0 + 1), a0_1⟩ : S94)] : List (S94)))) else (if a0_2 = 2 then (some (([(⟨a0_0, a0_1⟩ : S94), (⟨a0_0, wrap64 (a0_1 + 1)⟩ : S94)] : List (S94)))) else (some (([(⟨a0_0, a0_1⟩ : S94)] : List (S94)))))) = some r := h
 clear h
 by_cases c2 : a0_2 = 1
 ·rw [if_pos c2] at H
  have c2b0 : (a0_2 == 1) = true := beq_iff_eq.mpr c2
  have c2b1 : (a0_2 != 1) = false := bne_eq_false_iff_eq.mpr c2
  clear c2
  obtain ⟨y311, hy311⟩ : ∃ y_ : List (S94), y_ = (([(⟨a0_0, a0_1⟩ : S94), (⟨wrap64 (a0_0 + 1), a0_1⟩ : S94)] : List (S94))) := ⟨_, rfl⟩
  replace H : (some y311) = some r := by first | (rw [hy311]; with_reducible exact H) | (have H2_ := (Option.bind_some _ _).symm.trans H; rw [hy311]; with_reducible exact H2_) | (have H2_ := (Option.bind_some _ _).symm.trans H; with_reducible exact H2_) | with_reducible exact H | (rw [hy311]; exact H) | exact H
  have Ny311 := Aside0.mk hy311
  clear hy311
  obtain rfl := Option.some.inj H
  go_enter Tryd.func55, Tryd.ntmps55
  go_wp2_with (first | ((with_reducible refine qd (N := 1) rfl ?_); refine qY ?hg (N := 1) ?hd (cs := #[.int .i64 a0_0, .int .i64 a0_1, .int .i64 a0_2]) (t := 27) ?hr ?_; (case hd => rfl); (case hg => rfl); (case hr => first | (go_simp; done) | (go_simp; rfl)); intro gb310 hg w3 hbox hb; have n0_ := Aside0.mk (qG bl hb); have n1_ := Aside0.mk (hbox); have n2_ := Aside0.mk ((gg hg)); have n3_ := Aside0.mk ((gg hg)); clear HB; have HB := n0_; have BK310 := n1_; have GW310 := n2_; have GE310 := n3_; clear n0_ n1_ n2_ n3_; clear hb hbox hg; have hcz4_0 := bc BK310 0; have hcz4_1 := bc BK310 1; have hcz4_2 := bc BK310 2; have hfz4_0 := qC BK310.out 0; have hfz4_1 := qC BK310.out 1; have hfz4_2 := qC BK310.out 2) | ((with_reducible refine qd (N := 18) rfl ?_); refine Kd.R_lit k94 _ 94 ?hg (N := 18) ?hd (xs := ([(⟨a0_0, a0_1⟩ : S94), (⟨wrap64 (a0_0 + 1), a0_1⟩ : S94)] : List (S94))) (inner := [.int .i64 a0_0, .int .i64 a0_1, .int .i64 (wrap64 (a0_0 + 1)), .int .i64 a0_1]) (ok := fun _ => True) (okp := fun _ => True) ?hr ?hp (fun _ hk => hk) trivial (Below.refl _ _) (Nat.le_refl _) (by simp) ?_; (case hd => rfl); (case hg => rfl); (case hr => first | (go_simp; done) | (go_simp; rfl)); (case hp => exact (Reps.c2 (show Kd.M k94 _ _ _ (⟨a0_0, a0_1⟩ : S94) [.int .i64 a0_0, .int .i64 a0_1] from (qNC _ _ _ (⟨a0_0, a0_1⟩ : S94) )) (Reps.c2 (show Kd.M k94 _ _ _ (⟨wrap64 (a0_0 + 1), a0_1⟩ : S94) [.int .i64 (wrap64 (a0_0 + 1)), .int .i64 a0_1] from (qNC _ _ _ (⟨wrap64 (a0_0 + 1), a0_1⟩ : S94) )) (Reps.none _ _)))); intro v312 w5 ho6 hb hg_ hnew_; clear hg_ hnew_; (first | rw [← Ny311.out] at ho6 | (simp only [Int.reduceToNat] at ho6; rw [← Ny311.out] at ho6)); have n0_ := Aside0.mk (Kd.qHA ho6 (qg bl)); have n1_ := Aside0.mk (bb BK310 hb); have n2_ := Aside0.mk (qG bl hb); clear BK310; clear HB; have HO313 := n0_; have BK310 := n1_; have HB := n2_; clear n0_ n1_ n2_; clear hb ho6))
  go_ret
  exact ⟨_, by first | rfl | (simp [qJ, qI] <;> rfl) | (simp [*, qJ, qI] <;> rfl), by (with_reducible repeat (first | apply Kd.qF | apply Kd.qE | apply Kd.qH)); exact HO313.out, bl⟩
 ·rw [if_neg c2] at H
  have c2b0 : (a0_2 == 1) = false := beq_eq_false_iff_ne.mpr c2
  have c2b1 : (a0_2 != 1) = true := bne_iff_ne.mpr c2
  by_cases c7 : a0_2 = 2
  ·rw [if_pos c7] at H
   have c7b0 : (a0_2 == 2) = true := beq_iff_eq.mpr c7
   have c7b1 : (a0_2 != 2) = false := bne_eq_false_iff_eq.mpr c7
   clear c7
   obtain ⟨y314, hy314⟩ : ∃ y_ : List (S94), y_ = (([(⟨a0_0, a0_1⟩ : S94), (⟨a0_0, wrap64 (a0_1 + 1)⟩ : S94)] : List (S94))) := ⟨_, rfl⟩
   replace H : (some y314) = some r := by first | (rw [hy314]; with_reducible exact H) | (have H2_ := (Option.bind_some _ _).symm.trans H; rw [hy314]; with_reducible exact H2_) | (have H2_ := (Option.bind_some _ _).symm.trans H; with_reducible exact H2_) | with_reducible exact H | (rw [hy314]; exact H) | exact H
   have Ny314 := Aside0.mk hy314
   clear hy314
   obtain rfl := Option.some.inj H
   go_enter Tryd.func55, Tryd.ntmps55
   go_wp2_with (first | ((with_reducible refine qd (N := 1) rfl ?_); refine qY ?hg (N := 1) ?hd (cs := #[.int .i64 a0_0, .int .i64 a0_1, .int .i64 a0_2]) (t := 27) ?hr ?_; (case hd => rfl); (case hg => rfl); (case hr => first | (go_simp; done) | (go_simp; rfl)); intro gb310 hg w8 hbox hb; have n0_ := Aside0.mk (qG bl hb); have n1_ := Aside0.mk (hbox); have n2_ := Aside0.mk ((gg hg)); have n3_ := Aside0.mk ((gg hg)); clear HB; have HB := n0_; have BK310 := n1_; have GW310 := n2_; have GE310 := n3_; clear n0_ n1_ n2_ n3_; clear hb hbox hg; have hcz9_0 := bc BK310 0; have hcz9_1 := bc BK310 1; have hcz9_2 := bc BK310 2; have hfz9_0 := qC BK310.out 0; have hfz9_1 := qC BK310.out 1; have hfz9_2 := qC BK310.out 2) | ((with_reducible refine qd (N := 32) rfl ?_); refine Kd.R_lit k94 _ 94 ?hg (N := 32) ?hd (xs := ([(⟨a0_0, a0_1⟩ : S94), (⟨a0_0, wrap64 (a0_1 + 1)⟩ : S94)] : List (S94))) (inner := [.int .i64 a0_0, .int .i64 a0_1, .int .i64 a0_0, .int .i64 (wrap64 (a0_1 + 1))]) (ok := fun _ => True) (okp := fun _ => True) ?hr ?hp (fun _ hk => hk) trivial (Below.refl _ _) (Nat.le_refl _) (by simp) ?_; (case hd => rfl); (case hg => rfl); (case hr => first | (go_simp; done) | (go_simp; rfl)); (case hp => exact (Reps.c2 (show Kd.M k94 _ _ _ (⟨a0_0, a0_1⟩ : S94) [.int .i64 a0_0, .int .i64 a0_1] from (qNC _ _ _ (⟨a0_0, a0_1⟩ : S94) )) (Reps.c2 (show Kd.M k94 _ _ _ (⟨a0_0, wrap64 (a0_1 + 1)⟩ : S94) [.int .i64 a0_0, .int .i64 (wrap64 (a0_1 + 1))] from (qNC _ _ _ (⟨a0_0, wrap64 (a0_1 + 1)⟩ : S94) )) (Reps.none _ _)))); intro v315 w10 ho11 hb hg_ hnew_; clear hg_ hnew_; (first | rw [← Ny314.out] at ho11 | (simp only [Int.reduceToNat] at ho11; rw [← Ny314.out] at ho11)); have n0_ := Aside0.mk (Kd.qHA ho11 (qg bl)); have n1_ := Aside0.mk (bb BK310 hb); have n2_ := Aside0.mk (qG bl hb); clear BK310; clear HB; have HO316 := n0_; have BK310 := n1_; have HB := n2_; clear n0_ n1_ n2_; clear hb ho11))
   go_ret
   exact ⟨_, by first | rfl | (simp [qJ, qI] <;> rfl) | (simp [*, qJ, qI] <;> rfl), by (with_reducible repeat (first | apply Kd.qF | apply Kd.qE | apply Kd.qH)); exact HO316.out, bl⟩
  ·rw [if_neg c7] at H
   have c7b0 : (a0_2 == 2) = false := beq_eq_false_iff_ne.mpr c7
   have c7b1 : (a0_2 != 2) = true := bne_iff_ne.mpr c7
   obtain ⟨y317, hy317⟩ : ∃ y_ : List (S94), y_ = (([(⟨a0_0, a0_1⟩ : S94)] : List (S94))) := ⟨_, rfl⟩
   replace H : (some y317) = some r := by first | (rw [hy317]; with_reducible exact H) | (have H2_ := (Option.bind_some _ _).symm.trans H; rw [hy317]; with_reducible exact H2_) | (have H2_ := (Option.bind_some _ _).symm.trans H; with_reducible exact H2_) | with_reducible exact H | (rw [hy317]; exact H) | exact H
   have Ny317 := Aside0.mk hy317
   clear hy317
   obtain rfl := Option.some.inj H
   go_enter Tryd.func55, Tryd.ntmps55
   go_wp2_with (first | ((with_reducible refine qd (N := 1) rfl ?_); refine qY ?hg (N := 1) ?hd (cs := #[.int .i64 a0_0, .int .i64 a0_1, .int .i64 a0_2]) (t := 27) ?hr ?_; (case hd => rfl); (case hg => rfl); (case hr => first | (go_simp; done) | (go_simp; rfl)); intro gb310 hg w12 hbox hb; have n0_ := Aside0.mk (qG bl hb); have n1_ := Aside0.mk (hbox); have n2_ := Aside0.mk ((gg hg)); have n3_ := Aside0.mk ((gg hg)); clear HB; have HB := n0_; have BK310 := n1_; have GW310 := n2_; have GE310 := n3_; clear n0_ n1_ n2_ n3_; clear hb hbox hg; have hcz13_0 := bc BK310 0; have hcz13_1 := bc BK310 1; have hcz13_2 := bc BK310 2; have hfz13_0 := qC BK310.out 0; have hfz13_1 := qC BK310.out 1; have hfz13_2 := qC BK310.out 2) | ((with_reducible refine qd (N := 38) rfl ?_); refine Kd.R_lit k94 _ 94 ?hg (N := 38) ?hd (xs := ([(⟨a0_0, a0_1⟩ : S94)] : List (S94))) (inner := [.int .i64 a0_0, .int .i64 a0_1]) (ok := fun _ => True) (okp := fun _ => True) ?hr ?hp (fun _ hk => hk) trivial (Below.refl _ _) (Nat.le_refl _) (by simp) ?_; (case hd => rfl); (case hg => rfl); (case hr => first | (go_simp; done) | (go_simp; rfl)); (case hp => exact (Reps.c2 (show Kd.M k94 _ _ _ (⟨a0_0, a0_1⟩ : S94) [.int .i64 a0_0, .int .i64 a0_1] from (qNC _ _ _ (⟨a0_0, a0_1⟩ : S94) )) (Reps.none _ _))); intro v318 w14 ho15 hb hg_ hnew_; clear hg_ hnew_; (first | rw [← Ny317.out] at ho15 | (simp only [Int.reduceToNat] at ho15; rw [← Ny317.out] at ho15)); have n0_ := Aside0.mk (Kd.qHA ho15 (qg bl)); have n1_ := Aside0.mk (bb BK310 hb); have n2_ := Aside0.mk (qG bl hb); clear BK310; clear HB; have HO319 := n0_; have BK310 := n1_; have HB := n2_; clear n0_ n1_ n2_; clear hb ho15))
   go_ret
   exact ⟨_, by first | rfl | (simp [qJ, qI] <;> rfl) | (simp [*, qJ, qI] <;> rfl), by (with_reducible repeat (first | apply Kd.qF | apply Kd.qE | apply Kd.qH)); exact HO319.out, bl⟩
end Go.Proofs.YtdagdhmcebeadaaDoor.P
namespace Go.Proofs.YtdagdhmcebeadaaDoor
open Go.RowKit Go.Proofs.YtdagdhmcebeadaaDoor.P Go.Proofs.YtdagdhmcebeadaaDoorW.PrintWords Go.Proofs.YtdagdhmcebeadaaDoorW.PrintLast
set_option linter.unusedVariables false
set_option linter.unusedSimpArgs false
def PredOn {α : Type} (g : Nat) (lb : Array Value) (enc : α → Value) (p : α → Bool) (l : List α) (w : World) : Prop :=
 ∀ (W : World) (x : α), x ∈ l → Below w.heap.size w W → Calls Tryd.prog g (#[enc x] ++ lb) W fun e w' => e = .returned (.bool (p x)) ∧ Below W.heap.size W w'
theorem PredOn.later {α : Type} {g : Nat} {lb : Array Value} {enc : α → Value} {p : α → Bool} {l : List α} {w w1 : World} (h : PredOn g lb enc p l w) (hb : Below w.heap.size w w1) : PredOn g lb enc p l w1 :=
 fun W x hx hW => h W x hx (qlB hb hb.size hW)
def idxP {α : Type} (p : α → Bool) (l : List α) : Int := match l.findIdx? p with | some i => (i : Int) | none => -1
theorem idxP_hit {α : Type} (p : α → Bool) (l : List α) (k : Nat) (hk : k < l.length) (h0 : ∀ j, (h : j < k) → p (l[j]'(by omega)) = false) (h1 : p l[k] = true) : idxP p l = (k : Int) := by
 unfold idxP
 have : l.findIdx? p = some k := by
  rw [List.findIdx?_eq_some_iff_getElem]
  exact ⟨hk, h1, fun j hj => by rw [h0 j hj]; decide⟩
 rw [this]
theorem idxP_miss {α : Type} (p : α → Bool) (l : List α) (h0 : ∀ j, (h : j < l.length) → p l[j] = false) : idxP p l = -1 := by
 unfold idxP
 have : l.findIdx? p = none := by
  rw [List.findIdx?_eq_none_iff]
  intro x hx
  obtain ⟨j, hj, rfl⟩ := List.getElem_of_mem hx
  exact h0 j hj
 rw [this]
theorem idxP_any {α : Type} (p : α → Bool) (l : List α) : decide (idxP p l ≥ 0) = l.any p := by
 unfold idxP
 cases h : l.findIdx? p with
 | none =>
  rw [List.findIdx?_eq_none_iff] at h
  have : l.any p = false := by rw [List.any_eq_false]; intro x hx; simp [h x hx]
  rw [this]; decide
 | some i =>
  rw [List.findIdx?_eq_some_iff_getElem] at h
  obtain ⟨hi, hp, _⟩ := h
  have : l.any p = true := List.any_eq_true.2 ⟨l[i], List.getElem_mem hi, hp⟩
  rw [this]
  exact decide_eq_true (Int.natCast_nonneg i)
def encCell (x : S94) : Value := .agg #[.int .i64 x.f0, .int .i64 x.f1]
theorem rd_getCell (l : List S94) (j : Nat) (h : j < l.length) : qeC l (j : Int) = l[j] := by
 unfold qeC
 rw [Int.toNat_natCast, List.getD_eq_getElem?_getD, List.getElem?_eq_getElem h]; rfl
set_option maxHeartbeats 1000000 in
theorem indexFunc_Cell (p : S94 → Bool) (g : Nat) (lb : Array Value) (eg : ∀ args w, (callFunc g args).run Tryd.prog w = .ok (.enter g args) w) (A0 : Option Addr) (c0 : Nat) (l : List S94) (w : World)
  (hr : Kd.C k94 w A0 l.length l) (hp : PredOn g lb encCell p l w) :
  Calls Tryd.prog 71 #[.slice A0 l.length c0, .func (.func g) #[] lb] w fun e w' => e = .returned (.int .i64 (idxP p l)) ∧ Below w.heap.size w w' := by
 have HR := Lib.hid hr
 have hn : l.length ≤ 9223372036854775807 := hr.2.1
 clear hr
 have hu := Tryd.underlying94
 go_enter Tryd.func71, Tryd.ntmps71
 go_wp2
 go_loopg [5, 8] l.length (fun gg _ s8 wr => ∃ kk : Nat, kk ≤ l.length ∧ l.length - kk ≤ gg ∧ s8 = .int .i64 kk ∧ Aside0 (Below w.heap.size w wr) ∧ Aside0 (∀ j, (h : j < l.length) → j < kk → p l[j] = false))
 case atStart => exact ⟨0, Nat.zero_le _, by omega, rfl, ⟨Below.refl _ w⟩, ⟨fun j _ hj => absurd hj (Nat.not_lt_zero _)⟩⟩
 case round =>
  obtain ⟨kk, hkk, hg, rfl, BW, A⟩ := hrel
  rename World => wr
  by_cases hlt : kk < l.length
  ·have hltz : (kk : Int) < (l.length : Int) := by omega
   obtain ⟨ad, e, h0, h1⟩ := at_T94 (Kd.qYA HR.out BW.out) (kk : Int) (by omega) hltz
   cases e
   simp only [rd_getCell l kk hlt, Int.toNat_natCast] at h0 h1
   have hcall := hp wr l[kk] (List.getElem_mem hlt) BW.out
   have B := Lib.hid (rfl : l[kk] = l[kk])
   generalize hy : l[kk] = y at h0 h1 hcall
   have HY := Lib.hid hy
   clear hy B
   cases hq : p y with
   | true =>
    rw [hq] at hcall
    have HQ := Lib.hid hq
    have HC := Lib.hid hcall
    clear hq hp hcall
    go_wp2
    refine HC.out.mono ?_
    rintro e w' ⟨rfl, hb'⟩
    clear HC h0 h1 eg
    go_wp2
    go_ret
    exact ⟨ret_i64 (idxP_hit p l kk hlt (fun j hj => A.out j _ hj) (by rw [HY.out]; exact HQ.out)).symm, qlB BW.out BW.out.size hb'⟩
   | false =>
    rw [hq] at hcall
    have HQ := Lib.hid hq
    have HC := Lib.hid hcall
    clear hq hp hcall
    go_wp2
    refine HC.out.mono ?_
    rintro e w' ⟨rfl, hb'⟩
    clear HC h0 h1 eg
    go_wp2
    go_roundg (l.length - (kk + 1))
    case measure => omega
    case rel =>
     refine ⟨kk + 1, by omega, by omega, by go_num, ⟨qlB BW.out BW.out.size hb'⟩, ⟨fun j h hj => ?_⟩⟩
     by_cases e : j = kk
     ·subst e
      rw [HY.out]; exact HQ.out
     ·exact A.out j h (by omega)
  ·have hltz : ¬ (kk : Int) < (l.length : Int) := by omega
   have hke : kk = l.length := by omega
   subst hke
   clear hp
   go_wp2
   go_ret
   exact ⟨ret_i64 (idxP_miss p l (fun j h => A.out j h h)).symm, BW.out⟩
theorem containsFunc_Cell (p : S94 → Bool) (g : Nat) (lb : Array Value) (eg : ∀ args w, (callFunc g args).run Tryd.prog w = .ok (.enter g args) w) (A0 : Option Addr) (c0 : Nat) (l : List S94) (w : World)
  (hr : Kd.C k94 w A0 l.length l) (hp : PredOn g lb encCell p l w) :
  Calls Tryd.prog 54 #[.slice A0 l.length c0, .func (.func g) #[] lb] w fun e w' => e = .returned (.bool (l.any p)) ∧ Below w.heap.size w w' := by
 have hcall := fun c => indexFunc_Cell p g lb eg A0 c l w hr hp
 have HA := Lib.hid (idxP_any p l)
 clear hr hp
 go_enter Tryd.func54, Tryd.ntmps54
 go_wp2_with (go_at_call 71; refine (hcall _).mono ?_; rintro e w' ⟨rfl, hb'⟩)
 go_ret
 exact ⟨ret_bool HA.out, hb'⟩
def qtB.f (rows : List ByteArray) (x y : Int) : Option Bool := (qMA.f rows x y).bind fun b => if b = true then (qTA.f rows x y).bind fun c => some (c == 35) else some true
def qwA.f (l : List S94) (rows : List ByteArray) : Option Bool := if (l.all fun c => (qtB.f rows c.f0 c.f1).isSome) = true then some (l.any fun c => (qtB.f rows c.f0 c.f1).getD false) else none
set_option maxHeartbeats 1000000 in
set_option maxRecDepth 100000 in
theorem isBox1_calls (x : S94) (b : Nat) (A1 : Option Addr) (c1 : Nat) (rows : List ByteArray) (r : Bool) (w : World) (hr1 : Kd.C Kd.string w A1 rows.length rows) (hc1 : rows.length ≤ c1) (hp : w.cell? ⟨b, 0, none⟩ = some (.slice A1 rows.length c1))
  (h : qtB.f rows x.f0 x.f1 = some r) :
  Calls Tryd.prog 56 (#[encCell x] ++ #[.pointer (some ⟨b, 0, none⟩)]) w fun e w' => e = .returned (.bool r) ∧ Below w.heap.size w w' := by
 have hu := Tryd.underlying94
 have g7 := World.block_lt_of_cell? w _ hp
 have HR := Lib.hid hr1
 clear hr1
 unfold qtB.f at h
 replace h := Option.bind_eq_some_iff.mp h
 obtain ⟨b1, hb1, h⟩ := h
 have HH := fun (W : World) (hw : Below w.heap.size w W) => Lib.hid (qMA.calls A1 c1 rows x.f0 x.f1 b1 W (Kd.qYA HR.out hw) hc1 hb1)
 show Calls Tryd.prog 56 #[encCell x, .pointer (some ⟨b, 0, none⟩)] w _
 unfold encCell
 have H := Lib.hid h
 clear h hb1
 cases b1 with
 | false =>
  have H1 := H.out
  rw [if_neg (by decide)] at H1
  obtain rfl := Option.some.inj H1
  clear H H1
  go_enter Tryd.func56, Tryd.ntmps56
  go_wp2_with (first | (go_at_call 52; refine (HH _ (qv (Below.refl _ _) _)).out.mono ?_; rintro e w1 ⟨rfl, ⟨nd, rfl⟩⟩))
  go_ret
  exact ⟨rfl, qu (qv (Below.refl _ _) _) nd⟩
 | true =>
  have H1 := H.out
  rw [if_pos rfl] at H1
  replace H1 := Option.bind_eq_some_iff.mp H1
  obtain ⟨c, hc, H1⟩ := H1
  obtain rfl := Option.some.inj H1
  clear H H1
  have HA := fun (W : World) (hw : Below w.heap.size w W) => Lib.hid (qTA.calls A1 c1 rows x.f0 x.f1 c W (Kd.qYA HR.out hw) hc1 hc)
  clear hc
  go_enter Tryd.func56, Tryd.ntmps56
  go_wp2_with (first | (go_at_call 52; refine (HH _ (qv (Below.refl _ _) _)).out.mono ?_; rintro e w1 ⟨rfl, ⟨nd, rfl⟩⟩) | (go_at_call 53; refine (HA _ (qu (qv (Below.refl _ _) _) _)).out.mono ?_; rintro e w2 ⟨rfl, ⟨nd2, rfl⟩⟩))
  go_ret
  exact ⟨rfl, qu (qv (Below.refl _ _) _) (nd + nd2)⟩
theorem qwA.calls (A0 : Option Addr) (c0 : Nat) (l0 : List S94) (b : Nat) (A1 : Option Addr) (c1 : Nat) (l1 : List ByteArray) (r : Bool) (w : World) (hr0 : Kd.C k94 w A0 l0.length l0) (hc0 : l0.length ≤ c0) (hr1 : Kd.C Kd.string w A1 l1.length l1) (hc1 : l1.length ≤ c1) (hp : w.cell? ⟨b, 0, none⟩ = some (.slice A1 l1.length c1))
  (h : qwA.f l0 l1 = some r) :
  Calls Tryd.prog 54 #[.slice A0 l0.length c0, .func (.func 56) #[] #[.pointer (some ⟨b, 0, none⟩)]] w fun e w' => e = .returned (.bool r) ∧ Below w.heap.size w w' := by
 unfold qwA.f at h
 split at h
 ·rename_i hall
  obtain rfl := Option.some.inj h
  have eg := Go.Proofs.enters_of Tryd.func56 (by kernel_rfl) rfl
  refine containsFunc_Cell (fun c => (qtB.f l1 c.f0 c.f1).getD false) 56 _ eg A0 c0 l0 w hr0 fun W x hx hb => ?_
  have hs := List.all_eq_true.1 hall x hx
  obtain ⟨v, hv⟩ := Option.isSome_iff_exists.1 hs
  have e : (qtB.f l1 x.f0 x.f1).getD false = v := by rw [hv]; rfl
  show Calls _ _ _ _ fun e w' => e = .returned (.bool ((qtB.f l1 x.f0 x.f1).getD false)) ∧ _
  rw [e]
  exact isBox1_calls x b A1 c1 l1 v W (Kd.qYA hr1 hb) hc1 (qNB hb hp) hv
 ·cases h
end Go.Proofs.YtdagdhmcebeadaaDoor
namespace Go.Proofs.YtdagdhmcebeadaaDoor.P
open Go.RowKit Go.Proofs.YtdagdhmcebeadaaDoorW.PrintWords Go.Proofs.YtdagdhmcebeadaaDoorW.PrintLast Go.Proofs.YtdagdhmcebeadaaDoorW.PrintMore
attribute [local go_sem] qDA qBA qLA qKA qq qp qCA qAA
set_option linter.unusedVariables false
set_option linter.unusedSimpArgs false
def qe.j0 : Nat → Bool → List ByteArray → Int → Int → Int → Option (Bool)
 | 0, _, _, _, _, _ => none
 | k + 1, x31, x321000, x322000, x322001, x322002 => if x31 = true then (some false) else ((qrA.f x322000 x322001 x322002).bind fun t325 => ((qwA.f t325 x321000).bind fun t328 => (some (!t328))))
def qe.f (k : Nat) (l0 : List ByteArray) (a1_0 : Int) (a1_1 : Int) (a1_2 : Int) : Option (Bool) := (qXA.f a1_2 0 2).bind fun t322 => (if t322 = true then ((qMA.f l0 a1_0 a1_1).bind fun t323 => (if t323 = true then (if a1_2 = 0 then ((qTA.f l0 a1_0 a1_1).bind fun t324 => (qe.j0 k (t324 == 45) l0 a1_0 a1_1 a1_2)) else (qe.j0 k false l0 a1_0 a1_1 a1_2)) else (qe.j0 k true l0 a1_0 a1_1 a1_2))) else (qe.j0 k true l0 a1_0 a1_1 a1_2))
set_option maxHeartbeats 8000000 in
set_option maxRecDepth 100000 in
theorem qe.calls (k : Nat) (A0 : Option Addr) (c0 : Nat) (l0 : List ByteArray) (a1_0 : Int) (a1_1 : Int) (a1_2 : Int) (r : Bool) (w : World) (hr0 : Kd.C Kd.string w A0 l0.length l0) (hc0 : l0.length ≤ c0) (h : qe.f k l0 a1_0 a1_1 a1_2 = some r) :
  Calls Tryd.prog 31 #[.slice A0 l0.length c0, .agg #[.int .i64 a1_0, .int .i64 a1_1, .int .i64 a1_2]] w fun e w' => e = .returned (.bool r) ∧ Below w.heap.size w w' := by
 have hu27 := Tryd.underlying27
 have HR0 := Aside0.mk hr0
 have HC0 := Aside0.mk hc0
 clear hr0 hc0
 have HB := Aside0.mk (Below.refl w.heap.size w)
 have H : ((qXA.f a1_2 0 2).bind fun t322 => (if t322 = true then ((qMA.f l0 a1_0 a1_1).bind fun t323 => (if t323 = true then (if a1_2 = 0 then ((qTA.f l0 a1_0 a1_1).bind fun t324 => (qe.j0 k (t324 == 45) l0 a1_0 a1_1 a1_2)) else (qe.j0 k false l0 a1_0 a1_1 a1_2)) else (qe.j0 k true l0 a1_0 a1_1 a1_2))) else (qe.j0 k true l0 a1_0 a1_1 a1_2))) = some r := h
 clear h
 have HC3 := Aside0.mk H
 clear H
 go_enter Tryd.func31, Tryd.ntmps31
 go_upto_region 1 with (first | ((with_reducible refine qd (N := 2) rfl ?_); refine qY ?hg (N := 2) ?hd (cs := #[.slice A0 l0.length c0]) (t := 53) ?hr ?_; (case hd => rfl); (case hg => rfl); (case hr => first | (go_simp; done) | (go_simp; rfl)); intro gb320 hg w4 hbox hb; have n0_ := Aside0.mk (qG bl hb); have n1_ := Aside0.mk (hbox); have n2_ := Aside0.mk ((gg hg)); have n3_ := Aside0.mk ((gg hg)); clear HB; have HB := n0_; have BK320 := n1_; have GW320 := n2_; have GE320 := n3_; clear n0_ n1_ n2_ n3_; clear hb hbox hg) | ((with_reducible refine qd (N := 3) rfl ?_); refine qY ?hg (N := 3) ?hd (cs := #[.int .i64 a1_0, .int .i64 a1_1, .int .i64 a1_2]) (t := 27) ?hr ?_; (case hd => rfl); (case hg => rfl); (case hr => first | (go_simp; done) | (go_simp; rfl)); intro gb321 hg w5 hbox hb; have n0_ := Aside0.mk (bb BK320 hb); have n1_ := Aside0.mk (qG bl hb); have n2_ := Aside0.mk (hbox); have n3_ := Aside0.mk ((gg hg)); have n4_ := Aside0.mk ((gg hg)); have n5_ := Aside0.mk ((nl BK320 hg)); have n6_ := Aside0.mk ((nr BK320 hg)); clear BK320; clear HB; have BK320 := n0_; have HB := n1_; have BK321 := n2_; have GW321 := n3_; have GE321 := n4_; have NB320_321 := n5_; have NB321_320 := n6_; clear n0_ n1_ n2_ n3_ n4_ n5_ n6_; clear hb hbox hg))
 (try simp only [Act.put, List.setIfInBounds_toArray, List.set_cons_zero, List.set_cons_succ])
 go_cut [31] (fun v31 wc => ∃ (kq : Nat) (x31_2 : Bool), v31 = .bool x31_2 ∧ Aside0 (qe.j0 kq x31_2 l0 a1_0 a1_1 a1_2 = some r) ∧ Aside0 (kq ≤ k) ∧ Aside0 (wc.heap[gb320]? = some (.cells #[(.slice A0 l0.length c0)] 53 (0, 0))) ∧ Aside0 (wc.heap[gb321]? = some (.cells #[.int .i64 a1_0, .int .i64 a1_1, .int .i64 a1_2] 27 (0, 0))) ∧ Aside0 (Below w.heap.size w wc))
 case first =>
  have H := HC3.out
  clear HC3
  replace H := Option.bind_eq_some_iff.mp H
  obtain ⟨t322, A60, H⟩ := H
  replace H : (if t322 = true then ((qMA.f l0 a1_0 a1_1).bind fun t323 => (if t323 = true then (if a1_2 = 0 then ((qTA.f l0 a1_0 a1_1).bind fun t324 => (qe.j0 k (t324 == 45) l0 a1_0 a1_1 a1_2)) else (qe.j0 k false l0 a1_0 a1_1 a1_2)) else (qe.j0 k true l0 a1_0 a1_1 a1_2))) else (qe.j0 k true l0 a1_0 a1_1 a1_2)) = some r := H
  have A6 := Aside0.mk A60
  clear A60
  by_cases c7 : t322 = true
  ·subst c7
   have H1 : ((qMA.f l0 a1_0 a1_1).bind fun t323 => (if t323 = true then (if a1_2 = 0 then ((qTA.f l0 a1_0 a1_1).bind fun t324 => (qe.j0 k (t324 == 45) l0 a1_0 a1_1 a1_2)) else (qe.j0 k false l0 a1_0 a1_1 a1_2)) else (qe.j0 k true l0 a1_0 a1_1 a1_2))) = some r := by rw [if_pos rfl] at H; exact H
   clear H
   have H := H1
   clear H1
   replace H := Option.bind_eq_some_iff.mp H
   obtain ⟨t323, A80, H⟩ := H
   replace H : (if t323 = true then (if a1_2 = 0 then ((qTA.f l0 a1_0 a1_1).bind fun t324 => (qe.j0 k (t324 == 45) l0 a1_0 a1_1 a1_2)) else (qe.j0 k false l0 a1_0 a1_1 a1_2)) else (qe.j0 k true l0 a1_0 a1_1 a1_2)) = some r := H
   have A8 := Aside0.mk A80
   clear A80
   by_cases c9 : t323 = true
   ·subst c9
    have H1 : (if a1_2 = 0 then ((qTA.f l0 a1_0 a1_1).bind fun t324 => (qe.j0 k (t324 == 45) l0 a1_0 a1_1 a1_2)) else (qe.j0 k false l0 a1_0 a1_1 a1_2)) = some r := by rw [if_pos rfl] at H; exact H
    clear H
    have H := H1
    clear H1
    by_cases c10 : a1_2 = 0
    ·rw [if_pos c10] at H
     have c10b0 : (a1_2 == 0) = true := beq_iff_eq.mpr c10
     have c10b1 : (a1_2 != 0) = false := bne_eq_false_iff_eq.mpr c10
     clear c10
     (first | rw [c10b0] | (simp only [i64_w, i32_w]; rw [c10b0]) | skip)
     replace H := Option.bind_eq_some_iff.mp H
     obtain ⟨t324, A110, H⟩ := H
     replace H : (qe.j0 k (t324 == 45) l0 a1_0 a1_1 a1_2) = some r := H
     have A11 := Aside0.mk A110
     clear A110
     have H' := Aside0.mk H
     clear H
     have hnb12 := NB321_320.out
     have hnc12 := NB320_321.out
     have hcz13_0 := bc BK321 0
     have hcz13_1 := bc BK321 1
     have hcz13_2 := bc BK321 2
     have hfz13_0 := qC BK321.out 0
     have hfz13_1 := qC BK321.out 1
     have hfz13_2 := qC BK321.out 2
     go_wp2_with (first | ((with_reducible refine qS (f := 51) rfl ?_); refine qt (some 7) rfl rfl Tryd.func51 (by kernel_rfl) rfl #[.int .i64 a1_2, .int .i64 0, .int .i64 2] rfl (by (try simp only [List.map_toArray, List.map_cons, List.map_nil]); first | done | rfl | (simp only [List.length_drop, List.length_take]; rfl)) ?_; (with_reducible refine (qXA.calls a1_2 0 2 true _ A6.out).mono ?_); rintro e w' ⟨rfl, ⟨nd, rfl⟩⟩; refine ⟨_, rfl, ?_⟩; have hcz14_0 := bc BK320 0; have hfz14_0 := qC BK320.out 0) | (go_at_call 52; (with_reducible refine (qMA.calls _ _ l0 a1_0 a1_1 true _ ?side1 ?side2 A8.out).mono ?_); (case side1 => repeat (first | exact (Kd.qYA HR0.out bl) | (with_reducible refine Kd.qz ?_ _) | (with_reducible refine Kd.qy ?_ _) | (with_reducible refine Kd.qNA ?_))); (case side2 => exact HC0.out); rintro e w' ⟨rfl, ⟨nd, rfl⟩⟩) | (go_at_call 53; (with_reducible refine (qTA.calls _ _ l0 a1_0 a1_1 t324 _ ?side1 ?side2 A11.out).mono ?_); (case side1 => repeat (first | exact (Kd.qYA HR0.out bl) | (with_reducible refine Kd.qz ?_ _) | (with_reducible refine Kd.qy ?_ _) | (with_reducible refine Kd.qNA ?_))); (case side2 => exact HC0.out); rintro e w' ⟨rfl, ⟨nd, rfl⟩⟩))
     go_meet
     case rel => exact ⟨_, ((t324 == 45)), (by first | rfl | (simp; done) | (simp [*]; done)), H', ⟨by first | omega | exact Nat.le_refl _⟩, ⟨by (with_reducible repeat (first | refine qB ?_ _ | refine qD ?_ | refine qA ?_ _)); exact BK320.out⟩, ⟨by (with_reducible repeat (first | refine qB ?_ _ | refine qD ?_ | refine qA ?_ _)); exact BK321.out⟩, ⟨bl⟩⟩
    ·rw [if_neg c10] at H
     have c10b0 : (a1_2 == 0) = false := beq_eq_false_iff_ne.mpr c10
     have c10b1 : (a1_2 != 0) = true := bne_iff_ne.mpr c10
     (first | rw [c10b0] | (simp only [i64_w, i32_w]; rw [c10b0]) | skip)
     have H' := Aside0.mk H
     clear H
     have hnb15 := NB321_320.out
     have hnc15 := NB320_321.out
     have hcz16_0 := bc BK321 0
     have hcz16_1 := bc BK321 1
     have hcz16_2 := bc BK321 2
     have hfz16_0 := qC BK321.out 0
     have hfz16_1 := qC BK321.out 1
     have hfz16_2 := qC BK321.out 2
     go_wp2_with (first | ((with_reducible refine qS (f := 51) rfl ?_); refine qt (some 7) rfl rfl Tryd.func51 (by kernel_rfl) rfl #[.int .i64 a1_2, .int .i64 0, .int .i64 2] rfl (by (try simp only [List.map_toArray, List.map_cons, List.map_nil]); first | done | rfl | (simp only [List.length_drop, List.length_take]; rfl)) ?_; (with_reducible refine (qXA.calls a1_2 0 2 true _ A6.out).mono ?_); rintro e w' ⟨rfl, ⟨nd, rfl⟩⟩; refine ⟨_, rfl, ?_⟩; have hcz17_0 := bc BK320 0; have hfz17_0 := qC BK320.out 0) | (go_at_call 52; (with_reducible refine (qMA.calls _ _ l0 a1_0 a1_1 true _ ?side1 ?side2 A8.out).mono ?_); (case side1 => repeat (first | exact (Kd.qYA HR0.out bl) | (with_reducible refine Kd.qz ?_ _) | (with_reducible refine Kd.qy ?_ _) | (with_reducible refine Kd.qNA ?_))); (case side2 => exact HC0.out); rintro e w' ⟨rfl, ⟨nd, rfl⟩⟩))
     go_meet
     case rel => exact ⟨_, (false), (by first | rfl | (simp; done) | (simp [*]; done)), H', ⟨by first | omega | exact Nat.le_refl _⟩, ⟨by (with_reducible repeat (first | refine qB ?_ _ | refine qD ?_ | refine qA ?_ _)); exact BK320.out⟩, ⟨by (with_reducible repeat (first | refine qB ?_ _ | refine qD ?_ | refine qA ?_ _)); exact BK321.out⟩, ⟨bl⟩⟩
   ·replace c9 := Bool.eq_false_iff.mpr c9
    subst c9
    have H1 : (qe.j0 k true l0 a1_0 a1_1 a1_2) = some r := by rw [if_neg (show ¬ (false = true) by decide)] at H; exact H
    clear H
    have H := H1
    clear H1
    have H' := Aside0.mk H
    clear H
    have hnb18 := NB321_320.out
    have hnc18 := NB320_321.out
    have hcz19_0 := bc BK321 0
    have hcz19_1 := bc BK321 1
    have hcz19_2 := bc BK321 2
    have hfz19_0 := qC BK321.out 0
    have hfz19_1 := qC BK321.out 1
    have hfz19_2 := qC BK321.out 2
    go_wp2_with (first | ((with_reducible refine qS (f := 51) rfl ?_); refine qt (some 7) rfl rfl Tryd.func51 (by kernel_rfl) rfl #[.int .i64 a1_2, .int .i64 0, .int .i64 2] rfl (by (try simp only [List.map_toArray, List.map_cons, List.map_nil]); first | done | rfl | (simp only [List.length_drop, List.length_take]; rfl)) ?_; (with_reducible refine (qXA.calls a1_2 0 2 true _ A6.out).mono ?_); rintro e w' ⟨rfl, ⟨nd, rfl⟩⟩; refine ⟨_, rfl, ?_⟩; have hcz20_0 := bc BK320 0; have hfz20_0 := qC BK320.out 0) | (go_at_call 52; (with_reducible refine (qMA.calls _ _ l0 a1_0 a1_1 false _ ?side1 ?side2 A8.out).mono ?_); (case side1 => repeat (first | exact (Kd.qYA HR0.out bl) | (with_reducible refine Kd.qz ?_ _) | (with_reducible refine Kd.qy ?_ _) | (with_reducible refine Kd.qNA ?_))); (case side2 => exact HC0.out); rintro e w' ⟨rfl, ⟨nd, rfl⟩⟩))
    go_meet
    case rel => exact ⟨_, (true), (by first | rfl | (simp; done) | (simp [*]; done)), H', ⟨by first | omega | exact Nat.le_refl _⟩, ⟨by (with_reducible repeat (first | refine qB ?_ _ | refine qD ?_ | refine qA ?_ _)); exact BK320.out⟩, ⟨by (with_reducible repeat (first | refine qB ?_ _ | refine qD ?_ | refine qA ?_ _)); exact BK321.out⟩, ⟨bl⟩⟩
  ·replace c7 := Bool.eq_false_iff.mpr c7
   subst c7
   have H1 : (qe.j0 k true l0 a1_0 a1_1 a1_2) = some r := by rw [if_neg (show ¬ (false = true) by decide)] at H; exact H
   clear H
   have H := H1
   clear H1
   have H' := Aside0.mk H
   clear H
   have hnb21 := NB321_320.out
   have hnc21 := NB320_321.out
   have hcz22_0 := bc BK321 0
   have hcz22_1 := bc BK321 1
   have hcz22_2 := bc BK321 2
   have hfz22_0 := qC BK321.out 0
   have hfz22_1 := qC BK321.out 1
   have hfz22_2 := qC BK321.out 2
   go_wp2_with (first | ((with_reducible refine qS (f := 51) rfl ?_); refine qt (some 7) rfl rfl Tryd.func51 (by kernel_rfl) rfl #[.int .i64 a1_2, .int .i64 0, .int .i64 2] rfl (by (try simp only [List.map_toArray, List.map_cons, List.map_nil]); first | done | rfl | (simp only [List.length_drop, List.length_take]; rfl)) ?_; (with_reducible refine (qXA.calls a1_2 0 2 false _ A6.out).mono ?_); rintro e w' ⟨rfl, ⟨nd, rfl⟩⟩; refine ⟨_, rfl, ?_⟩))
   go_meet
   case rel => exact ⟨_, (true), (by first | rfl | (simp; done) | (simp [*]; done)), H', ⟨by first | omega | exact Nat.le_refl _⟩, ⟨by (with_reducible repeat (first | refine qB ?_ _ | refine qD ?_ | refine qA ?_ _)); exact BK320.out⟩, ⟨by (with_reducible repeat (first | refine qB ?_ _ | refine qD ?_ | refine qA ?_ _)); exact BK321.out⟩, ⟨bl⟩⟩
 case rest =>
  clear HC3
  try clear c1
  try clear c2
  try clear p2
  try clear c3
  try clear c5
  try clear c7
  try clear c9
  try clear c10
  try clear c10b0
  try clear c10b1
  try clear c12
  try clear c15
  try clear c18
  try clear c21
  try clear hcz13_0
  try clear hcz13_1
  try clear hcz13_2
  try clear hcz14_0
  try clear hcz16_0
  try clear hcz16_1
  try clear hcz16_2
  try clear hcz17_0
  try clear hcz19_0
  try clear hcz19_1
  try clear hcz19_2
  try clear hcz20_0
  try clear hcz22_0
  try clear hcz22_1
  try clear hcz22_2
  try clear hfz13_0
  try clear hfz13_1
  try clear hfz13_2
  try clear hfz14_0
  try clear hfz16_0
  try clear hfz16_1
  try clear hfz16_2
  try clear hfz17_0
  try clear hfz19_0
  try clear hfz19_1
  try clear hfz19_2
  try clear hfz20_0
  try clear hfz22_0
  try clear hfz22_1
  try clear hfz22_2
  obtain ⟨kq, x31_2, rfl, HA, HJ2, BK320, BK321, HB⟩ := hcut
  cases kq with
  | zero => exact absurd HA.out (by simp [qe.j0])
  | succ kj2 =>
   have H := HA.out
   clear HA
   simp only [qe.j0] at H
   by_cases c23 : x31_2 = true
   ·subst c23
    have H1 : (some false) = some r := by rw [if_pos rfl] at H; exact H
    clear H
    have H := H1
    clear H1
    obtain rfl := Option.some.inj H
    go_wp2
    go_ret
    exact ⟨by first | rfl | (simp [qJ, qI] <;> rfl) | (simp [*, qJ, qI] <;> rfl), bl⟩
   ·replace c23 := Bool.eq_false_iff.mpr c23
    subst c23
    have H1 : ((qrA.f a1_0 a1_1 a1_2).bind fun t325 => ((qwA.f t325 l0).bind fun t328 => (some (!t328)))) = some r := by rw [if_neg (show ¬ (false = true) by decide)] at H; exact H
    clear H
    have H := H1
    clear H1
    replace H := Option.bind_eq_some_iff.mp H
    obtain ⟨t325, A240, H⟩ := H
    replace H : ((qwA.f t325 l0).bind fun t328 => (some (!t328))) = some r := H
    have A24 := Aside0.mk A240
    clear A240
    replace H := Option.bind_eq_some_iff.mp H
    obtain ⟨t328, A250, H⟩ := H
    replace H : (some (!t328)) = some r := H
    have A25 := Aside0.mk A250
    clear A250
    obtain rfl := Option.some.inj H
    have hnb26 := NB321_320.out
    have hnc26 := NB320_321.out
    have hcz27_0 := bc BK321 0
    have hcz27_1 := bc BK321 1
    have hcz27_2 := bc BK321 2
    have hfz27_0 := qC BK321.out 0
    have hfz27_1 := qC BK321.out 1
    have hfz27_2 := qC BK321.out 2
    go_wp2_with (first | ((with_reducible refine qS (f := 55) rfl ?_); refine qt (some 33) rfl rfl Tryd.func55 (by kernel_rfl) rfl #[.agg #[.int .i64 a1_0, .int .i64 a1_1, .int .i64 a1_2]] rfl (by (try simp only [List.map_toArray, List.map_cons, List.map_nil]); first | done | rfl | (simp only [List.length_drop, List.length_take]; rfl)) ?_; (with_reducible refine (qrA.calls a1_0 a1_1 a1_2 t325 _ A24.out).mono ?_); rintro e w28 ⟨v326, rfl, ho0, hb⟩; refine ⟨_, rfl, ?_⟩; have n0_ := Aside0.mk (Kd.qHA ho0 (qg bl)); have n1_ := Aside0.mk (bb BK320 hb); have n2_ := Aside0.mk (bb BK321 hb); have n3_ := Aside0.mk (qG bl hb); clear BK320; clear BK321; clear HB; have HO327 := n0_; have BK320 := n1_; have BK321 := n2_; have HB := n3_; clear n0_ n1_ n2_ n3_; (try clear hb); (try clear hb2); (try clear hk); (try clear hi); (try clear ho0); obtain ⟨Ao29, co29, eo29⟩ := Kd.qo HO327.out; subst eo29) | ((with_reducible refine qS (f := 54) rfl ?_); refine qt (some 35) rfl rfl Tryd.func54 (by kernel_rfl) rfl #[.slice Ao29 t325.length co29, .func (.func 56) #[] #[.pointer (some ⟨gb320, 0, none⟩)]] rfl (by (try simp only [List.map_toArray, List.map_cons, List.map_nil]); first | done | rfl | (simp only [List.length_drop, List.length_take]; rfl)) ?_; (with_reducible refine (qwA.calls _ _ t325 gb320 A0 c0 l0 t328 _ ?side1 ?side2 ?side3 ?side4 ?side5 A25.out).mono ?_); (case side1 => repeat (first | exact (Kd.qT HO327.out).2.2 | (with_reducible refine Kd.qz ?_ _) | (with_reducible refine Kd.qy ?_ _) | (with_reducible refine Kd.qNA ?_))); (case side2 => exact (Kd.qT HO327.out).2.1); (case side3 => repeat (first | exact (Kd.qYA HR0.out HB.out) | (with_reducible refine Kd.qz ?_ _) | (with_reducible refine Kd.qy ?_ _) | (with_reducible refine Kd.qNA ?_))); (case side4 => exact HC0.out); (case side5 => exact (cell_of_row _ gb320 0 _ 53 (0, 0) (by (with_reducible repeat (first | refine qB ?_ _ | refine qD ?_ | refine qA ?_ _)); exact BK320.out)).trans rfl); rintro e w30 ⟨rfl, hb⟩; refine ⟨_, rfl, ?_⟩; have n0_ := Aside0.mk (Kd.qa (by (with_reducible repeat (first | apply Kd.qF | apply Kd.qE | apply Kd.qH)); exact HO327.out) hb); have n1_ := Aside0.mk (bb BK320 hb); have n2_ := Aside0.mk (bb BK321 hb); have n3_ := Aside0.mk (qG bl hb); clear HO327; clear BK320; clear BK321; clear HB; have HO327 := n0_; have BK320 := n1_; have BK321 := n2_; have HB := n3_; clear n0_ n1_ n2_ n3_; (try clear hb); (try clear hb2); (try clear hk); (try clear hi)))
    go_ret
    exact ⟨by first | rfl | (simp [qJ, qI] <;> rfl) | (simp [*, qJ, qI] <;> rfl), bl⟩
def qhA.f (k : Nat) (a0 : ByteArray) (a1_0 : Int) (a1_1 : Int) (a1_2 : Int) : Option (List ByteArray × Bool) := (qvA.f k a0).bind fun bt330 => (if bt330.2 = true then ((qe.f k bt330.1 a1_0 a1_1 a1_2).bind fun t334 => (some (bt330.1, t334))) else (some (bt330.1, false)))
set_option maxHeartbeats 8000000 in
set_option maxRecDepth 100000 in
theorem qhA.calls (k : Nat) (a0 : ByteArray) (a1_0 : Int) (a1_1 : Int) (a1_2 : Int) (r1 : List ByteArray) (r2 : Bool) (w : World) (hL : Laid w) (h : qhA.f k a0 a1_0 a1_1 a1_2 = some (r1, r2)) :
  Calls Tryd.prog 20 #[.string a0, .agg #[.int .i64 a1_0, .int .i64 a1_1, .int .i64 a1_2]] w fun e w' => ∃ v0_ : Value, e = .returned (.tuple #[v0_, .bool r2]) ∧ Kd.R Kd.string 9 w' w.heap.size (fun _ => True) v0_ r1 ∧ Below w.heap.size w w' := by
 have hu27 := Tryd.underlying27
 have HLD := Aside0.mk hL
 clear hL
 have HB := Aside0.mk (Below.refl w.heap.size w)
 have H : ((qvA.f k a0).bind fun bt330 => (if bt330.2 = true then ((qe.f k bt330.1 a1_0 a1_1 a1_2).bind fun t334 => (some (bt330.1, t334))) else (some (bt330.1, false)))) = some (r1, r2) := h
 clear h
 replace H := Option.bind_eq_some_iff.mp H
 obtain ⟨⟨t330, t331⟩, A30, H⟩ := H
 replace H : (if t331 = true then ((qe.f k t330 a1_0 a1_1 a1_2).bind fun t334 => (some (t330, t334))) else (some (t330, false))) = some (r1, r2) := H
 have A3 := Aside0.mk A30
 clear A30
 by_cases c4 : t331 = true
 ·subst c4
  have H1 : ((qe.f k t330 a1_0 a1_1 a1_2).bind fun t334 => (some (t330, t334))) = some (r1, r2) := by rw [if_pos rfl] at H; exact H
  clear H
  have H := H1
  clear H1
  replace H := Option.bind_eq_some_iff.mp H
  obtain ⟨t334, A50, H⟩ := H
  replace H : (some (t330, t334)) = some (r1, r2) := H
  have A5 := Aside0.mk A50
  clear A50
  simp only [Option.some.injEq, Prod.mk.injEq] at H
  obtain ⟨rfl, rfl⟩ := H
  go_enter Tryd.func20, Tryd.ntmps20
  go_wp2_with (first | ((with_reducible refine qd (N := 3) rfl ?_); refine qY ?hg (N := 3) ?hd (cs := #[.int .i64 a1_0, .int .i64 a1_1, .int .i64 a1_2]) (t := 27) ?hr ?_; (case hd => rfl); (case hg => rfl); (case hr => first | (go_simp; done) | (go_simp; rfl)); intro gb329 hg w6 hbox hb; have n0_ := Aside0.mk (qG bl hb); have n1_ := Aside0.mk (hbox); have n2_ := Aside0.mk ((gg hg)); have n3_ := Aside0.mk ((gg hg)); clear HB; have HB := n0_; have BK329 := n1_; have GW329 := n2_; have GE329 := n3_; clear n0_ n1_ n2_ n3_; clear hb hbox hg) | ((with_reducible refine qS (f := 30) rfl ?_); refine qt (some 10) rfl rfl Tryd.func30 (by kernel_rfl) rfl #[.string a0] rfl (by (try simp only [List.map_toArray, List.map_cons, List.map_nil]); first | done | rfl | (simp only [List.length_drop, List.length_take]; rfl)) ?_; (with_reducible refine (qvA.calls k a0 t330 true _ ?side1 A3.out).mono ?_); (case side1 => first | exact HLD.out | exact Laid.below HLD.out (by repeat (first | (with_reducible first | exact HB.out | apply qv | apply qu | apply qm | refine qVA ?_ (Aside0.out (by with_reducible assumption))) | exact HB.out))); rintro e w7 ⟨v332, rfl, ho0, hb⟩; refine ⟨_, rfl, ?_⟩; have n0_ := Aside0.mk (Kd.qHA ho0 (qg bl)); have n1_ := Aside0.mk (bb BK329 hb); have n2_ := Aside0.mk (qG bl hb); clear BK329; clear HB; have HO333 := n0_; have BK329 := n1_; have HB := n2_; clear n0_ n1_ n2_; (try clear hb); (try clear hb2); (try clear hk); (try clear hi); (try clear ho0); have hcz8_0 := bc BK329 0; have hcz8_1 := bc BK329 1; have hcz8_2 := bc BK329 2; have hfz8_0 := qC BK329.out 0; have hfz8_1 := qC BK329.out 1; have hfz8_2 := qC BK329.out 2; obtain ⟨Ao9, co9, eo9⟩ := Kd.qo HO333.out; subst eo9) | (go_at_call 31; (with_reducible refine (qe.calls k _ _ t330 a1_0 a1_1 a1_2 t334 _ ?side1 ?side2 A5.out).mono ?_); (case side1 => repeat (first | exact (Kd.qT HO333.out).2.2 | (with_reducible refine Kd.qz ?_ _) | (with_reducible refine Kd.qy ?_ _) | (with_reducible refine Kd.qNA ?_))); (case side2 => exact (Kd.qT HO333.out).2.1); rintro e w10 ⟨rfl, hb⟩; have n0_ := Aside0.mk (Kd.qa (by (with_reducible repeat (first | apply Kd.qF | apply Kd.qE | apply Kd.qH)); exact HO333.out) hb); have n1_ := Aside0.mk (bb BK329 hb); have n2_ := Aside0.mk (qG bl hb); clear HO333; clear BK329; clear HB; have HO333 := n0_; have BK329 := n1_; have HB := n2_; clear n0_ n1_ n2_; (try clear hb); (try clear hb2); (try clear hk); (try clear hi)))
  go_ret2
  exact ⟨_, by first | rfl | (simp [qJ, qI] <;> rfl) | (simp [*, qJ, qI] <;> rfl), by (with_reducible repeat (first | apply Kd.qF | apply Kd.qE | apply Kd.qH)); exact HO333.out, bl⟩
 ·replace c4 := Bool.eq_false_iff.mpr c4
  subst c4
  have H1 : (some (t330, false)) = some (r1, r2) := by rw [if_neg (show ¬ (false = true) by decide)] at H; exact H
  clear H
  have H := H1
  clear H1
  simp only [Option.some.injEq, Prod.mk.injEq] at H
  obtain ⟨rfl, rfl⟩ := H
  go_enter Tryd.func20, Tryd.ntmps20
  go_wp2_with (first | ((with_reducible refine qd (N := 3) rfl ?_); refine qY ?hg (N := 3) ?hd (cs := #[.int .i64 a1_0, .int .i64 a1_1, .int .i64 a1_2]) (t := 27) ?hr ?_; (case hd => rfl); (case hg => rfl); (case hr => first | (go_simp; done) | (go_simp; rfl)); intro gb329 hg w11 hbox hb; have n0_ := Aside0.mk (qG bl hb); have n1_ := Aside0.mk (hbox); have n2_ := Aside0.mk ((gg hg)); have n3_ := Aside0.mk ((gg hg)); clear HB; have HB := n0_; have BK329 := n1_; have GW329 := n2_; have GE329 := n3_; clear n0_ n1_ n2_ n3_; clear hb hbox hg) | ((with_reducible refine qS (f := 30) rfl ?_); refine qt (some 10) rfl rfl Tryd.func30 (by kernel_rfl) rfl #[.string a0] rfl (by (try simp only [List.map_toArray, List.map_cons, List.map_nil]); first | done | rfl | (simp only [List.length_drop, List.length_take]; rfl)) ?_; (with_reducible refine (qvA.calls k a0 t330 false _ ?side1 A3.out).mono ?_); (case side1 => first | exact HLD.out | exact Laid.below HLD.out (by repeat (first | (with_reducible first | exact HB.out | apply qv | apply qu | apply qm | refine qVA ?_ (Aside0.out (by with_reducible assumption))) | exact HB.out))); rintro e w12 ⟨v332, rfl, ho0, hb⟩; refine ⟨_, rfl, ?_⟩; have n0_ := Aside0.mk (Kd.qHA ho0 (qg bl)); have n1_ := Aside0.mk (bb BK329 hb); have n2_ := Aside0.mk (qG bl hb); clear BK329; clear HB; have HO333 := n0_; have BK329 := n1_; have HB := n2_; clear n0_ n1_ n2_; (try clear hb); (try clear hb2); (try clear hk); (try clear hi); (try clear ho0)))
  go_ret2
  exact ⟨_, by first | rfl | (simp [qJ, qI] <;> rfl) | (simp [*, qJ, qI] <;> rfl), by (with_reducible repeat (first | apply Kd.qF | apply Kd.qE | apply Kd.qH)); exact HO333.out, bl⟩
def qJB.f (a0 : Int) (a1 : Int) (a2 : Int) : Option (Int × Int) := if a2 = 110 then (some (a0, wrap64 (a1 - 1))) else (if a2 = 101 then (some (wrap64 (a0 + 1), a1)) else (if a2 = 115 then (some (a0, wrap64 (a1 + 1))) else (some (wrap64 (a0 - 1), a1))))
set_option maxHeartbeats 8000000 in
set_option maxRecDepth 100000 in
theorem qJB.calls (a0 : Int) (a1 : Int) (a2 : Int) (r1 : Int) (r2 : Int) (w : World) (h : qJB.f a0 a1 a2 = some (r1, r2)) :
  Calls Tryd.prog 57 #[.int .i64 a0, .int .i64 a1, .int .u8 a2] w fun e w' => e = .returned (.tuple #[.int .i64 r1, .int .i64 r2]) ∧ Drawn0 w w' := by
 have H : (if a2 = 110 then (some (a0, wrap64 (a1 - 1))) else (if a2 = 101 then (some (wrap64 (a0 + 1), a1)) else (if a2 = 115 then (some (a0, wrap64 (a1 + 1))) else (some (wrap64 (a0 - 1), a1))))) = some (r1, r2) := h
 clear h
 by_cases c4 : a2 = 110
 ·rw [if_pos c4] at H
  have c4b0 : (a2 == 110) = true := beq_iff_eq.mpr c4
  have c4b1 : (a2 != 110) = false := bne_eq_false_iff_eq.mpr c4
  clear c4
  simp only [Option.some.injEq, Prod.mk.injEq] at H
  obtain ⟨rfl, rfl⟩ := H
  go_enter Tryd.func57, Tryd.ntmps57
  go_wp2
  go_ret2
  exact ⟨by first | rfl | (simp; done) | (simp [*]; done), by repeat (first | exact Drawn0.refl _ | apply Drawn0.step)⟩
 ·rw [if_neg c4] at H
  have c4b0 : (a2 == 110) = false := beq_eq_false_iff_ne.mpr c4
  have c4b1 : (a2 != 110) = true := bne_iff_ne.mpr c4
  by_cases c5 : a2 = 101
  ·rw [if_pos c5] at H
   have c5b0 : (a2 == 101) = true := beq_iff_eq.mpr c5
   have c5b1 : (a2 != 101) = false := bne_eq_false_iff_eq.mpr c5
   clear c5
   simp only [Option.some.injEq, Prod.mk.injEq] at H
   obtain ⟨rfl, rfl⟩ := H
   go_enter Tryd.func57, Tryd.ntmps57
   go_wp2
   go_ret2
   exact ⟨by first | rfl | (simp; done) | (simp [*]; done), by repeat (first | exact Drawn0.refl _ | apply Drawn0.step)⟩
  ·rw [if_neg c5] at H
   have c5b0 : (a2 == 101) = false := beq_eq_false_iff_ne.mpr c5
   have c5b1 : (a2 != 101) = true := bne_iff_ne.mpr c5
   by_cases c6 : a2 = 115
   ·rw [if_pos c6] at H
    have c6b0 : (a2 == 115) = true := beq_iff_eq.mpr c6
    have c6b1 : (a2 != 115) = false := bne_eq_false_iff_eq.mpr c6
    clear c6
    simp only [Option.some.injEq, Prod.mk.injEq] at H
    obtain ⟨rfl, rfl⟩ := H
    go_enter Tryd.func57, Tryd.ntmps57
    go_wp2
    go_ret2
    exact ⟨by first | rfl | (simp; done) | (simp [*]; done), by repeat (first | exact Drawn0.refl _ | apply Drawn0.step)⟩
   ·rw [if_neg c6] at H
    have c6b0 : (a2 == 115) = false := beq_eq_false_iff_ne.mpr c6
    have c6b1 : (a2 != 115) = true := bne_iff_ne.mpr c6
    simp only [Option.some.injEq, Prod.mk.injEq] at H
    obtain ⟨rfl, rfl⟩ := H
    go_enter Tryd.func57, Tryd.ntmps57
    go_wp2
    go_ret2
    exact ⟨by first | rfl | (simp; done) | (simp [*]; done), by repeat (first | exact Drawn0.refl _ | apply Drawn0.step)⟩
mutual
def qX.j0 : Nat → Int → Bool → Int → Int → Int → Option (Int × Int × Int)
 | 0, _, _, _, _, _ => none
 | k + 1, x1, x5, x336000, x336001, x336002 => if x336002 = 0 then (if x1 = 110 then (some (x336000, wrap64 (x336001 - 2), 2)) else (if x1 = 101 then (some (wrap64 (x336000 + 1), x336001, 1)) else (if x1 = 115 then (some (x336000, wrap64 (x336001 + 1), 2)) else (some (wrap64 (x336000 - 2), x336001, 1))))) else (if x5 = true then (qX.j1 k x1 x5 (x1 == 101) x336000 x336001 x336002) else (qX.j1 k x1 x5 false x336000 x336001 x336002))
def qX.j1 : Nat → Int → Bool → Bool → Int → Int → Int → Option (Int × Int × Int)
 | 0, _, _, _, _, _, _ => none
 | k + 1, x1, x5, x67, x336000, x336001, x336002 => if x67 = true then (some (wrap64 (x336000 + 2), x336001, 0)) else (if x5 = true then (qX.j2 k x1 x5 (x1 == 115) x336000 x336001 x336002) else (qX.j2 k x1 x5 false x336000 x336001 x336002))
def qX.j2 : Nat → Int → Bool → Bool → Int → Int → Int → Option (Int × Int × Int)
 | 0, _, _, _, _, _, _ => none
 | k + 1, x1, x5, x79, x336000, x336001, x336002 => if x79 = true then (some (x336000, wrap64 (x336001 + 2), 0)) else ((qJB.f x336000 x336001 x1).bind fun bt337 => (if x5 = true then (some (bt337.1, bt337.2, 0)) else (some (bt337.1, bt337.2, x336002))))
end
def qX.f (k : Nat) (a0_0 : Int) (a0_1 : Int) (a0_2 : Int) (a1 : Int) : Option (Int × Int × Int) := if a0_2 = 2 then (if a1 = 110 then (qX.j0 k a1 true a0_0 a0_1 a0_2) else (if a1 = 115 then (qX.j0 k a1 true a0_0 a0_1 a0_2) else (if a0_2 = 1 then (if a1 = 101 then (qX.j0 k a1 true a0_0 a0_1 a0_2) else (qX.j0 k a1 (a1 == 119) a0_0 a0_1 a0_2)) else (qX.j0 k a1 false a0_0 a0_1 a0_2)))) else (if a0_2 = 1 then (if a1 = 101 then (qX.j0 k a1 true a0_0 a0_1 a0_2) else (qX.j0 k a1 (a1 == 119) a0_0 a0_1 a0_2)) else (qX.j0 k a1 false a0_0 a0_1 a0_2))
set_option maxHeartbeats 8000000 in
set_option maxRecDepth 100000 in
theorem qX.calls (k : Nat) (a0_0 : Int) (a0_1 : Int) (a0_2 : Int) (a1 : Int) (r1 : Int) (r2 : Int) (r3 : Int) (w : World) (h : qX.f k a0_0 a0_1 a0_2 a1 = some (r1, r2, r3)) :
  Calls Tryd.prog 32 #[.agg #[.int .i64 a0_0, .int .i64 a0_1, .int .i64 a0_2], .int .u8 a1] w fun e w' => e = .returned (.agg #[.int .i64 r1, .int .i64 r2, .int .i64 r3]) ∧ Below w.heap.size w w' := by
 have hu27 := Tryd.underlying27
 have HB := Aside0.mk (Below.refl w.heap.size w)
 have H : (if a0_2 = 2 then (if a1 = 110 then (qX.j0 k a1 true a0_0 a0_1 a0_2) else (if a1 = 115 then (qX.j0 k a1 true a0_0 a0_1 a0_2) else (if a0_2 = 1 then (if a1 = 101 then (qX.j0 k a1 true a0_0 a0_1 a0_2) else (qX.j0 k a1 (a1 == 119) a0_0 a0_1 a0_2)) else (qX.j0 k a1 false a0_0 a0_1 a0_2)))) else (if a0_2 = 1 then (if a1 = 101 then (qX.j0 k a1 true a0_0 a0_1 a0_2) else (qX.j0 k a1 (a1 == 119) a0_0 a0_1 a0_2)) else (qX.j0 k a1 false a0_0 a0_1 a0_2))) = some (r1, r2, r3) := h
 clear h
 have HC3 := Aside0.mk H
 clear H
 go_enter Tryd.func32, Tryd.ntmps32
 go_upto_region 1 with (first | ((with_reducible refine qd (N := 2) rfl ?_); refine qY ?hg (N := 2) ?hd (cs := #[.int .i64 a0_0, .int .i64 a0_1, .int .i64 a0_2]) (t := 27) ?hr ?_; (case hd => rfl); (case hg => rfl); (case hr => first | (go_simp; done) | (go_simp; rfl)); intro gb335 hg w4 hbox hb; have n0_ := Aside0.mk (qG bl hb); have n1_ := Aside0.mk (hbox); have n2_ := Aside0.mk ((gg hg)); have n3_ := Aside0.mk ((gg hg)); clear HB; have HB := n0_; have BK335 := n1_; have GW335 := n2_; have GE335 := n3_; clear n0_ n1_ n2_ n3_; clear hb hbox hg) | ((with_reducible refine qd (N := 4) rfl ?_); refine qY ?hg (N := 4) ?hd (cs := #[.int .i64 0, .int .i64 0, .int .i64 0]) (t := 27) ?hr ?_; (case hd => rfl); (case hg => rfl); (case hr => first | (go_simp; done) | (go_simp; rfl)); intro gb336 hg w5 hbox hb; have n0_ := Aside0.mk (bb BK335 hb); have n1_ := Aside0.mk (qG bl hb); have n2_ := Aside0.mk (hbox); have n3_ := Aside0.mk ((gg hg)); have n4_ := Aside0.mk ((gg hg)); have n5_ := Aside0.mk ((nl BK335 hg)); have n6_ := Aside0.mk ((nr BK335 hg)); clear BK335; clear HB; have BK335 := n0_; have HB := n1_; have BK336 := n2_; have GW336 := n3_; have GE336 := n4_; have NB335_336 := n5_; have NB336_335 := n6_; clear n0_ n1_ n2_ n3_ n4_ n5_ n6_; clear hb hbox hg))
 (try simp only [Act.put, List.setIfInBounds_toArray, List.set_cons_zero, List.set_cons_succ])
 go_cut [5] (fun v5 wc => ∃ (kq : Nat) (x5_2 : Bool), v5 = .bool x5_2 ∧ Aside0 (qX.j0 kq a1 x5_2 a0_0 a0_1 a0_2 = some (r1, r2, r3)) ∧ Aside0 (kq ≤ k) ∧ Aside0 (wc.heap[gb335]? = some (.cells #[.int .i64 a0_0, .int .i64 a0_1, .int .i64 a0_2] 27 (0, 0))) ∧ Aside0 (wc.heap[gb336]? = some (.cells #[.int .i64 0, .int .i64 0, .int .i64 0] 27 (0, 0))) ∧ Aside0 (Below w.heap.size w wc))
 case first =>
  have H := HC3.out
  clear HC3
  by_cases c6 : a0_2 = 2
  ·rw [if_pos c6] at H
   have c6b0 : (a0_2 == 2) = true := beq_iff_eq.mpr c6
   have c6b1 : (a0_2 != 2) = false := bne_eq_false_iff_eq.mpr c6
   clear c6
   (first | rw [c6b0] | (simp only [i64_w, i32_w]; rw [c6b0]) | skip)
   by_cases c7 : a1 = 110
   ·rw [if_pos c7] at H
    have c7b0 : (a1 == 110) = true := beq_iff_eq.mpr c7
    have c7b1 : (a1 != 110) = false := bne_eq_false_iff_eq.mpr c7
    clear c7
    have H' := Aside0.mk H
    clear H
    have hnb8 := NB335_336.out
    have hnc8 := NB336_335.out
    have hcz9_0 := bc BK335 0
    have hcz9_1 := bc BK335 1
    have hcz9_2 := bc BK335 2
    have hfz9_0 := qC BK335.out 0
    have hfz9_1 := qC BK335.out 1
    have hfz9_2 := qC BK335.out 2
    go_wp2
    go_meet
    case rel => exact ⟨_, (true), (by first | rfl | (simp; done) | (simp [*]; done)), H', ⟨by first | omega | exact Nat.le_refl _⟩, ⟨by (with_reducible repeat (first | refine qB ?_ _ | refine qD ?_ | refine qA ?_ _)); exact BK335.out⟩, ⟨by (with_reducible repeat (first | refine qB ?_ _ | refine qD ?_ | refine qA ?_ _)); exact BK336.out⟩, ⟨bl⟩⟩
   ·rw [if_neg c7] at H
    have c7b0 : (a1 == 110) = false := beq_eq_false_iff_ne.mpr c7
    have c7b1 : (a1 != 110) = true := bne_iff_ne.mpr c7
    by_cases c10 : a1 = 115
    ·rw [if_pos c10] at H
     have c10b0 : (a1 == 115) = true := beq_iff_eq.mpr c10
     have c10b1 : (a1 != 115) = false := bne_eq_false_iff_eq.mpr c10
     clear c10
     have H' := Aside0.mk H
     clear H
     have hnb11 := NB335_336.out
     have hnc11 := NB336_335.out
     have hcz12_0 := bc BK335 0
     have hcz12_1 := bc BK335 1
     have hcz12_2 := bc BK335 2
     have hfz12_0 := qC BK335.out 0
     have hfz12_1 := qC BK335.out 1
     have hfz12_2 := qC BK335.out 2
     go_wp2
     go_meet
     case rel => exact ⟨_, (true), (by first | rfl | (simp; done) | (simp [*]; done)), H', ⟨by first | omega | exact Nat.le_refl _⟩, ⟨by (with_reducible repeat (first | refine qB ?_ _ | refine qD ?_ | refine qA ?_ _)); exact BK335.out⟩, ⟨by (with_reducible repeat (first | refine qB ?_ _ | refine qD ?_ | refine qA ?_ _)); exact BK336.out⟩, ⟨bl⟩⟩
    ·rw [if_neg c10] at H
     have c10b0 : (a1 == 115) = false := beq_eq_false_iff_ne.mpr c10
     have c10b1 : (a1 != 115) = true := bne_iff_ne.mpr c10
     by_cases c13 : a0_2 = 1
     ·rw [if_pos c13] at H
      have c13b0 : (a0_2 == 1) = true := beq_iff_eq.mpr c13
      have c13b1 : (a0_2 != 1) = false := bne_eq_false_iff_eq.mpr c13
      clear c13
      by_cases c14 : a1 = 101
      ·rw [if_pos c14] at H
       have c14b0 : (a1 == 101) = true := beq_iff_eq.mpr c14
       have c14b1 : (a1 != 101) = false := bne_eq_false_iff_eq.mpr c14
       clear c14
       have H' := Aside0.mk H
       clear H
       have hnb15 := NB335_336.out
       have hnc15 := NB336_335.out
       have hcz16_0 := bc BK335 0
       have hcz16_1 := bc BK335 1
       have hcz16_2 := bc BK335 2
       have hfz16_0 := qC BK335.out 0
       have hfz16_1 := qC BK335.out 1
       have hfz16_2 := qC BK335.out 2
       go_wp2
       go_meet
       case rel => exact ⟨_, (true), (by first | rfl | (simp; done) | (simp [*]; done)), H', ⟨by first | omega | exact Nat.le_refl _⟩, ⟨by (with_reducible repeat (first | refine qB ?_ _ | refine qD ?_ | refine qA ?_ _)); exact BK335.out⟩, ⟨by (with_reducible repeat (first | refine qB ?_ _ | refine qD ?_ | refine qA ?_ _)); exact BK336.out⟩, ⟨bl⟩⟩
      ·rw [if_neg c14] at H
       have c14b0 : (a1 == 101) = false := beq_eq_false_iff_ne.mpr c14
       have c14b1 : (a1 != 101) = true := bne_iff_ne.mpr c14
       have H' := Aside0.mk H
       clear H
       have hnb17 := NB335_336.out
       have hnc17 := NB336_335.out
       have hcz18_0 := bc BK335 0
       have hcz18_1 := bc BK335 1
       have hcz18_2 := bc BK335 2
       have hfz18_0 := qC BK335.out 0
       have hfz18_1 := qC BK335.out 1
       have hfz18_2 := qC BK335.out 2
       go_wp2
       go_meet
       case rel => exact ⟨_, ((a1 == 119)), (by first | rfl | (simp; done) | (simp [*]; done)), H', ⟨by first | omega | exact Nat.le_refl _⟩, ⟨by (with_reducible repeat (first | refine qB ?_ _ | refine qD ?_ | refine qA ?_ _)); exact BK335.out⟩, ⟨by (with_reducible repeat (first | refine qB ?_ _ | refine qD ?_ | refine qA ?_ _)); exact BK336.out⟩, ⟨bl⟩⟩
     ·rw [if_neg c13] at H
      have c13b0 : (a0_2 == 1) = false := beq_eq_false_iff_ne.mpr c13
      have c13b1 : (a0_2 != 1) = true := bne_iff_ne.mpr c13
      have H' := Aside0.mk H
      clear H
      have hnb19 := NB335_336.out
      have hnc19 := NB336_335.out
      have hcz20_0 := bc BK335 0
      have hcz20_1 := bc BK335 1
      have hcz20_2 := bc BK335 2
      have hfz20_0 := qC BK335.out 0
      have hfz20_1 := qC BK335.out 1
      have hfz20_2 := qC BK335.out 2
      go_wp2
      go_meet
      case rel => exact ⟨_, (false), (by first | rfl | (simp; done) | (simp [*]; done)), H', ⟨by first | omega | exact Nat.le_refl _⟩, ⟨by (with_reducible repeat (first | refine qB ?_ _ | refine qD ?_ | refine qA ?_ _)); exact BK335.out⟩, ⟨by (with_reducible repeat (first | refine qB ?_ _ | refine qD ?_ | refine qA ?_ _)); exact BK336.out⟩, ⟨bl⟩⟩
  ·rw [if_neg c6] at H
   have c6b0 : (a0_2 == 2) = false := beq_eq_false_iff_ne.mpr c6
   have c6b1 : (a0_2 != 2) = true := bne_iff_ne.mpr c6
   (first | rw [c6b0] | (simp only [i64_w, i32_w]; rw [c6b0]) | skip)
   by_cases c21 : a0_2 = 1
   ·rw [if_pos c21] at H
    have c21b0 : (a0_2 == 1) = true := beq_iff_eq.mpr c21
    have c21b1 : (a0_2 != 1) = false := bne_eq_false_iff_eq.mpr c21
    clear c21
    by_cases c22 : a1 = 101
    ·rw [if_pos c22] at H
     have c22b0 : (a1 == 101) = true := beq_iff_eq.mpr c22
     have c22b1 : (a1 != 101) = false := bne_eq_false_iff_eq.mpr c22
     clear c22
     have H' := Aside0.mk H
     clear H
     have hnb23 := NB335_336.out
     have hnc23 := NB336_335.out
     have hcz24_0 := bc BK335 0
     have hcz24_1 := bc BK335 1
     have hcz24_2 := bc BK335 2
     have hfz24_0 := qC BK335.out 0
     have hfz24_1 := qC BK335.out 1
     have hfz24_2 := qC BK335.out 2
     go_wp2
     go_meet
     case rel => exact ⟨_, (true), (by first | rfl | (simp; done) | (simp [*]; done)), H', ⟨by first | omega | exact Nat.le_refl _⟩, ⟨by (with_reducible repeat (first | refine qB ?_ _ | refine qD ?_ | refine qA ?_ _)); exact BK335.out⟩, ⟨by (with_reducible repeat (first | refine qB ?_ _ | refine qD ?_ | refine qA ?_ _)); exact BK336.out⟩, ⟨bl⟩⟩
    ·rw [if_neg c22] at H
     have c22b0 : (a1 == 101) = false := beq_eq_false_iff_ne.mpr c22
     have c22b1 : (a1 != 101) = true := bne_iff_ne.mpr c22
     have H' := Aside0.mk H
     clear H
     have hnb25 := NB335_336.out
     have hnc25 := NB336_335.out
     have hcz26_0 := bc BK335 0
     have hcz26_1 := bc BK335 1
     have hcz26_2 := bc BK335 2
     have hfz26_0 := qC BK335.out 0
     have hfz26_1 := qC BK335.out 1
     have hfz26_2 := qC BK335.out 2
     go_wp2
     go_meet
     case rel => exact ⟨_, ((a1 == 119)), (by first | rfl | (simp; done) | (simp [*]; done)), H', ⟨by first | omega | exact Nat.le_refl _⟩, ⟨by (with_reducible repeat (first | refine qB ?_ _ | refine qD ?_ | refine qA ?_ _)); exact BK335.out⟩, ⟨by (with_reducible repeat (first | refine qB ?_ _ | refine qD ?_ | refine qA ?_ _)); exact BK336.out⟩, ⟨bl⟩⟩
   ·rw [if_neg c21] at H
    have c21b0 : (a0_2 == 1) = false := beq_eq_false_iff_ne.mpr c21
    have c21b1 : (a0_2 != 1) = true := bne_iff_ne.mpr c21
    have H' := Aside0.mk H
    clear H
    have hnb27 := NB335_336.out
    have hnc27 := NB336_335.out
    have hcz28_0 := bc BK335 0
    have hcz28_1 := bc BK335 1
    have hcz28_2 := bc BK335 2
    have hfz28_0 := qC BK335.out 0
    have hfz28_1 := qC BK335.out 1
    have hfz28_2 := qC BK335.out 2
    go_wp2
    go_meet
    case rel => exact ⟨_, (false), (by first | rfl | (simp; done) | (simp [*]; done)), H', ⟨by first | omega | exact Nat.le_refl _⟩, ⟨by (with_reducible repeat (first | refine qB ?_ _ | refine qD ?_ | refine qA ?_ _)); exact BK335.out⟩, ⟨by (with_reducible repeat (first | refine qB ?_ _ | refine qD ?_ | refine qA ?_ _)); exact BK336.out⟩, ⟨bl⟩⟩
 case rest =>
  clear HC3
  try clear c1
  try clear c2
  try clear p2
  try clear c3
  try clear c6
  try clear c6b0
  try clear c6b1
  try clear c7
  try clear c7b0
  try clear c7b1
  try clear c8
  try clear c10
  try clear c10b0
  try clear c10b1
  try clear c11
  try clear c13
  try clear c13b0
  try clear c13b1
  try clear c14
  try clear c14b0
  try clear c14b1
  try clear c15
  try clear c17
  try clear c19
  try clear c21
  try clear c21b0
  try clear c21b1
  try clear c22
  try clear c22b0
  try clear c22b1
  try clear c23
  try clear c25
  try clear c27
  try clear hcz12_0
  try clear hcz12_1
  try clear hcz12_2
  try clear hcz16_0
  try clear hcz16_1
  try clear hcz16_2
  try clear hcz18_0
  try clear hcz18_1
  try clear hcz18_2
  try clear hcz20_0
  try clear hcz20_1
  try clear hcz20_2
  try clear hcz24_0
  try clear hcz24_1
  try clear hcz24_2
  try clear hcz26_0
  try clear hcz26_1
  try clear hcz26_2
  try clear hcz28_0
  try clear hcz28_1
  try clear hcz28_2
  try clear hcz9_0
  try clear hcz9_1
  try clear hcz9_2
  try clear hfz12_0
  try clear hfz12_1
  try clear hfz12_2
  try clear hfz16_0
  try clear hfz16_1
  try clear hfz16_2
  try clear hfz18_0
  try clear hfz18_1
  try clear hfz18_2
  try clear hfz20_0
  try clear hfz20_1
  try clear hfz20_2
  try clear hfz24_0
  try clear hfz24_1
  try clear hfz24_2
  try clear hfz26_0
  try clear hfz26_1
  try clear hfz26_2
  try clear hfz28_0
  try clear hfz28_1
  try clear hfz28_2
  try clear hfz9_0
  try clear hfz9_1
  try clear hfz9_2
  obtain ⟨kq, x5_2, rfl, HA, HJ2, BK335, BK336, HB⟩ := hcut
  cases kq with
  | zero => exact absurd HA.out (by simp [qX.j0])
  | succ kj2 =>
   have H := HA.out
   clear HA
   simp only [qX.j0] at H
   by_cases c29 : a0_2 = 0
   ·rw [if_pos c29] at H
    have c29b0 : (a0_2 == 0) = true := beq_iff_eq.mpr c29
    have c29b1 : (a0_2 != 0) = false := bne_eq_false_iff_eq.mpr c29
    clear c29
    by_cases c30 : a1 = 110
    ·rw [if_pos c30] at H
     have c30b0 : (a1 == 110) = true := beq_iff_eq.mpr c30
     have c30b1 : (a1 != 110) = false := bne_eq_false_iff_eq.mpr c30
     clear c30
     simp only [Option.some.injEq, Prod.mk.injEq] at H
     obtain ⟨rfl, rfl, rfl⟩ := H
     have hnb31 := NB335_336.out
     have hnc31 := NB336_335.out
     have hcz32_0 := bc BK335 0
     have hcz32_1 := bc BK335 1
     have hcz32_2 := bc BK335 2
     have hfz32_0 := qC BK335.out 0
     have hfz32_1 := qC BK335.out 1
     have hfz32_2 := qC BK335.out 2
     have hcz33_0 := bc BK336 0
     have hcz33_1 := bc BK336 1
     have hcz33_2 := bc BK336 2
     have hfz33_0 := qC BK336.out 0
     have hfz33_1 := qC BK336.out 1
     have hfz33_2 := qC BK336.out 2
     go_wp2
     refine bodyPost_ret (results_cell_row rfl _ _ gb336 27 #[.int .i64 a0_0, .int .i64 (wrap64 (a0_1 - 2)), .int .i64 2] (0, 0) _ rfl (by (with_reducible repeat (first | refine qB ?_ _ | refine qD ?_ | refine qA ?_ _)); refine qQ (cs := #[.int .i64 a0_0, .int .i64 (wrap64 (a0_1 - 2)), .int .i64 0]) ?_ 2 _ rfl; (with_reducible repeat (first | refine qB ?_ _ | refine qD ?_ | refine qA ?_ _)); refine qQ (cs := #[.int .i64 a0_0, .int .i64 0, .int .i64 0]) ?_ 1 _ rfl; (with_reducible repeat (first | refine qB ?_ _ | refine qD ?_ | refine qA ?_ _)); refine qQ (cs := #[.int .i64 0, .int .i64 0, .int .i64 0]) ?_ 0 _ rfl; (with_reducible repeat (first | refine qB ?_ _ | refine qD ?_ | refine qA ?_ _)); exact BK336.out) Tryd.underlying27 rfl (by kernel_rfl)) rfl ?_
     exact ⟨by first | rfl | (simp [qJ, qI] <;> rfl) | (simp [*, qJ, qI] <;> rfl), bl⟩
    ·rw [if_neg c30] at H
     have c30b0 : (a1 == 110) = false := beq_eq_false_iff_ne.mpr c30
     have c30b1 : (a1 != 110) = true := bne_iff_ne.mpr c30
     by_cases c34 : a1 = 101
     ·rw [if_pos c34] at H
      have c34b0 : (a1 == 101) = true := beq_iff_eq.mpr c34
      have c34b1 : (a1 != 101) = false := bne_eq_false_iff_eq.mpr c34
      clear c34
      simp only [Option.some.injEq, Prod.mk.injEq] at H
      obtain ⟨rfl, rfl, rfl⟩ := H
      have hnb35 := NB335_336.out
      have hnc35 := NB336_335.out
      have hcz36_0 := bc BK335 0
      have hcz36_1 := bc BK335 1
      have hcz36_2 := bc BK335 2
      have hfz36_0 := qC BK335.out 0
      have hfz36_1 := qC BK335.out 1
      have hfz36_2 := qC BK335.out 2
      have hcz37_0 := bc BK336 0
      have hcz37_1 := bc BK336 1
      have hcz37_2 := bc BK336 2
      have hfz37_0 := qC BK336.out 0
      have hfz37_1 := qC BK336.out 1
      have hfz37_2 := qC BK336.out 2
      go_wp2
      refine bodyPost_ret (results_cell_row rfl _ _ gb336 27 #[.int .i64 (wrap64 (a0_0 + 1)), .int .i64 a0_1, .int .i64 1] (0, 0) _ rfl (by (with_reducible repeat (first | refine qB ?_ _ | refine qD ?_ | refine qA ?_ _)); refine qQ (cs := #[.int .i64 (wrap64 (a0_0 + 1)), .int .i64 a0_1, .int .i64 0]) ?_ 2 _ rfl; (with_reducible repeat (first | refine qB ?_ _ | refine qD ?_ | refine qA ?_ _)); refine qQ (cs := #[.int .i64 (wrap64 (a0_0 + 1)), .int .i64 0, .int .i64 0]) ?_ 1 _ rfl; (with_reducible repeat (first | refine qB ?_ _ | refine qD ?_ | refine qA ?_ _)); refine qQ (cs := #[.int .i64 0, .int .i64 0, .int .i64 0]) ?_ 0 _ rfl; (with_reducible repeat (first | refine qB ?_ _ | refine qD ?_ | refine qA ?_ _)); exact BK336.out) Tryd.underlying27 rfl (by kernel_rfl)) rfl ?_
      exact ⟨by first | rfl | (simp [qJ, qI] <;> rfl) | (simp [*, qJ, qI] <;> rfl), bl⟩
     ·rw [if_neg c34] at H
      have c34b0 : (a1 == 101) = false := beq_eq_false_iff_ne.mpr c34
      have c34b1 : (a1 != 101) = true := bne_iff_ne.mpr c34
      by_cases c38 : a1 = 115
      ·rw [if_pos c38] at H
       have c38b0 : (a1 == 115) = true := beq_iff_eq.mpr c38
       have c38b1 : (a1 != 115) = false := bne_eq_false_iff_eq.mpr c38
       clear c38
       simp only [Option.some.injEq, Prod.mk.injEq] at H
       obtain ⟨rfl, rfl, rfl⟩ := H
       have hnb39 := NB335_336.out
       have hnc39 := NB336_335.out
       have hcz40_0 := bc BK335 0
       have hcz40_1 := bc BK335 1
       have hcz40_2 := bc BK335 2
       have hfz40_0 := qC BK335.out 0
       have hfz40_1 := qC BK335.out 1
       have hfz40_2 := qC BK335.out 2
       have hcz41_0 := bc BK336 0
       have hcz41_1 := bc BK336 1
       have hcz41_2 := bc BK336 2
       have hfz41_0 := qC BK336.out 0
       have hfz41_1 := qC BK336.out 1
       have hfz41_2 := qC BK336.out 2
       go_wp2
       refine bodyPost_ret (results_cell_row rfl _ _ gb336 27 #[.int .i64 a0_0, .int .i64 (wrap64 (a0_1 + 1)), .int .i64 2] (0, 0) _ rfl (by (with_reducible repeat (first | refine qB ?_ _ | refine qD ?_ | refine qA ?_ _)); refine qQ (cs := #[.int .i64 a0_0, .int .i64 (wrap64 (a0_1 + 1)), .int .i64 0]) ?_ 2 _ rfl; (with_reducible repeat (first | refine qB ?_ _ | refine qD ?_ | refine qA ?_ _)); refine qQ (cs := #[.int .i64 a0_0, .int .i64 0, .int .i64 0]) ?_ 1 _ rfl; (with_reducible repeat (first | refine qB ?_ _ | refine qD ?_ | refine qA ?_ _)); refine qQ (cs := #[.int .i64 0, .int .i64 0, .int .i64 0]) ?_ 0 _ rfl; (with_reducible repeat (first | refine qB ?_ _ | refine qD ?_ | refine qA ?_ _)); exact BK336.out) Tryd.underlying27 rfl (by kernel_rfl)) rfl ?_
       exact ⟨by first | rfl | (simp [qJ, qI] <;> rfl) | (simp [*, qJ, qI] <;> rfl), bl⟩
      ·rw [if_neg c38] at H
       have c38b0 : (a1 == 115) = false := beq_eq_false_iff_ne.mpr c38
       have c38b1 : (a1 != 115) = true := bne_iff_ne.mpr c38
       simp only [Option.some.injEq, Prod.mk.injEq] at H
       obtain ⟨rfl, rfl, rfl⟩ := H
       have hnb42 := NB335_336.out
       have hnc42 := NB336_335.out
       have hcz43_0 := bc BK335 0
       have hcz43_1 := bc BK335 1
       have hcz43_2 := bc BK335 2
       have hfz43_0 := qC BK335.out 0
       have hfz43_1 := qC BK335.out 1
       have hfz43_2 := qC BK335.out 2
       have hcz44_0 := bc BK336 0
       have hcz44_1 := bc BK336 1
       have hcz44_2 := bc BK336 2
       have hfz44_0 := qC BK336.out 0
       have hfz44_1 := qC BK336.out 1
       have hfz44_2 := qC BK336.out 2
       go_wp2
       refine bodyPost_ret (results_cell_row rfl _ _ gb336 27 #[.int .i64 (wrap64 (a0_0 - 2)), .int .i64 a0_1, .int .i64 1] (0, 0) _ rfl (by (with_reducible repeat (first | refine qB ?_ _ | refine qD ?_ | refine qA ?_ _)); refine qQ (cs := #[.int .i64 (wrap64 (a0_0 - 2)), .int .i64 a0_1, .int .i64 0]) ?_ 2 _ rfl; (with_reducible repeat (first | refine qB ?_ _ | refine qD ?_ | refine qA ?_ _)); refine qQ (cs := #[.int .i64 (wrap64 (a0_0 - 2)), .int .i64 0, .int .i64 0]) ?_ 1 _ rfl; (with_reducible repeat (first | refine qB ?_ _ | refine qD ?_ | refine qA ?_ _)); refine qQ (cs := #[.int .i64 0, .int .i64 0, .int .i64 0]) ?_ 0 _ rfl; (with_reducible repeat (first | refine qB ?_ _ | refine qD ?_ | refine qA ?_ _)); exact BK336.out) Tryd.underlying27 rfl (by kernel_rfl)) rfl ?_
       exact ⟨by first | rfl | (simp [qJ, qI] <;> rfl) | (simp [*, qJ, qI] <;> rfl), bl⟩
   ·rw [if_neg c29] at H
    have c29b0 : (a0_2 == 0) = false := beq_eq_false_iff_ne.mpr c29
    have c29b1 : (a0_2 != 0) = true := bne_iff_ne.mpr c29
    have HC45 := Aside0.mk H
    clear H
    have hnb46 := NB335_336.out
    have hnc46 := NB336_335.out
    have hcz47_0 := bc BK335 0
    have hcz47_1 := bc BK335 1
    have hcz47_2 := bc BK335 2
    have hfz47_0 := qC BK335.out 0
    have hfz47_1 := qC BK335.out 1
    have hfz47_2 := qC BK335.out 2
    go_upto_region 11 with (fail)
    go_cut [67] (fun v67 wc => ∃ (kq : Nat) (x67_44 : Bool), v67 = .bool x67_44 ∧ Aside0 (qX.j1 kq a1 x5_2 x67_44 a0_0 a0_1 a0_2 = some (r1, r2, r3)) ∧ Aside0 (kq ≤ kj2) ∧ Aside0 (wc.heap[gb335]? = some (.cells #[.int .i64 a0_0, .int .i64 a0_1, .int .i64 a0_2] 27 (0, 0))) ∧ Aside0 (wc.heap[gb336]? = some (.cells #[.int .i64 0, .int .i64 0, .int .i64 0] 27 (0, 0))) ∧ Aside0 (Below w.heap.size w wc))
    case first =>
     have H := HC45.out
     clear HC45
     by_cases c48 : x5_2 = true
     ·subst c48
      have H1 : (qX.j1 kj2 a1 true (a1 == 101) a0_0 a0_1 a0_2) = some (r1, r2, r3) := by rw [if_pos rfl] at H; exact H
      clear H
      have H := H1
      clear H1
      have H' := Aside0.mk H
      clear H
      go_wp2
      go_meet
      case rel => exact ⟨_, ((a1 == 101)), (by first | rfl | (simp; done) | (simp [*]; done)), H', ⟨by have := HJ2.out; first | omega | exact Nat.le_refl _⟩, ⟨by (with_reducible repeat (first | refine qB ?_ _ | refine qD ?_ | refine qA ?_ _)); exact BK335.out⟩, ⟨by (with_reducible repeat (first | refine qB ?_ _ | refine qD ?_ | refine qA ?_ _)); exact BK336.out⟩, ⟨bl⟩⟩
     ·replace c48 := Bool.eq_false_iff.mpr c48
      subst c48
      have H1 : (qX.j1 kj2 a1 false false a0_0 a0_1 a0_2) = some (r1, r2, r3) := by rw [if_neg (show ¬ (false = true) by decide)] at H; exact H
      clear H
      have H := H1
      clear H1
      have H' := Aside0.mk H
      clear H
      go_wp2
      go_meet
      case rel => exact ⟨_, (false), (by first | rfl | (simp; done) | (simp [*]; done)), H', ⟨by have := HJ2.out; first | omega | exact Nat.le_refl _⟩, ⟨by (with_reducible repeat (first | refine qB ?_ _ | refine qD ?_ | refine qA ?_ _)); exact BK335.out⟩, ⟨by (with_reducible repeat (first | refine qB ?_ _ | refine qD ?_ | refine qA ?_ _)); exact BK336.out⟩, ⟨bl⟩⟩
    case rest =>
     clear HC45
     try clear c1
     try clear c2
     try clear p2
     try clear c3
     try clear c4
     try clear c6
     try clear c6b0
     try clear c6b1
     try clear p6
     try clear c7
     try clear c7b0
     try clear c7b1
     try clear c8
     try clear c10
     try clear c10b0
     try clear c10b1
     try clear c11
     try clear c13
     try clear c13b0
     try clear c13b1
     try clear c14
     try clear c14b0
     try clear c14b1
     try clear c15
     try clear c17
     try clear c19
     try clear c21
     try clear c21b0
     try clear c21b1
     try clear c22
     try clear c22b0
     try clear c22b1
     try clear c23
     try clear c25
     try clear c27
     try clear c29
     try clear c29b0
     try clear c29b1
     try clear c30
     try clear c30b0
     try clear c30b1
     try clear c31
     try clear c32
     try clear c34
     try clear c34b0
     try clear c34b1
     try clear c35
     try clear c38
     try clear c38b0
     try clear c38b1
     try clear c39
     try clear c42
     try clear c46
     try clear c48
     try clear hcz12_0
     try clear hcz12_1
     try clear hcz12_2
     try clear hcz16_0
     try clear hcz16_1
     try clear hcz16_2
     try clear hcz18_0
     try clear hcz18_1
     try clear hcz18_2
     try clear hcz20_0
     try clear hcz20_1
     try clear hcz20_2
     try clear hcz24_0
     try clear hcz24_1
     try clear hcz24_2
     try clear hcz26_0
     try clear hcz26_1
     try clear hcz26_2
     try clear hcz28_0
     try clear hcz28_1
     try clear hcz28_2
     try clear hcz32_0
     try clear hcz32_1
     try clear hcz32_2
     try clear hcz33_0
     try clear hcz33_1
     try clear hcz33_2
     try clear hcz36_0
     try clear hcz36_1
     try clear hcz36_2
     try clear hcz37_0
     try clear hcz37_1
     try clear hcz37_2
     try clear hcz40_0
     try clear hcz40_1
     try clear hcz40_2
     try clear hcz41_0
     try clear hcz41_1
     try clear hcz41_2
     try clear hcz43_0
     try clear hcz43_1
     try clear hcz43_2
     try clear hcz44_0
     try clear hcz44_1
     try clear hcz44_2
     try clear hcz47_0
     try clear hcz47_1
     try clear hcz47_2
     try clear hcz9_0
     try clear hcz9_1
     try clear hcz9_2
     try clear hfz12_0
     try clear hfz12_1
     try clear hfz12_2
     try clear hfz16_0
     try clear hfz16_1
     try clear hfz16_2
     try clear hfz18_0
     try clear hfz18_1
     try clear hfz18_2
     try clear hfz20_0
     try clear hfz20_1
     try clear hfz20_2
     try clear hfz24_0
     try clear hfz24_1
     try clear hfz24_2
     try clear hfz26_0
     try clear hfz26_1
     try clear hfz26_2
     try clear hfz28_0
     try clear hfz28_1
     try clear hfz28_2
     try clear hfz32_0
     try clear hfz32_1
     try clear hfz32_2
     try clear hfz33_0
     try clear hfz33_1
     try clear hfz33_2
     try clear hfz36_0
     try clear hfz36_1
     try clear hfz36_2
     try clear hfz37_0
     try clear hfz37_1
     try clear hfz37_2
     try clear hfz40_0
     try clear hfz40_1
     try clear hfz40_2
     try clear hfz41_0
     try clear hfz41_1
     try clear hfz41_2
     try clear hfz43_0
     try clear hfz43_1
     try clear hfz43_2
     try clear hfz44_0
     try clear hfz44_1
     try clear hfz44_2
     try clear hfz47_0
     try clear hfz47_1
     try clear hfz47_2
     try clear hfz9_0
     try clear hfz9_1
     try clear hfz9_2
     try clear p2
     obtain ⟨kq, x67_44, rfl, HA, HJ44, BK335, BK336, HB⟩ := hcut
     cases kq with
     | zero => exact absurd HA.out (by simp [qX.j1])
     | succ kj44 =>
      have H := HA.out
      clear HA
      simp only [qX.j1] at H
      by_cases c49 : x67_44 = true
      ·subst c49
       have H1 : (some (wrap64 (a0_0 + 2), a0_1, 0)) = some (r1, r2, r3) := by rw [if_pos rfl] at H; exact H
       clear H
       have H := H1
       clear H1
       simp only [Option.some.injEq, Prod.mk.injEq] at H
       obtain ⟨rfl, rfl, rfl⟩ := H
       have hnb50 := NB335_336.out
       have hnc50 := NB336_335.out
       have hcz51_0 := bc BK335 0
       have hcz51_1 := bc BK335 1
       have hcz51_2 := bc BK335 2
       have hfz51_0 := qC BK335.out 0
       have hfz51_1 := qC BK335.out 1
       have hfz51_2 := qC BK335.out 2
       have hcz52_0 := bc BK336 0
       have hcz52_1 := bc BK336 1
       have hcz52_2 := bc BK336 2
       have hfz52_0 := qC BK336.out 0
       have hfz52_1 := qC BK336.out 1
       have hfz52_2 := qC BK336.out 2
       go_wp2
       refine bodyPost_ret (results_cell_row rfl _ _ gb336 27 #[.int .i64 (wrap64 (a0_0 + 2)), .int .i64 a0_1, .int .i64 0] (0, 0) _ rfl (by (with_reducible repeat (first | refine qB ?_ _ | refine qD ?_ | refine qA ?_ _)); refine qQ (cs := #[.int .i64 (wrap64 (a0_0 + 2)), .int .i64 a0_1, .int .i64 0]) ?_ 2 _ rfl; (with_reducible repeat (first | refine qB ?_ _ | refine qD ?_ | refine qA ?_ _)); refine qQ (cs := #[.int .i64 (wrap64 (a0_0 + 2)), .int .i64 0, .int .i64 0]) ?_ 1 _ rfl; (with_reducible repeat (first | refine qB ?_ _ | refine qD ?_ | refine qA ?_ _)); refine qQ (cs := #[.int .i64 0, .int .i64 0, .int .i64 0]) ?_ 0 _ rfl; (with_reducible repeat (first | refine qB ?_ _ | refine qD ?_ | refine qA ?_ _)); exact BK336.out) Tryd.underlying27 rfl (by kernel_rfl)) rfl ?_
       exact ⟨by first | rfl | (simp [qJ, qI] <;> rfl) | (simp [*, qJ, qI] <;> rfl), bl⟩
      ·replace c49 := Bool.eq_false_iff.mpr c49
       subst c49
       have H1 : (if x5_2 = true then (qX.j2 kj44 a1 x5_2 (a1 == 115) a0_0 a0_1 a0_2) else (qX.j2 kj44 a1 x5_2 false a0_0 a0_1 a0_2)) = some (r1, r2, r3) := by rw [if_neg (show ¬ (false = true) by decide)] at H; exact H
       clear H
       have H := H1
       clear H1
       have HC53 := Aside0.mk H
       clear H
       go_upto_region 13 with (fail)
       go_cut [79] (fun v79 wc => ∃ (kq : Nat) (x79_52 : Bool), v79 = .bool x79_52 ∧ Aside0 (qX.j2 kq a1 x5_2 x79_52 a0_0 a0_1 a0_2 = some (r1, r2, r3)) ∧ Aside0 (kq ≤ kj44) ∧ Aside0 (wc.heap[gb335]? = some (.cells #[.int .i64 a0_0, .int .i64 a0_1, .int .i64 a0_2] 27 (0, 0))) ∧ Aside0 (wc.heap[gb336]? = some (.cells #[.int .i64 0, .int .i64 0, .int .i64 0] 27 (0, 0))) ∧ Aside0 (Below w.heap.size w wc))
       case first =>
        have H := HC53.out
        clear HC53
        by_cases c54 : x5_2 = true
        ·subst c54
         have H1 : (qX.j2 kj44 a1 true (a1 == 115) a0_0 a0_1 a0_2) = some (r1, r2, r3) := by rw [if_pos rfl] at H; exact H
         clear H
         have H := H1
         clear H1
         have H' := Aside0.mk H
         clear H
         go_wp2
         go_meet
         case rel => exact ⟨_, ((a1 == 115)), (by first | rfl | (simp; done) | (simp [*]; done)), H', ⟨by have := HJ2.out; have := HJ44.out; first | omega | exact Nat.le_refl _⟩, ⟨by (with_reducible repeat (first | refine qB ?_ _ | refine qD ?_ | refine qA ?_ _)); exact BK335.out⟩, ⟨by (with_reducible repeat (first | refine qB ?_ _ | refine qD ?_ | refine qA ?_ _)); exact BK336.out⟩, ⟨bl⟩⟩
        ·replace c54 := Bool.eq_false_iff.mpr c54
         subst c54
         have H1 : (qX.j2 kj44 a1 false false a0_0 a0_1 a0_2) = some (r1, r2, r3) := by rw [if_neg (show ¬ (false = true) by decide)] at H; exact H
         clear H
         have H := H1
         clear H1
         have H' := Aside0.mk H
         clear H
         go_wp2
         go_meet
         case rel => exact ⟨_, (false), (by first | rfl | (simp; done) | (simp [*]; done)), H', ⟨by have := HJ2.out; have := HJ44.out; first | omega | exact Nat.le_refl _⟩, ⟨by (with_reducible repeat (first | refine qB ?_ _ | refine qD ?_ | refine qA ?_ _)); exact BK335.out⟩, ⟨by (with_reducible repeat (first | refine qB ?_ _ | refine qD ?_ | refine qA ?_ _)); exact BK336.out⟩, ⟨bl⟩⟩
       case rest =>
        clear HC53
        try clear c1
        try clear c2
        try clear p2
        try clear c3
        try clear c4
        try clear c5
        try clear c6
        try clear c6b0
        try clear c6b1
        try clear p6
        try clear c7
        try clear c7b0
        try clear c7b1
        try clear c8
        try clear c10
        try clear c10b0
        try clear c10b1
        try clear c11
        try clear c13
        try clear c13b0
        try clear c13b1
        try clear c14
        try clear c14b0
        try clear c14b1
        try clear c15
        try clear c17
        try clear c19
        try clear c21
        try clear c21b0
        try clear c21b1
        try clear c22
        try clear c22b0
        try clear c22b1
        try clear c23
        try clear c25
        try clear c27
        try clear c29
        try clear c29b0
        try clear c29b1
        try clear c30
        try clear c30b0
        try clear c30b1
        try clear c31
        try clear c32
        try clear c34
        try clear c34b0
        try clear c34b1
        try clear c35
        try clear c38
        try clear c38b0
        try clear c38b1
        try clear c39
        try clear c42
        try clear c46
        try clear c48
        try clear c49
        try clear c50
        try clear c54
        try clear hcz12_0
        try clear hcz12_1
        try clear hcz12_2
        try clear hcz16_0
        try clear hcz16_1
        try clear hcz16_2
        try clear hcz18_0
        try clear hcz18_1
        try clear hcz18_2
        try clear hcz20_0
        try clear hcz20_1
        try clear hcz20_2
        try clear hcz24_0
        try clear hcz24_1
        try clear hcz24_2
        try clear hcz26_0
        try clear hcz26_1
        try clear hcz26_2
        try clear hcz28_0
        try clear hcz28_1
        try clear hcz28_2
        try clear hcz32_0
        try clear hcz32_1
        try clear hcz32_2
        try clear hcz33_0
        try clear hcz33_1
        try clear hcz33_2
        try clear hcz36_0
        try clear hcz36_1
        try clear hcz36_2
        try clear hcz37_0
        try clear hcz37_1
        try clear hcz37_2
        try clear hcz40_0
        try clear hcz40_1
        try clear hcz40_2
        try clear hcz41_0
        try clear hcz41_1
        try clear hcz41_2
        try clear hcz43_0
        try clear hcz43_1
        try clear hcz43_2
        try clear hcz44_0
        try clear hcz44_1
        try clear hcz44_2
        try clear hcz47_0
        try clear hcz47_1
        try clear hcz47_2
        try clear hcz51_0
        try clear hcz51_1
        try clear hcz51_2
        try clear hcz52_0
        try clear hcz52_1
        try clear hcz52_2
        try clear hcz9_0
        try clear hcz9_1
        try clear hcz9_2
        try clear hfz12_0
        try clear hfz12_1
        try clear hfz12_2
        try clear hfz16_0
        try clear hfz16_1
        try clear hfz16_2
        try clear hfz18_0
        try clear hfz18_1
        try clear hfz18_2
        try clear hfz20_0
        try clear hfz20_1
        try clear hfz20_2
        try clear hfz24_0
        try clear hfz24_1
        try clear hfz24_2
        try clear hfz26_0
        try clear hfz26_1
        try clear hfz26_2
        try clear hfz28_0
        try clear hfz28_1
        try clear hfz28_2
        try clear hfz32_0
        try clear hfz32_1
        try clear hfz32_2
        try clear hfz33_0
        try clear hfz33_1
        try clear hfz33_2
        try clear hfz36_0
        try clear hfz36_1
        try clear hfz36_2
        try clear hfz37_0
        try clear hfz37_1
        try clear hfz37_2
        try clear hfz40_0
        try clear hfz40_1
        try clear hfz40_2
        try clear hfz41_0
        try clear hfz41_1
        try clear hfz41_2
        try clear hfz43_0
        try clear hfz43_1
        try clear hfz43_2
        try clear hfz44_0
        try clear hfz44_1
        try clear hfz44_2
        try clear hfz47_0
        try clear hfz47_1
        try clear hfz47_2
        try clear hfz51_0
        try clear hfz51_1
        try clear hfz51_2
        try clear hfz52_0
        try clear hfz52_1
        try clear hfz52_2
        try clear hfz9_0
        try clear hfz9_1
        try clear hfz9_2
        try clear p2
        try clear p6
        obtain ⟨kq, x79_52, rfl, HA, HJ52, BK335, BK336, HB⟩ := hcut
        cases kq with
        | zero => exact absurd HA.out (by simp [qX.j2])
        | succ kj52 =>
         have H := HA.out
         clear HA
         simp only [qX.j2] at H
         by_cases c55 : x79_52 = true
         ·subst c55
          have H1 : (some (a0_0, wrap64 (a0_1 + 2), 0)) = some (r1, r2, r3) := by rw [if_pos rfl] at H; exact H
          clear H
          have H := H1
          clear H1
          simp only [Option.some.injEq, Prod.mk.injEq] at H
          obtain ⟨rfl, rfl, rfl⟩ := H
          have hnb56 := NB335_336.out
          have hnc56 := NB336_335.out
          have hcz57_0 := bc BK335 0
          have hcz57_1 := bc BK335 1
          have hcz57_2 := bc BK335 2
          have hfz57_0 := qC BK335.out 0
          have hfz57_1 := qC BK335.out 1
          have hfz57_2 := qC BK335.out 2
          have hcz58_0 := bc BK336 0
          have hcz58_1 := bc BK336 1
          have hcz58_2 := bc BK336 2
          have hfz58_0 := qC BK336.out 0
          have hfz58_1 := qC BK336.out 1
          have hfz58_2 := qC BK336.out 2
          go_wp2
          refine bodyPost_ret (results_cell_row rfl _ _ gb336 27 #[.int .i64 a0_0, .int .i64 (wrap64 (a0_1 + 2)), .int .i64 0] (0, 0) _ rfl (by (with_reducible repeat (first | refine qB ?_ _ | refine qD ?_ | refine qA ?_ _)); refine qQ (cs := #[.int .i64 a0_0, .int .i64 (wrap64 (a0_1 + 2)), .int .i64 0]) ?_ 2 _ rfl; (with_reducible repeat (first | refine qB ?_ _ | refine qD ?_ | refine qA ?_ _)); refine qQ (cs := #[.int .i64 a0_0, .int .i64 0, .int .i64 0]) ?_ 1 _ rfl; (with_reducible repeat (first | refine qB ?_ _ | refine qD ?_ | refine qA ?_ _)); refine qQ (cs := #[.int .i64 0, .int .i64 0, .int .i64 0]) ?_ 0 _ rfl; (with_reducible repeat (first | refine qB ?_ _ | refine qD ?_ | refine qA ?_ _)); exact BK336.out) Tryd.underlying27 rfl (by kernel_rfl)) rfl ?_
          exact ⟨by first | rfl | (simp [qJ, qI] <;> rfl) | (simp [*, qJ, qI] <;> rfl), bl⟩
         ·replace c55 := Bool.eq_false_iff.mpr c55
          subst c55
          have H1 : ((qJB.f a0_0 a0_1 a1).bind fun bt337 => (if x5_2 = true then (some (bt337.1, bt337.2, 0)) else (some (bt337.1, bt337.2, a0_2)))) = some (r1, r2, r3) := by rw [if_neg (show ¬ (false = true) by decide)] at H; exact H
          clear H
          have H := H1
          clear H1
          replace H := Option.bind_eq_some_iff.mp H
          obtain ⟨⟨t337, t338⟩, A590, H⟩ := H
          replace H : (if x5_2 = true then (some (t337, t338, 0)) else (some (t337, t338, a0_2))) = some (r1, r2, r3) := H
          have A59 := Aside0.mk A590
          clear A590
          by_cases c60 : x5_2 = true
          ·subst c60
           have H1 : (some (t337, t338, 0)) = some (r1, r2, r3) := by rw [if_pos rfl] at H; exact H
           clear H
           have H := H1
           clear H1
           simp only [Option.some.injEq, Prod.mk.injEq] at H
           obtain ⟨rfl, rfl, rfl⟩ := H
           have hnb61 := NB335_336.out
           have hnc61 := NB336_335.out
           have hcz62_0 := bc BK335 0
           have hcz62_1 := bc BK335 1
           have hcz62_2 := bc BK335 2
           have hfz62_0 := qC BK335.out 0
           have hfz62_1 := qC BK335.out 1
           have hfz62_2 := qC BK335.out 2
           go_wp2_with (first | ((with_reducible refine qS (f := 57) rfl ?_); refine qt (some 97) rfl rfl Tryd.func57 (by kernel_rfl) rfl #[.int .i64 a0_0, .int .i64 a0_1, .int .u8 a1] rfl (by (try simp only [List.map_toArray, List.map_cons, List.map_nil]); first | done | rfl | (simp only [List.length_drop, List.length_take]; rfl)) ?_; (with_reducible refine (qJB.calls a0_0 a0_1 a1 t337 t338 _ A59.out).mono ?_); rintro e w' ⟨rfl, ⟨nd, rfl⟩⟩; refine ⟨_, rfl, ?_⟩; (try (rw [qjB wc]; generalize hq_ : World.drewN wc _ = wc; have n0_ : Aside0 (wc.heap[gb335]? = some (.cells #[.int .i64 a0_0, .int .i64 a0_1, .int .i64 a0_2] 27 (0, 0))) := ⟨by rw [← hq_]; exact (by (with_reducible repeat (first | refine qB ?_ _ | refine qD ?_ | refine qA ?_ _)); exact BK335.out)⟩; have n1_ : Aside0 (wc.heap[gb336]? = some (.cells #[.int .i64 0, .int .i64 0, .int .i64 0] 27 (0, 0))) := ⟨by rw [← hq_]; exact (by (with_reducible repeat (first | refine qB ?_ _ | refine qD ?_ | refine qA ?_ _)); exact BK336.out)⟩; have n2_ : Aside0 (Below w.heap.size w wc) := ⟨by rw [← hq_]; exact bl⟩; clear BK335 BK336 HB hq_; have BK335 := n0_; have BK336 := n1_; have HB := n2_; clear n0_ n1_ n2_)); have hcz63_0 := bc BK336 0; have hcz63_1 := bc BK336 1; have hcz63_2 := bc BK336 2; have hfz63_0 := qC BK336.out 0; have hfz63_1 := qC BK336.out 1; have hfz63_2 := qC BK336.out 2))
           refine bodyPost_ret (results_cell_row rfl _ _ gb336 27 #[.int .i64 t337, .int .i64 t338, .int .i64 0] (0, 0) _ rfl (by (with_reducible repeat (first | refine qB ?_ _ | refine qD ?_ | refine qA ?_ _)); refine qQ (cs := #[.int .i64 t337, .int .i64 t338, .int .i64 0]) ?_ 2 _ rfl; (with_reducible repeat (first | refine qB ?_ _ | refine qD ?_ | refine qA ?_ _)); refine qQ (cs := #[.int .i64 t337, .int .i64 0, .int .i64 0]) ?_ 1 _ rfl; (with_reducible repeat (first | refine qB ?_ _ | refine qD ?_ | refine qA ?_ _)); refine qQ (cs := #[.int .i64 0, .int .i64 0, .int .i64 0]) ?_ 0 _ rfl; (with_reducible repeat (first | refine qB ?_ _ | refine qD ?_ | refine qA ?_ _)); exact BK336.out) Tryd.underlying27 rfl (by kernel_rfl)) rfl ?_
           exact ⟨by first | rfl | (simp [qJ, qI] <;> rfl) | (simp [*, qJ, qI] <;> rfl), bl⟩
          ·replace c60 := Bool.eq_false_iff.mpr c60
           subst c60
           have H1 : (some (t337, t338, a0_2)) = some (r1, r2, r3) := by rw [if_neg (show ¬ (false = true) by decide)] at H; exact H
           clear H
           have H := H1
           clear H1
           simp only [Option.some.injEq, Prod.mk.injEq] at H
           obtain ⟨rfl, rfl, rfl⟩ := H
           have hnb64 := NB335_336.out
           have hnc64 := NB336_335.out
           have hcz65_0 := bc BK335 0
           have hcz65_1 := bc BK335 1
           have hcz65_2 := bc BK335 2
           have hfz65_0 := qC BK335.out 0
           have hfz65_1 := qC BK335.out 1
           have hfz65_2 := qC BK335.out 2
           go_wp2_with (first | ((with_reducible refine qS (f := 57) rfl ?_); refine qt (some 97) rfl rfl Tryd.func57 (by kernel_rfl) rfl #[.int .i64 a0_0, .int .i64 a0_1, .int .u8 a1] rfl (by (try simp only [List.map_toArray, List.map_cons, List.map_nil]); first | done | rfl | (simp only [List.length_drop, List.length_take]; rfl)) ?_; (with_reducible refine (qJB.calls a0_0 a0_1 a1 t337 t338 _ A59.out).mono ?_); rintro e w' ⟨rfl, ⟨nd, rfl⟩⟩; refine ⟨_, rfl, ?_⟩; (try (rw [qjB wc]; generalize hq_ : World.drewN wc _ = wc; have n0_ : Aside0 (wc.heap[gb335]? = some (.cells #[.int .i64 a0_0, .int .i64 a0_1, .int .i64 a0_2] 27 (0, 0))) := ⟨by rw [← hq_]; exact (by (with_reducible repeat (first | refine qB ?_ _ | refine qD ?_ | refine qA ?_ _)); exact BK335.out)⟩; have n1_ : Aside0 (wc.heap[gb336]? = some (.cells #[.int .i64 0, .int .i64 0, .int .i64 0] 27 (0, 0))) := ⟨by rw [← hq_]; exact (by (with_reducible repeat (first | refine qB ?_ _ | refine qD ?_ | refine qA ?_ _)); exact BK336.out)⟩; have n2_ : Aside0 (Below w.heap.size w wc) := ⟨by rw [← hq_]; exact bl⟩; clear BK335 BK336 HB hq_; have BK335 := n0_; have BK336 := n1_; have HB := n2_; clear n0_ n1_ n2_)); have hcz66_0 := bc BK335 0; have hcz66_1 := bc BK335 1; have hcz66_2 := bc BK335 2; have hfz66_0 := qC BK335.out 0; have hfz66_1 := qC BK335.out 1; have hfz66_2 := qC BK335.out 2; have hcz67_0 := bc BK336 0; have hcz67_1 := bc BK336 1; have hcz67_2 := bc BK336 2; have hfz67_0 := qC BK336.out 0; have hfz67_1 := qC BK336.out 1; have hfz67_2 := qC BK336.out 2))
           refine bodyPost_ret (results_cell_row rfl _ _ gb336 27 #[.int .i64 t337, .int .i64 t338, .int .i64 a0_2] (0, 0) _ rfl (by (with_reducible repeat (first | refine qB ?_ _ | refine qD ?_ | refine qA ?_ _)); refine qQ (cs := #[.int .i64 t337, .int .i64 t338, .int .i64 0]) ?_ 2 _ rfl; (with_reducible repeat (first | refine qB ?_ _ | refine qD ?_ | refine qA ?_ _)); refine qQ (cs := #[.int .i64 t337, .int .i64 0, .int .i64 0]) ?_ 1 _ rfl; (with_reducible repeat (first | refine qB ?_ _ | refine qD ?_ | refine qA ?_ _)); refine qQ (cs := #[.int .i64 0, .int .i64 0, .int .i64 0]) ?_ 0 _ rfl; (with_reducible repeat (first | refine qB ?_ _ | refine qD ?_ | refine qA ?_ _)); exact BK336.out) Tryd.underlying27 rfl (by kernel_rfl)) rfl ?_
           exact ⟨by first | rfl | (simp [qJ, qI] <;> rfl) | (simp [*, qJ, qI] <;> rfl), bl⟩
def qPA.f (k : Nat) (l0 : List ByteArray) (a1_0 : Int) (a1_1 : Int) (a1_2 : Int) (a2 : Int) : Option (Int × Int × Int × Bool) := (qX.f k a1_0 a1_1 a1_2 a2).bind fun bt341 => ((qe.f k l0 bt341.1 bt341.2.1 bt341.2.2).bind fun t345 => (some (bt341.1, bt341.2.1, bt341.2.2, t345)))
set_option maxHeartbeats 8000000 in
set_option maxRecDepth 100000 in
theorem qPA.calls (k : Nat) (A0 : Option Addr) (c0 : Nat) (l0 : List ByteArray) (a1_0 : Int) (a1_1 : Int) (a1_2 : Int) (a2 : Int) (r1 : Int) (r2 : Int) (r3 : Int) (r4 : Bool) (w : World) (hr0 : Kd.C Kd.string w A0 l0.length l0) (hc0 : l0.length ≤ c0) (h : qPA.f k l0 a1_0 a1_1 a1_2 a2 = some (r1, r2, r3, r4)) :
  Calls Tryd.prog 21 #[.slice A0 l0.length c0, .agg #[.int .i64 a1_0, .int .i64 a1_1, .int .i64 a1_2], .int .u8 a2] w fun e w' => e = .returned (.tuple #[.agg #[.int .i64 r1, .int .i64 r2, .int .i64 r3], .bool r4]) ∧ Below w.heap.size w w' := by
 have hu27 := Tryd.underlying27
 have HR0 := Aside0.mk hr0
 have HC0 := Aside0.mk hc0
 clear hr0 hc0
 have HB := Aside0.mk (Below.refl w.heap.size w)
 have H : ((qX.f k a1_0 a1_1 a1_2 a2).bind fun bt341 => ((qe.f k l0 bt341.1 bt341.2.1 bt341.2.2).bind fun t345 => (some (bt341.1, bt341.2.1, bt341.2.2, t345)))) = some (r1, r2, r3, r4) := h
 clear h
 replace H := Option.bind_eq_some_iff.mp H
 obtain ⟨⟨t341, t342, t343⟩, A40, H⟩ := H
 replace H : ((qe.f k l0 t341 t342 t343).bind fun t345 => (some (t341, t342, t343, t345))) = some (r1, r2, r3, r4) := H
 have A4 := Aside0.mk A40
 clear A40
 replace H := Option.bind_eq_some_iff.mp H
 obtain ⟨t345, A50, H⟩ := H
 replace H : (some (t341, t342, t343, t345)) = some (r1, r2, r3, r4) := H
 have A5 := Aside0.mk A50
 clear A50
 simp only [Option.some.injEq, Prod.mk.injEq] at H
 obtain ⟨rfl, rfl, rfl, rfl⟩ := H
 go_enter Tryd.func21, Tryd.ntmps21
 try go_wp2_with (first | ((with_reducible refine qd (N := 4) rfl ?_); refine qY ?hg (N := 4) ?hd (cs := #[.int .i64 a1_0, .int .i64 a1_1, .int .i64 a1_2]) (t := 27) ?hr ?_; (case hd => rfl); (case hg => rfl); (case hr => first | (go_simp; done) | (go_simp; rfl)); intro gb339 hg w6 hbox hb; have n0_ := Aside0.mk (qG bl hb); have n1_ := Aside0.mk (hbox); have n2_ := Aside0.mk ((gg hg)); have n3_ := Aside0.mk ((gg hg)); clear HB; have HB := n0_; have BK339 := n1_; have GW339 := n2_; have GE339 := n3_; clear n0_ n1_ n2_ n3_; clear hb hbox hg) | ((with_reducible refine qd (N := 6) rfl ?_); refine qY ?hg (N := 6) ?hd (cs := #[.int .i64 0, .int .i64 0, .int .i64 0]) (t := 27) ?hr ?_; (case hd => rfl); (case hg => rfl); (case hr => first | (go_simp; done) | (go_simp; rfl)); intro gb340 hg w7 hbox hb; have n0_ := Aside0.mk (bb BK339 hb); have n1_ := Aside0.mk (qG bl hb); have n2_ := Aside0.mk (hbox); have n3_ := Aside0.mk ((gg hg)); have n4_ := Aside0.mk ((gg hg)); have n5_ := Aside0.mk ((nl BK339 hg)); have n6_ := Aside0.mk ((nr BK339 hg)); clear BK339; clear HB; have BK339 := n0_; have HB := n1_; have BK340 := n2_; have GW340 := n3_; have GE340 := n4_; have NB339_340 := n5_; have NB340_339 := n6_; clear n0_ n1_ n2_ n3_ n4_ n5_ n6_; clear hb hbox hg; have hnb8 := NB339_340.out; have hnc8 := NB340_339.out; have hcz9_0 := bc BK339 0; have hcz9_1 := bc BK339 1; have hcz9_2 := bc BK339 2; have hfz9_0 := qC BK339.out 0; have hfz9_1 := qC BK339.out 1; have hfz9_2 := qC BK339.out 2) | ((with_reducible refine qS (f := 32) rfl ?_); refine qt (some 11) rfl rfl Tryd.func32 (by kernel_rfl) rfl #[.agg #[.int .i64 a1_0, .int .i64 a1_1, .int .i64 a1_2], .int .u8 a2] rfl (by (try simp only [List.map_toArray, List.map_cons, List.map_nil]); first | done | rfl | (simp only [List.length_drop, List.length_take]; rfl)) ?_; (with_reducible refine (qX.calls k a1_0 a1_1 a1_2 a2 t341 t342 t343 _ A4.out).mono ?_); rintro e w10 ⟨rfl, hb⟩; refine ⟨_, rfl, ?_⟩; have n0_ := Aside0.mk (bb BK339 hb); have n1_ := Aside0.mk (bb BK340 hb); have n2_ := Aside0.mk (qG bl hb); clear BK339; clear BK340; clear HB; have BK339 := n0_; have BK340 := n1_; have HB := n2_; clear n0_ n1_ n2_; (try clear hb); (try clear hb2); (try clear hk); (try clear hi)) | ((with_reducible refine qd (N := 8) rfl ?_); refine qY ?hg (N := 8) ?hd (cs := #[.int .i64 0, .int .i64 0, .int .i64 0]) (t := 27) ?hr ?_; (case hd => rfl); (case hg => rfl); (case hr => first | (go_simp; done) | (go_simp; rfl)); intro gb344 hg w11 hbox hb; have n0_ := Aside0.mk (bb BK339 hb); have n1_ := Aside0.mk (bb BK340 hb); have n2_ := Aside0.mk (qG bl hb); have n3_ := Aside0.mk (hbox); have n4_ := Aside0.mk ((gg hg)); have n5_ := Aside0.mk ((gg hg)); have n6_ := Aside0.mk ((nl BK339 hg)); have n7_ := Aside0.mk ((nr BK339 hg)); have n8_ := Aside0.mk ((nl BK340 hg)); have n9_ := Aside0.mk ((nr BK340 hg)); clear BK339; clear BK340; clear HB; have BK339 := n0_; have BK340 := n1_; have HB := n2_; have BK344 := n3_; have GW344 := n4_; have GE344 := n5_; have NB339_344 := n6_; have NB344_339 := n7_; have NB340_344 := n8_; have NB344_340 := n9_; clear n0_ n1_ n2_ n3_ n4_ n5_ n6_ n7_ n8_ n9_; clear hb hbox hg; have hnb12 := NB344_339.out; have hnc12 := NB339_344.out; have hnb13 := NB344_340.out; have hnc13 := NB340_344.out; have hcz14_0 := bc BK344 0; have hcz14_1 := bc BK344 1; have hcz14_2 := bc BK344 2; have hfz14_0 := qC BK344.out 0; have hfz14_1 := qC BK344.out 1; have hfz14_2 := qC BK344.out 2))
 have n0_ : Aside0 ((((w11.setCell ⟨gb344, 0, none⟩ (.int .i64 t341)).setCell ⟨gb344, 1, none⟩ (.int .i64 t342)).setCell ⟨gb344, 2, none⟩ (.int .i64 t343)).heap[gb339]? = some (.cells #[.int .i64 a1_0, .int .i64 a1_1, .int .i64 a1_2] 27 (0, 0))) := ⟨by (with_reducible repeat (first | refine qB ?_ _ | refine qD ?_ | refine qA ?_ _)); refine qN ?_ NB339_344.out _; (with_reducible repeat (first | refine qB ?_ _ | refine qD ?_ | refine qA ?_ _)); refine qN ?_ NB339_344.out _; (with_reducible repeat (first | refine qB ?_ _ | refine qD ?_ | refine qA ?_ _)); refine qN ?_ NB339_344.out _; (with_reducible repeat (first | refine qB ?_ _ | refine qD ?_ | refine qA ?_ _)); exact BK339.out⟩
 have n1_ : Aside0 ((((w11.setCell ⟨gb344, 0, none⟩ (.int .i64 t341)).setCell ⟨gb344, 1, none⟩ (.int .i64 t342)).setCell ⟨gb344, 2, none⟩ (.int .i64 t343)).heap[gb340]? = some (.cells #[.int .i64 0, .int .i64 0, .int .i64 0] 27 (0, 0))) := ⟨by (with_reducible repeat (first | refine qB ?_ _ | refine qD ?_ | refine qA ?_ _)); refine qN ?_ NB340_344.out _; (with_reducible repeat (first | refine qB ?_ _ | refine qD ?_ | refine qA ?_ _)); refine qN ?_ NB340_344.out _; (with_reducible repeat (first | refine qB ?_ _ | refine qD ?_ | refine qA ?_ _)); refine qN ?_ NB340_344.out _; (with_reducible repeat (first | refine qB ?_ _ | refine qD ?_ | refine qA ?_ _)); exact BK340.out⟩
 have n2_ : Aside0 ((((w11.setCell ⟨gb344, 0, none⟩ (.int .i64 t341)).setCell ⟨gb344, 1, none⟩ (.int .i64 t342)).setCell ⟨gb344, 2, none⟩ (.int .i64 t343)).heap[gb344]? = some (.cells #[.int .i64 t341, .int .i64 t342, .int .i64 t343] 27 (0, 0))) := ⟨by (with_reducible repeat (first | refine qB ?_ _ | refine qD ?_ | refine qA ?_ _)); refine qQ (cs := #[.int .i64 t341, .int .i64 t342, .int .i64 0]) ?_ 2 _ rfl; (with_reducible repeat (first | refine qB ?_ _ | refine qD ?_ | refine qA ?_ _)); refine qQ (cs := #[.int .i64 t341, .int .i64 0, .int .i64 0]) ?_ 1 _ rfl; (with_reducible repeat (first | refine qB ?_ _ | refine qD ?_ | refine qA ?_ _)); refine qQ (cs := #[.int .i64 0, .int .i64 0, .int .i64 0]) ?_ 0 _ rfl; (with_reducible repeat (first | refine qB ?_ _ | refine qD ?_ | refine qA ?_ _)); exact BK344.out⟩
 have n3_ : Aside0 (Below w.heap.size w (((w11.setCell ⟨gb344, 0, none⟩ (.int .i64 t341)).setCell ⟨gb344, 1, none⟩ (.int .i64 t342)).setCell ⟨gb344, 2, none⟩ (.int .i64 t343))) := ⟨bl⟩
 (try clear BK339)
 (try clear BK340)
 (try clear BK344)
 (try clear HB)
 generalize (((w11.setCell ⟨gb344, 0, none⟩ (.int .i64 t341)).setCell ⟨gb344, 1, none⟩ (.int .i64 t342)).setCell ⟨gb344, 2, none⟩ (.int .i64 t343)) = w15 at n0_ n1_ n2_ n3_ ⊢
 have BK339 := n0_
 have BK340 := n1_
 have BK344 := n2_
 have HB := n3_
 clear n0_ n1_ n2_ n3_
 have n0_ := Aside0.mk (qD BK339.out)
 have n1_ := Aside0.mk (qD BK340.out)
 have n2_ := Aside0.mk (qD BK344.out)
 have n3_ := Aside0.mk (qm HB.out)
 clear BK339
 clear BK340
 clear BK344
 clear HB
 have BK339 := n0_
 have BK340 := n1_
 have BK344 := n2_
 have HB := n3_
 clear n0_ n1_ n2_ n3_
 refine qyA (n := 6) (S := fun w' => w'.cell? ⟨gb344, 0, none⟩ = some (.int .i64 t341) ∧ w'.cell? ⟨gb344, 1, none⟩ = some (.int .i64 t342) ∧ w'.cell? ⟨gb344, 2, none⟩ = some (.int .i64 t343)) (ds := []) #[false, false, false, false, false, false] (by kernel_rfl) rfl rfl ⟨(qL BK344.out 0).trans rfl, (qL BK344.out 1).trans rfl, (qL BK344.out 2).trans rfl⟩ (fun hHeld => ?_)
 generalize w15.drew = w16 at BK339 BK340 BK344 HB hHeld ⊢
 refine pure_ (i := 1) (N := some 13) (v := ?_) (a' := ?_) #[false, true, false, false, false, false] rfl rfl (by kernel_rfl) (fun _ _ _ h => h) (Or.inl ⟨by rfl, ?_⟩) ?_ ?_
 rotate_left
 ·intro w'
  go_simp
  first | (with_reducible rfl) | (rw [if_neg (by simp only [ByteArray.size_extract, ByteArray.size_append] at * <;> omega)]; try with_reducible rfl)
 rotate_left
 ·simp only [Act.put, List.setIfInBounds_toArray, List.set_cons_zero, List.set_cons_succ, i64_w, i32_w]
  rfl
 refine take_ (i := 0) (N := some 12) (v := ?_) (a' := ?_) #[true, true, false, false, false, false] rfl rfl (by kernel_rfl) (fun _ _ _ h => h) (Or.inl ⟨by rfl, ?_⟩) hHeld ?_ ?_
 rotate_left
 ·rintro w' ⟨s0, s1, s2⟩
  go_simp
  first | (with_reducible rfl) | (rw [if_neg (by simp only [ByteArray.size_extract, ByteArray.size_append] at * <;> omega)]; try with_reducible rfl)
 rotate_left
 ·simp only [Act.put, List.setIfInBounds_toArray, List.set_cons_zero, List.set_cons_succ, i64_w, i32_w]
  rfl
 refine take_ (i := 2) (N := some 14) (v := ?_) (a' := ?_) #[true, true, true, false, false, false] rfl rfl (by kernel_rfl) (fun _ _ _ h => h) (Or.inl ⟨by rfl, ?_⟩) hHeld ?_ ?_
 rotate_left
 ·rintro w' ⟨s0, s1, s2⟩
  go_simp
  first | (with_reducible rfl) | (rw [if_neg (by simp only [ByteArray.size_extract, ByteArray.size_append] at * <;> omega)]; try with_reducible rfl)
 rotate_left
 ·simp only [Act.put, List.setIfInBounds_toArray, List.set_cons_zero, List.set_cons_succ, i64_w, i32_w]
  rfl
 refine one_ (i := 3) (N := some 15) #[true, true, true, true, false, false] rfl rfl (by kernel_rfl) (by decide) (fun K hK => ?_)
 refine goes_ Tryd.func31 (by kernel_rfl) rfl #[.slice A0 l0.length c0, .agg #[.int .i64 t341, .int .i64 t342, .int .i64 t343]] (by rfl) rfl rfl (by (try simp only [List.map_toArray, List.map_cons, List.map_nil]); first | done | rfl | (simp only [List.length_drop, List.length_take]; rfl)) ?_
 with_reducible refine (qe.calls k _ _ l0 t341 t342 t343 t345 _ ?side1 ?side2 A5.out).mono ?_
 (case side1 => repeat (first | exact (Kd.qYA HR0.out HB.out) | (with_reducible refine Kd.qz ?_ _) | (with_reducible refine Kd.qy ?_ _) | (with_reducible refine Kd.qNA ?_)))
 (case side2 => exact HC0.out)
 rintro e w17 ⟨rfl, hb⟩
 refine ⟨_, rfl, ?_⟩
 have n0_ := Aside0.mk (bb BK339 hb)
 have n1_ := Aside0.mk (bb BK340 hb)
 have n2_ := Aside0.mk (bb BK344 hb)
 have n3_ := Aside0.mk (qG bl hb)
 clear BK339
 clear BK340
 clear BK344
 clear HB
 have BK339 := n0_
 have BK340 := n1_
 have BK344 := n2_
 have HB := n3_
 clear n0_ n1_ n2_ n3_
 (try clear hb)
 (try clear hb2)
 (try clear hk)
 (try clear hi)
 refine hK.out _ _ ⟨(qL BK344.out 0).trans rfl, (qL BK344.out 1).trans rfl, (qL BK344.out 2).trans rfl⟩ (fun hHeld => ?_)
 clear hK K
 refine norm_ (a' := ?_) ?_ ?_
 rotate_left
 ·show Act.put _ (some 15) _ = _
  simp only [Act.put, List.setIfInBounds_toArray, List.set_cons_zero, List.set_cons_succ, i64_w, i32_w]
  rfl
 refine one_ (i := 4) (N := none) #[true, true, true, true, true, false] rfl rfl (by kernel_rfl) (by decide) (fun K hK => ?_)
 have hs18 : w17.cell? ⟨gb340, 0, none⟩ = some (.int .i64 0) := (qL BK340.out 0).trans rfl
 have hfs18 := qC BK340.out 0
 have hns18_0 := NB339_340.out
 have hns18_2 := NB344_340.out
 have hms18_0 := NB340_339.out
 have hms18_2 := NB340_344.out
 have hs19 : w17.cell? ⟨gb340, 1, none⟩ = some (.int .i64 0) := (qL BK340.out 1).trans rfl
 have hfs19 := qC BK340.out 1
 have hns19_0 := NB339_340.out
 have hns19_2 := NB344_340.out
 have hms19_0 := NB340_339.out
 have hms19_2 := NB340_344.out
 have hs20 : w17.cell? ⟨gb340, 2, none⟩ = some (.int .i64 0) := (qL BK340.out 2).trans rfl
 have hfs20 := qC BK340.out 2
 have hns20_0 := NB339_340.out
 have hns20_2 := NB344_340.out
 have hms20_0 := NB340_339.out
 have hms20_2 := NB340_344.out
 refine skip_ (w1 := ?_) (by rfl) rfl ?_ ?_
 rotate_left
 ·go_simp
  rfl
 refine hK.out _ _ ⟨((qR (p := ⟨gb340, _, none⟩) NB344_340.out _).trans (((qR (p := ⟨gb340, _, none⟩) NB344_340.out _).trans (((qR (p := ⟨gb340, _, none⟩) NB344_340.out _).trans (hHeld.1)))))), ((qR (p := ⟨gb340, _, none⟩) NB344_340.out _).trans (((qR (p := ⟨gb340, _, none⟩) NB344_340.out _).trans (((qR (p := ⟨gb340, _, none⟩) NB344_340.out _).trans (hHeld.2.1)))))), ((qR (p := ⟨gb340, _, none⟩) NB344_340.out _).trans (((qR (p := ⟨gb340, _, none⟩) NB344_340.out _).trans (((qR (p := ⟨gb340, _, none⟩) NB344_340.out _).trans (hHeld.2.2))))))⟩ (fun hHeld => ?_)
 clear hK K
 refine pure_ (i := 5) (N := some 7) (v := ?_) (a' := ?_) #[true, true, true, true, true, true] rfl rfl (by kernel_rfl) (fun _ _ _ h => h) (Or.inl ⟨by rfl, ?_⟩) ?_ ?_
 rotate_left
 ·intro w'
  go_simp
  first | (with_reducible rfl) | (rw [if_neg (by simp only [ByteArray.size_extract, ByteArray.size_append] at * <;> omega)]; try with_reducible rfl)
 rotate_left
 ·simp only [Act.put, List.setIfInBounds_toArray, List.set_cons_zero, List.set_cons_succ, i64_w, i32_w]
  rfl
 refine done_ (by kernel_rfl) ?_
 try go_wp2
 refine bodyPost_ret (qRA rfl _ _ gb340 27 #[.int .i64 t341, .int .i64 t342, .int .i64 t343] (0, 0) _ rfl (by (with_reducible repeat (first | refine qB ?_ _ | refine qD ?_ | refine qA ?_ _)); refine qQ (cs := #[.int .i64 t341, .int .i64 t342, .int .i64 0]) ?_ 2 _ rfl; (with_reducible repeat (first | refine qB ?_ _ | refine qD ?_ | refine qA ?_ _)); refine qQ (cs := #[.int .i64 t341, .int .i64 0, .int .i64 0]) ?_ 1 _ rfl; (with_reducible repeat (first | refine qB ?_ _ | refine qD ?_ | refine qA ?_ _)); refine qQ (cs := #[.int .i64 0, .int .i64 0, .int .i64 0]) ?_ 0 _ rfl; (with_reducible repeat (first | refine qB ?_ _ | refine qD ?_ | refine qA ?_ _)); exact BK340.out) Tryd.underlying27 rfl (by kernel_rfl)) rfl ?_
 exact ⟨by first | rfl | (simp [qJ, qI] <;> rfl) | (simp [*, qJ, qI] <;> rfl), bl⟩
end Go.Proofs.YtdagdhmcebeadaaDoor.P
namespace Go.Proofs.YtdagdhmcebeadaaDoor.P
open Go.RowKit Go.Proofs.YtdagdhmcebeadaaDoorW.PrintWords Go.Proofs.YtdagdhmcebeadaaDoorW.PrintLast Go.Proofs.YtdagdhmcebeadaaDoorW.PrintMore
attribute [local go_sem] qDA qBA qLA qKA qq qp qCA qAA
set_option linter.unusedVariables false
set_option linter.unusedSimpArgs false
attribute [local go_sem high] eqA27
def qf.l0 : Nat → List (S27) → Int → Int → Int → Int → Int → Option (Int)
 | 0, _, _, _, _, _, _ => none
 | k + 1, x0, x7, x8, x347000, x347001, x347002 => if x8 < x7 then (if 0 ≤ x8 then (if x8 < (x0.length : Int) then (if (x347000 == ((qK x0 x8).f0) && (x347001 == ((qK x0 x8).f1) && (x347002 == ((qK x0 x8).f2)))) = true then (some x8) else (qf.l0 k x0 x7 (wrap64 (x8 + 1)) x347000 x347001 x347002)) else (none)) else (none)) else (some (-1))
def qf.f (k : Nat) (l0 : List (S27)) (a1_0 : Int) (a1_1 : Int) (a1_2 : Int) : Option (Int) := qf.l0 k l0 (l0.length : Int) 0 a1_0 a1_1 a1_2
set_option maxHeartbeats 8000000 in
set_option maxRecDepth 100000 in
theorem qf.calls (k : Nat) (A0 : Option Addr) (c0 : Nat) (l0 : List (S27)) (a1_0 : Int) (a1_1 : Int) (a1_2 : Int) (r : Int) (w : World) (hr0 : Kd.C k27 w A0 l0.length l0) (hc0 : l0.length ≤ c0) (h : qf.f k l0 a1_0 a1_1 a1_2 = some r) :
  Calls Tryd.prog 33 #[.slice A0 l0.length c0, .agg #[.int .i64 a1_0, .int .i64 a1_1, .int .i64 a1_2]] w fun e w' => e = .returned (.int .i64 r) ∧ Below w.heap.size w w' := by
 have hu27 := Tryd.underlying27
 have HR0 := Aside0.mk hr0
 have HC0 := Aside0.mk hc0
 clear hr0 hc0
 have HB := Aside0.mk (Below.refl w.heap.size w)
 have H : (qf.l0 k l0 (l0.length : Int) 0 a1_0 a1_1 a1_2) = some r := h
 clear h
 have H' := Aside0.mk H
 clear H
 go_enter Tryd.func33, Tryd.ntmps33
 go_wp2_with (first | ((with_reducible refine qd (N := 3) rfl ?_); refine qY ?hg (N := 3) ?hd (cs := #[.int .i64 a1_0, .int .i64 a1_1, .int .i64 a1_2]) (t := 27) ?hr ?_; (case hd => rfl); (case hg => rfl); (case hr => first | (go_simp; done) | (go_simp; rfl)); intro gb346 hg w3 hbox hb; have n0_ := Aside0.mk (qG bl hb); have n1_ := Aside0.mk (hbox); have n2_ := Aside0.mk ((gg hg)); have n3_ := Aside0.mk ((gg hg)); clear HB; have HB := n0_; have BK346 := n1_; have GW346 := n2_; have GE346 := n3_; clear n0_ n1_ n2_ n3_; clear hb hbox hg))
 repeat (go_quiet (first | ((with_reducible refine qd (N := 3) rfl ?_); refine qY ?hg (N := 3) ?hd (cs := #[.int .i64 a1_0, .int .i64 a1_1, .int .i64 a1_2]) (t := 27) ?hr ?_; (case hd => rfl); (case hg => rfl); (case hr => first | (go_simp; done) | (go_simp; rfl)); intro gb346 hg w3 hbox hb; have n0_ := Aside0.mk (qG bl hb); have n1_ := Aside0.mk (hbox); have n2_ := Aside0.mk ((gg hg)); have n3_ := Aside0.mk ((gg hg)); clear HB; have HB := n0_; have BK346 := n1_; have GW346 := n2_; have GE346 := n3_; clear n0_ n1_ n2_ n3_; clear hb hbox hg)); try go_wp2_with (first | ((with_reducible refine qd (N := 3) rfl ?_); refine qY ?hg (N := 3) ?hd (cs := #[.int .i64 a1_0, .int .i64 a1_1, .int .i64 a1_2]) (t := 27) ?hr ?_; (case hd => rfl); (case hg => rfl); (case hr => first | (go_simp; done) | (go_simp; rfl)); intro gb346 hg w3 hbox hb; have n0_ := Aside0.mk (qG bl hb); have n1_ := Aside0.mk (hbox); have n2_ := Aside0.mk ((gg hg)); have n3_ := Aside0.mk ((gg hg)); clear HB; have HB := n0_; have BK346 := n1_; have GW346 := n2_; have GE346 := n3_; clear n0_ n1_ n2_ n3_; clear hb hbox hg)))
 go_loopg [8] k (fun kq v8 w' => ∃ (x8_1 : Int), v8 = .int .i64 x8_1 ∧ Aside0 (qf.l0 kq l0 (l0.length : Int) x8_1 a1_0 a1_1 a1_2 = some r) ∧ Aside0 (kq ≤ k) ∧ Aside0 (w'.heap[gb346]? = some (.cells #[.int .i64 a1_0, .int .i64 a1_1, .int .i64 a1_2] 27 (0, 0))) ∧ Aside0 (Below w.heap.size w w'))
 case atStart => exact ⟨(0), (by first | rfl | (simp; done) | (simp [*]; done)), H', ⟨Nat.le_refl _⟩, ⟨by (with_reducible repeat (first | refine qB ?_ _ | refine qD ?_ | refine qA ?_ _)); exact BK346.out⟩, ⟨bl⟩⟩
 case round =>
  clear H'
  try clear p2
  try clear c3
  obtain ⟨x8_1, rfl, HA, HK1, BK346, HB⟩ := hrel
  cases gk with
  | zero => exact absurd HA.out (by simp [qf.l0])
  | succ k1 =>
   have H := HA.out
   clear HA
   simp only [qf.l0] at H
   by_cases c4 : x8_1 < (l0.length : Int)
   ·rw [if_pos c4] at H
    have c4b0 : decide (x8_1 < (l0.length : Int)) = true := decide_eq_true c4
    clear c4
    by_cases c5 : 0 ≤ x8_1
    ·rw [if_pos c5] at H
     have c5b0 : decide (0 ≤ x8_1) = true := decide_eq_true c5
     clear c5
     by_cases c6 : x8_1 < (l0.length : Int)
     ·rw [if_pos c6] at H
      have c6b0 : decide (x8_1 < (l0.length : Int)) = true := decide_eq_true c6
      clear c6
      by_cases c7 : (a1_0 == ((qK l0 x8_1).f0) && (a1_1 == ((qK l0 x8_1).f1) && (a1_2 == ((qK l0 x8_1).f2)))) = true
      ·rw [if_pos c7] at H
       have c7b0 : (a1_0 == ((qK l0 x8_1).f0) && (a1_1 == ((qK l0 x8_1).f1) && (a1_2 == ((qK l0 x8_1).f2)))) = true := c7
       (try (have c7b1 : decide (a1_0 = ((qK l0 x8_1).f0) && (a1_1 == ((qK l0 x8_1).f1) && (a1_2 == ((qK l0 x8_1).f2)))) = true := by simpa using c7))
       (try (have c7b2 : (a1_0 == ((qK l0 x8_1).f0) && (a1_1 == ((qK l0 x8_1).f1) && (a1_2 == ((qK l0 x8_1).f2)))) = true := by simpa using c7))
       clear c7
       obtain rfl := Option.some.inj H
       have hcz8_0 := bc BK346 0
       have hcz8_1 := bc BK346 1
       have hcz8_2 := bc BK346 2
       have hfz8_0 := qC BK346.out 0
       have hfz8_1 := qC BK346.out 1
       have hfz8_2 := qC BK346.out 2
       have p347 : 0 ≤ (x8_1 : Int) := of_decide_eq_true (by first | (with_reducible assumption) | assumption)
       have q347 : x8_1 < (l0.length : Int) := of_decide_eq_true (by first | (with_reducible assumption) | assumption)
       obtain ⟨ad347, e347, hx347_0, hx347_1, hx347_2⟩ := qnA HR0.out x8_1 p347 q347
       cases e347
       replace hx347_0 := (HB.out.cell (World.block_lt_of_cell? w _ hx347_0)).trans hx347_0
       replace hx347_1 := (HB.out.cell (World.block_lt_of_cell? w _ hx347_1)).trans hx347_1
       replace hx347_2 := (HB.out.cell (World.block_lt_of_cell? w _ hx347_2)).trans hx347_2
       replace p347 := eq_true p347
       replace q347 := eq_true q347
       go_wp2
       repeat (go_quiet (fail); try go_wp2)
       go_ret
       exact ⟨by first | rfl | (simp [qJ, qI] <;> rfl) | (simp [*, qJ, qI] <;> rfl), bl⟩
      ·rw [if_neg c7] at H
       have c7b0 : (a1_0 == ((qK l0 x8_1).f0) && (a1_1 == ((qK l0 x8_1).f1) && (a1_2 == ((qK l0 x8_1).f2)))) = false := by simpa using c7
       (try (have c7b1 : decide (a1_0 = ((qK l0 x8_1).f0) && (a1_1 == ((qK l0 x8_1).f1) && (a1_2 == ((qK l0 x8_1).f2)))) = false := by simpa using c7))
       (try (have c7b2 : (a1_0 == ((qK l0 x8_1).f0) && (a1_1 == ((qK l0 x8_1).f1) && (a1_2 == ((qK l0 x8_1).f2)))) = false := by simpa using c7))
       (try (have c7b3 : ¬ (a1_0 = ((qK l0 x8_1).f0) && (a1_1 == ((qK l0 x8_1).f1) && (a1_2 == ((qK l0 x8_1).f2)))) := by simpa using c7))
       clear c7
       have H' := Aside0.mk H
       clear H
       have hcz9_0 := bc BK346 0
       have hcz9_1 := bc BK346 1
       have hcz9_2 := bc BK346 2
       have hfz9_0 := qC BK346.out 0
       have hfz9_1 := qC BK346.out 1
       have hfz9_2 := qC BK346.out 2
       have p347 : 0 ≤ (x8_1 : Int) := of_decide_eq_true (by first | (with_reducible assumption) | assumption)
       have q347 : x8_1 < (l0.length : Int) := of_decide_eq_true (by first | (with_reducible assumption) | assumption)
       obtain ⟨ad347, e347, hx347_0, hx347_1, hx347_2⟩ := qnA HR0.out x8_1 p347 q347
       cases e347
       replace hx347_0 := (HB.out.cell (World.block_lt_of_cell? w _ hx347_0)).trans hx347_0
       replace hx347_1 := (HB.out.cell (World.block_lt_of_cell? w _ hx347_1)).trans hx347_1
       replace hx347_2 := (HB.out.cell (World.block_lt_of_cell? w _ hx347_2)).trans hx347_2
       replace p347 := eq_true p347
       replace q347 := eq_true q347
       go_wp2
       repeat (go_quiet (fail); try go_wp2)
       go_roundg k1
       case measure => have := HK1.out; omega
       case rel => exact ⟨(wrap64 (x8_1 + 1)), (by first | rfl | (simp; done) | (simp [*]; done)), H', ⟨by have := HK1.out; omega⟩, ⟨by (with_reducible repeat (first | refine qB ?_ _ | refine qD ?_ | refine qA ?_ _)); exact BK346.out⟩, ⟨bl⟩⟩
     ·rw [if_neg c6] at H
      exact absurd H (by simp)
    ·rw [if_neg c5] at H
     exact absurd H (by simp)
   ·rw [if_neg c4] at H
    have c4b0 : decide (x8_1 < (l0.length : Int)) = false := decide_eq_false c4
    clear c4
    obtain rfl := Option.some.inj H
    go_wp2
    repeat (go_quiet (fail); try go_wp2)
    go_ret
    exact ⟨by first | rfl | (simp [qJ, qI] <;> rfl) | (simp [*, qJ, qI] <;> rfl), bl⟩
end Go.Proofs.YtdagdhmcebeadaaDoor.P
namespace Go.Proofs.YtdagdhmcebeadaaDoor.P
open Go.RowKit Go.Proofs.YtdagdhmcebeadaaDoorW.PrintWords Go.Proofs.YtdagdhmcebeadaaDoorW.PrintLast Go.Proofs.YtdagdhmcebeadaaDoorW.PrintMore
attribute [local go_sem] qDA qBA qLA qKA qq qp qCA qAA
set_option linter.unusedVariables false
set_option linter.unusedSimpArgs false
def qn.f (k : Nat) (l0 : List (S27)) (a1_0 : Int) (a1_1 : Int) (a1_2 : Int) : Option (Bool) := (qf.f k l0 a1_0 a1_1 a1_2).bind fun t349 => (some (decide (t349 ≥ 0)))
set_option maxHeartbeats 8000000 in
set_option maxRecDepth 100000 in
theorem qn.calls (k : Nat) (A0 : Option Addr) (c0 : Nat) (l0 : List (S27)) (a1_0 : Int) (a1_1 : Int) (a1_2 : Int) (r : Bool) (w : World) (hr0 : Kd.C k27 w A0 l0.length l0) (hc0 : l0.length ≤ c0) (h : qn.f k l0 a1_0 a1_1 a1_2 = some r) :
  Calls Tryd.prog 22 #[.slice A0 l0.length c0, .agg #[.int .i64 a1_0, .int .i64 a1_1, .int .i64 a1_2]] w fun e w' => e = .returned (.bool r) ∧ Below w.heap.size w w' := by
 have hu27 := Tryd.underlying27
 have HR0 := Aside0.mk hr0
 have HC0 := Aside0.mk hc0
 clear hr0 hc0
 have HB := Aside0.mk (Below.refl w.heap.size w)
 have H : ((qf.f k l0 a1_0 a1_1 a1_2).bind fun t349 => (some (decide (t349 ≥ 0)))) = some r := h
 clear h
 replace H := Option.bind_eq_some_iff.mp H
 obtain ⟨t349, A30, H⟩ := H
 replace H : (some (decide (t349 ≥ 0))) = some r := H
 have A3 := Aside0.mk A30
 clear A30
 obtain rfl := Option.some.inj H
 go_enter Tryd.func22, Tryd.ntmps22
 go_wp2_with (first | ((with_reducible refine qd (N := 3) rfl ?_); refine qY ?hg (N := 3) ?hd (cs := #[.int .i64 a1_0, .int .i64 a1_1, .int .i64 a1_2]) (t := 27) ?hr ?_; (case hd => rfl); (case hg => rfl); (case hr => first | (go_simp; done) | (go_simp; rfl)); intro gb348 hg w4 hbox hb; have n0_ := Aside0.mk (qG bl hb); have n1_ := Aside0.mk (hbox); have n2_ := Aside0.mk ((gg hg)); have n3_ := Aside0.mk ((gg hg)); clear HB; have HB := n0_; have BK348 := n1_; have GW348 := n2_; have GE348 := n3_; clear n0_ n1_ n2_ n3_; clear hb hbox hg; have hcz5_0 := bc BK348 0; have hcz5_1 := bc BK348 1; have hcz5_2 := bc BK348 2; have hfz5_0 := qC BK348.out 0; have hfz5_1 := qC BK348.out 1; have hfz5_2 := qC BK348.out 2) | ((with_reducible refine qS (f := 33) rfl ?_); refine qt (some 7) rfl rfl Tryd.func33 (by kernel_rfl) rfl #[.slice A0 l0.length c0, .agg #[.int .i64 a1_0, .int .i64 a1_1, .int .i64 a1_2]] rfl (by (try simp only [List.map_toArray, List.map_cons, List.map_nil]); first | done | rfl | (simp only [List.length_drop, List.length_take]; rfl)) ?_; (with_reducible refine (qf.calls k _ _ l0 a1_0 a1_1 a1_2 t349 _ ?side1 ?side2 A3.out).mono ?_); (case side1 => repeat (first | exact (Kd.qYA HR0.out HB.out) | (with_reducible refine Kd.qz ?_ _) | (with_reducible refine Kd.qy ?_ _) | (with_reducible refine Kd.qNA ?_))); (case side2 => exact HC0.out); rintro e w6 ⟨rfl, hb⟩; refine ⟨_, rfl, ?_⟩; have n0_ := Aside0.mk (bb BK348 hb); have n1_ := Aside0.mk (qG bl hb); clear BK348; clear HB; have BK348 := n0_; have HB := n1_; clear n0_ n1_; (try clear hb); (try clear hb2); (try clear hk); (try clear hi)))
 go_ret
 exact ⟨by first | rfl | (simp [qJ, qI] <;> rfl) | (simp [*, qJ, qI] <;> rfl), bl⟩
end Go.Proofs.YtdagdhmcebeadaaDoor.P
namespace Go.Proofs.YtdagdhmcebeadaaDoor
open Go.RowKit Go.Proofs.YtdagdhmcebeadaaDoorW.PrintWords Go.Proofs.YtdagdhmcebeadaaDoorW.PrintLast
set_option linter.unusedVariables false
set_option linter.unusedSimpArgs false
def KeptUp (w w' : World) (v : Value) (n : Nat) : Prop := ∀ (p : Addr) (u : Value), w.cell? p = some u → (some p.block = v.ownBlock → p.off < n) → w'.cell? p = some u
theorem cell_of_block {w w' : World} {p : Addr} (h : w'.heap[p.block]? = w.heap[p.block]?) : w'.cell? p = w.cell? p := by unfold World.cell?; rw [h]
section
variable {P : Program} (w : World)
theorem append_kept (base : Nat) (t ty e : TypeId) (i : TypeInfo) (z : Value) (size bytes : Nat) (ht : P.underlying t = some (.slice e)) (hi : P.info? e = some i) (hz : i.zero = some z)
  (hsize : i.size = size) (hby : i.bytes = bytes) (hzs : z.cells.size = size) (hsz : 0 < size)
  (v : Value) (n : Nat) (xs : List Value) (hown : w.ownsRow base e size v n xs)
  (a : Addr) (m c : Nat) (news : List Value) (hl : news.length = m * size) (hnews : ∀ j u, news[j]? = some u → w.cell? (a.add j) = some u) (h1 : ∀ u ∈ news, u.oneCell' = true)
  (h63 : n + m ≤ maxLen) (hbytes : (n + m) * bytes ≤ 140737488355328) (hbase : base ≤ w.heap.size) {v' : Value} {w' : World}
  (hr : (Builtin.append_ #[t, t] ty #[v, .slice (some a) m c]).run P w = .ok v' w') : KeptUp w w' v (n * size) := by
 obtain ⟨v2, w2, hr2, hown2, hg2, _, _⟩ := run_append_own_at (P := P) w base t ty e i z size bytes ht hi hz hsize hby hzs hsz v n xs hown a m c news hl hnews h1 h63 hbytes hbase
 rw [hr] at hr2
 injection hr2 with e1 e2
 subst e1
 subst e2
 intro p u hp hb
 have hlt := World.block_lt_of_cell? w p hp
 by_cases hpb : some p.block = v.ownBlock
 ·have hoff := hb hpb
  rcases hown.2 with ⟨rfl, _⟩ | ⟨g, cap, cur, rfl, hbg, hg, hnc, hcm, hcs, htake⟩
  ·cases hpb
  ·obtain rfl : p.block = g := Option.some.inj hpb
   subst hsize
   have hsmall : n + m ≤ 9223372036854775807 := by simp only [maxLen] at h63; omega
   by_cases hroom : n + m ≤ cap
   ·have hfit : n * i.size + news.length ≤ cur.size := by rw [hl, hcs, ← Nat.add_mul]; exact Nat.mul_le_mul_right _ hroom
    have hr3 := run_append_room (P := P) w t ty e i ht hi p.block n cap cur hg a m c news hl hnews h1 hroom hfit
    rw [hr] at hr3
    injection hr3 with e1 e2
    subst e1
    rcases hown2.2 with ⟨h3, _⟩ | ⟨g', cap', cur', he, _, hg', _, _, _, htake'⟩
    ·cases h3
    ·injection he with he1 he2 he3
     injection he1 with he1
     injection he1 with he1
     subst he1
     unfold World.cell? at hp ⊢
     rw [hg] at hp
     rw [hg']
     simp only at hp ⊢
     split at hp
     ·cases hp
     ·rename_i hs
      rw [if_neg hs]
      have q1 : xs[p.off]? = some u := by
       rw [← htake, List.getElem?_take, if_pos hoff, Array.getElem?_toList]; exact hp
      have q2 : (cur'.toList.take ((n + m) * i.size))[p.off]? = some u := by
       rw [htake', List.getElem?_append_left (by have := (List.getElem?_eq_some_iff.1 q1).1; exact this)]; exact q1
      rw [List.getElem?_take] at q2
      split at q2
      ·rwa [Array.getElem?_toList] at q2
      ·cases q2
   ·have holds : ∀ j u, xs[j]? = some u → w.cell? ((⟨p.block, 0, none⟩ : Addr).add j) = some u := hown.cells (g := p.block) rfl
    subst hby
    have hr3 := run_append_grow (P := P) w t ty e i z ht hi hz ⟨p.block, 0, none⟩ n cap xs hown.1 holds a m c news hl hnews (by omega) (by omega) (growslice_fits (by omega) hbytes)
    rw [hr] at hr3
    injection hr3 with e1 e2
    subst e2
    refine (cell_of_block ?_).trans hp
    exact heap_alloc_old w.drew _ hlt
 ·exact (cell_of_block (hg2.block p.block hlt hpb)).trans hp
end
section
variable {P : Program} {ops : Array Oper} {o : Oper} {a : Act} {Q : Exit → Act → World → Prop} {Kc : Act → World → Prop} {α : Type}
theorem qtA (d : Kd α) {Rr : α → List Value → Prop} {w0 W : World} (base : Nat) (hw : Region.wanted o (yielded ops a.tmps) = true) (s x : Operand) (t e : TypeId) (z : Value) (bytes : Nat)
  (ho : o.op = .call { callee := .builtin .append, args := #[s, x], argTypes := #[t, t] })
  (ht : P.underlying t = some (.slice e)) (hinfo : (P.info? e).map (fun i => (i.zero, i.size, i.bytes)) = some (some z, d.sz, bytes)) (hz : z.cells.size = d.sz) (hs0 : 0 < d.sz) (hb0 : 0 < bytes)
  (v : Value) (xs ys : List α) (A : Option Addr) (m c : Nat) (ok okp : Nat → Prop) (hs : a.eval s = v) (hx : a.eval x = .slice A m c)
  (HO : d.R e W base ok v xs) (HR : ReadsRow Rr d.sz W A m ys) (hKM : ∀ x cs, Rr x cs → d.M W base okp x cs) (hokp : ∀ k, okp k → ok k ∧ some k ≠ v.ownBlock) (hfresh : ∀ k, W.heap.size ≤ k → ok k)
  (HB : Below base w0 W) (hbase : base ≤ W.heap.size) (hl : (xs.length + m) * bytes ≤ 140737488355328)
  (h : ∀ v1 w1, d.R e w1 base ok v1 (xs ++ ys) → Below base w0 w1 → W.grownBy w1 v.ownBlock → (v1.ownBlock = v.ownBlock ∨ ∃ b, v1.ownBlock = some b ∧ W.heap.size ≤ b) → KeptUp W w1 v (xs.length * d.sz) → Kc (a.put o.dst v1) w1) :
  if Region.wanted o (yielded ops a.tmps) = true then Oper.wp P o a W Kc Q else Kc (a.put o.dst undef) W := by
 have main := Kd.R_append_rows_step (Q := Q) (Kc := fun a' w1 => ∃ v1, a' = a.put o.dst v1 ∧ (KeptUp W w1 v (xs.length * d.sz) → Kc (a.put o.dst v1) w1)) d base hw s x t e z bytes ho ht hinfo hz hs0 hb0 v xs ys A m c ok okp hs hx HO HR hKM hokp hfresh HB hbase hl
  (fun v1 w1 g1 g2 g3 g4 => ⟨v1, rfl, fun hk => h v1 w1 g1 g2 g3 g4 hk⟩)
 rw [if_pos hw] at main ⊢
 obtain ⟨i0, hi, hzz⟩ := Option.map_eq_some_iff.1 hinfo
 simp only [Prod.mk.injEq] at hzz
 obtain ⟨hz0, hz1, hz2⟩ := hzz
 have hm : ys.length = m := HR.1
 have hlen : xs.length + m ≤ 140737488355328 := Nat.le_trans (Nat.le_mul_of_pos_right _ hb0) hl
 obtain ⟨hok, inner, hown, hr⟩ := HO
 have hkeep : ∀ v1 w1, (Builtin.append_ #[t, t] o.type #[v, .slice A m c]).run P W = .ok v1 w1 → KeptUp W w1 v (xs.length * d.sz) := by
  intro v1 w1 hrun
  rcases A with _ | ad
  ·have h0 : m = 0 := by
    rcases Nat.eq_zero_or_pos m with h0 | h0
    ·exact h0
    ·obtain ⟨ad, h, _⟩ := HR.2.2 h0
     cases h
   subst h0
   have e0 : (Builtin.append_ #[t, t] o.type #[v, .slice none 0 c]).run P W = .ok v W := by
    rcases hown.2 with ⟨rfl, hn⟩ | ⟨g, cap, cur, rfl, _, _, hnc, _⟩
    ·simp [Builtin.append_, run_underlying ht, sizeOf, typeInfo, hi, Builtin.lenOf, Builtin.firstCells]
    ·simp [Builtin.append_, run_underlying ht, sizeOf, typeInfo, hi, Builtin.lenOf, Builtin.firstCells, hnc, storeCells]
   rw [hrun] at e0
   injection e0 with _ e2
   subst e2
   exact fun p u hp _ => hp
  ·obtain ⟨news, hnr, hnc⟩ := ReadsRow.qlC HR
   have hnM : Reps (d.M W base okp) d.sz ys news := hnr.imp_ (fun p c hp => hKM p c hp)
   have hone : ∀ u ∈ news, u.oneCell' = true := by
    intro u hu
    obtain ⟨q, hq, rfl⟩ := List.mem_iff_getElem.1 hu
    have hql : q / d.sz < ys.length := by
     rw [Nat.div_lt_iff_lt_mul hs0]
     rw [← hnM.1]
     exact hq
    have hc := hnM.2 (q / d.sz) _ (List.getElem?_eq_getElem hql)
    refine d.K_one (d.K_of_M hc) _ ?_
    rw [List.mem_iff_getElem?]
    refine ⟨q % d.sz, ?_⟩
    rw [List.getElem?_take, if_pos (Nat.mod_lt _ hs0), List.getElem?_drop, Nat.mul_comm, Nat.div_add_mod, List.getElem?_eq_getElem hq]
   exact append_kept (P := P) W base t o.type e i0 z d.sz bytes ht hi hz0 hz1 hz2 hz hs0 v xs.length inner hown ad m c news (by rw [hnM.1, hm]) hnc hone (by simp only [maxLen]; omega) hl hbase hrun
 clear hr
 unfold Oper.wp execOp at main ⊢
 cases hrun : (Builtin.append_ #[t, t] o.type #[v, .slice A m c]).run P W with
 | ok v1 w1 =>
  have hk := hkeep v1 w1 hrun
  simp only [ho, resolve, invoke, builtin, Sem.run_bind, Sem.run_pure, Result.andThen_ok, List.map_toArray, List.map_cons, List.map_nil, hs, hx, hrun] at main ⊢
  obtain ⟨v2, e2, h2⟩ := main
  have h3 := h2 hk
  rw [← e2] at h3
  exact h3
 | halt e w1 =>
  simp only [ho, resolve, invoke, builtin, Sem.run_bind, Sem.run_pure, Result.andThen_ok, List.map_toArray, List.map_cons, List.map_nil, hs, hx, hrun, Result.andThen] at main ⊢
  unfold Oper.upon at main ⊢
  cases e <;> exact main
theorem R_off1 (d : Kd α) {e : Nat} {W : World} {base : Nat} {ok : Nat → Prop} {ad : Addr} {n c : Nat} {xs : List α} (h : d.R e W base ok (.slice (some ad) n c) xs) (hs : d.sz = 1) (i : Int) (h0 : 0 ≤ i) (h1 : i < (xs.length : Int)) : (ad.add i.toNat).off < xs.length * d.sz := by
 obtain ⟨_, inner, hown, _⟩ := h
 rcases hown.2 with ⟨h3, _⟩ | ⟨g, cap, cur, he, _⟩
 ·cases h3
 ·injection he with he1
  injection he1 with he1
  subst he1
  rw [hs, Nat.mul_one]
  show ((⟨g, 0, none⟩ : Addr).add i.toNat).off < _
  rw [qPC]
  show i.toNat < xs.length
  omega
theorem R_apart1 {β : Type} (d : Kd α) (d' : Kd β) {e e' : Nat} {W : World} {base base' : Nat} {ok ok' : Nat → Prop} {ad : Addr} {n c : Nat} {v : Value} {xs : List α} {ys : List β} (h : d.R e W base ok (.slice (some ad) n c) xs) (h' : d'.R e' W base' ok' v ys) (hne : e ≠ e') (i : Nat) :
  some (ad.add i).block ≠ v.ownBlock := by
 obtain ⟨in1, ho1⟩ := Kd.R_own h
 obtain ⟨in2, ho2⟩ := Kd.R_own h'
 rw [qW]
 rcases own_type_ne ho1 ho2 hne with h3 | h3
 ·cases h3
 ·exact h3
end
end Go.Proofs.YtdagdhmcebeadaaDoor
