/- The program's AreSameDie returns what the reference's returns, for all texts (the law lets longer texts by). No further condition. -/
import Derived.Test.YtdncpkppkafkpaaDoorKFnExactAreSameDie4

namespace Go.Proofs.YtdncpkppkafkpaaDoor.P
open Go.RowKit Go.Proofs.YtdncpkppkafkpaaDoorW.PrintWords Go.Proofs.YtdncpkppkafkpaaDoorW.PrintLast Go.Proofs.YtdncpkppkafkpaaDoorW.PrintMore
attribute [local go_sem] qz qx qJA qIA qo qn qy qw
set_option linter.unusedVariables false
set_option linter.unusedSimpArgs false
def qUA.f (k : Nat) (a0 : ByteArray) (a1 : ByteArray) : Option (Bool × Bool) := (qh.f k a0).bind fun bt885 => ((qh.f k a1).bind fun bt893 => (if bt885.2.2.2.2.2.2 = true then (if bt893.2.2.2.2.2.2 = true then ((qp.f k bt885.1 bt885.2.1 bt885.2.2.1 bt885.2.2.2.1 bt885.2.2.2.2.1 bt885.2.2.2.2.2.1 bt893.1 bt893.2.1 bt893.2.2.1 bt893.2.2.2.1 bt893.2.2.2.2.1 bt893.2.2.2.2.2.1).bind fun bt901 => (some (bt901.2, true))) else (some (false, false))) else (some (false, false))))
set_option maxHeartbeats 8000000 in
set_option maxRecDepth 100000 in
theorem qUA.calls (k : Nat) (a0 : ByteArray) (a1 : ByteArray) (r1 : Bool) (r2 : Bool) (w : World) (hL : Laid w) (h : qUA.f k a0 a1 = some (r1, r2)) :
  Calls Tryd.prog 30 #[.string a0, .string a1] w fun e w' => e = .returned (.tuple #[.bool r1, .bool r2]) ∧ Below w.heap.size w w' := by
 have hu31 := Tryd.underlying31
 have HLD := Aside0.mk hL
 clear hL
 have HB := Aside0.mk (Below.refl w.heap.size w)
 have H : ((qh.f k a0).bind fun bt885 => ((qh.f k a1).bind fun bt893 => (if bt885.2.2.2.2.2.2 = true then (if bt893.2.2.2.2.2.2 = true then ((qp.f k bt885.1 bt885.2.1 bt885.2.2.1 bt885.2.2.2.1 bt885.2.2.2.2.1 bt885.2.2.2.2.2.1 bt893.1 bt893.2.1 bt893.2.2.1 bt893.2.2.2.1 bt893.2.2.2.2.1 bt893.2.2.2.2.2.1).bind fun bt901 => (some (bt901.2, true))) else (some (false, false))) else (some (false, false))))) = some (r1, r2) := h
 clear h
 replace H := Option.bind_eq_some_iff.mp H
 obtain ⟨⟨t885, t886, t887, t888, t889, t890, t891⟩, A30, H⟩ := H
 replace H : ((qh.f k a1).bind fun bt893 => (if t891 = true then (if bt893.2.2.2.2.2.2 = true then ((qp.f k t885 t886 t887 t888 t889 t890 bt893.1 bt893.2.1 bt893.2.2.1 bt893.2.2.2.1 bt893.2.2.2.2.1 bt893.2.2.2.2.2.1).bind fun bt901 => (some (bt901.2, true))) else (some (false, false))) else (some (false, false)))) = some (r1, r2) := H
 have A3 := Aside0.mk A30
 clear A30
 replace H := Option.bind_eq_some_iff.mp H
 obtain ⟨⟨t893, t894, t895, t896, t897, t898, t899⟩, A40, H⟩ := H
 replace H : (if t891 = true then (if t899 = true then ((qp.f k t885 t886 t887 t888 t889 t890 t893 t894 t895 t896 t897 t898).bind fun bt901 => (some (bt901.2, true))) else (some (false, false))) else (some (false, false))) = some (r1, r2) := H
 have A4 := Aside0.mk A40
 clear A40
 by_cases c5 : t891 = true
 ·subst c5
  have H1 : (if t899 = true then ((qp.f k t885 t886 t887 t888 t889 t890 t893 t894 t895 t896 t897 t898).bind fun bt901 => (some (bt901.2, true))) else (some (false, false))) = some (r1, r2) := by rw [if_pos rfl] at H; exact H
  clear H
  have H := H1
  clear H1
  by_cases c6 : t899 = true
  ·subst c6
   have H1 : ((qp.f k t885 t886 t887 t888 t889 t890 t893 t894 t895 t896 t897 t898).bind fun bt901 => (some (bt901.2, true))) = some (r1, r2) := by rw [if_pos rfl] at H; exact H
   clear H
   have H := H1
   clear H1
   replace H := Option.bind_eq_some_iff.mp H
   obtain ⟨⟨t901, t902⟩, A70, H⟩ := H
   replace H : (some (t902, true)) = some (r1, r2) := H
   have A7 := Aside0.mk A70
   clear A70
   simp only [Option.some.injEq, Prod.mk.injEq] at H
   obtain ⟨rfl, rfl⟩ := H
   go_enter Tryd.func30, Tryd.ntmps30
   go_wp2_with (first | ((with_reducible refine qa (f := 41) rfl ?_); refine qQA (some 14) rfl rfl Tryd.func41 (by kernel_rfl) rfl #[.string a0] rfl (by (try simp only [List.map_toArray, List.map_cons, List.map_nil]); first | done | rfl | (simp only [List.length_drop, List.length_take]; rfl)) ?_; (with_reducible refine (qh.calls k a0 t885 t886 t887 t888 t889 t890 true _ ?side1 A3.out).mono ?_); (case side1 => first | (with_reducible exact HLD.out) | exact Laid.below HLD.out bl); rintro e w8 ⟨rfl, hb⟩; refine ⟨_, rfl, ?_⟩; have n0_ := Aside0.mk (qJ bl hb); clear HB; have HB := n0_; clear n0_; (try clear hb); (try clear hb2); (try clear hk); (try clear hi)) | ((with_reducible refine qX (N := 6) rfl ?_); refine qW ?hg (N := 6) ?hd (cs := #[.int .i64 0, .int .i64 0, .int .i64 0, .int .i64 0, .int .i64 0, .int .i64 0]) (t := 31) ?hr ?_; (case hd => rfl); (case hg => rfl); (case hr => first | (go_simp; done) | (go_simp; rfl)); intro gb892 hg w9 hbox hb; have n0_ := Aside0.mk (qJ bl hb); have n1_ := Aside0.mk (hbox); have n2_ := Aside0.mk ((gg hg)); have n3_ := Aside0.mk ((gg hg)); clear HB; have HB := n0_; have BK892 := n1_; have GW892 := n2_; have GE892 := n3_; clear n0_ n1_ n2_ n3_; clear hb hbox hg; have hcz10_0 := bc BK892 0; have hcz10_1 := bc BK892 1; have hcz10_2 := bc BK892 2; have hcz10_3 := bc BK892 3; have hcz10_4 := bc BK892 4; have hcz10_5 := bc BK892 5; have hfz10_0 := qA BK892.out 0; have hfz10_1 := qA BK892.out 1; have hfz10_2 := qA BK892.out 2; have hfz10_3 := qA BK892.out 3; have hfz10_4 := qA BK892.out 4; have hfz10_5 := qA BK892.out 5) | ((with_reducible refine qa (f := 41) rfl ?_); refine qQA (some 19) rfl rfl Tryd.func41 (by kernel_rfl) rfl #[.string a1] rfl (by (try simp only [List.map_toArray, List.map_cons, List.map_nil]); first | done | rfl | (simp only [List.length_drop, List.length_take]; rfl)) ?_; (with_reducible refine (qh.calls k a1 t893 t894 t895 t896 t897 t898 true _ ?side1 A4.out).mono ?_); (case side1 => first | (with_reducible exact HLD.out) | exact Laid.below HLD.out bl); rintro e w11 ⟨rfl, hb⟩; refine ⟨_, rfl, ?_⟩; have n0_ := Aside0.mk (qEB (g := gb892) (o := .cells #[.int .i64 t885, .int .i64 t886, .int .i64 t887, .int .i64 t888, .int .i64 t889, .int .i64 t890] 31 (0, 0)) (by (with_reducible repeat (first | refine qD ?_ _ | refine qE ?_ | refine qC ?_ _)); refine qO (cs := #[.int .i64 t885, .int .i64 t886, .int .i64 t887, .int .i64 t888, .int .i64 t889, .int .i64 0]) ?_ 5 _ rfl; (with_reducible repeat (first | refine qD ?_ _ | refine qE ?_ | refine qC ?_ _)); refine qO (cs := #[.int .i64 t885, .int .i64 t886, .int .i64 t887, .int .i64 t888, .int .i64 0, .int .i64 0]) ?_ 4 _ rfl; (with_reducible repeat (first | refine qD ?_ _ | refine qE ?_ | refine qC ?_ _)); refine qO (cs := #[.int .i64 t885, .int .i64 t886, .int .i64 t887, .int .i64 0, .int .i64 0, .int .i64 0]) ?_ 3 _ rfl; (with_reducible repeat (first | refine qD ?_ _ | refine qE ?_ | refine qC ?_ _)); refine qO (cs := #[.int .i64 t885, .int .i64 t886, .int .i64 0, .int .i64 0, .int .i64 0, .int .i64 0]) ?_ 2 _ rfl; (with_reducible repeat (first | refine qD ?_ _ | refine qE ?_ | refine qC ?_ _)); refine qO (cs := #[.int .i64 t885, .int .i64 0, .int .i64 0, .int .i64 0, .int .i64 0, .int .i64 0]) ?_ 1 _ rfl; (with_reducible repeat (first | refine qD ?_ _ | refine qE ?_ | refine qC ?_ _)); refine qO (cs := #[.int .i64 0, .int .i64 0, .int .i64 0, .int .i64 0, .int .i64 0, .int .i64 0]) ?_ 0 _ rfl; (with_reducible repeat (first | refine qD ?_ _ | refine qE ?_ | refine qC ?_ _)); exact BK892.out) hb); have n1_ := Aside0.mk (qJ bl hb); clear BK892; clear HB; have BK892 := n0_; have HB := n1_; clear n0_ n1_; (try clear hb); (try clear hb2); (try clear hk); (try clear hi)) | ((with_reducible refine qX (N := 8) rfl ?_); refine qW ?hg (N := 8) ?hd (cs := #[.int .i64 0, .int .i64 0, .int .i64 0, .int .i64 0, .int .i64 0, .int .i64 0]) (t := 31) ?hr ?_; (case hd => rfl); (case hg => rfl); (case hr => first | (go_simp; done) | (go_simp; rfl)); intro gb900 hg w12 hbox hb; have n0_ := Aside0.mk (bb BK892 hb); have n1_ := Aside0.mk (qJ bl hb); have n2_ := Aside0.mk (hbox); have n3_ := Aside0.mk ((gg hg)); have n4_ := Aside0.mk ((gg hg)); have n5_ := Aside0.mk ((nl BK892 hg)); have n6_ := Aside0.mk ((nr BK892 hg)); clear BK892; clear HB; have BK892 := n0_; have HB := n1_; have BK900 := n2_; have GW900 := n3_; have GE900 := n4_; have NB892_900 := n5_; have NB900_892 := n6_; clear n0_ n1_ n2_ n3_ n4_ n5_ n6_; clear hb hbox hg; have hnb13 := NB900_892.out; have hnc13 := NB892_900.out; have hcz14_0 := bc BK900 0; have hcz14_1 := bc BK900 1; have hcz14_2 := bc BK900 2; have hcz14_3 := bc BK900 3; have hcz14_4 := bc BK900 4; have hcz14_5 := bc BK900 5; have hfz14_0 := qA BK900.out 0; have hfz14_1 := qA BK900.out 1; have hfz14_2 := qA BK900.out 2; have hfz14_3 := qA BK900.out 3; have hfz14_4 := qA BK900.out 4; have hfz14_5 := qA BK900.out 5; have hcz15_0 := bc BK892 0; have hcz15_1 := bc BK892 1; have hcz15_2 := bc BK892 2; have hcz15_3 := bc BK892 3; have hcz15_4 := bc BK892 4; have hcz15_5 := bc BK892 5; have hfz15_0 := qA BK892.out 0; have hfz15_1 := qA BK892.out 1; have hfz15_2 := qA BK892.out 2; have hfz15_3 := qA BK892.out 3; have hfz15_4 := qA BK892.out 4; have hfz15_5 := qA BK892.out 5) | ((with_reducible refine qa (f := 45) rfl ?_); refine qQA (some 31) rfl rfl Tryd.func45 (by kernel_rfl) rfl #[.agg #[.int .i64 t885, .int .i64 t886, .int .i64 t887, .int .i64 t888, .int .i64 t889, .int .i64 t890], .agg #[.int .i64 t893, .int .i64 t894, .int .i64 t895, .int .i64 t896, .int .i64 t897, .int .i64 t898]] rfl (by (try simp only [List.map_toArray, List.map_cons, List.map_nil]); first | done | rfl | (simp only [List.length_drop, List.length_take]; rfl)) ?_; (with_reducible refine (qp.calls k t885 t886 t887 t888 t889 t890 t893 t894 t895 t896 t897 t898 t901 t902 _ A7.out).mono ?_); rintro e w16 ⟨rfl, hb⟩; refine ⟨_, rfl, ?_⟩; have n0_ := Aside0.mk (qEB (g := gb892) (o := .cells #[.int .i64 t885, .int .i64 t886, .int .i64 t887, .int .i64 t888, .int .i64 t889, .int .i64 t890] 31 (0, 0)) (by (with_reducible repeat (first | refine qD ?_ _ | refine qE ?_ | refine qC ?_ _)); refine qc ?_ NB892_900.out _; (with_reducible repeat (first | refine qD ?_ _ | refine qE ?_ | refine qC ?_ _)); refine qc ?_ NB892_900.out _; (with_reducible repeat (first | refine qD ?_ _ | refine qE ?_ | refine qC ?_ _)); refine qc ?_ NB892_900.out _; (with_reducible repeat (first | refine qD ?_ _ | refine qE ?_ | refine qC ?_ _)); refine qc ?_ NB892_900.out _; (with_reducible repeat (first | refine qD ?_ _ | refine qE ?_ | refine qC ?_ _)); refine qc ?_ NB892_900.out _; (with_reducible repeat (first | refine qD ?_ _ | refine qE ?_ | refine qC ?_ _)); refine qc ?_ NB892_900.out _; (with_reducible repeat (first | refine qD ?_ _ | refine qE ?_ | refine qC ?_ _)); exact BK892.out) hb); have n1_ := Aside0.mk (qEB (g := gb900) (o := .cells #[.int .i64 t893, .int .i64 t894, .int .i64 t895, .int .i64 t896, .int .i64 t897, .int .i64 t898] 31 (0, 0)) (by (with_reducible repeat (first | refine qD ?_ _ | refine qE ?_ | refine qC ?_ _)); refine qO (cs := #[.int .i64 t893, .int .i64 t894, .int .i64 t895, .int .i64 t896, .int .i64 t897, .int .i64 0]) ?_ 5 _ rfl; (with_reducible repeat (first | refine qD ?_ _ | refine qE ?_ | refine qC ?_ _)); refine qO (cs := #[.int .i64 t893, .int .i64 t894, .int .i64 t895, .int .i64 t896, .int .i64 0, .int .i64 0]) ?_ 4 _ rfl; (with_reducible repeat (first | refine qD ?_ _ | refine qE ?_ | refine qC ?_ _)); refine qO (cs := #[.int .i64 t893, .int .i64 t894, .int .i64 t895, .int .i64 0, .int .i64 0, .int .i64 0]) ?_ 3 _ rfl; (with_reducible repeat (first | refine qD ?_ _ | refine qE ?_ | refine qC ?_ _)); refine qO (cs := #[.int .i64 t893, .int .i64 t894, .int .i64 0, .int .i64 0, .int .i64 0, .int .i64 0]) ?_ 2 _ rfl; (with_reducible repeat (first | refine qD ?_ _ | refine qE ?_ | refine qC ?_ _)); refine qO (cs := #[.int .i64 t893, .int .i64 0, .int .i64 0, .int .i64 0, .int .i64 0, .int .i64 0]) ?_ 1 _ rfl; (with_reducible repeat (first | refine qD ?_ _ | refine qE ?_ | refine qC ?_ _)); refine qO (cs := #[.int .i64 0, .int .i64 0, .int .i64 0, .int .i64 0, .int .i64 0, .int .i64 0]) ?_ 0 _ rfl; (with_reducible repeat (first | refine qD ?_ _ | refine qE ?_ | refine qC ?_ _)); exact BK900.out) hb); have n2_ := Aside0.mk (qJ bl hb); clear BK892; clear BK900; clear HB; have BK892 := n0_; have BK900 := n1_; have HB := n2_; clear n0_ n1_ n2_; (try clear hb); (try clear hb2); (try clear hk); (try clear hi)))
   go_ret2
   exact ⟨by first | rfl | (simp [qN, qM] <;> rfl) | (simp [*, qN, qM] <;> rfl), bl⟩
  ·replace c6 := Bool.eq_false_iff.mpr c6
   subst c6
   have H1 : (some (false, false)) = some (r1, r2) := by rw [if_neg (show ¬ (false = true) by decide)] at H; exact H
   clear H
   have H := H1
   clear H1
   simp only [Option.some.injEq, Prod.mk.injEq] at H
   obtain ⟨rfl, rfl⟩ := H
   go_enter Tryd.func30, Tryd.ntmps30
   go_wp2_with (first | ((with_reducible refine qa (f := 41) rfl ?_); refine qQA (some 14) rfl rfl Tryd.func41 (by kernel_rfl) rfl #[.string a0] rfl (by (try simp only [List.map_toArray, List.map_cons, List.map_nil]); first | done | rfl | (simp only [List.length_drop, List.length_take]; rfl)) ?_; (with_reducible refine (qh.calls k a0 t885 t886 t887 t888 t889 t890 true _ ?side1 A3.out).mono ?_); (case side1 => first | (with_reducible exact HLD.out) | exact Laid.below HLD.out bl); rintro e w17 ⟨rfl, hb⟩; refine ⟨_, rfl, ?_⟩; have n0_ := Aside0.mk (qJ bl hb); clear HB; have HB := n0_; clear n0_; (try clear hb); (try clear hb2); (try clear hk); (try clear hi)) | ((with_reducible refine qX (N := 6) rfl ?_); refine qW ?hg (N := 6) ?hd (cs := #[.int .i64 0, .int .i64 0, .int .i64 0, .int .i64 0, .int .i64 0, .int .i64 0]) (t := 31) ?hr ?_; (case hd => rfl); (case hg => rfl); (case hr => first | (go_simp; done) | (go_simp; rfl)); intro gb892 hg w18 hbox hb; have n0_ := Aside0.mk (qJ bl hb); have n1_ := Aside0.mk (hbox); have n2_ := Aside0.mk ((gg hg)); have n3_ := Aside0.mk ((gg hg)); clear HB; have HB := n0_; have BK892 := n1_; have GW892 := n2_; have GE892 := n3_; clear n0_ n1_ n2_ n3_; clear hb hbox hg; have hcz19_0 := bc BK892 0; have hcz19_1 := bc BK892 1; have hcz19_2 := bc BK892 2; have hcz19_3 := bc BK892 3; have hcz19_4 := bc BK892 4; have hcz19_5 := bc BK892 5; have hfz19_0 := qA BK892.out 0; have hfz19_1 := qA BK892.out 1; have hfz19_2 := qA BK892.out 2; have hfz19_3 := qA BK892.out 3; have hfz19_4 := qA BK892.out 4; have hfz19_5 := qA BK892.out 5) | ((with_reducible refine qa (f := 41) rfl ?_); refine qQA (some 19) rfl rfl Tryd.func41 (by kernel_rfl) rfl #[.string a1] rfl (by (try simp only [List.map_toArray, List.map_cons, List.map_nil]); first | done | rfl | (simp only [List.length_drop, List.length_take]; rfl)) ?_; (with_reducible refine (qh.calls k a1 t893 t894 t895 t896 t897 t898 false _ ?side1 A4.out).mono ?_); (case side1 => first | (with_reducible exact HLD.out) | exact Laid.below HLD.out bl); rintro e w20 ⟨rfl, hb⟩; refine ⟨_, rfl, ?_⟩; have n0_ := Aside0.mk (qEB (g := gb892) (o := .cells #[.int .i64 t885, .int .i64 t886, .int .i64 t887, .int .i64 t888, .int .i64 t889, .int .i64 t890] 31 (0, 0)) (by (with_reducible repeat (first | refine qD ?_ _ | refine qE ?_ | refine qC ?_ _)); refine qO (cs := #[.int .i64 t885, .int .i64 t886, .int .i64 t887, .int .i64 t888, .int .i64 t889, .int .i64 0]) ?_ 5 _ rfl; (with_reducible repeat (first | refine qD ?_ _ | refine qE ?_ | refine qC ?_ _)); refine qO (cs := #[.int .i64 t885, .int .i64 t886, .int .i64 t887, .int .i64 t888, .int .i64 0, .int .i64 0]) ?_ 4 _ rfl; (with_reducible repeat (first | refine qD ?_ _ | refine qE ?_ | refine qC ?_ _)); refine qO (cs := #[.int .i64 t885, .int .i64 t886, .int .i64 t887, .int .i64 0, .int .i64 0, .int .i64 0]) ?_ 3 _ rfl; (with_reducible repeat (first | refine qD ?_ _ | refine qE ?_ | refine qC ?_ _)); refine qO (cs := #[.int .i64 t885, .int .i64 t886, .int .i64 0, .int .i64 0, .int .i64 0, .int .i64 0]) ?_ 2 _ rfl; (with_reducible repeat (first | refine qD ?_ _ | refine qE ?_ | refine qC ?_ _)); refine qO (cs := #[.int .i64 t885, .int .i64 0, .int .i64 0, .int .i64 0, .int .i64 0, .int .i64 0]) ?_ 1 _ rfl; (with_reducible repeat (first | refine qD ?_ _ | refine qE ?_ | refine qC ?_ _)); refine qO (cs := #[.int .i64 0, .int .i64 0, .int .i64 0, .int .i64 0, .int .i64 0, .int .i64 0]) ?_ 0 _ rfl; (with_reducible repeat (first | refine qD ?_ _ | refine qE ?_ | refine qC ?_ _)); exact BK892.out) hb); have n1_ := Aside0.mk (qJ bl hb); clear BK892; clear HB; have BK892 := n0_; have HB := n1_; clear n0_ n1_; (try clear hb); (try clear hb2); (try clear hk); (try clear hi)) | ((with_reducible refine qX (N := 8) rfl ?_); refine qW ?hg (N := 8) ?hd (cs := #[.int .i64 0, .int .i64 0, .int .i64 0, .int .i64 0, .int .i64 0, .int .i64 0]) (t := 31) ?hr ?_; (case hd => rfl); (case hg => rfl); (case hr => first | (go_simp; done) | (go_simp; rfl)); intro gb900 hg w21 hbox hb; have n0_ := Aside0.mk (bb BK892 hb); have n1_ := Aside0.mk (qJ bl hb); have n2_ := Aside0.mk (hbox); have n3_ := Aside0.mk ((gg hg)); have n4_ := Aside0.mk ((gg hg)); have n5_ := Aside0.mk ((nl BK892 hg)); have n6_ := Aside0.mk ((nr BK892 hg)); clear BK892; clear HB; have BK892 := n0_; have HB := n1_; have BK900 := n2_; have GW900 := n3_; have GE900 := n4_; have NB892_900 := n5_; have NB900_892 := n6_; clear n0_ n1_ n2_ n3_ n4_ n5_ n6_; clear hb hbox hg; have hnb22 := NB900_892.out; have hnc22 := NB892_900.out; have hcz23_0 := bc BK900 0; have hcz23_1 := bc BK900 1; have hcz23_2 := bc BK900 2; have hcz23_3 := bc BK900 3; have hcz23_4 := bc BK900 4; have hcz23_5 := bc BK900 5; have hfz23_0 := qA BK900.out 0; have hfz23_1 := qA BK900.out 1; have hfz23_2 := qA BK900.out 2; have hfz23_3 := qA BK900.out 3; have hfz23_4 := qA BK900.out 4; have hfz23_5 := qA BK900.out 5))
   go_ret2
   exact ⟨by first | rfl | (simp [qN, qM] <;> rfl) | (simp [*, qN, qM] <;> rfl), bl⟩
 ·replace c5 := Bool.eq_false_iff.mpr c5
  subst c5
  have H1 : (some (false, false)) = some (r1, r2) := by rw [if_neg (show ¬ (false = true) by decide)] at H; exact H
  clear H
  have H := H1
  clear H1
  simp only [Option.some.injEq, Prod.mk.injEq] at H
  obtain ⟨rfl, rfl⟩ := H
  go_enter Tryd.func30, Tryd.ntmps30
  go_wp2_with (first | ((with_reducible refine qa (f := 41) rfl ?_); refine qQA (some 14) rfl rfl Tryd.func41 (by kernel_rfl) rfl #[.string a0] rfl (by (try simp only [List.map_toArray, List.map_cons, List.map_nil]); first | done | rfl | (simp only [List.length_drop, List.length_take]; rfl)) ?_; (with_reducible refine (qh.calls k a0 t885 t886 t887 t888 t889 t890 false _ ?side1 A3.out).mono ?_); (case side1 => first | (with_reducible exact HLD.out) | exact Laid.below HLD.out bl); rintro e w24 ⟨rfl, hb⟩; refine ⟨_, rfl, ?_⟩; have n0_ := Aside0.mk (qJ bl hb); clear HB; have HB := n0_; clear n0_; (try clear hb); (try clear hb2); (try clear hk); (try clear hi)) | ((with_reducible refine qX (N := 6) rfl ?_); refine qW ?hg (N := 6) ?hd (cs := #[.int .i64 0, .int .i64 0, .int .i64 0, .int .i64 0, .int .i64 0, .int .i64 0]) (t := 31) ?hr ?_; (case hd => rfl); (case hg => rfl); (case hr => first | (go_simp; done) | (go_simp; rfl)); intro gb892 hg w25 hbox hb; have n0_ := Aside0.mk (qJ bl hb); have n1_ := Aside0.mk (hbox); have n2_ := Aside0.mk ((gg hg)); have n3_ := Aside0.mk ((gg hg)); clear HB; have HB := n0_; have BK892 := n1_; have GW892 := n2_; have GE892 := n3_; clear n0_ n1_ n2_ n3_; clear hb hbox hg; have hcz26_0 := bc BK892 0; have hcz26_1 := bc BK892 1; have hcz26_2 := bc BK892 2; have hcz26_3 := bc BK892 3; have hcz26_4 := bc BK892 4; have hcz26_5 := bc BK892 5; have hfz26_0 := qA BK892.out 0; have hfz26_1 := qA BK892.out 1; have hfz26_2 := qA BK892.out 2; have hfz26_3 := qA BK892.out 3; have hfz26_4 := qA BK892.out 4; have hfz26_5 := qA BK892.out 5) | ((with_reducible refine qa (f := 41) rfl ?_); refine qQA (some 19) rfl rfl Tryd.func41 (by kernel_rfl) rfl #[.string a1] rfl (by (try simp only [List.map_toArray, List.map_cons, List.map_nil]); first | done | rfl | (simp only [List.length_drop, List.length_take]; rfl)) ?_; (with_reducible refine (qh.calls k a1 t893 t894 t895 t896 t897 t898 t899 _ ?side1 A4.out).mono ?_); (case side1 => first | (with_reducible exact HLD.out) | exact Laid.below HLD.out bl); rintro e w27 ⟨rfl, hb⟩; refine ⟨_, rfl, ?_⟩; have n0_ := Aside0.mk (qEB (g := gb892) (o := .cells #[.int .i64 t885, .int .i64 t886, .int .i64 t887, .int .i64 t888, .int .i64 t889, .int .i64 t890] 31 (0, 0)) (by (with_reducible repeat (first | refine qD ?_ _ | refine qE ?_ | refine qC ?_ _)); refine qO (cs := #[.int .i64 t885, .int .i64 t886, .int .i64 t887, .int .i64 t888, .int .i64 t889, .int .i64 0]) ?_ 5 _ rfl; (with_reducible repeat (first | refine qD ?_ _ | refine qE ?_ | refine qC ?_ _)); refine qO (cs := #[.int .i64 t885, .int .i64 t886, .int .i64 t887, .int .i64 t888, .int .i64 0, .int .i64 0]) ?_ 4 _ rfl; (with_reducible repeat (first | refine qD ?_ _ | refine qE ?_ | refine qC ?_ _)); refine qO (cs := #[.int .i64 t885, .int .i64 t886, .int .i64 t887, .int .i64 0, .int .i64 0, .int .i64 0]) ?_ 3 _ rfl; (with_reducible repeat (first | refine qD ?_ _ | refine qE ?_ | refine qC ?_ _)); refine qO (cs := #[.int .i64 t885, .int .i64 t886, .int .i64 0, .int .i64 0, .int .i64 0, .int .i64 0]) ?_ 2 _ rfl; (with_reducible repeat (first | refine qD ?_ _ | refine qE ?_ | refine qC ?_ _)); refine qO (cs := #[.int .i64 t885, .int .i64 0, .int .i64 0, .int .i64 0, .int .i64 0, .int .i64 0]) ?_ 1 _ rfl; (with_reducible repeat (first | refine qD ?_ _ | refine qE ?_ | refine qC ?_ _)); refine qO (cs := #[.int .i64 0, .int .i64 0, .int .i64 0, .int .i64 0, .int .i64 0, .int .i64 0]) ?_ 0 _ rfl; (with_reducible repeat (first | refine qD ?_ _ | refine qE ?_ | refine qC ?_ _)); exact BK892.out) hb); have n1_ := Aside0.mk (qJ bl hb); clear BK892; clear HB; have BK892 := n0_; have HB := n1_; clear n0_ n1_; (try clear hb); (try clear hb2); (try clear hk); (try clear hi)) | ((with_reducible refine qX (N := 8) rfl ?_); refine qW ?hg (N := 8) ?hd (cs := #[.int .i64 0, .int .i64 0, .int .i64 0, .int .i64 0, .int .i64 0, .int .i64 0]) (t := 31) ?hr ?_; (case hd => rfl); (case hg => rfl); (case hr => first | (go_simp; done) | (go_simp; rfl)); intro gb900 hg w28 hbox hb; have n0_ := Aside0.mk (bb BK892 hb); have n1_ := Aside0.mk (qJ bl hb); have n2_ := Aside0.mk (hbox); have n3_ := Aside0.mk ((gg hg)); have n4_ := Aside0.mk ((gg hg)); have n5_ := Aside0.mk ((nl BK892 hg)); have n6_ := Aside0.mk ((nr BK892 hg)); clear BK892; clear HB; have BK892 := n0_; have HB := n1_; have BK900 := n2_; have GW900 := n3_; have GE900 := n4_; have NB892_900 := n5_; have NB900_892 := n6_; clear n0_ n1_ n2_ n3_ n4_ n5_ n6_; clear hb hbox hg; have hnb29 := NB900_892.out; have hnc29 := NB892_900.out; have hcz30_0 := bc BK900 0; have hcz30_1 := bc BK900 1; have hcz30_2 := bc BK900 2; have hcz30_3 := bc BK900 3; have hcz30_4 := bc BK900 4; have hcz30_5 := bc BK900 5; have hfz30_0 := qA BK900.out 0; have hfz30_1 := qA BK900.out 1; have hfz30_2 := qA BK900.out 2; have hfz30_3 := qA BK900.out 3; have hfz30_4 := qA BK900.out 4; have hfz30_5 := qA BK900.out 5))
  go_ret2
  exact ⟨by first | rfl | (simp [qN, qM] <;> rfl) | (simp [*, qN, qM] <;> rfl), bl⟩
def qNA.f (k : Nat) (a0 : ByteArray) (a1 : ByteArray) : Option (Bool) := if (a0.size : Int) > 1048576 then (some true) else (if (a1.size : Int) > 1048576 then (some true) else ((qY.f k a0 a1).bind fun bt903 => ((qUA.f k a0 a1).bind fun bt905 => (if (bt905.1 != bt903.1) = true then (some false) else (if (bt905.2 != bt903.2) = true then (some false) else (some true))))))
set_option maxHeartbeats 8000000 in
set_option maxRecDepth 100000 in
theorem qNA.calls (k : Nat) (a0 : ByteArray) (a1 : ByteArray) (r : Bool) (w : World) (hL : Laid w) (h : qNA.f k a0 a1 = some r) :
  Calls Tryd.prog 9 #[.string a0, .string a1] w fun e w' => e = .returned (.bool r) ∧ Below w.heap.size w w' := by
 have HLD := Aside0.mk hL
 clear hL
 have HB := Aside0.mk (Below.refl w.heap.size w)
 have H : (if (a0.size : Int) > 1048576 then (some true) else (if (a1.size : Int) > 1048576 then (some true) else ((qY.f k a0 a1).bind fun bt903 => ((qUA.f k a0 a1).bind fun bt905 => (if (bt905.1 != bt903.1) = true then (some false) else (if (bt905.2 != bt903.2) = true then (some false) else (some true))))))) = some r := h
 clear h
 by_cases c3 : (a0.size : Int) > 1048576
 ·rw [if_pos c3] at H
  have c3b0 : decide (1048576 < (a0.size : Int)) = true := decide_eq_true c3
  have c3b1 : decide (1048576 < a0.size) = true := decide_eq_true (by omega)
  clear c3
  obtain rfl := Option.some.inj H
  go_enter Tryd.func9, Tryd.ntmps9
  go_wp2
  go_ret
  exact ⟨by first | rfl | (simp [qN, qM] <;> rfl) | (simp [*, qN, qM] <;> rfl), bl⟩
 ·rw [if_neg c3] at H
  have c3b0 : decide (1048576 < (a0.size : Int)) = false := decide_eq_false c3
  have c3b1 : decide (1048576 < a0.size) = false := decide_eq_false (by omega)
  clear c3
  by_cases c4 : (a1.size : Int) > 1048576
  ·rw [if_pos c4] at H
   have c4b0 : decide (1048576 < (a1.size : Int)) = true := decide_eq_true c4
   have c4b1 : decide (1048576 < a1.size) = true := decide_eq_true (by omega)
   clear c4
   obtain rfl := Option.some.inj H
   go_enter Tryd.func9, Tryd.ntmps9
   go_wp2
   go_ret
   exact ⟨by first | rfl | (simp [qN, qM] <;> rfl) | (simp [*, qN, qM] <;> rfl), bl⟩
  ·rw [if_neg c4] at H
   have c4b0 : decide (1048576 < (a1.size : Int)) = false := decide_eq_false c4
   have c4b1 : decide (1048576 < a1.size) = false := decide_eq_false (by omega)
   clear c4
   replace H := Option.bind_eq_some_iff.mp H
   obtain ⟨⟨t903, t904⟩, A50, H⟩ := H
   replace H : ((qUA.f k a0 a1).bind fun bt905 => (if (bt905.1 != t903) = true then (some false) else (if (bt905.2 != t904) = true then (some false) else (some true)))) = some r := H
   have A5 := Aside0.mk A50
   clear A50
   replace H := Option.bind_eq_some_iff.mp H
   obtain ⟨⟨t905, t906⟩, A60, H⟩ := H
   replace H : (if (t905 != t903) = true then (some false) else (if (t906 != t904) = true then (some false) else (some true))) = some r := H
   have A6 := Aside0.mk A60
   clear A60
   by_cases c7 : (t905 != t903) = true
   ·rw [if_pos c7] at H
    have c7b0 : (t905 != t903) = true := c7
    (try (have c7b1 : decide (t905 = t903) = false := by simpa using c7))
    (try (have c7b2 : (t905 == t903) = false := by simpa using c7))
    (try (have c7b3 : ¬ (t905 = t903) := by simpa using c7))
    clear c7
    obtain rfl := Option.some.inj H
    go_enter Tryd.func9, Tryd.ntmps9
    go_wp2_with (first | ((with_reducible refine qa (f := 29) rfl ?_); refine qQA (some 18) rfl rfl Tryd.func29 (by kernel_rfl) rfl #[.string a0, .string a1] rfl (by (try simp only [List.map_toArray, List.map_cons, List.map_nil]); first | done | rfl | (simp only [List.length_drop, List.length_take]; rfl)) ?_; (with_reducible refine (qY.calls k a0 a1 t903 t904 _ A5.out).mono ?_); rintro e w8 ⟨rfl, hb⟩; refine ⟨_, rfl, ?_⟩; have n0_ := Aside0.mk (qJ bl hb); clear HB; have HB := n0_; clear n0_; (try clear hb); (try clear hb2); (try clear hk); (try clear hi)) | ((with_reducible refine qa (f := 30) rfl ?_); refine qQA (some 24) rfl rfl Tryd.func30 (by kernel_rfl) rfl #[.string a0, .string a1] rfl (by (try simp only [List.map_toArray, List.map_cons, List.map_nil]); first | done | rfl | (simp only [List.length_drop, List.length_take]; rfl)) ?_; (with_reducible refine (qUA.calls k a0 a1 t905 t906 _ ?side1 A6.out).mono ?_); (case side1 => first | (with_reducible exact HLD.out) | exact Laid.below HLD.out bl); rintro e w9 ⟨rfl, hb⟩; refine ⟨_, rfl, ?_⟩; have n0_ := Aside0.mk (qJ bl hb); clear HB; have HB := n0_; clear n0_; (try clear hb); (try clear hb2); (try clear hk); (try clear hi)))
    go_ret
    exact ⟨by first | rfl | (simp [qN, qM] <;> rfl) | (simp [*, qN, qM] <;> rfl), bl⟩
   ·rw [if_neg c7] at H
    have c7b0 : (t905 != t903) = false := by simpa using c7
    (try (have c7b1 : decide (t905 = t903) = true := by simpa using c7))
    (try (have c7b2 : (t905 == t903) = true := by simpa using c7))
    clear c7
    by_cases c10 : (t906 != t904) = true
    ·rw [if_pos c10] at H
     have c10b0 : (t906 != t904) = true := c10
     (try (have c10b1 : decide (t906 = t904) = false := by simpa using c10))
     (try (have c10b2 : (t906 == t904) = false := by simpa using c10))
     (try (have c10b3 : ¬ (t906 = t904) := by simpa using c10))
     clear c10
     obtain rfl := Option.some.inj H
     go_enter Tryd.func9, Tryd.ntmps9
     go_wp2_with (first | ((with_reducible refine qa (f := 29) rfl ?_); refine qQA (some 18) rfl rfl Tryd.func29 (by kernel_rfl) rfl #[.string a0, .string a1] rfl (by (try simp only [List.map_toArray, List.map_cons, List.map_nil]); first | done | rfl | (simp only [List.length_drop, List.length_take]; rfl)) ?_; (with_reducible refine (qY.calls k a0 a1 t903 t904 _ A5.out).mono ?_); rintro e w11 ⟨rfl, hb⟩; refine ⟨_, rfl, ?_⟩; have n0_ := Aside0.mk (qJ bl hb); clear HB; have HB := n0_; clear n0_; (try clear hb); (try clear hb2); (try clear hk); (try clear hi)) | ((with_reducible refine qa (f := 30) rfl ?_); refine qQA (some 24) rfl rfl Tryd.func30 (by kernel_rfl) rfl #[.string a0, .string a1] rfl (by (try simp only [List.map_toArray, List.map_cons, List.map_nil]); first | done | rfl | (simp only [List.length_drop, List.length_take]; rfl)) ?_; (with_reducible refine (qUA.calls k a0 a1 t905 t906 _ ?side1 A6.out).mono ?_); (case side1 => first | (with_reducible exact HLD.out) | exact Laid.below HLD.out bl); rintro e w12 ⟨rfl, hb⟩; refine ⟨_, rfl, ?_⟩; have n0_ := Aside0.mk (qJ bl hb); clear HB; have HB := n0_; clear n0_; (try clear hb); (try clear hb2); (try clear hk); (try clear hi)))
     go_ret
     exact ⟨by first | rfl | (simp [qN, qM] <;> rfl) | (simp [*, qN, qM] <;> rfl), bl⟩
    ·rw [if_neg c10] at H
     have c10b0 : (t906 != t904) = false := by simpa using c10
     (try (have c10b1 : decide (t906 = t904) = true := by simpa using c10))
     (try (have c10b2 : (t906 == t904) = true := by simpa using c10))
     clear c10
     obtain rfl := Option.some.inj H
     go_enter Tryd.func9, Tryd.ntmps9
     go_wp2_with (first | ((with_reducible refine qa (f := 29) rfl ?_); refine qQA (some 18) rfl rfl Tryd.func29 (by kernel_rfl) rfl #[.string a0, .string a1] rfl (by (try simp only [List.map_toArray, List.map_cons, List.map_nil]); first | done | rfl | (simp only [List.length_drop, List.length_take]; rfl)) ?_; (with_reducible refine (qY.calls k a0 a1 t903 t904 _ A5.out).mono ?_); rintro e w13 ⟨rfl, hb⟩; refine ⟨_, rfl, ?_⟩; have n0_ := Aside0.mk (qJ bl hb); clear HB; have HB := n0_; clear n0_; (try clear hb); (try clear hb2); (try clear hk); (try clear hi)) | ((with_reducible refine qa (f := 30) rfl ?_); refine qQA (some 24) rfl rfl Tryd.func30 (by kernel_rfl) rfl #[.string a0, .string a1] rfl (by (try simp only [List.map_toArray, List.map_cons, List.map_nil]); first | done | rfl | (simp only [List.length_drop, List.length_take]; rfl)) ?_; (with_reducible refine (qUA.calls k a0 a1 t905 t906 _ ?side1 A6.out).mono ?_); (case side1 => first | (with_reducible exact HLD.out) | exact Laid.below HLD.out bl); rintro e w14 ⟨rfl, hb⟩; refine ⟨_, rfl, ?_⟩; have n0_ := Aside0.mk (qJ bl hb); clear HB; have HB := n0_; clear n0_; (try clear hb); (try clear hb2); (try clear hk); (try clear hi)))
     go_ret
     exact ⟨by first | rfl | (simp [qN, qM] <;> rfl) | (simp [*, qN, qM] <;> rfl), bl⟩
def qNA.Pure : Prop := ∀ (a0 : ByteArray) (a1 : ByteArray), a0.size ≤ 140737488351232 → a1.size ≤ 140737488351232 → ∃ k, qNA.f k a0 a1 = some true
end Go.Proofs.YtdncpkppkafkpaaDoor.P
namespace Go.Proofs.YtdncpkppkafkpaaDoor
open Go.RowKit Go.Proofs.YtdncpkppkafkpaaDoor.P Go.Proofs.YtdncpkppkafkpaaDoorW.PrintWords Go.Proofs.YtdncpkppkafkpaaDoorW.PrintLast
set_option linter.unusedVariables false
set_option linter.unusedSimpArgs false
theorem qeC (s : ByteArray) : s.data.toList.length = s.size := by rw [Array.length_toList]; rfl
theorem nr_bt (s : ByteArray) (i : Nat) (h : i < s.data.toList.length) : bt s (i : Int) = ((s.data.toList[i]).toNat : Int) := by
 have h' : i < s.size := by rw [← qeC]; exact h
 unfold bt
 rw [dif_pos (by simpa using h')]
 simp only [Int.toNat_natCast, Array.getElem_toList]
 rfl
theorem nr_u8 (c : UInt8) (n : Nat) (hn : n < 256) : ((c.toNat : Int) = (n : Int)) ↔ c = UInt8.ofNat n := by
 constructor
 ·intro h
  have : c.toNat = n := by omega
  rw [← this]; simp
 ·intro h
  subst h
  simp; omega
abbrev RdN := Int × Int × List Int × Bool
def badN : RdN := (0, 0, [], false)
def okN (c : UInt8) : Bool := decide (c = 46) || isDg c
def runN : List UInt8 → Nat → Nat → Nat → List Int → RdN
 | [], x, w, h, cs => if (0 < h ∧ x ≠ w) ∨ x = 0 then badN else ((x : Int), ((h + 1 : Nat) : Int), cs, true)
 | c :: r, x, w, h, cs =>
  if c = 47 then (if (0 < h ∧ x ≠ w) ∨ x = 0 then badN else runN r 0 x (h + 1) cs)
  else if okN c = true then runN r (x + 1) w h (cs ++ [(c.toNat : Int)])
  else badN
theorem nr_end (a : ByteArray) (ha : a.size ≤ 41) (w h : Nat) (cs : List Int) : Ev (fun k => qQ.l0 k a false 0 ((a.size : Int) + 1) (w : Int) (h : Int) cs) ((w : Int), (h : Int), cs, true) := by
 refine Ev.step (f := fun k => _) (fun k => by rw [qQ.l0]) ?_
 exact Ev.neg (by omega) (Ev.now _)
theorem nr_sep (a : ByteArray) (i x w h : Nat) (cs : List Int) (hx : x ≤ 100) (hh : h ≤ 100) (hi : i ≤ 100) (R : RdN)
  (hR : Ev (fun k => qQ.l0 k a false 0 ((i : Int) + 1) (x : Int) ((h + 1 : Nat) : Int) cs) R) :
  Ev (fun k => qQ.j1 k a false (x : Int) (i : Int) false (w : Int) (h : Int) cs) (if (0 < h ∧ x ≠ w) ∨ x = 0 then badN else R) := by
 have w1 : wrap64 ((i : Int) + 1) = (i : Int) + 1 := by unfold wrap64; omega
 have w2 : wrap64 ((h : Int) + 1) = ((h + 1 : Nat) : Int) := by unfold wrap64; omega
 refine Ev.step (f := fun k => _) (fun k => by rw [qQ.j1]) ?_
 refine Ev.neg (by decide) ?_
 rw [w1, w2]
 by_cases h1 : 0 < h
 ·refine Ev.pos (by omega) ?_
  by_cases h2 : x = w
  ·refine Ev.pos (by omega) ?_
   by_cases h3 : x = 0
   ·rw [if_pos (.inr h3)]; exact Ev.pos (by omega) (Ev.now _)
   ·rw [if_neg (by omega)]; exact Ev.neg (by omega) hR
  ·rw [if_pos (.inl ⟨h1, h2⟩)]; exact Ev.neg (by omega) (Ev.now _)
 ·refine Ev.neg (by omega) ?_
  by_cases h3 : x = 0
  ·rw [if_pos (.inr h3)]; exact Ev.pos (by omega) (Ev.now _)
  ·rw [if_neg (by omega)]; exact Ev.neg (by omega) hR
theorem nr_loop (a : ByteArray) (ha : a.size ≤ 41) (d : Nat) : ∀ (i x w h : Nat) (cs : List Int), i ≤ a.size → a.size - i = d → x ≤ i → h ≤ i → cs.length ≤ i →
  Ev (fun k => qQ.l0 k a false (x : Int) (i : Int) (w : Int) (h : Int) cs) (runN (a.data.toList.drop i) x w h cs) := by
 have hsz := qeC a
 induction d with
 | zero =>
  intro i x w h cs hi hd hx hh hc
  obtain rfl : i = a.size := by omega
  refine Ev.step (f := fun k => _) (fun k => by rw [qQ.l0]) ?_
  refine Ev.pos (by omega) (Ev.neg (by omega) ?_)
  rw [List.drop_eq_nil_of_le (by omega), runN]
  exact nr_sep a a.size x w h cs (by omega) (by omega) (by omega) _ (nr_end a ha x (h + 1) cs)
 | succ d ih =>
  intro i x w h cs hi hd hx hh hc
  have hl : i < a.data.toList.length := by omega
  have e1 : ((i : Int) + 1) = ((i + 1 : Nat) : Int) := by omega
  have w1 : wrap64 ((i : Int) + 1) = ((i + 1 : Nat) : Int) := by unfold wrap64; omega
  have w2 : wrap64 ((x : Int) + 1) = ((x + 1 : Nat) : Int) := by unfold wrap64; omega
  have hdr := List.drop_eq_getElem_cons hl
  obtain ⟨c, hcc, hb⟩ : ∃ c, a.data.toList[i] = c ∧ bt a (i : Int) = (c.toNat : Int) := ⟨_, rfl, nr_bt a i hl⟩
  rw [hcc] at hdr
  clear hcc
  have HB := Lib.hid hb
  have HW1 := Lib.hid w1
  have HW2 := Lib.hid w2
  have HD := Lib.hid hdr
  clear hb w1 w2 hdr
  refine Ev.step (f := fun k => _) (fun k => by rw [qQ.l0]) ?_
  refine Ev.pos (by omega) (Ev.pos (by omega) (Ev.pos (by omega) ?_))
  rw [HD.out, HB.out, runN]
  by_cases h47 : c = 47
  ·rw [show ((c.toNat : Int) != 47) = false by subst h47; rfl, if_pos h47]
   clear HB HD h47
   refine nr_sep a i x w h cs (by omega) (by omega) (by omega) _ ?_
   rw [e1]
   exact ih (i + 1) 0 x (h + 1) cs (by omega) (by omega) (by omega) (by omega) (by omega)
  ·rw [show ((c.toNat : Int) != 47) = true by
    rw [bne_iff_ne]; intro e; exact h47 ((nr_u8 c 47 (by decide)).1 e), if_neg h47]
   have go1 := ih (i + 1) (x + 1) w h (cs ++ [(c.toNat : Int)]) (by omega) (by omega) (by omega) (by omega) (by simp; omega)
   have step : Ev (fun k => qQ.j3 k a false (x : Int) (i : Int) false (w : Int) (h : Int) cs) (runN (a.data.toList.drop (i + 1)) (x + 1) w h (cs ++ [(c.toNat : Int)])) := by
    refine Ev.step (f := fun k => _) (fun k => by rw [qQ.j3]) ?_
    refine Ev.neg (by decide) (Ev.pos (by omega) (Ev.pos (by omega) (Ev.pos (by omega) ?_)))
    rw [HW1.out, HW2.out, HB.out]
    exact go1
   have bad : Ev (fun k => qQ.j3 k a false (x : Int) (i : Int) true (w : Int) (h : Int) cs) badN := by
    refine Ev.step (f := fun k => _) (fun k => by rw [qQ.j3]) ?_
    exact Ev.pos rfl (Ev.now _)
   have j2 : ∀ b : Bool, (c ≠ 46 → b = isDg c) → Ev (fun k => qQ.j2 k a false (x : Int) (i : Int) b (w : Int) (h : Int) cs) (if okN c = true then runN (a.data.toList.drop (i + 1)) (x + 1) w h (cs ++ [(c.toNat : Int)]) else badN) := by
    intro b hb
    refine Ev.step (f := fun k => _) (fun k => by rw [qQ.j2]) ?_
    refine Ev.pos (by omega) (Ev.pos (by omega) ?_)
    rw [HB.out]
    by_cases h46 : c = 46
    ·rw [if_pos (by unfold okN; rw [decide_eq_true h46]; rfl)]
     exact Ev.pos (by subst h46; rfl) step
    ·refine Ev.neg (fun e => h46 ((nr_u8 c 46 (by decide)).1 e)) ?_
     rw [hb h46]
     have hok : okN c = isDg c := by unfold okN; rw [decide_eq_false h46, Bool.false_or]
     rw [hok]
     cases isDg c with
     | true => rw [if_pos rfl]; exact step
     | false => rw [if_neg (by decide)]; exact bad
   refine Ev.step (f := fun k => _) (fun k => by rw [qQ.j1]) ?_
   refine Ev.pos rfl (Ev.pos (by omega) (Ev.pos (by omega) ?_))
   rw [HB.out]
   clear HB HD HW1 HW2 go1 ih step bad e1
   have d1 : isDg c = (decide (48 ≤ c.toNat) && decide (c.toNat ≤ 57)) := rfl
   by_cases p1 : 48 ≤ c.toNat
   ·refine Ev.pos (by omega) ?_
    by_cases p2 : c.toNat ≤ 57
    ·refine Ev.pos (by omega) (Ev.neg (by decide) (j2 true fun _ => ?_))
     rw [d1, decide_eq_true p1, decide_eq_true p2]; rfl
    ·refine Ev.neg (by omega) ?_
     have d2 : isDg c = false := by rw [d1, decide_eq_false p2, Bool.and_false]
     by_cases p3 : c.toNat = 111
     ·exact Ev.pos (by omega) (j2 false fun _ => d2.symm)
     ·exact Ev.neg (by omega) (j2 false fun _ => d2.symm)
   ·refine Ev.neg (by omega) ?_
    have d2 : isDg c = false := by rw [d1, decide_eq_false p1, Bool.false_and]
    by_cases p3 : c.toNat = 111
    ·exact Ev.pos (by omega) (j2 false fun _ => d2.symm)
    ·exact Ev.neg (by omega) (j2 false fun _ => d2.symm)
def wideN (a : ByteArray) : Nat := (sp 47 a.data.toList).1.length
def rowsN (a : ByteArray) : List (List UInt8) := (sp 47 a.data.toList).1 :: (sp 47 a.data.toList).2
def highN (a : ByteArray) : Nat := (sp 47 a.data.toList).2.length + 1
def nums (l : List UInt8) : List Int := l.map fun c => (c.toNat : Int)
def fitN (a : ByteArray) : Prop := wideN a ≠ 0 ∧ (∀ r ∈ rowsN a, r.length = wideN a ∧ r.all okN = true)
instance (a : ByteArray) : Decidable (fitN a) := by unfold fitN; infer_instance
theorem runN_eq (l : List UInt8) : ∀ (x w h : Nat) (cs : List Int), runN l x w h cs =
  if (l.all (fun b => b == 47 || okN b)) = true ∧ x + (sp 47 l).1.length ≠ 0 ∧ (0 < h → x + (sp 47 l).1.length = w) ∧ (∀ r ∈ (sp 47 l).2, r.length = x + (sp 47 l).1.length)
  then (((x + (sp 47 l).1.length : Nat) : Int), ((h + ((sp 47 l).2.length + 1) : Nat) : Int), cs ++ nums ((sp 47 l).1 ++ (sp 47 l).2.flatten), true) else badN := by
 induction l with
 | nil =>
  intro x w h cs
  rw [runN]
  simp only [sp, List.all_nil, List.length_nil, Nat.add_zero, List.flatten_nil, List.append_nil, nums, List.map_nil, Nat.zero_add]
  by_cases hb : (0 < h ∧ x ≠ w) ∨ x = 0
  ·rw [if_pos hb, if_neg (by rintro ⟨_, h1, h2, _⟩; exact hb.elim (fun h34 => h34.2 (h2 h34.1)) h1)]
  ·rw [if_neg hb, if_pos ⟨trivial, fun e => hb (.inr e), fun h3 => Classical.byContradiction fun h4 => hb (.inl ⟨h3, h4⟩), by simp⟩]
 | cons c r ih =>
  intro x w h cs
  rw [runN]
  by_cases h47 : c = 47
  ·subst h47
   rw [if_pos rfl]
   simp only [sp, if_true, List.all_cons, beq_self_eq_true, Bool.true_or, Bool.true_and, List.length_nil, Nat.add_zero, List.nil_append, List.flatten_cons, List.length_cons]
   by_cases hb : (0 < h ∧ x ≠ w) ∨ x = 0
   ·rw [if_pos hb, if_neg (by rintro ⟨_, h1, h2, _⟩; exact hb.elim (fun h34 => h34.2 (h2 h34.1)) h1)]
   ·rw [if_neg hb, ih]
    have hx0 : x ≠ 0 := fun e => hb (.inr e)
    have hxw : 0 < h → x = w := fun h3 => Classical.byContradiction fun h4 => hb (.inl ⟨h3, h4⟩)
    by_cases hg : (r.all (fun b => b == 47 || okN b)) = true ∧ ∀ q ∈ (sp 47 r).1 :: (sp 47 r).2, q.length = x
    ·have hf : (sp 47 r).1.length = x := hg.2 _ (List.mem_cons_self)
     rw [if_pos ⟨hg.1, by omega, fun _ => by omega, fun q hq => by have := hg.2 q (List.mem_cons_of_mem _ hq); omega⟩, if_pos ⟨hg.1, hx0, hxw, hg.2⟩]
     have e1 : 0 + (sp 47 r).1.length = x := by omega
     have e2 : h + 1 + ((sp 47 r).2.length + 1) = h + ((sp 47 r).2.length + 1 + 1) := by omega
     rw [e1, e2]
    ·rw [if_neg, if_neg]
     ·rintro ⟨h1, _, _, h4⟩; exact hg ⟨h1, h4⟩
     ·rintro ⟨h1, _, h3, h4⟩
      have h5 := h3 (by omega)
      refine hg ⟨h1, fun q hq => ?_⟩
      rcases List.mem_cons.1 hq with rfl | hq
      ·omega
      ·have := h4 q hq; omega
  ·rw [if_neg h47]
   have e47 : (c == 47) = false := by simpa using h47
   simp only [sp, if_neg h47, List.all_cons, e47, Bool.false_or, List.length_cons]
   have hsh : x + ((sp 47 r).1.length + 1) = x + 1 + (sp 47 r).1.length := by omega
   by_cases h3 : okN c = true
   ·rw [if_pos h3, ih, h3, Bool.true_and, hsh]
    simp only [nums, List.cons_append, List.map_cons, List.append_assoc, List.nil_append]
   ·rw [if_neg h3, if_neg]
    rintro ⟨h1, _⟩
    rw [Bool.eq_false_iff.2 h3] at h1; simp at h1
def flatN (a : ByteArray) : List UInt8 := (rowsN a).flatten
theorem fitN_iff (a : ByteArray) : fitN a ↔ (a.data.toList.all (fun b => b == 47 || okN b)) = true ∧ wideN a ≠ 0 ∧ ∀ r ∈ (sp 47 a.data.toList).2, r.length = wideN a := by
 have hs := sp_all 47 okN a.data.toList (by decide)
 unfold fitN rowsN
 rw [← hs, Bool.and_eq_true]
 constructor
 ·rintro ⟨h1, h2⟩
  exact ⟨⟨(h2 _ List.mem_cons_self).2, List.all_eq_true.2 fun r hr => (h2 r (List.mem_cons_of_mem _ hr)).2⟩, h1, fun r hr => (h2 r (List.mem_cons_of_mem _ hr)).1⟩
 ·rintro ⟨⟨h1, h2⟩, h3, h4⟩
  refine ⟨h3, fun r hr => ?_⟩
  rcases List.mem_cons.1 hr with rfl | hr
  ·exact ⟨rfl, h1⟩
  ·exact ⟨h4 r hr, List.all_eq_true.1 h2 r hr⟩
theorem neRead_ev (a : ByteArray) : Ev (fun k => qQ.f k a false) (if a.size ≤ 41 ∧ fitN a then ((wideN a : Int), (highN a : Int), nums (flatN a), true) else badN) := by
 unfold qQ.f
 by_cases h41 : a.size ≤ 41
 ·refine Ev.neg (by omega) ?_
  have := nr_loop a h41 a.size 0 0 0 0 [] (by omega) (by omega) (by omega) (by omega) (by simp)
  rw [List.drop_zero, runN_eq] at this
  simp only [Nat.zero_add, List.nil_append, Nat.lt_irrefl, false_implies, true_and] at this
  have hw : (sp 47 a.data.toList).1.length = wideN a := rfl
  rw [hw] at this
  by_cases hf : fitN a
  ·rw [if_pos ⟨h41, hf⟩]
   obtain ⟨h1, h2, h3⟩ := (fitN_iff a).1 hf
   rw [if_pos ⟨h1, h2, h3⟩] at this
   exact this
  ·rw [if_neg (fun h => hf h.2)]
   rw [if_neg (fun h => hf ((fitN_iff a).2 h))] at this
   exact this
 ·rw [if_neg (fun h => h41 h.1)]
  exact Ev.pos (by omega) (Ev.now _)
def idxFrom : Nat → List UInt8 → List Nat
 | _, [] => []
 | b, c :: r => if c = 46 then idxFrom (b + 1) r else b :: idxFrom (b + 1) r
theorem idxFrom_append (l r : List UInt8) : ∀ b, idxFrom b (l ++ r) = idxFrom b l ++ idxFrom (b + l.length) r := by
 induction l with
 | nil => intro b; simp [idxFrom]
 | cons c l ih =>
  intro b
  rw [List.cons_append, idxFrom, idxFrom, ih, List.length_cons, show b + 1 + l.length = b + (l.length + 1) by omega]
  split
  ·rfl
  ·rfl
theorem qeA (l : List UInt8) : ∀ (b i : Nat), i ∈ idxFrom b l ↔ b ≤ i ∧ ∃ c, l[i - b]? = some c ∧ c ≠ 46 := by
 induction l with
 | nil => intro b i; simp [idxFrom]
 | cons c l ih =>
  intro b i
  have key : (i ∈ idxFrom (b + 1) l) ↔ (b + 1 ≤ i ∧ ∃ d, (c :: l)[i - b]? = some d ∧ d ≠ 46) := by
   rw [ih]
   constructor
   ·rintro ⟨h1, d, h2, h3⟩
    exact ⟨h1, d, by rw [show i - b = (i - (b + 1)) + 1 by omega, List.getElem?_cons_succ]; exact h2, h3⟩
   ·rintro ⟨h1, d, h2, h3⟩
    rw [show i - b = (i - (b + 1)) + 1 by omega, List.getElem?_cons_succ] at h2
    exact ⟨h1, d, h2, h3⟩
  rw [idxFrom]
  by_cases h46 : c = 46
  ·rw [if_pos h46, key]
   constructor
   ·rintro ⟨h1, h2⟩; exact ⟨by omega, h2⟩
   ·rintro ⟨h1, d, h2, h3⟩
    refine ⟨?_, d, h2, h3⟩
    rcases Nat.lt_or_ge b i with h | h
    ·exact h
    ·obtain rfl : i = b := by omega
     rw [Nat.sub_self] at h2
     simp at h2
     exact absurd (h2.symm.trans h46) h3
  ·rw [if_neg h46, List.mem_cons, key]
   constructor
   ·rintro (rfl | ⟨h1, h2⟩)
    ·exact ⟨Nat.le_refl _, c, by simp, h46⟩
    ·exact ⟨by omega, h2⟩
   ·rintro ⟨h1, d, h2, h3⟩
    rcases Nat.lt_or_ge b i with h | h
    ·exact .inr ⟨h, d, h2, h3⟩
    ·exact .inl (by omega)
theorem idxFrom_sorted (l : List UInt8) : ∀ b, (idxFrom b l).Pairwise (· < ·) := by
 induction l with
 | nil => intro b; simp [idxFrom]
 | cons c l ih =>
  intro b
  rw [idxFrom]
  split
  ·exact ih _
  ·exact List.pairwise_cons.2 ⟨fun i hi => ((qeA l (b + 1) i).1 hi).1, ih _⟩
theorem qkB (l : List UInt8) (b : Nat) : (idxFrom b l).Nodup := (idxFrom_sorted l b).imp (fun h => Nat.ne_of_lt h)
def ints (l : List Nat) : List Int := l.map fun (i : Nat) => Int.ofNat i
theorem rdNums (l : List UInt8) (i : Nat) (h : i < l.length) : rd (nums l) (i : Int) = (l[i].toNat : Int) := by
 unfold rd nums
 rw [Int.toNat_natCast, List.getD_eq_getElem?_getD, List.getElem?_map, List.getElem?_eq_getElem h]
 rfl
theorem neDigits_loop (l : List UInt8) (hl : l.length ≤ 100) (d : Nat) : ∀ (i : Nat) (acc : List Nat), i ≤ l.length → l.length - i = d → acc.length ≤ i →
  Ev (fun k => qg.l0 k (ints acc) (nums l) (l.length : Int) (i : Int)) (ints (acc ++ idxFrom i (l.drop i))) := by
 have hn : (nums l).length = l.length := List.length_map _
 induction d with
 | zero =>
  intro i acc hi hd ha
  refine Ev.step (f := fun k => _) (fun k => by rw [qg.l0]) ?_
  rw [List.drop_eq_nil_of_le (by omega), idxFrom, List.append_nil]
  exact Ev.neg (by omega) (Ev.now _)
 | succ d ih =>
  intro i acc hi hd ha
  have h : i < l.length := by omega
  have w1 : wrap64 ((i : Int) + 1) = ((i + 1 : Nat) : Int) := by unfold wrap64; omega
  refine Ev.step (f := fun k => _) (fun k => by rw [qg.l0]) ?_
  refine Ev.pos (by omega) (Ev.pos (by omega) (Ev.pos (by omega) ?_))
  rw [rdNums l i h, w1, List.drop_eq_getElem_cons h, idxFrom]
  by_cases h46 : l[i] = 46
  ·rw [if_pos h46]
   refine Ev.pos (by rw [h46]; rfl) ?_
   exact ih (i + 1) acc (by omega) (by omega) (by omega)
  ·rw [if_neg h46]
   refine Ev.neg (fun e => h46 ((nr_u8 _ 46 (by decide)).1 e)) (Ev.pos (by unfold ints; rw [List.length_map]; omega) ?_)
   have := ih (i + 1) (acc ++ [i]) (by omega) (by omega) (by simp; omega)
   rw [List.append_assoc] at this
   have e : ints (acc ++ [i]) = ints acc ++ [(i : Int)] := by unfold ints; rw [List.map_append]; rfl
   rw [e] at this
   exact this
theorem qjB (w h : Int) (l : List UInt8) (hl : l.length ≤ 100) : Ev (fun k => qg.f k w h (nums l)) (ints (idxFrom 0 l)) := by
 have hn : (nums l).length = l.length := List.length_map _
 unfold qg.f
 rw [hn]
 have := neDigits_loop l hl l.length 0 [] (by omega) (by omega) (by simp)
 rw [List.drop_zero, List.nil_append] at this
 exact this
def cellAt (w i : Nat) : CC := ⟨((i % w : Nat) : Int), ((i / w : Nat) : Int)⟩
def digAt (l : List UInt8) (i : Nat) : Int := ((l.getD i 0).toNat : Int) - 48
def rowCells (y : Nat) : Nat → List UInt8 → List CC
 | _, [] => []
 | x, c :: r => if c = 46 then rowCells y (x + 1) r else ⟨(x : Int), (y : Int)⟩ :: rowCells y (x + 1) r
def rowDs : List UInt8 → List Int
 | [] => []
 | c :: r => if c = 46 then rowDs r else ((c.toNat : Int) - 48) :: rowDs r
def rowMs : Nat → List UInt8 → List (Int × Bool) → List (Int × Bool)
 | _, [], m => m
 | x, c :: r, m => rowMs (x + 1) r (if c = 46 then m else ((x : Int), true) :: m)
theorem sixRow_eq (y : Nat) (l : List UInt8) : ∀ (x : Nat) (s : Sx), s.cs.length ≤ 6 → sixRow y x l s =
  if l.all okN = true ∧ s.cs.length + (rowCells y x l).length ≤ 6 then some ⟨s.cs ++ rowCells y x l, s.ds ++ rowDs l, rowMs x l s.ms⟩ else none := by
 induction l with
 | nil =>
  intro x s hs
  rw [sixRow, if_pos ⟨rfl, by simpa [rowCells] using hs⟩]
  simp [rowCells, rowDs, rowMs]
 | cons c l ih =>
  intro x s hs
  rw [sixRow, sixByte, rowCells, rowDs, rowMs, List.all_cons]
  by_cases h46 : c = 46
  ·rw [if_pos h46, if_pos h46, if_pos h46, if_pos h46, Option.bind_some, ih _ _ hs]
   have : okN c = true := by unfold okN; rw [decide_eq_true h46]; rfl
   rw [this, Bool.true_and]
  ·rw [if_neg h46, if_neg h46, if_neg h46, if_neg h46]
   have hok : okN c = isDg c := by unfold okN; rw [decide_eq_false h46, Bool.false_or]
   rw [hok]
   cases isDg c with
   | false =>
    rw [if_neg (by decide), Option.bind_none, if_neg (by simp)]
   | true =>
    rw [if_pos rfl, Bool.true_and]
    by_cases h6 : s.cs.length = 6
    ·rw [if_pos h6, Option.bind_none, if_neg (by simp; intros; omega)]
    ·rw [if_neg h6, Option.bind_some, ih _ _ (by simp; omega)]
     simp only [List.length_append, List.length_cons, List.length_nil]
     by_cases hc : l.all okN = true ∧ s.cs.length + ((rowCells y (x + 1) l).length + 1) ≤ 6
     ·rw [if_pos ⟨hc.1, by omega⟩, if_pos hc]
      simp [List.append_assoc]
     ·rw [if_neg (fun h => hc ⟨h.1, by omega⟩), if_neg hc]
theorem cellAt_row (w y x : Nat) (h : x < w) : cellAt w (y * w + x) = ⟨(x : Int), (y : Int)⟩ := by
 unfold cellAt
 have h1 : (y * w + x) % w = x := by rw [Nat.mul_comm, Nat.mul_add_mod, Nat.mod_eq_of_lt h]
 have h2 : (y * w + x) / w = y := by rw [Nat.mul_comm, Nat.mul_add_div (by omega), Nat.div_eq_of_lt h, Nat.add_zero]
 rw [h1, h2]
theorem rowCells_idx (w y : Nat) (l : List UInt8) : ∀ x, x + l.length ≤ w → rowCells y x l = (idxFrom (y * w + x) l).map (cellAt w) := by
 induction l with
 | nil => intro x _; rfl
 | cons c l ih =>
  intro x h
  rw [List.length_cons] at h
  rw [rowCells, idxFrom, ih (x + 1) (by omega), show y * w + (x + 1) = y * w + x + 1 by omega]
  split
  ·rfl
  ·rw [List.map_cons, cellAt_row w y x (by omega)]
theorem rowDs_idx (F : List UInt8) (l : List UInt8) : ∀ b, (∀ j, j < l.length → F[b + j]? = l[j]?) → rowDs l = (idxFrom b l).map (digAt F) := by
 induction l with
 | nil => intro b _; rfl
 | cons c l ih =>
  intro b h
  have h0 := h 0 (by simp)
  have hr := ih (b + 1) (fun j hj => by
   have := h (j + 1) (by simpa using hj)
   rw [List.getElem?_cons_succ, show b + (j + 1) = b + 1 + j by omega] at this
   exact this)
  rw [rowDs, idxFrom, hr]
  split
  ·rfl
  ·rw [List.map_cons]
   congr 1
   unfold digAt
   rw [List.getD_eq_getElem?_getD, show F[b]? = some c by simpa using h0]
   rfl
theorem rowMs_keys (y : Nat) (l : List UInt8) : ∀ (x : Nat) (m : List (Int × Bool)) (z : Int), z ∈ (rowMs x l m).map Prod.fst ↔ z ∈ (rowCells y x l).map (fun c => c.f0) ∨ z ∈ m.map Prod.fst := by
 induction l with
 | nil => intro x m z; simp [rowMs, rowCells]
 | cons c l ih =>
  intro x m z
  rw [rowMs, rowCells, ih]
  by_cases h : c = 46
  ·rw [if_pos h, if_pos h]
  ·rw [if_neg h, if_neg h, List.map_cons, List.map_cons, List.mem_cons, List.mem_cons]
   constructor
   ·rintro (h1 | h1 | h1)
    ·exact .inl (.inr h1)
    ·exact .inl (.inl h1)
    ·exact .inr h1
   ·rintro ((h1 | h1) | h1)
    ·exact .inr (.inl h1)
    ·exact .inl h1
    ·exact .inr (.inr h1)
def allCells : Nat → List (List UInt8) → List CC
 | _, [] => []
 | y, r :: L => rowCells y 0 r ++ allCells (y + 1) L
def allDs : List (List UInt8) → List Int
 | [] => []
 | r :: L => rowDs r ++ allDs L
def allMs : List (List UInt8) → List (Int × Bool) → List (Int × Bool)
 | [], m => m
 | r :: L, m => allMs L (rowMs 0 r m)
def rowOk (w : Nat) (r : List UInt8) : Prop := r.length = w ∧ r.all (fun c => c == 46) = false ∧ r.all okN = true
instance (w : Nat) (r : List UInt8) : Decidable (rowOk w r) := by unfold rowOk; infer_instance
def datas (L : List ByteArray) : List (List UInt8) := L.map fun r => r.data.toList
theorem datas_cons (r : ByteArray) (L : List ByteArray) : datas (r :: L) = r.data.toList :: datas L := rfl
theorem sixRows_eq (w : Nat) (L : List ByteArray) : ∀ (y : Nat) (s : Sx), s.cs.length ≤ 6 → sixRows w y L s =
  if (∀ r ∈ datas L, rowOk w r) ∧ s.cs.length + (allCells y (datas L)).length ≤ 6 then some ⟨s.cs ++ allCells y (datas L), s.ds ++ allDs (datas L), allMs (datas L) s.ms⟩ else none := by
 induction L with
 | nil =>
  intro y s hs
  rw [sixRows, if_pos ⟨by simp [datas], by simpa [datas, allCells] using hs⟩]
  simp [datas, allCells, allDs, allMs]
 | cons r L ih =>
  intro y s hs
  have hz : r.data.toList.length = r.size := qeC r
  rw [sixRows, datas_cons, allCells, allDs, allMs]
  by_cases h1 : r.size = w
  ·rw [if_pos h1]
   cases h2 : isDots r with
   | true =>
    rw [if_pos rfl, if_neg]
    rintro ⟨h, _⟩
    have h3 := (h _ List.mem_cons_self).2.1
    unfold isDots at h2
    rw [h2] at h3
    cases h3
   | false =>
    rw [if_neg (by decide), sixRow_eq y _ 0 s hs]
    by_cases h3 : r.data.toList.all okN = true ∧ s.cs.length + (rowCells y 0 r.data.toList).length ≤ 6
    ·rw [if_pos h3, Option.bind_some, ih _ _ (by rw [List.length_append]; exact h3.2)]
     simp only [List.length_append]
     have hr : rowOk w r.data.toList := ⟨by omega, by unfold isDots at h2; exact h2, h3.1⟩
     by_cases h4 : (∀ r ∈ datas L, rowOk w r) ∧ s.cs.length + (rowCells y 0 r.data.toList).length + (allCells (y + 1) (datas L)).length ≤ 6
     ·rw [if_pos h4, if_pos ⟨fun q hq => by rcases List.mem_cons.1 hq with rfl | hq; exact hr; exact h4.1 q hq, by omega⟩]
      simp only [List.append_assoc]
     ·rw [if_neg h4, if_neg]
      rintro ⟨h5, h6⟩
      exact h4 ⟨fun q hq => h5 q (List.mem_cons_of_mem _ hq), by omega⟩
    ·rw [if_neg h3, Option.bind_none, if_neg]
     rintro ⟨h5, h6⟩
     rw [List.length_append] at h6
     exact h3 ⟨(h5 _ List.mem_cons_self).2.2, by omega⟩
  ·rw [if_neg h1, if_neg]
   rintro ⟨h, _⟩
   have := (h _ List.mem_cons_self).1
   omega
theorem allCells_idx (w : Nat) (L : List (List UInt8)) : ∀ y, (∀ r ∈ L, r.length = w) → allCells y L = (idxFrom (y * w) L.flatten).map (cellAt w) := by
 induction L with
 | nil => intro y _; rfl
 | cons r L ih =>
  intro y h
  have hr := h r List.mem_cons_self
  rw [allCells, List.flatten_cons, idxFrom_append, List.map_append, ih (y + 1) (fun q hq => h q (List.mem_cons_of_mem _ hq)), rowCells_idx w y r 0 (by omega), hr, Nat.add_zero, show (y + 1) * w = y * w + w by rw [Nat.add_mul, Nat.one_mul]]
theorem allDs_idx (F : List UInt8) (L : List (List UInt8)) : ∀ b, (∀ j, j < L.flatten.length → F[b + j]? = L.flatten[j]?) → allDs L = (idxFrom b L.flatten).map (digAt F) := by
 induction L with
 | nil => intro b _; rfl
 | cons r L ih =>
  intro b h
  rw [List.flatten_cons] at h
  rw [allDs, List.flatten_cons, idxFrom_append, List.map_append, rowDs_idx F r b (fun j hj => by
   have := h j (by rw [List.length_append]; omega)
   rwa [List.getElem?_append_left hj] at this), ih (b + r.length) (fun j hj => by
   have := h (r.length + j) (by rw [List.length_append]; omega)
   rw [List.getElem?_append_right (by omega), show r.length + j - r.length = j by omega, show b + (r.length + j) = b + r.length + j by omega] at this
   exact this)]
theorem allMs_keys (L : List (List UInt8)) : ∀ (y : Nat) (m : List (Int × Bool)) (z : Int), z ∈ (allMs L m).map Prod.fst ↔ z ∈ (allCells y L).map (fun c => c.f0) ∨ z ∈ m.map Prod.fst := by
 induction L with
 | nil => intro y m z; simp [allMs, allCells]
 | cons r L ih =>
  intro y m z
  rw [allMs, allCells, ih (y + 1), rowMs_keys y, List.map_append, List.mem_append]
  constructor
  ·rintro (h | h | h)
   ·exact .inl (.inr h)
   ·exact .inl (.inl h)
   ·exact .inr h
  ·rintro ((h | h) | h)
   ·exact .inr (.inl h)
   ·exact .inl h
   ·exact .inr (.inr h)
theorem rowsOf6_data (a : ByteArray) : datas (rowsOf6 a) = rowsN a := split_sp a 47
theorem rowsOf6_head (a : ByteArray) : ((rowsOf6 a).headD ByteArray.empty).size = wideN a := by
 have h := rowsOf6_data a
 cases hL : rowsOf6 a with
 | nil => rw [hL] at h; cases h
 | cons r L =>
  rw [hL, datas_cons] at h
  have : r.data.toList = (sp 47 a.data.toList).1 := (List.cons.inj h).1
  show r.size = _
  rw [← qeC, this]
  rfl
def placesN (a : ByteArray) : List Nat := idxFrom 0 (flatN a)
def goodN (a : ByteArray) : Prop := ∀ r ∈ rowsN a, rowOk (wideN a) r
instance (a : ByteArray) : Decidable (goodN a) := by unfold goodN; infer_instance
theorem qwC {a : ByteArray} (h : goodN a) : ∀ r ∈ rowsN a, r.length = wideN a := fun r hr => (h r hr).1
theorem sixAll_eq (a : ByteArray) : sixAll a = if goodN a ∧ (placesN a).length ≤ 6 then some ⟨(placesN a).map (cellAt (wideN a)), (placesN a).map (digAt (flatN a)), allMs (rowsN a) []⟩ else none := by
 unfold sixAll
 rw [sixRows_eq _ _ _ _ (by simp), rowsOf6_head, rowsOf6_data]
 simp only [List.length_nil, Nat.zero_add, List.nil_append]
 by_cases hg : goodN a
 ·have e1 : allCells 0 (rowsN a) = (placesN a).map (cellAt (wideN a)) := by
   have := allCells_idx (wideN a) (rowsN a) 0 (qwC hg)
   rwa [Nat.zero_mul] at this
  have e2 : allDs (rowsN a) = (placesN a).map (digAt (flatN a)) := allDs_idx (flatN a) (rowsN a) 0 (fun j _ => by rw [Nat.zero_add]; rfl)
  rw [e1, e2, List.length_map]
  by_cases h6 : (placesN a).length ≤ 6
  ·rw [if_pos ⟨hg, h6⟩, if_pos ⟨hg, h6⟩]
  ·rw [if_neg (fun h => h6 h.2), if_neg (fun h => h6 h.2)]
 ·rw [if_neg (fun h => hg h.1), if_neg (fun h => hg h.1)]
theorem count_spec : ∀ m : List (Int × Bool), ∃ K : List Int, K.Nodup ∧ K.length = MapKit.count m ∧ ∀ z, z ∈ K ↔ z ∈ m.map Prod.fst
 | [] => ⟨[], List.nodup_nil, rfl, fun z => Iff.rfl⟩
 | x :: l => by
  obtain ⟨K, h1, h2, h3⟩ := count_spec l
  have hm : MapKit.met l x.1 = true ↔ x.1 ∈ l.map Prod.fst := by
   unfold MapKit.met
   rw [List.any_eq_true]
   constructor
   ·rintro ⟨y, hy, e⟩; exact List.mem_map.2 ⟨y, hy, of_decide_eq_true e⟩
   ·intro h; obtain ⟨y, hy, e⟩ := List.mem_map.1 h; exact ⟨y, hy, decide_eq_true e⟩
  rw [MapKit.count]
  by_cases h : MapKit.met l x.1 = true
  ·rw [if_pos h]
   refine ⟨K, h1, h2, fun z => ?_⟩
   rw [h3, List.map_cons, List.mem_cons]
   constructor
   ·exact .inr
   ·rintro (rfl | h4)
    ·exact hm.1 h
    ·exact h4
  ·rw [if_neg h]
   refine ⟨x.1 :: K, List.nodup_cons.2 ⟨fun h4 => h (hm.2 ((h3 _).1 h4)), h1⟩, by rw [List.length_cons, h2], fun z => ?_⟩
   rw [List.mem_cons, h3, List.map_cons, List.mem_cons]
theorem nodup_range (w : Nat) : ((List.range w).map fun (i : Nat) => Int.ofNat i).Nodup := by
 rw [List.nodup_iff_pairwise_ne, List.pairwise_map]
 exact List.Pairwise.imp (fun h e => h (Int.ofNat.inj e)) (List.nodup_iff_pairwise_ne.1 List.nodup_range)
theorem count_full (m : List (Int × Bool)) (w : Nat) (hk : ∀ z ∈ m.map Prod.fst, ∃ i : Nat, i < w ∧ z = Int.ofNat i) : MapKit.count m = w ↔ ∀ j, j < w → Int.ofNat j ∈ m.map Prod.fst := by
 obtain ⟨K, h1, h2, h3⟩ := count_spec m
 have hU : ∀ z ∈ K, z ∈ (List.range w).map fun (i : Nat) => Int.ofNat i := fun z hz => by
  obtain ⟨i, hi, rfl⟩ := hk z ((h3 z).1 hz)
  exact List.mem_map.2 ⟨i, List.mem_range.2 hi, rfl⟩
 have hl : ((List.range w).map fun (i : Nat) => Int.ofNat i).length = w := by simp
 constructor
 ·intro h j hj
  rw [← h3]
  refine Classical.byContradiction fun hn => ?_
  have hjU : Int.ofNat j ∈ (List.range w).map fun (i : Nat) => Int.ofNat i := List.mem_map.2 ⟨j, List.mem_range.2 hj, rfl⟩
  have := Bfs.qbB (U := ((List.range w).map fun (i : Nat) => Int.ofNat i).erase (Int.ofNat j)) h1 (fun z hz => (List.mem_erase_of_ne (fun e => hn (by rw [← e]; exact hz))).2 (hU z hz))
  rw [List.length_erase_of_mem hjU, hl] at this
  omega
 ·intro h
  have a1 := Bfs.qbB h1 hU
  have a2 := Bfs.qbB (nodup_range w) (U := K) (fun z hz => by
   obtain ⟨i, hi, rfl⟩ := List.mem_map.1 hz
   exact (h3 _).2 (h i (List.mem_range.1 hi)))
  rw [hl] at a1 a2
  omega
def colsFull (a : ByteArray) : Prop := ∀ j, j < wideN a → ∃ i ∈ placesN a, i % wideN a = j
def linesFull (a : ByteArray) : Prop := ∀ j, j < highN a → ∃ i ∈ placesN a, i / wideN a = j
instance (a : ByteArray) : Decidable (colsFull a) := by unfold colsFull; infer_instance
instance (a : ByteArray) : Decidable (linesFull a) := by unfold linesFull; infer_instance
theorem cols_count {a : ByteArray} (hg : goodN a) : MapKit.count (allMs (rowsN a) []) = wideN a ↔ colsFull a := by
 have e1 : allCells 0 (rowsN a) = (placesN a).map (cellAt (wideN a)) := by
  have := allCells_idx (wideN a) (rowsN a) 0 (qwC hg)
  rwa [Nat.zero_mul] at this
 have hw : 0 < wideN a := by
  rcases Nat.eq_zero_or_pos (wideN a) with h | h
  ·have := hg _ (show (sp 47 a.data.toList).1 ∈ rowsN a from List.mem_cons_self)
   have h2 : (sp 47 a.data.toList).1 = [] := List.eq_nil_of_length_eq_zero h
   rw [h2] at this
   exact absurd this.2.1 (by simp)
  ·exact h
 have hkey : ∀ z, z ∈ (allMs (rowsN a) []).map Prod.fst ↔ ∃ i ∈ placesN a, z = Int.ofNat (i % wideN a) := by
  intro z
  rw [allMs_keys (rowsN a) 0, e1, List.map_map]
  simp only [List.map_nil, List.not_mem_nil, or_false, List.mem_map]
  constructor
  ·rintro ⟨i, hi, rfl⟩; exact ⟨i, hi, rfl⟩
  ·rintro ⟨i, hi, rfl⟩; exact ⟨i, hi, rfl⟩
 rw [count_full _ _ (fun z hz => by obtain ⟨i, _, e⟩ := (hkey z).1 hz; exact ⟨i % wideN a, Nat.mod_lt _ hw, e⟩)]
 unfold colsFull
 constructor
 ·intro h j hj
  obtain ⟨i, hi, e⟩ := (hkey _).1 (h j hj)
  exact ⟨i, hi, (Int.ofNat.inj e).symm⟩
 ·intro h j hj
  obtain ⟨i, hi, e⟩ := h j hj
  exact (hkey _).2 ⟨i, hi, by rw [e]⟩
theorem six_f (k : Nat) (a : ByteArray) (ha : a.size ≤ 1048576) : qUB.f k a =
  if goodN a ∧ (placesN a).length = 6 ∧ colsFull a then (qbA.f k ((placesN a).map (cellAt (wideN a)))).bind fun t => some (if t = true then ((placesN a).map (cellAt (wideN a)), (placesN a).map (digAt (flatN a)), true) else ([], [], false)) else some ([], [], false) := by
 unfold qUB.f
 rw [if_pos (by omega), sixAll_eq, rowsOf6_head]
 by_cases hg : goodN a
 ·by_cases h6 : (placesN a).length ≤ 6
  ·rw [if_pos ⟨hg, h6⟩]
   simp only [sixFin, List.length_map]
   by_cases e6 : (placesN a).length = 6
   ·rw [if_pos e6]
    by_cases hc : MapKit.count (allMs (rowsN a) []) = wideN a
    ·rw [if_pos hc, if_pos ⟨hg, e6, (cols_count hg).1 hc⟩]
    ·rw [if_neg hc, if_neg (fun h => hc ((cols_count hg).2 h.2.2))]
   ·rw [if_neg e6, if_neg (fun h => e6 h.2.1)]
  ·rw [if_neg (fun h => h6 h.2), if_neg (fun h => h6 (by omega))]
   rfl
 ·rw [if_neg (fun h => hg h.1), if_neg (fun h => hg h.1)]
  rfl
def mkM (m d : Nat) : Nat := m ||| 2 ^ d
theorem qqB : ∀ m : Nat, m < 64 → ∀ d : Nat, d < 6 → Go.bits .or .i64 (m : Int) (shl .i64 1 (d : Int)) = ((mkM m d : Nat) : Int) ∧ mkM m d < 64 := by decide +kernel
theorem qFD : ∀ m : Nat, m < 64 → ∀ d : Nat, d < 6 → ∀ j : Nat, j < 6 → (mkM m d).testBit j = (m.testBit j || decide (d = j)) := by decide +kernel
theorem full_bits : ∀ m : Nat, m < 64 → ∀ w : Nat, w < 7 → (((m : Int) = wrap64 (shl .i64 1 (w : Int) - 1)) ↔ ∀ j : Nat, j < 6 → m.testBit j = decide (j < w)) := by decide +kernel
def foldM (f : Nat → Nat) (l : List Nat) (m : Nat) : Nat := l.foldl (fun m i => mkM m (f i)) m
theorem foldM_lt (f : Nat → Nat) : ∀ (l : List Nat) (m : Nat), m < 64 → (∀ i ∈ l, f i < 6) → foldM f l m < 64
 | [], m, h, _ => h
 | i :: l, m, h, hl => foldM_lt f l _ (qqB m h (f i) (hl i List.mem_cons_self)).2 (fun j hj => hl j (List.mem_cons_of_mem _ hj))
theorem qyC (f : Nat → Nat) (j : Nat) (hj : j < 6) : ∀ (l : List Nat) (m : Nat), m < 64 → (∀ i ∈ l, f i < 6) → (foldM f l m).testBit j = (m.testBit j || l.any fun i => decide (f i = j))
 | [], m, h, _ => by simp [foldM]
 | i :: l, m, h, hl => by
  have h1 := hl i List.mem_cons_self
  have ih := qyC f j hj l (mkM m (f i)) (qqB m h (f i) h1).2 (fun q hq => hl q (List.mem_cons_of_mem _ hq))
  show (foldM f l (mkM m (f i))).testBit j = _
  rw [ih, qFD m h (f i) h1 j hj, List.any_cons, Bool.or_assoc]
theorem foldM_full (f : Nat → Nat) (l : List Nat) (w : Nat) (hw : w ≤ 6) (hl : ∀ i ∈ l, f i < w) : (((foldM f l 0 : Nat) : Int) = wrap64 (shl .i64 1 (w : Int) - 1)) ↔ ∀ j, j < w → ∃ i ∈ l, f i = j := by
 have h6 : ∀ i ∈ l, f i < 6 := fun i hi => by have := hl i hi; omega
 rw [full_bits _ (foldM_lt f l 0 (by decide) h6) w (by omega)]
 constructor
 ·intro h j hj
  have := h j (by omega)
  rw [qyC f j (by omega) l 0 (by decide) h6, decide_eq_true hj] at this
  simp only [Nat.zero_testBit, Bool.false_or, List.any_eq_true, decide_eq_true_eq] at this
  exact this
 ·intro h j hj
  rw [qyC f j hj l 0 (by decide) h6, Nat.zero_testBit, Bool.false_or]
  by_cases hjw : j < w
  ·rw [decide_eq_true hjw, List.any_eq_true]
   obtain ⟨i, hi, e⟩ := h j hjw
   exact ⟨i, hi, decide_eq_true e⟩
  ·rw [decide_eq_false hjw, List.any_eq_false]
   intro i hi
   have := hl i hi
   rw [decide_eq_true_eq]
   omega
theorem rdInts (D : List Nat) (j : Nat) (h : j < D.length) : rd (ints D) (j : Int) = (D[j] : Int) := by
 unfold rd ints
 rw [Int.toNat_natCast, List.getD_eq_getElem?_getD, List.getElem?_map, List.getElem?_eq_getElem h]
 rfl
theorem qlA (D : List Nat) : (ints D).length = D.length := List.length_map _
theorem w64_small (q : Nat) (h : q < 100) : wrap64 (q : Int) = (q : Int) := by unfold wrap64; omega
theorem qkA (j : Nat) (h : j < 1000) : wrap64 ((j : Int) + 1) = ((j + 1 : Nat) : Int) := by unfold wrap64; omega
theorem nz_of {w : Nat} (h : 0 < w) : ¬ (w : Int) = 0 := by omega
theorem qSC {a b : Nat} (h : b ≤ a) : ¬ (a : Int) < (b : Int) := by omega
theorem tmodN (a b : Nat) : Int.tmod (a : Int) (b : Int) = ((a % b : Nat) : Int) := rfl
theorem tdivN (a b : Nat) : Int.tdiv (a : Int) (b : Int) = ((a / b : Nat) : Int) := rfl
theorem neSix_loop (w h : Nat) (hw0 : 0 < w) (hw : w ≤ 6) (hh : h ≤ 6) (X : List Int) (D : List Nat) (hDl : D.length ≤ 100) (hD : ∀ i ∈ D, i < w * h) (far : List Int) (hf : far.length = w * h) :
  ∀ (l : List Nat) (j m1 m2 : Nat), D.drop j = l → j ≤ D.length → m1 < 64 → m2 < 64 →
  Ev (fun k => qf.l0 k (ints D) (m1 : Int) (m2 : Int) far (D.length : Int) (j : Int) (w : Int) (h : Int) X)
   (if ∃ i ∈ l, rd far (i : Int) < 0 then false else (decide (((foldM (· % w) l m1 : Nat) : Int) = wrap64 (shl .i64 1 (w : Int) - 1)) && decide (((foldM (· / w) l m2 : Nat) : Int) = wrap64 (shl .i64 1 (h : Int) - 1)))) := by
 intro l
 induction l with
 | nil =>
  intro j m1 m2 hd hj h1 h2
  have hn : D.length ≤ j := by
   rcases Nat.lt_or_ge j D.length with h | h
   ·rw [List.drop_eq_getElem_cons h] at hd; cases hd
   ·exact h
  rw [if_neg (by simp)]
  refine Ev.step (f := fun k => _) (fun k => by rw [qf.l0]) ?_
  have a1 : ¬ (j : Int) < (D.length : Int) := qSC hn
  refine Ev.neg a1 (Ev.pos (Int.natCast_nonneg _) ?_)
  show Ev _ (decide ((m1 : Int) = _) && decide ((m2 : Int) = _))
  by_cases e : (m1 : Int) = wrap64 (shl .i64 1 (w : Int) - 1)
  ·rw [decide_eq_true e, Bool.true_and]
   refine Ev.pos e (Ev.pos (Int.natCast_nonneg _) (Ev.some_ ?_))
   by_cases e2 : (m2 : Int) = wrap64 (shl .i64 1 (h : Int) - 1)
   ·rw [decide_eq_true e2, beq_iff_eq.2 e2]
   ·rw [decide_eq_false e2, beq_eq_false_iff_ne.2 e2]
  ·rw [decide_eq_false e, Bool.false_and]
   exact Ev.neg e (Ev.now _)
 | cons i l ih =>
  intro j m1 m2 hd hj h1 h2
  have hlt : j < D.length := by
   rcases Nat.lt_or_ge j D.length with h | h
   ·exact h
   ·rw [List.drop_eq_nil_of_le h] at hd; cases hd
  rw [List.drop_eq_getElem_cons hlt] at hd
  obtain ⟨hi, hd'⟩ := List.cons.inj hd
  have him : i < w * h := hD i (hi ▸ List.getElem_mem hlt)
  have hr : rd (ints D) (j : Int) = (i : Int) := by rw [rdInts D j hlt, hi]
  have w1 := qkA j (Nat.lt_of_lt_of_le hlt (Nat.le_trans hDl (by decide)))
  have hj1 : j + 1 ≤ D.length := hlt
  have a1 : (j : Int) < (D.length : Int) := Int.ofNat_lt.2 hlt
  have a2 : (0 : Int) ≤ (j : Int) := Int.natCast_nonneg _
  have a3 : (j : Int) < ((ints D).length : Int) := by rw [qlA]; exact a1
  have a4 : (0 : Int) ≤ (i : Int) := Int.natCast_nonneg _
  have a5 : (i : Int) < (far.length : Int) := by rw [hf]; exact Int.ofNat_lt.2 him
  have a6 : ¬ (w : Int) = 0 := nz_of hw0
  have hmod : i % w < 6 := Nat.lt_of_lt_of_le (Nat.mod_lt i hw0) hw
  have hdiv : i / w < h := by rw [Nat.div_lt_iff_lt_mul hw0, Nat.mul_comm]; exact him
  have hdiv6 : i / w < 6 := Nat.lt_of_lt_of_le hdiv hh
  have w2 : wrap64 ((i / w : Nat) : Int) = ((i / w : Nat) : Int) := w64_small _ (Nat.lt_of_lt_of_le hdiv6 (by decide))
  have ih := ih (j + 1) (mkM m1 (i % w)) (mkM m2 (i / w)) hd' hj1 (qqB m1 h1 _ hmod).2 (qqB m2 h2 _ hdiv6).2
  have b1 := (qqB m1 h1 _ hmod).1
  have b2 := (qqB m2 h2 (i / w) hdiv6).1
  clear hd hi hd'
  refine Ev.step (f := fun k => _) (fun k => by rw [qf.l0]) ?_
  refine Ev.pos a1 (Ev.pos a2 (Ev.pos a3 ?_))
  rw [hr]
  refine Ev.pos a4 (Ev.pos a5 ?_)
  by_cases hneg : rd far (i : Int) < 0
  ·rw [if_pos ⟨i, List.mem_cons_self, hneg⟩]
   exact Ev.pos hneg (Ev.now _)
  ·refine Ev.neg hneg (Ev.neg a6 ?_)
   rw [tmodN, tdivN, w2, w1]
   refine Ev.pos (Int.natCast_nonneg _) (Ev.pos (Int.natCast_nonneg _) ?_)
   rw [b1, b2]
   have e : (∃ q ∈ i :: l, rd far (q : Int) < 0) ↔ ∃ q ∈ l, rd far (q : Int) < 0 := by
    constructor
    ·rintro ⟨q, hq, hn⟩
     rcases List.mem_cons.1 hq with rfl | hq
     ·exact absurd hn hneg
     ·exact ⟨q, hq, hn⟩
    ·rintro ⟨q, hq, hn⟩
     exact ⟨q, List.mem_cons_of_mem _ hq, hn⟩
   by_cases hx : ∃ q ∈ l, rd far (q : Int) < 0
   ·rw [if_pos hx] at ih
    rw [if_pos (e.2 hx)]
    exact ih
   ·rw [if_neg hx] at ih
    rw [if_neg (fun h => hx (e.1 h))]
    exact ih
theorem qFB {a : ByteArray} (h : fitN a) : (flatN a).length = wideN a * highN a := by
 have key : ∀ (L : List (List UInt8)) (w : Nat), (∀ r ∈ L, r.length = w) → L.flatten.length = w * L.length := by
  intro L w
  induction L with
  | nil => intro _; rfl
  | cons r L ih =>
   intro hL
   rw [List.flatten_cons, List.length_append, ih (fun q hq => hL q (List.mem_cons_of_mem _ hq)), hL r List.mem_cons_self, List.length_cons, Nat.mul_add, Nat.mul_one]
   omega
 exact key (rowsN a) (wideN a) (fun r hr => (h.2 r hr).1)
theorem qSB {a : ByteArray} (h : fitN a) : ∀ i ∈ placesN a, i < wideN a * highN a := by
 intro i hi
 obtain ⟨_, c, hc, _⟩ := (qeA (flatN a) 0 i).1 hi
 have := (List.getElem?_eq_some_iff.1 hc).1
 rw [qFB h] at this
 omega
theorem qCB (l : List UInt8) : ∀ b, (idxFrom b l).length ≤ l.length := by
 induction l with
 | nil => intro b; simp [idxFrom]
 | cons c l ih =>
  intro b
  rw [idxFrom]
  split
  ·have := ih (b + 1); simp; omega
  ·have := ih (b + 1); simp; omega
def sixN (a : ByteArray) (far : List Int) : Bool := decide ((placesN a).length = 6) && (decide (wideN a ≤ 6) && (decide (highN a ≤ 6) && (decide (∀ i ∈ placesN a, ¬ rd far (i : Int) < 0) && (decide (colsFull a) && decide (linesFull a)))))
theorem neSix_ev (a : ByteArray) (hf : fitN a) (h41 : a.size ≤ 41) (far : List Int) (hfl : far.length = (flatN a).length)
  (hfar : (placesN a).length = 6 → wideN a ≤ 6 → highN a ≤ 6 → Ev (fun k => qV.f k (wideN a : Int) (highN a : Int) (nums (flatN a))) far) :
  Ev (fun k => qf.f k (wideN a : Int) (highN a : Int) (nums (flatN a))) (sixN a far) := by
 have hsz : (flatN a).length ≤ 100 := by
  have h1 := qqC 47 a.data.toList
  have h2 := qeC a
  have key : ∀ L : List (List UInt8), L.flatten.length = (L.map List.length).sum := by
   intro L
   induction L with
   | nil => rfl
   | cons r L ih => simp [ih]
  have h3 : (flatN a).length = (sp 47 a.data.toList).1.length + ((sp 47 a.data.toList).2.map List.length).sum := by
   unfold flatN rowsN
   rw [List.flatten_cons, List.length_append, key]
  omega
 have hw0 : 0 < wideN a := Nat.pos_of_ne_zero hf.1
 have hbad : ∀ b : Bool, b = true → Ev (fun k => qf.j0 k (ints (placesN a)) b (wideN a : Int) (highN a : Int) (nums (flatN a))) false := fun b hb => by
  refine Ev.step (f := fun k => _) (fun k => by rw [qf.j0]) ?_
  exact Ev.pos hb (Ev.now _)
 unfold qf.f
 refine Ev.bind (qjB _ _ _ hsz) ?_
 have hlen : (ints (idxFrom 0 (flatN a))).length = (placesN a).length := qlA _
 rw [hlen]
 unfold sixN
 by_cases e6 : (placesN a).length = 6
 ·rw [decide_eq_true e6, Bool.true_and]
  refine Ev.pos (by omega) ?_
  by_cases ew : wideN a ≤ 6
  ·rw [decide_eq_true ew, Bool.true_and]
   refine Ev.neg (by omega) ?_
   by_cases eh : highN a ≤ 6
   ·rw [decide_eq_true eh, Bool.true_and, decide_eq_false (show ¬ (highN a : Int) > 6 by omega)]
    refine Ev.step (f := fun k => _) (fun k => by rw [qf.j0]) ?_
    refine Ev.neg (by decide) (Ev.bind (hfar e6 ew eh) ?_)
    have hl := neSix_loop (wideN a) (highN a) hw0 ew eh (nums (flatN a)) (placesN a) (by omega) (qSB hf) far (by rw [hfl, qFB hf]) (placesN a) 0 0 0 List.drop_zero (by omega) (by decide) (by decide)
    have e0 : ((ints (idxFrom 0 (flatN a))).length : Int) = ((placesN a).length : Int) := by rw [hlen]
    rw [e0]
    have hres : (if ∃ i ∈ placesN a, rd far (i : Int) < 0 then false else (decide (((foldM (· % wideN a) (placesN a) 0 : Nat) : Int) = wrap64 (shl .i64 1 (wideN a : Int) - 1)) && decide (((foldM (· / wideN a) (placesN a) 0 : Nat) : Int) = wrap64 (shl .i64 1 (highN a : Int) - 1)))) = (decide (∀ i ∈ placesN a, ¬ rd far (i : Int) < 0) && (decide (colsFull a) && decide (linesFull a))) := by
     have c1 := foldM_full (· % wideN a) (placesN a) (wideN a) ew (fun i _ => Nat.mod_lt i hw0)
     have c2 := foldM_full (· / wideN a) (placesN a) (highN a) eh (fun i hi => by
      show i / wideN a < highN a
      rw [Nat.div_lt_iff_lt_mul hw0, Nat.mul_comm]; exact qSB hf i hi)
     by_cases hx : ∃ i ∈ placesN a, rd far (i : Int) < 0
     ·rw [if_pos hx, decide_eq_false, Bool.false_and]
      intro h
      obtain ⟨i, hi, hn⟩ := hx
      exact h i hi hn
     ·rw [if_neg hx, decide_eq_true (show ∀ i ∈ placesN a, ¬ rd far (i : Int) < 0 from fun i hi hn => hx ⟨i, hi, hn⟩), Bool.true_and, decide_eq_decide.2 c1, decide_eq_decide.2 c2]
      rfl
    rw [hres] at hl
    exact hl
   ·rw [decide_eq_false eh, Bool.false_and, decide_eq_true (show (highN a : Int) > 6 by omega)]
    exact hbad true rfl
  ·rw [decide_eq_false ew, Bool.false_and]
   exact Ev.pos (by omega) (hbad true rfl)
 ·rw [decide_eq_false e6, Bool.false_and]
  exact Ev.neg (by omega) (hbad true rfl)
theorem good_six (a : ByteArray) (h6 : (placesN a).length = 6) : (goodN a ∧ colsFull a) ↔ (a.size ≤ 41 ∧ fitN a ∧ wideN a ≤ 6 ∧ highN a ≤ 6 ∧ colsFull a ∧ linesFull a) := by
 have line : ∀ (L : List (List UInt8)) (w y : Nat), 0 < w → (∀ r ∈ L, r.length = w) → ∀ j r, L[j]? = some r → ((r.all fun c => c == 46) = false ↔ ∃ i ∈ idxFrom (y * w) L.flatten, i / w = y + j) := by
  intro L w y hw hL j r hj
  have hjl := (List.getElem?_eq_some_iff.1 hj).1
  have hcell : ∀ x, x < w → L.flatten[j * w + x]? = r[x]? := by
   clear h6
   induction L generalizing j with
   | nil => simp at hj
   | cons q L ih =>
    intro x hx
    have hq := hL q List.mem_cons_self
    cases j with
    | zero =>
     simp only [List.getElem?_cons_zero, Option.some.injEq] at hj
     subst hj
     rw [List.flatten_cons, Nat.zero_mul, Nat.zero_add, List.getElem?_append_left (by omega)]
    | succ j =>
     rw [List.getElem?_cons_succ] at hj
     rw [List.flatten_cons, List.getElem?_append_right (by rw [hq, Nat.add_mul, Nat.one_mul]; omega), hq, show (j + 1) * w + x - w = j * w + x by rw [Nat.add_mul, Nat.one_mul]; omega]
     exact ih (fun q hq => hL q (List.mem_cons_of_mem _ hq)) j hj (List.getElem?_eq_some_iff.1 hj).1 x hx
  have hrl : r.length = w := hL r (List.mem_of_getElem? hj)
  constructor
  ·intro h
   obtain ⟨c, hc, hne⟩ := List.all_eq_false.1 h
   obtain ⟨x, hx⟩ := List.mem_iff_getElem?.1 hc
   have hxl := (List.getElem?_eq_some_iff.1 hx).1
   refine ⟨y * w + (j * w + x), (qeA _ _ _).2 ⟨by omega, c, ?_, fun e => hne (by rw [e]; rfl)⟩, ?_⟩
   ·rw [show y * w + (j * w + x) - y * w = j * w + x by omega, hcell x (by omega)]
    exact hx
   ·rw [show y * w + (j * w + x) = w * (y + j) + x by rw [Nat.mul_add, Nat.mul_comm w y, Nat.mul_comm w j]; omega, Nat.mul_add_div hw, Nat.div_eq_of_lt (by omega), Nat.add_zero]
  ·rintro ⟨i, hi, e⟩
   obtain ⟨h1, c, h2, h3⟩ := (qeA _ _ _).1 hi
   have hmod := Nat.div_add_mod i w
   have hmlt := Nat.mod_lt i hw
   rw [e] at hmod
   have hix : i - y * w = j * w + i % w := by rw [Nat.mul_add, Nat.mul_comm w y, Nat.mul_comm w j] at hmod; omega
   rw [hix, hcell _ hmlt] at h2
   rw [List.all_eq_false]
   exact ⟨c, List.mem_of_getElem? h2, by simpa using h3⟩
 constructor
 ·rintro ⟨hg, hc⟩
  have hlen := qwC hg
  have hw0 : 0 < wideN a := by
   rcases Nat.eq_zero_or_pos (wideN a) with h | h
   ·have := hg _ (show (sp 47 a.data.toList).1 ∈ rowsN a from List.mem_cons_self)
    have h2 : (sp 47 a.data.toList).1 = [] := List.eq_nil_of_length_eq_zero h
    rw [h2] at this
    exact absurd this.2.1 (by simp)
   ·exact h
  have hfit : fitN a := ⟨by omega, fun r hr => ⟨(hg r hr).1, (hg r hr).2.2⟩⟩
  have hlines : linesFull a := by
   intro j hj
   have hjl : j < (rowsN a).length := hj
   have hr : (rowsN a)[j]? = some (rowsN a)[j] := List.getElem?_eq_getElem hjl
   have := (line (rowsN a) (wideN a) 0 hw0 hlen j _ hr).1 (hg _ (List.getElem_mem hjl)).2.1
   rw [Nat.zero_mul, Nat.zero_add] at this
   exact this
  have hw6 : wideN a ≤ 6 := by
   have := Bfs.qbB (U := (placesN a).map (· % wideN a)) (List.nodup_range (n := wideN a)) (fun j hj => by
    obtain ⟨i, hi, e⟩ := hc j (List.mem_range.1 hj)
    exact List.mem_map.2 ⟨i, hi, e⟩)
   rw [List.length_range, List.length_map, h6] at this
   exact this
  have hh6 : highN a ≤ 6 := by
   have := Bfs.qbB (U := (placesN a).map (· / wideN a)) (List.nodup_range (n := highN a)) (fun j hj => by
    obtain ⟨i, hi, e⟩ := hlines j (List.mem_range.1 hj)
    exact List.mem_map.2 ⟨i, hi, e⟩)
   rw [List.length_range, List.length_map, h6] at this
   exact this
  refine ⟨?_, hfit, hw6, hh6, hc, hlines⟩
  have h1 := qqC 47 a.data.toList
  rw [qeC] at h1
  have key : ∀ L : List (List UInt8), L.flatten.length = (L.map List.length).sum := by
   intro L
   induction L with
   | nil => rfl
   | cons r L ih => simp [ih]
  have h2 := qFB hfit
  unfold flatN rowsN at h2
  rw [List.flatten_cons, List.length_append, key] at h2
  have h3 : wideN a * highN a ≤ 6 * 6 := Nat.mul_le_mul hw6 hh6
  have h4 : (sp 47 a.data.toList).2.length + 1 = highN a := rfl
  omega
 ·rintro ⟨_, hf, hw6, hh6, hc, hl⟩
  refine ⟨fun r hr => ⟨(hf.2 r hr).1, ?_, (hf.2 r hr).2⟩, hc⟩
  obtain ⟨j, hj⟩ := List.mem_iff_getElem?.1 hr
  have hjl : j < highN a := (List.getElem?_eq_some_iff.1 hj).1
  obtain ⟨i, hi, e⟩ := hl j hjl
  exact (line (rowsN a) (wideN a) 0 (Nat.pos_of_ne_zero hf.1) (fun r hr => (hf.2 r hr).1) j r hj).2 ⟨i, by rw [Nat.zero_mul]; exact hi, by omega⟩
abbrev Fnd := DD × Nat
def look (L : List (Nat × Fnd)) (i : Nat) : Option Fnd := (L.find? fun e => decide (e.1 = i)).map Prod.snd
theorem qTC {L : List (Nat × Fnd)} {i : Nat} (h : ¬ i ∈ L.map Prod.fst) : look L i = none := by
 unfold look
 rw [List.find?_eq_none.2]
 ·rfl
 ·intro e he hd
  exact h (List.mem_map.2 ⟨e, he, of_decide_eq_true hd⟩)
theorem look_add (L : List (Nat × Fnd)) (i : Nat) (v : Fnd) (h : ¬ i ∈ L.map Prod.fst) (q : Nat) : look (L ++ [(i, v)]) q = if q = i then some v else look L q := by
 unfold look
 rw [List.find?_append]
 by_cases hq : q = i
 ·subst hq
  have := qTC h
  unfold look at this
  rw [if_pos rfl]
  cases hf : L.find? (fun e => decide (e.1 = q)) with
  | some y => rw [hf] at this; cases this
  | none => simp
 ·rw [if_neg hq]
  cases hf : L.find? (fun e => decide (e.1 = q)) with
  | some y => rfl
  | none => simp [Ne.symm hq]
theorem qLD {L : List (Nat × Fnd)} (hn : (L.map Prod.fst).Nodup) {j : Nat} {e : Nat × Fnd} (h : L[j]? = some e) : look L e.1 = some e.2 := by
 induction L generalizing j with
 | nil => simp at h
 | cons y L ih =>
  rw [List.map_cons, List.nodup_cons] at hn
  cases j with
  | zero =>
   simp only [List.getElem?_cons_zero, Option.some.injEq] at h
   subst h
   unfold look
   rw [List.find?_cons_of_pos (by simp)]; rfl
  | succ j =>
   rw [List.getElem?_cons_succ] at h
   have hm : e.1 ∈ L.map Prod.fst := List.mem_map.2 ⟨e, List.mem_of_getElem? h, rfl⟩
   have hne : ¬ y.1 = e.1 := fun q => hn.1 (q ▸ hm)
   have := ih hn.2 h
   unfold look at this ⊢
   rw [List.find?_cons_of_neg (by simpa using hne)]
   exact this
theorem qvC {L : List (Nat × Fnd)} {i : Nat} (h : i ∈ L.map Prod.fst) : ∃ v, look L i = some v ∧ (i, v) ∈ L := by
 unfold look
 cases hf : L.find? (fun e => decide (e.1 = i)) with
 | none =>
  obtain ⟨e, he, q⟩ := List.mem_map.1 h
  exact absurd (decide_eq_true q) (List.find?_eq_none.1 hf e he)
 | some y =>
  have h1 := List.find?_some hf
  have h2 := List.mem_of_find?_eq_some hf
  have : y.1 = i := of_decide_eq_true h1
  subst this
  exact ⟨y.2, rfl, h2⟩
section
variable {γ : Type} (g : Option Fnd → γ)
def tabU (U : List Nat) (L : List (Nat × Fnd)) : List γ := U.map fun i => g (look L i)
theorem qrA (U : List Nat) (L : List (Nat × Fnd)) : (tabU g U L).length = U.length := List.length_map _
theorem qmC (U : List Nat) (L : List (Nat × Fnd)) (k : Nat) (h : k < U.length) : (tabU g U L)[k]? = some (g (look L U[k])) := by
 unfold tabU
 rw [List.getElem?_map, List.getElem?_eq_getElem h]; rfl
theorem qWB (U : List Nat) (hU : U.Nodup) (L : List (Nat × Fnd)) (k : Nat) (h : k < U.length) (v : Fnd) (hn : ¬ U[k] ∈ L.map Prod.fst) : (tabU g U L).set k (g (some v)) = tabU g U (L ++ [(U[k], v)]) := by
 refine List.ext_getElem? fun q => ?_
 rw [List.getElem?_set]
 by_cases hq : q < U.length
 ·rw [qmC g U L q hq, qmC g U (L ++ [(U[k], v)]) q hq, look_add L _ v hn]
  by_cases e : k = q
  ·subst e
   rw [if_pos rfl, if_pos (by rw [qrA]; exact h), if_pos rfl]
  ·rw [if_neg e, if_neg]
   intro e2
   exact e ((List.getElem_inj hU).1 e2.symm)
 ·rw [List.getElem?_eq_none (by rw [qrA]; omega)]
  by_cases e : k = q
  ·omega
  ·rw [if_neg e, List.getElem?_eq_none (by rw [qrA]; omega)]
end
def farG : Option Fnd → Int
 | some v => (v.2 : Int)
 | none => -1
def botG : Option Fnd → Int
 | some v => v.1.f5
 | none => -1
def botI : Option Fnd → Int
 | some v => v.1.f5
 | none => 0
def dieG : Option Fnd → DD
 | some v => v.1
 | none => z31
def nextC (c : CC) (d : Nat) : CC := if d = 0 then ⟨c.f0, c.f1 - 1⟩ else if d = 1 then ⟨c.f0 + 1, c.f1⟩ else if d = 2 then ⟨c.f0, c.f1 + 1⟩ else ⟨c.f0 - 1, c.f1⟩
def stepG (w h : Nat) (F : List UInt8) (d i : Nat) : Option Nat :=
 if 0 ≤ (nextC (cellAt w i) d).f0 ∧ (nextC (cellAt w i) d).f0 < (w : Int) ∧ 0 ≤ (nextC (cellAt w i) d).f1 ∧ (nextC (cellAt w i) d).f1 < (h : Int) then
  (if F[(nextC (cellAt w i) d).f1.toNat * w + (nextC (cellAt w i) d).f0.toNat]? = some 46 then none else some ((nextC (cellAt w i) d).f1.toNat * w + (nextC (cellAt w i) d).f0.toNat)) else none
def stepsN (w h : Nat) (F : List UInt8) (i : Nat) (v : Fnd) : Nat → Nat → List (Option Nat × Fnd)
 | 0, _ => []
 | n + 1, d => (stepG w h F d i, (rolD v.1 d, v.2 + 1)) :: stepsN w h F i v n (d + 1)
def nextN (w h : Nat) (F : List UInt8) (_ : Nat) (i : Nat) (v : Fnd) : List (Option Nat × Fnd) := stepsN w h F i v 4 0
theorem qaB {w h : Nat} {F : List UInt8} (hF : F.length = w * h) (hw : 0 < w) {d i j : Nat} (e : stepG w h F d i = some j) : j ∈ idxFrom 0 F ∧ cellAt w j = nextC (cellAt w i) d := by
 unfold stepG at e
 generalize nextC (cellAt w i) d = c at e
 split at e
 ·rename_i hc
  obtain ⟨h0, h1, h2, h3⟩ := hc
  obtain ⟨x, hx⟩ : ∃ x : Nat, c.f0 = (x : Int) := ⟨c.f0.toNat, by omega⟩
  obtain ⟨y, hy⟩ : ∃ y : Nat, c.f1 = (y : Int) := ⟨c.f1.toNat, by omega⟩
  rw [hx, hy, Int.toNat_natCast, Int.toNat_natCast] at e
  split at e
  ·cases e
  ·rename_i h46
   obtain rfl := Option.some.inj e
   have hxl : x < w := by omega
   have hyl : y < h := by omega
   have hlt : y * w + x < F.length := by
    rw [hF]
    have : (y + 1) * w ≤ h * w := Nat.mul_le_mul_right w hyl
    rw [Nat.add_mul, Nat.one_mul, Nat.mul_comm h w] at this
    omega
   refine ⟨(qeA F 0 _).2 ⟨Nat.zero_le _, F[y * w + x], by rw [Nat.sub_zero]; exact List.getElem?_eq_getElem hlt, fun e2 => h46 (by rw [List.getElem?_eq_getElem hlt, e2])⟩, ?_⟩
   rw [cellAt_row w y x hxl, ← hx, ← hy]
 ·cases e
theorem stepG_none {w h : Nat} {F : List UInt8} (hF : F.length = w * h) (hw : 0 < w) {d i : Nat} (e : stepG w h F d i = none) : ∀ j ∈ idxFrom 0 F, cellAt w j ≠ nextC (cellAt w i) d := by
 intro j hj he
 obtain ⟨_, c, hc, hne⟩ := (qeA F 0 j).1 hj
 rw [Nat.sub_zero] at hc
 have hjl := (List.getElem?_eq_some_iff.1 hc).1
 rw [hF] at hjl
 unfold stepG at e
 rw [← he] at e
 have hd := Nat.div_add_mod j w
 have hm := Nat.mod_lt j hw
 have hdl : j / w < h := by rw [Nat.div_lt_iff_lt_mul hw, Nat.mul_comm]; exact hjl
 unfold cellAt at e
 simp only [Int.toNat_natCast] at e
 rw [if_pos ⟨Int.natCast_nonneg _, Int.ofNat_lt.2 hm, Int.natCast_nonneg _, Int.ofNat_lt.2 hdl⟩, show j / w * w + j % w = j by rw [Nat.mul_comm]; exact hd, hc, if_neg (fun e2 => hne (Option.some.inj e2))] at e
 cases e
theorem cellAt_inj {w : Nat} (hw : 0 < w) {i j : Nat} (h : cellAt w i = cellAt w j) : i = j := by
 unfold cellAt at h
 injection h with h1 h2
 have e1 : i % w = j % w := Int.ofNat.inj h1
 have e2 : i / w = j / w := Int.ofNat.inj h2
 rw [← Nat.div_add_mod i w, ← Nat.div_add_mod j w, e1, e2]
theorem boNext_is (c : CC) (d : Nat) (hd : d < 4) (h0 : -100 ≤ c.f0 ∧ c.f0 ≤ 100) (h1 : -100 ≤ c.f1 ∧ c.f1 ≤ 100) : qLA.f c.f0 c.f1 (d : Int) = some ((nextC c d).f0, (nextC c d).f1) := by
 have w1 : wrap64 (c.f0 + 1) = c.f0 + 1 := by unfold wrap64; omega
 have w2 : wrap64 (c.f0 - 1) = c.f0 - 1 := by unfold wrap64; omega
 have w3 : wrap64 (c.f1 + 1) = c.f1 + 1 := by unfold wrap64; omega
 have w4 : wrap64 (c.f1 - 1) = c.f1 - 1 := by unfold wrap64; omega
 unfold qLA.f
 rw [w1, w2, w3, w4]
 obtain rfl | rfl | rfl | rfl : d = 0 ∨ d = 1 ∨ d = 2 ∨ d = 3 := by omega
 all_goals simp [nextC]
theorem next_is (c : CC) (d : Nat) (hd : d < 4) (h0 : -100 ≤ c.f0 ∧ c.f0 ≤ 100) (h1 : -100 ≤ c.f1 ∧ c.f1 ≤ 100) : qNB.f c.f0 c.f1 (bt (⟨#[110, 101, 115, 119]⟩ : ByteArray) (d : Int)) = some ((nextC c d).f0, (nextC c d).f1) := by
 have w1 : wrap64 (c.f0 + 1) = c.f0 + 1 := by unfold wrap64; omega
 have w2 : wrap64 (c.f0 - 1) = c.f0 - 1 := by unfold wrap64; omega
 have w3 : wrap64 (c.f1 + 1) = c.f1 + 1 := by unfold wrap64; omega
 have w4 : wrap64 (c.f1 - 1) = c.f1 - 1 := by unfold wrap64; omega
 unfold qNB.f
 rw [w1, w2, w3, w4]
 obtain rfl | rfl | rfl | rfl : d = 0 ∨ d = 1 ∨ d = 2 ∨ d = 3 := by omega
 ·have : bt (⟨#[110, 101, 115, 119]⟩ : ByteArray) ((0 : Nat) : Int) = 110 := by decide +kernel
  rw [this]; simp [nextC]
 ·have : bt (⟨#[110, 101, 115, 119]⟩ : ByteArray) ((1 : Nat) : Int) = 101 := by decide +kernel
  rw [this]; simp [nextC]
 ·have : bt (⟨#[110, 101, 115, 119]⟩ : ByteArray) ((2 : Nat) : Int) = 115 := by decide +kernel
  rw [this]; simp [nextC]
 ·have : bt (⟨#[110, 101, 115, 119]⟩ : ByteArray) ((3 : Nat) : Int) = 119 := by decide +kernel
  rw [this]; simp [nextC]
theorem roll_is (v : DD) (d : Nat) (hd : d < 4) : qMA.f v.f0 v.f1 v.f2 v.f3 v.f4 v.f5 (bt (⟨#[110, 101, 115, 119]⟩ : ByteArray) (d : Int)) = some ((rolD v d).f0, (rolD v d).f1, (rolD v d).f2, (rolD v d).f3, (rolD v d).f4, (rolD v d).f5) := by
 obtain rfl | rfl | rfl | rfl : d = 0 ∨ d = 1 ∨ d = 2 ∨ d = 3 := by omega
 ·have : bt (⟨#[110, 101, 115, 119]⟩ : ByteArray) ((0 : Nat) : Int) = 110 := by decide +kernel
  rw [this]; simp [qMA.f, rolD]
 ·have : bt (⟨#[110, 101, 115, 119]⟩ : ByteArray) ((1 : Nat) : Int) = 101 := by decide +kernel
  rw [this]; simp [qMA.f, rolD]
 ·have : bt (⟨#[110, 101, 115, 119]⟩ : ByteArray) ((2 : Nat) : Int) = 115 := by decide +kernel
  rw [this]; simp [qMA.f, rolD]
 ·have : bt (⟨#[110, 101, 115, 119]⟩ : ByteArray) ((3 : Nat) : Int) = 119 := by decide +kernel
  rw [this]; simp [qMA.f, rolD]
theorem specRoll_is (v : DD) (d : Nat) (hd : d < 4) : qjA.f v.f0 v.f1 v.f2 v.f3 v.f4 v.f5 (d : Int) = some ((rolD v d).f0, (rolD v d).f1, (rolD v d).f2, (rolD v d).f3, (rolD v d).f4, (rolD v d).f5) := by
 obtain rfl | rfl | rfl | rfl : d = 0 ∨ d = 1 ∨ d = 2 ∨ d = 3 := by omega
 all_goals simp [qjA.f, rolD]
theorem l1In_is (n a b : Int) : qAA.f n a b = some (decide (a ≤ n) && decide (n ≤ b)) := by
 unfold qAA.f
 by_cases h : a ≤ n
 ·rw [if_pos (show n ≥ a from h), decide_eq_true h, Bool.true_and]
 ·rw [if_neg (show ¬ n ≥ a from h), decide_eq_false h, Bool.false_and]
def optI (f : Nat → Int) : Option Nat → Int
 | some j => f j
 | none => -1
theorem cell_ix : ∀ w : Nat, w < 7 → ∀ u : Nat, u < w → ∀ t : Nat, t < 6 → (t * w + u < 100 ∧ wrap64 (wrap64 ((t : Int) * (w : Int)) + (u : Int)) = ((t * w + u : Nat) : Int)) := by decide +kernel
theorem neStep_is (w h : Nat) (hw0 : 0 < w) (hw : w ≤ 6) (hh : h ≤ 6) (F : List UInt8) (hF : F.length = w * h) (i d : Nat) (hi : i < w * h) (hd : d < 4) :
  qgA.f (w : Int) (h : Int) (nums F) (i : Int) (d : Int) = some (optI (fun j => (j : Int)) (stepG w h F d i)) := by
 have hm := Nat.mod_lt i hw0
 have hq : i / w < h := by rw [Nat.div_lt_iff_lt_mul hw0, Nat.mul_comm]; exact hi
 have hc : cellAt w i = ⟨((i % w : Nat) : Int), ((i / w : Nat) : Int)⟩ := rfl
 unfold qgA.f
 rw [if_neg (nz_of hw0), tmodN, tdivN, w64_small _ (Nat.lt_of_lt_of_le hq (Nat.le_trans hh (by decide)))]
 unfold stepG
 rw [hc]
 clear hi hc
 generalize i % w = x at hm ⊢
 generalize i / w = y at hq ⊢
 have hb := boNext_is ⟨(x : Int), (y : Int)⟩ d hd ⟨by show -100 ≤ (x : Int); omega, by show (x : Int) ≤ 100; omega⟩ ⟨by show -100 ≤ (y : Int); omega, by show (y : Int) ≤ 100; omega⟩
 have hn : -1 ≤ (nextC ⟨(x : Int), (y : Int)⟩ d).f0 ∧ (nextC ⟨(x : Int), (y : Int)⟩ d).f0 ≤ 7 ∧ -1 ≤ (nextC ⟨(x : Int), (y : Int)⟩ d).f1 ∧ (nextC ⟨(x : Int), (y : Int)⟩ d).f1 ≤ 7 := by
  obtain rfl | rfl | rfl | rfl : d = 0 ∨ d = 1 ∨ d = 2 ∨ d = 3 := by omega
  all_goals simp [nextC]; omega
 generalize nextC ⟨(x : Int), (y : Int)⟩ d = c at hb hn ⊢
 have hb2 : qLA.f (x : Int) (y : Int) (d : Int) = some (c.f0, c.f1) := hb
 rw [hb2]
 clear hb hb2 hm hq
 have w1 : wrap64 ((w : Int) - 1) = (w : Int) - 1 := by clear hF; unfold wrap64; omega
 have w2 : wrap64 ((h : Int) - 1) = (h : Int) - 1 := by clear hF; unfold wrap64; omega
 simp only [Option.bind_some, l1In_is, w1, w2]
 by_cases c1 : 0 ≤ c.f0 ∧ c.f0 < (w : Int)
 ·rw [if_pos (show (decide (0 ≤ c.f0) && decide (c.f0 ≤ (w : Int) - 1)) = true by rw [decide_eq_true c1.1, decide_eq_true (by omega)]; rfl)]
  by_cases c2 : 0 ≤ c.f1 ∧ c.f1 < (h : Int)
  ·rw [if_pos (show (decide (0 ≤ c.f1) && decide (c.f1 ≤ (h : Int) - 1)) = true by rw [decide_eq_true c2.1, decide_eq_true (by omega)]; rfl), if_pos (show 0 ≤ c.f0 ∧ c.f0 < (w : Int) ∧ 0 ≤ c.f1 ∧ c.f1 < (h : Int) from ⟨c1.1, c1.2, c2.1, c2.2⟩)]
   obtain ⟨u, hu⟩ : ∃ u : Nat, c.f0 = (u : Int) := ⟨c.f0.toNat, by omega⟩
   obtain ⟨t, ht⟩ : ∃ t : Nat, c.f1 = (t : Int) := ⟨c.f1.toNat, by omega⟩
   rw [hu, ht, Int.toNat_natCast, Int.toNat_natCast]
   have hul : u < w := by omega
   have htl : t < h := by omega
   obtain ⟨x2, x3⟩ := cell_ix w (Nat.lt_succ_of_le hw) u hul t (Nat.lt_of_lt_of_le htl hh)
   have x1 : t * w + u < w * h := by
    have h1 : (t + 1) * w ≤ h * w := Nat.mul_le_mul_right w htl
    rw [Nat.add_mul, Nat.one_mul, Nat.mul_comm h w] at h1
    exact Nat.lt_of_lt_of_le (Nat.add_lt_add_left hul _) h1
   have hlt : t * w + u < F.length := hF ▸ x1
   rw [x3]
   clear x1 x2 x3 hF
   generalize t * w + u = p at hlt ⊢
   rw [if_pos (Int.natCast_nonneg _), if_pos (show (p : Int) < ((nums F).length : Int) by unfold nums; rw [List.length_map]; exact Int.ofNat_lt.2 hlt), rdNums F p hlt]
   rw [List.getElem?_eq_getElem hlt]
   by_cases h46 : F[p] = 46
   ·rw [if_pos (by rw [h46]; rfl), if_pos (by rw [h46])]
    rfl
   ·rw [if_neg (show ¬ ((F[p].toNat : Int) = 46) from fun e => h46 ((nr_u8 _ 46 (by decide)).1 e)), if_neg (fun e => h46 (Option.some.inj e))]
    rfl
  ·rw [if_neg (show ¬ (decide (0 ≤ c.f1) && decide (c.f1 ≤ (h : Int) - 1)) = true by simp only [Bool.and_eq_true, decide_eq_true_eq]; omega), if_neg (show ¬ (0 ≤ c.f0 ∧ c.f0 < (w : Int) ∧ 0 ≤ c.f1 ∧ c.f1 < (h : Int)) from fun q => c2 ⟨q.2.2.1, q.2.2.2⟩)]
   rfl
 ·rw [if_neg (show ¬ (decide (0 ≤ c.f0) && decide (c.f0 ≤ (w : Int) - 1)) = true by simp only [Bool.and_eq_true, decide_eq_true_eq]; omega), if_neg (show ¬ (0 ≤ c.f0 ∧ c.f0 < (w : Int) ∧ 0 ≤ c.f1 ∧ c.f1 < (h : Int)) from fun q => c1 ⟨q.1, q.2.1⟩)]
  rfl
abbrev keysN (L : List (Nat × Fnd)) : List Nat := L.map Prod.fst
structure OkN (D : List Nat) (L : List (Nat × Fnd)) : Prop where
 nodup : (keysN L).Nodup
 mem : ∀ e ∈ L, e.1 ∈ D
 far : ∀ (j : Nat) (e : Nat × Fnd), L[j]? = some e → e.2.2 ≤ j
theorem OkN.len {D : List Nat} {L : List (Nat × Fnd)} (h : OkN D L) : L.length ≤ D.length := by
 have := Bfs.qbB (U := D) h.nodup (fun i hi => by
  obtain ⟨e, he, rfl⟩ := List.mem_map.1 hi
  exact h.mem e he)
 rwa [List.length_map] at this
theorem OkN.new {D : List Nat} {L : List (Nat × Fnd)} (h : OkN D L) {i j at_ : Nat} {v : Fnd} (hat : L[at_]? = some (i, v)) (hj : j ∈ D) (hn : ¬ j ∈ keysN L) (x : DD) : OkN D (L ++ [(j, (x, v.2 + 1))]) := by
 have hal := (List.getElem?_eq_some_iff.1 hat).1
 have hv := h.far at_ _ hat
 have e := Bfs.qpB hn (x, v.2 + 1)
 refine ⟨?_, ?_, ?_⟩
 ·rw [← e]; exact Bfs.qtC h.nodup _ _
 ·intro y hy
  rcases List.mem_append.1 hy with hy | hy
  ·exact h.mem y hy
  ·rw [List.mem_singleton] at hy; subst hy; exact hj
 ·intro q y hy
  by_cases hq : q < L.length
  ·rw [List.getElem?_append_left hq] at hy
   exact h.far q y hy
  ·rw [List.getElem?_append_right (by omega)] at hy
   have hq2 : q - L.length = 0 := by
    rcases Nat.eq_zero_or_pos (q - L.length) with h0 | h0
    ·exact h0
    ·rw [List.getElem?_eq_none (by simp; omega)] at hy; cases hy
   rw [hq2] at hy
   simp at hy
   subst hy
   show v.2 + 1 ≤ q
   have hv2 : v.2 ≤ at_ := hv
   omega
theorem OkN.start {D : List Nat} {i : Nat} (h : i ∈ D) (x : DD) : OkN D [(i, (x, 0))] :=
 ⟨by simp, fun e he => by rw [List.mem_singleton] at he; subst he; exact h, fun j e he => by
  cases j with
  | zero => simp at he; subst he; exact Nat.le_refl _
  | succ j => simp at he⟩
theorem rdTab {γ : Type} (g : Option Fnd → Int) (U : List Nat) (L : List (Nat × Fnd)) (k : Nat) (h : k < U.length) : rd (tabU g U L) (k : Int) = g (look L U[k]) := by
 unfold rd
 rw [Int.toNat_natCast, List.getD_eq_getElem?_getD, qmC g U L k h]; rfl
theorem qyB {L : List (Nat × Fnd)} {i : Nat} : farG (look L i) < 0 ↔ ¬ i ∈ keysN L := by
 constructor
 ·intro h hm
  obtain ⟨v, hv, _⟩ := qvC hm
  rw [hv] at h
  have h2 : (v.2 : Int) < 0 := h
  omega
 ·intro h
  rw [qTC h]; decide
theorem qJC (l : List Nat) (i : Nat) : ints l ++ [(i : Int)] = ints (l ++ [i]) := by unfold ints; rw [List.map_append]; rfl
theorem keys_append (L : List (Nat × Fnd)) (i : Nat) (v : Fnd) : keysN (L ++ [(i, v)]) = keysN L ++ [i] := by simp [keysN]
theorem keys_get {L : List (Nat × Fnd)} {j : Nat} {i : Nat} {v : Fnd} (h : L[j]? = some (i, v)) (hl : j < (keysN L).length) : (keysN L)[j] = i := by
 have : (keysN L)[j]? = some i := by rw [List.getElem?_map, h]; rfl
 rw [List.getElem?_eq_getElem hl] at this
 exact Option.some.inj this
section
variable (w h : Nat) (F : List UInt8)
theorem far_steps (hw0 : 0 < w) (hw : w ≤ 6) (hh : h ≤ 6) (hF : F.length = w * h) (R : List Int) (at_ : Nat) (i : Nat) (v : Fnd) : ∀ (n d : Nat) (L : List (Nat × Fnd)), d + n = 4 → L[at_]? = some (i, v) → OkN (idxFrom 0 F) L →
  Ev (fun k => qV.l1 k (ints (keysN (Bfs.puts L (stepsN w h F i v n d)))) ((at_ + 1 : Nat) : Int) (tabU farG (List.range F.length) (Bfs.puts L (stepsN w h F i v n d))) (w : Int) (h : Int) (nums F)) R →
  Ev (fun k => qV.l2 k (ints (keysN L)) (at_ : Int) (d : Int) (tabU farG (List.range F.length) L) (w : Int) (h : Int) (nums F)) R := by
 have h36 : F.length ≤ 36 := hF ▸ (Nat.mul_le_mul hw hh : w * h ≤ 6 * 6)
 have hDl := qCB F 0
 intro n
 induction n with
 | zero =>
  intro d L hd hat hok hR
  have hal := (List.getElem?_eq_some_iff.1 hat).1
  have hlen := hok.len
  have w1 := qkA at_ (by omega)
  have a1 : ¬ (d : Int) < 4 := by omega
  refine Ev.step (f := fun k => _) (fun k => by rw [qV.l2]) ?_
  rw [w1]
  exact Ev.neg a1 hR
 | succ n ih =>
  intro d L hd hat hok hR
  have hal := (List.getElem?_eq_some_iff.1 hat).1
  have hlen := hok.len
  have w1 := qkA d (by omega)
  have a1 : (d : Int) < 4 := by omega
  have hkl : at_ < (keysN L).length := by rw [List.length_map]; exact hal
  have a3 : (at_ : Int) < ((ints (keysN L)).length : Int) := by rw [qlA]; exact Int.ofNat_lt.2 hkl
  have hr : rd (ints (keysN L)) (at_ : Int) = (i : Int) := by rw [rdInts _ _ hkl, keys_get hat hkl]
  have hiD : i ∈ idxFrom 0 F := hok.mem _ (List.mem_of_getElem? hat)
  have hiF : i < F.length := by
   obtain ⟨_, c, hc, _⟩ := (qeA F 0 i).1 hiD
   have := (List.getElem?_eq_some_iff.1 hc).1
   omega
  have hstep := neStep_is w h hw0 hw hh F hF i d (hF ▸ hiF) (by omega)
  have htl : (tabU farG (List.range F.length) L).length = F.length := by rw [qrA, List.length_range]
  have hlk := qLD hok.nodup hat
  have hv : v.2 ≤ at_ := hok.far at_ _ hat
  have hq : (ints (keysN L)).length < 17592186044416 := by rw [qlA, List.length_map]; omega
  rw [stepsN, Bfs.puts] at hR
  refine Ev.step (f := fun k => _) (fun k => by rw [qV.l2]) ?_
  rw [w1]
  refine Ev.pos a1 (Ev.pos (Int.natCast_nonneg _) (Ev.pos a3 ?_))
  rw [hr]
  refine Ev.bindc hstep ?_
  cases hs : stepG w h F d i with
  | none =>
   rw [hs] at hR
   exact Ev.neg (by decide) (ih (d + 1) L (by omega) hat hok hR)
  | some j =>
   obtain ⟨hjD, _⟩ := qaB hF hw0 hs
   have hjF : j < F.length := by
    obtain ⟨_, c, hc, _⟩ := (qeA F 0 j).1 hjD
    have := (List.getElem?_eq_some_iff.1 hc).1
    omega
   have hjr : j < (List.range F.length).length := by rw [List.length_range]; exact hjF
   have hir : i < (List.range F.length).length := by rw [List.length_range]; exact hiF
   have hrj : rd (tabU farG (List.range F.length) L) (j : Int) = farG (look L j) := by rw [rdTab (γ := Unit) farG _ L j hjr, List.getElem_range]
   have hri : rd (tabU farG (List.range F.length) L) (i : Int) = (v.2 : Int) := by rw [rdTab (γ := Unit) farG _ L i hir, List.getElem_range, hlk]; rfl
   have b1 : (j : Int) < ((tabU farG (List.range F.length) L).length : Int) := by rw [htl]; exact Int.ofNat_lt.2 hjF
   have b2 : (i : Int) < ((tabU farG (List.range F.length) L).length : Int) := by rw [htl]; exact Int.ofNat_lt.2 hiF
   refine Ev.pos (show (optI (fun j => (j : Int)) (some j)) ≥ 0 from Int.natCast_nonneg _) (Ev.pos (Int.natCast_nonneg _) (Ev.pos b1 ?_))
   show Ev (fun k => if rd (tabU farG (List.range F.length) L) (j : Int) < 0 then _ else _) R
   rw [hrj]
   rw [hs] at hR
   by_cases hm : j ∈ keysN L
   ·rw [Bfs.qFC hm] at hR
    exact Ev.neg (fun hn => (qyB.1 hn) hm) (ih (d + 1) L (by omega) hat hok hR)
   ·rw [Bfs.qpB hm] at hR
    refine Ev.pos (qyB.2 hm) (Ev.pos (Int.natCast_nonneg _) (Ev.pos b2 (Ev.pos hq ?_)))
    show Ev (fun k => qV.l2 k (ints (keysN L) ++ [(j : Int)]) (at_ : Int) ((d + 1 : Nat) : Int) ((tabU farG (List.range F.length) L).set ((j : Int)).toNat (wrap64 (rd (tabU farG (List.range F.length) L) (i : Int) + 1))) (w : Int) (h : Int) (nums F)) R
    have w3 := qkA v.2 (by omega)
    have hset := qWB farG (List.range F.length) List.nodup_range L j hjr (rolD v.1 d, v.2 + 1) (by rw [List.getElem_range]; exact hm)
    rw [List.getElem_range] at hset
    rw [hri, w3, Int.toNat_natCast, show ((v.2 + 1 : Nat) : Int) = farG (some (rolD v.1 d, v.2 + 1)) from rfl, hset, qJC, ← keys_append L j (rolD v.1 d, v.2 + 1)]
    exact ih (d + 1) _ (by omega) (by rw [List.getElem?_append_left hal]; exact hat) (hok.new hat hjD hm _) hR
theorem okN_puts (hw0 : 0 < w) (hF : F.length = w * h) (at_ i : Nat) (v : Fnd) : ∀ (n d : Nat) (L : List (Nat × Fnd)), L[at_]? = some (i, v) → OkN (idxFrom 0 F) L → OkN (idxFrom 0 F) (Bfs.puts L (stepsN w h F i v n d)) := by
 intro n
 induction n with
 | zero => intro d L _ hok; exact hok
 | succ n ih =>
  intro d L hat hok
  rw [stepsN, Bfs.puts]
  cases hs : stepG w h F d i with
  | none => exact ih (d + 1) L hat hok
  | some j =>
   by_cases hm : j ∈ keysN L
   ·rw [Bfs.qFC hm]; exact ih (d + 1) L hat hok
   ·rw [Bfs.qpB hm]
    exact ih (d + 1) _ (by rw [List.getElem?_append_left (List.getElem?_eq_some_iff.1 hat).1]; exact hat) (hok.new hat (qaB hF hw0 hs).1 hm _)
theorem quC (hw0 : 0 < w) (hF : F.length = w * h) {at_ : Nat} {L : List (Nat × Fnd)} (hok : OkN (idxFrom 0 F) L) : OkN (idxFrom 0 F) (Bfs.round (nextN w h F) at_ L) := by
 unfold Bfs.round
 cases hx : L[at_]? with
 | none => exact hok
 | some x => exact okN_puts w h F hw0 hF at_ x.1 x.2 4 0 L hx hok
theorem far_run (hw0 : 0 < w) (hw : w ≤ 6) (hh : h ≤ 6) (hF : F.length = w * h) : ∀ (n at_ : Nat) (L : List (Nat × Fnd)), OkN (idxFrom 0 F) L → (idxFrom 0 F).length ≤ at_ + n →
  Ev (fun k => qV.l1 k (ints (keysN L)) (at_ : Int) (tabU farG (List.range F.length) L) (w : Int) (h : Int) (nums F)) (tabU farG (List.range F.length) (Bfs.run (nextN w h F) n at_ L)) := by
 intro n
 induction n with
 | zero =>
  intro at_ L hok hn
  have hl := hok.len
  refine Ev.step (f := fun k => _) (fun k => by rw [qV.l1]) ?_
  refine Ev.neg (by rw [qlA, List.length_map]; omega) (Ev.now _)
 | succ n ih =>
  intro at_ L hok hn
  have hl := hok.len
  refine Ev.step (f := fun k => _) (fun k => by rw [qV.l1]) ?_
  by_cases hat : at_ < L.length
  ·have hx : L[at_]? = some L[at_] := List.getElem?_eq_getElem hat
   rw [Bfs.run, if_pos hat]
   have hro : Bfs.round (nextN w h F) at_ L = Bfs.puts L (stepsN w h F L[at_].1 L[at_].2 4 0) := by unfold Bfs.round; rw [hx]; rfl
   have := ih (at_ + 1) (Bfs.round (nextN w h F) at_ L) (quC w h F hw0 hF hok) (by omega)
   refine Ev.pos (by rw [qlA, List.length_map]; omega) ?_
   refine far_steps w h F hw0 hw hh hF _ at_ L[at_].1 L[at_].2 4 0 L rfl hx hok ?_
   rw [← hro]
   exact this
  ·rw [Bfs.run, if_neg hat]
   exact Ev.neg (by rw [qlA, List.length_map]; omega) (Ev.now _)
def runN_ (i0 : Nat) : List (Nat × Fnd) := Bfs.run (nextN w h F) 36 0 [(i0, (plainD, 0))]
theorem far_fill (N : Nat) (hN : N ≤ 36) (R : List Int) : ∀ (d i : Nat), i + d = N →
  (Ev (fun k => qV.l0 k (List.replicate N (-1)) (N : Int) (N : Int) (w : Int) (h : Int) (nums F)) R) →
  Ev (fun k => qV.l0 k (List.replicate i (-1) ++ List.replicate d 0) (N : Int) (i : Int) (w : Int) (h : Int) (nums F)) R
 | 0, i, hd, hR => by
  obtain rfl : i = N := by omega
  rw [List.replicate_zero, List.append_nil]; exact hR
 | d + 1, i, hd, hR => by
  have ih := far_fill N hN R d (i + 1) (by omega) hR
  have w1 := qkA i (by omega)
  have e : (List.replicate i (-1 : Int) ++ List.replicate (d + 1) (0 : Int)).set i (-1) = List.replicate (i + 1) (-1 : Int) ++ List.replicate d (0 : Int) := by
   rw [List.set_append_right _ _ (by rw [List.length_replicate]; exact Nat.le_refl _), List.length_replicate, Nat.sub_self, List.replicate_succ, List.set_cons_zero, List.replicate_succ', List.append_assoc]; rfl
  refine Ev.step (f := fun k => _) (fun k => by rw [qV.l0]) ?_
  refine Ev.pos (by omega) (Ev.pos (by omega) (Ev.pos (by simp; omega) ?_))
  rw [w1, Int.toNat_natCast, e]
  exact ih
theorem qNC (g : Option Fnd → Int) (z : Int) (hz : g none = z) (U : List Nat) (hU : U.Nodup) (k : Nat) (hk : k < U.length) (v : Fnd) : (List.replicate U.length z).set k (g (some v)) = tabU g U [(U[k], v)] := by
 have h0 : List.replicate U.length z = tabU g U [] := by
  unfold tabU
  have : (fun i => g (look [] i)) = fun _ => z := by funext i; exact hz
  rw [this, List.map_const']
 rw [h0, qWB g U hU [] k hk v (by simp), List.nil_append]
theorem neFar_ev (hw0 : 0 < w) (hw : w ≤ 6) (hh : h ≤ 6) (hF : F.length = w * h) (i0 : Nat) (D' : List Nat) (hD : idxFrom 0 F = i0 :: D') :
  Ev (fun k => qV.f k (w : Int) (h : Int) (nums F)) (tabU farG (List.range F.length) (runN_ w h F i0)) := by
 have h36 : F.length ≤ 36 := hF ▸ (Nat.mul_le_mul hw hh : w * h ≤ 6 * 6)
 have hn : (nums F).length = F.length := List.length_map _
 have hi0 : i0 ∈ idxFrom 0 F := by rw [hD]; exact List.mem_cons_self
 have hiF : i0 < F.length := by
  obtain ⟨_, c, hc, _⟩ := (qeA F 0 i0).1 hi0
  have := (List.getElem?_eq_some_iff.1 hc).1
  omega
 have hDl := qCB F 0
 unfold qV.f
 rw [hn]
 refine Ev.pos (Int.natCast_nonneg _) (Ev.pos (by rw [Int.toNat_natCast]; omega) (Ev.bindc rfl ?_))
 rw [Int.toNat_natCast, List.length_replicate]
 have hfill := far_fill w h F F.length h36 (tabU farG (List.range F.length) (runN_ w h F i0)) F.length 0 (by omega)
 rw [List.replicate_zero, List.nil_append] at hfill
 refine hfill ?_
 refine Ev.step (f := fun k => _) (fun k => by rw [qV.l0]) ?_
 refine Ev.neg (by omega) (Ev.bind (qjB _ _ F (by omega)) ?_)
 have e0 : rd (ints (idxFrom 0 F)) 0 = (i0 : Int) := by rw [hD]; rfl
 have e1 : (ints (idxFrom 0 F)).length = D'.length + 1 := by rw [qlA, hD, List.length_cons]
 rw [e0]
 refine Ev.neg (by rw [e1]; omega) (Ev.pos (by rw [e1]; omega) (Ev.pos (Int.natCast_nonneg _) (Ev.pos (by rw [List.length_replicate]; exact Int.ofNat_lt.2 hiF) ?_)))
 have hst := qNC farG (-1) rfl (List.range F.length) List.nodup_range i0 (by rw [List.length_range]; exact hiF) (plainD, 0)
 simp only [List.length_range, List.getElem_range] at hst
 rw [Int.toNat_natCast, show (0 : Int) = farG (some (plainD, 0)) from rfl, hst]
 exact far_run w h F hw0 hw hh hF 36 0 _ (OkN.start hi0 plainD) (by omega)
end
theorem rdCC (P : List CC) (s : Nat) (h : s < P.length) : qPA P (s : Int) = P[s] := by
 unfold qPA
 rw [Int.toNat_natCast, List.getD_eq_getElem?_getD, List.getElem?_eq_getElem h]; rfl
theorem cc_eq (c e : CC) : ((c.f0 == e.f0 && (c.f1 == e.f1)) = true) ↔ e = c := by
 obtain ⟨a, b⟩ := c
 obtain ⟨a', b'⟩ := e
 simp only [Bool.and_eq_true, beq_iff_eq]
 constructor
 ·rintro ⟨h1, h2⟩
  have h1' : a = a' := h1
  have h2' : b = b' := h2
  rw [h1', h2']
 ·intro h
  injection h with h1 h2
  exact ⟨h1.symm, h2.symm⟩
theorem small_of {x : Nat} (h : x < 6) : -100 ≤ (x : Int) ∧ (x : Int) ≤ 100 := ⟨by omega, by omega⟩
theorem place_miss (P : List CC) (hP : P.length ≤ 100) (c : CC) : ∀ (d q : Nat), q + d = P.length → (∀ (s : Nat) (hs : s < P.length), q ≤ s → P[s] ≠ c) → Ev (fun k => qT.l0 k P (P.length : Int) (q : Int) c.f0 c.f1) (-1) := by
 intro d
 induction d with
 | zero =>
  intro q hq hn
  have a1 : ¬ (q : Int) < (P.length : Int) := by omega
  refine Ev.step (f := fun k => _) (fun k => by rw [qT.l0]) ?_
  exact Ev.neg a1 (Ev.now _)
 | succ d ih =>
  intro q hq hn
  have hl : q < P.length := by omega
  have a1 : (q : Int) < (P.length : Int) := by omega
  have w1 := qkA q (by omega)
  refine Ev.step (f := fun k => _) (fun k => by rw [qT.l0]) ?_
  rw [w1, rdCC P q hl]
  refine Ev.pos a1 (Ev.pos (Int.natCast_nonneg _) (Ev.pos a1 (Ev.neg (fun e => hn q hl (Nat.le_refl _) ((cc_eq _ _).1 e)) ?_)))
  exact ih (q + 1) (by omega) (fun s hs h => hn s hs (by omega))
theorem place_hit (P : List CC) (hP : P.length ≤ 100) (c : CC) (t : Nat) (ht : t < P.length) (hc : P[t] = c) : ∀ (d q : Nat), q + d = t → (∀ (s : Nat) (hs : s < P.length), q ≤ s → s < t → P[s] ≠ c) → Ev (fun k => qT.l0 k P (P.length : Int) (q : Int) c.f0 c.f1) (t : Int) := by
 intro d
 induction d with
 | zero =>
  intro q hq hn
  obtain rfl : q = t := by omega
  have a1 : (q : Int) < (P.length : Int) := by omega
  refine Ev.step (f := fun k => _) (fun k => by rw [qT.l0]) ?_
  rw [rdCC P q ht]
  exact Ev.pos a1 (Ev.pos (Int.natCast_nonneg _) (Ev.pos a1 (Ev.pos ((cc_eq _ _).2 hc) (Ev.now _))))
 | succ d ih =>
  intro q hq hn
  have hl : q < P.length := by omega
  have a1 : (q : Int) < (P.length : Int) := by omega
  have w1 := qkA q (by omega)
  refine Ev.step (f := fun k => _) (fun k => by rw [qT.l0]) ?_
  rw [w1, rdCC P q hl]
  refine Ev.pos a1 (Ev.pos (Int.natCast_nonneg _) (Ev.pos a1 (Ev.neg (fun e => hn q hl (Nat.le_refl _) (by omega) ((cc_eq _ _).1 e)) ?_)))
  exact ih (q + 1) (by omega) (fun s hs h1 h2 => hn s hs (by omega) h2)
section
variable (w h : Nat) (F : List UInt8)
abbrev dgs : List Nat := idxFrom 0 F
def pcs : List CC := (dgs F).map (cellAt w)
def posN (i : Nat) : Nat := (dgs F).idxOf i
theorem qED {i : Nat} (hi : i ∈ dgs F) : posN F i < (dgs F).length := List.idxOf_lt_length_of_mem hi
theorem qcB {i : Nat} (hi : i ∈ dgs F) : (dgs F)[posN F i]'(qED F hi) = i := List.getElem_idxOf _
theorem place_is (hw0 : 0 < w) (hw : w ≤ 6) (hh : h ≤ 6) (hF : F.length = w * h) (i d : Nat) : Ev (fun k => qVA.f k (pcs w F) (nextC (cellAt w i) d).f0 (nextC (cellAt w i) d).f1) (optI (fun j => (posN F j : Int)) (stepG w h F d i)) := by
 have h36 : F.length ≤ 36 := hF ▸ (Nat.mul_le_mul hw hh : w * h ≤ 6 * 6)
 have hDl : (dgs F).length ≤ F.length := qCB F 0
 have hPl : (pcs w F).length = (dgs F).length := List.length_map _
 unfold qVA.f qT.f
 have hget : ∀ (s : Nat) (hs : s < (pcs w F).length), (pcs w F)[s] = cellAt w ((dgs F)[s]'(by rw [← hPl]; exact hs)) := fun s hs => List.getElem_map _
 refine Ev.bind (r := optI (fun j => (posN F j : Int)) (stepG w h F d i)) (a := optI (fun j => (posN F j : Int)) (stepG w h F d i)) ?_ (Ev.now _)
 cases hs : stepG w h F d i with
 | none =>
  have hn := stepG_none hF hw0 hs
  exact place_miss (pcs w F) (by omega) _ (pcs w F).length 0 (by omega) (fun s hs _ => by rw [hget s hs]; exact hn _ (List.getElem_mem _))
 | some j =>
  obtain ⟨hj, hc⟩ := qaB hF hw0 hs
  have ht := qED F hj
  refine place_hit (pcs w F) (by omega) _ (posN F j) (by rw [hPl]; exact ht) (by rw [hget, qcB F hj]; exact hc) (posN F j) 0 (by omega) (fun s hs _ hst => ?_)
  rw [hget s hs, ← hc]
  intro e
  have e2 := cellAt_inj hw0 e
  have e3 := qcB F hj
  have := (List.getElem_inj (qkB F 0)).1 (e2.trans e3.symm)
  omega
def poss (L : List (Nat × Fnd)) : List Nat := (keysN L).map (posN F)
theorem poss_append (L : List (Nat × Fnd)) (j : Nat) (v : Fnd) : poss F (L ++ [(j, v)]) = poss F L ++ [posN F j] := by simp [poss, keysN]
theorem rdTabD (U : List Nat) (L : List (Nat × Fnd)) (k : Nat) (h : k < U.length) : qP (tabU dieG U L) (k : Int) = dieG (look L U[k]) := by
 unfold qP
 rw [Int.toNat_natCast, List.getD_eq_getElem?_getD, qmC dieG U L k h]; rfl
theorem fold_steps (hw0 : 0 < w) (hw : w ≤ 6) (hh : h ≤ 6) (hF : F.length = w * h) (R : List Int × List Int) (at_ : Nat) (i : Nat) (v : Fnd) : ∀ (n d : Nat) (L : List (Nat × Fnd)), d + n = 4 → L[at_]? = some (i, v) → OkN (dgs F) L →
  Ev (fun k => qI.l1 k (pcs w F) (ints (poss F (Bfs.puts L (stepsN w h F i v n d)))) ((at_ + 1 : Nat) : Int) (tabU botI (dgs F) (Bfs.puts L (stepsN w h F i v n d))) (tabU farG (dgs F) (Bfs.puts L (stepsN w h F i v n d))) (tabU dieG (dgs F) (Bfs.puts L (stepsN w h F i v n d)))) R →
  Ev (fun k => qI.l2 k (pcs w F) (ints (poss F L)) (at_ : Int) (posN F i : Int) (tabU botI (dgs F) L) (tabU farG (dgs F) L) (tabU dieG (dgs F) L) (d : Int)) R := by
 have h36 : F.length ≤ 36 := hF ▸ (Nat.mul_le_mul hw hh : w * h ≤ 6 * 6)
 have hDl : (dgs F).length ≤ F.length := qCB F 0
 have hPl : (pcs w F).length = (dgs F).length := List.length_map _
 have hU := qkB F 0
 intro n
 induction n with
 | zero =>
  intro d L hd hat hok hR
  have hal := (List.getElem?_eq_some_iff.1 hat).1
  have hlen := hok.len
  have w1 := qkA at_ (by omega)
  have a1 : ¬ (d : Int) < 4 := by omega
  refine Ev.step (f := fun k => _) (fun k => by rw [qI.l2]) ?_
  rw [w1]
  exact Ev.neg a1 hR
 | succ n ih =>
  intro d L hd hat hok hR
  have hal := (List.getElem?_eq_some_iff.1 hat).1
  have hlen := hok.len
  have hd4 : d < 4 := by clear hPl hDl h36 hF hlen; omega
  have hd5 : d + 1 + n = 4 := by clear hPl hDl h36 hF hlen; omega
  have hLs : L.length ≤ 36 := Nat.le_trans hlen (Nat.le_trans hDl h36)
  have hat36 : at_ < 36 := Nat.lt_of_lt_of_le hal hLs
  have w1 := qkA d (Nat.lt_trans hd4 (by decide))
  have a1 : (d : Int) < 4 := Int.ofNat_lt.2 hd4
  have hiD : i ∈ dgs F := hok.mem _ (List.mem_of_getElem? hat)
  have hil := qED F hiD
  have a2 : (posN F i : Int) < ((pcs w F).length : Int) := by rw [hPl]; exact Int.ofNat_lt.2 hil
  have hlk := qLD hok.nodup hat
  have hv : v.2 ≤ at_ := hok.far at_ _ hat
  have w3 := qkA v.2 (Nat.lt_of_le_of_lt hv (Nat.lt_trans hat36 (by decide)))
  have hq : (ints (poss F L)).length < 17592186044416 := by
   have e : (ints (poss F L)).length = L.length := by rw [qlA]; unfold poss; rw [List.length_map, List.length_map]
   rw [e]; exact Nat.lt_of_le_of_lt hLs (by decide)
  have hcell : qPA (pcs w F) (posN F i : Int) = cellAt w i := by
   have hg : (pcs w F)[posN F i]? = some (cellAt w i) := by unfold pcs; rw [List.getElem?_map, List.getElem?_eq_getElem hil, qcB F hiD]; rfl
   have hil2 : posN F i < (pcs w F).length := by rw [hPl]; exact hil
   rw [List.getElem?_eq_getElem hil2] at hg
   rw [rdCC _ _ hil2]
   exact Option.some.inj hg
  have hiF : i < w * h := by
   obtain ⟨_, c, hc, _⟩ := (qeA F 0 i).1 hiD
   have := (List.getElem?_eq_some_iff.1 hc).1
   rw [← hF]; rwa [Nat.sub_zero] at this
  have hm := Nat.mod_lt i hw0
  have hqh : i / w < h := by rw [Nat.div_lt_iff_lt_mul hw0, Nat.mul_comm]; exact hiF
  have hnx : qNB.f (cellAt w i).f0 (cellAt w i).f1 (bt (⟨#[110, 101, 115, 119]⟩ : ByteArray) (d : Int)) = some ((nextC (cellAt w i) d).f0, (nextC (cellAt w i) d).f1) := by
   refine next_is (cellAt w i) d hd4 ?_ ?_
   ·exact small_of (Nat.lt_of_lt_of_le hm hw)
   ·exact small_of (Nat.lt_of_lt_of_le hqh hh)
  clear hm hqh hiF
  have hpl := place_is w h F hw0 hw hh hF i d
  have t1 : (tabU botI (dgs F) L).length = (dgs F).length := qrA _ _ _
  have t2 : (tabU farG (dgs F) L).length = (dgs F).length := qrA _ _ _
  have t3 : (tabU dieG (dgs F) L).length = (dgs F).length := qrA _ _ _
  have hri : rd (tabU farG (dgs F) L) (posN F i : Int) = (v.2 : Int) := by rw [rdTab (γ := Unit) farG _ L _ hil, qcB F hiD, hlk]; rfl
  have hrd : qP (tabU dieG (dgs F) L) (posN F i : Int) = v.1 := by rw [rdTabD _ L _ hil, qcB F hiD, hlk]; rfl
  have hro := roll_is v.1 d hd4
  rw [stepsN, Bfs.puts] at hR
  refine Ev.step (f := fun k => _) (fun k => by rw [qI.l2]) ?_
  rw [w1, hcell]
  refine Ev.pos a1 (Ev.pos (Int.natCast_nonneg _) (Ev.pos a2 (Ev.pos (Int.natCast_nonneg _) (Ev.bindc hnx (Ev.bind hpl ?_)))))
  cases hs : stepG w h F d i with
  | none =>
   rw [hs] at hR
   exact Ev.pos (show (-1 : Int) < 0 by decide) (ih (d + 1) L hd5 hat hok hR)
  | some j =>
   obtain ⟨hjD, _⟩ := qaB hF hw0 hs
   have hjl := qED F hjD
   have hrj : rd (tabU farG (dgs F) L) (posN F j : Int) = farG (look L j) := by rw [rdTab (γ := Unit) farG _ L _ hjl, qcB F hjD]
   have b1 : (posN F j : Int) < ((tabU botI (dgs F) L).length : Int) := by rw [t1]; exact Int.ofNat_lt.2 hjl
   have b2 : (posN F j : Int) < ((tabU farG (dgs F) L).length : Int) := by rw [t2]; exact Int.ofNat_lt.2 hjl
   have b3 : (posN F j : Int) < ((tabU dieG (dgs F) L).length : Int) := by rw [t3]; exact Int.ofNat_lt.2 hjl
   have c2 : (posN F i : Int) < ((tabU farG (dgs F) L).length : Int) := by rw [t2]; exact Int.ofNat_lt.2 hil
   have c3 : (posN F i : Int) < ((tabU dieG (dgs F) L).length : Int) := by rw [t3]; exact Int.ofNat_lt.2 hil
   have n0 : ¬ (posN F j : Int) < 0 := Int.not_lt.2 (Int.natCast_nonneg _)
   rw [hs] at hR
   refine Ev.neg n0 (Ev.pos (Int.natCast_nonneg _) (Ev.pos b2 ?_))
   show Ev (fun k => if rd (tabU farG (dgs F) L) (posN F j : Int) ≥ 0 then _ else _) R
   rw [hrj]
   by_cases hm : j ∈ keysN L
   ·rw [Bfs.qFC hm] at hR
    exact Ev.pos (Int.not_lt.1 (fun hn => (qyB.1 hn) hm)) (ih (d + 1) L hd5 hat hok hR)
   ·rw [Bfs.qpB hm] at hR
    have hmn : ¬ (dgs F)[posN F j] ∈ keysN L := by rw [qcB F hjD]; exact hm
    refine Ev.neg (Int.not_le.2 (qyB.2 hm)) (Ev.pos c3 ?_)
    rw [hrd]
    refine Ev.bindc hro (Ev.pos c2 (Ev.pos b3 (Ev.pos b1 (Ev.pos hq ?_))))
    have s1 := qWB botI (dgs F) hU L (posN F j) hjl (rolD v.1 d, v.2 + 1) hmn
    have s2 := qWB farG (dgs F) hU L (posN F j) hjl (rolD v.1 d, v.2 + 1) hmn
    have s3 := qWB dieG (dgs F) hU L (posN F j) hjl (rolD v.1 d, v.2 + 1) hmn
    rw [qcB F hjD] at s1 s2 s3
    show Ev (fun k => qI.l2 k (pcs w F) (ints (poss F L) ++ [(posN F j : Int)]) (at_ : Int) (posN F i : Int) ((tabU botI (dgs F) L).set ((posN F j : Int)).toNat (botI (some (rolD v.1 d, v.2 + 1)))) ((tabU farG (dgs F) L).set ((posN F j : Int)).toNat (wrap64 (rd (tabU farG (dgs F) L) (posN F i : Int) + 1))) ((tabU dieG (dgs F) L).set ((posN F j : Int)).toNat (dieG (some (rolD v.1 d, v.2 + 1)))) ((d + 1 : Nat) : Int)) R
    rw [hri, w3, Int.toNat_natCast, show ((v.2 + 1 : Nat) : Int) = farG (some (rolD v.1 d, v.2 + 1)) from rfl, s1, s2, s3, qJC, ← poss_append F L j (rolD v.1 d, v.2 + 1)]
    exact ih (d + 1) _ hd5 (by rw [List.getElem?_append_left hal]; exact hat) (hok.new hat hjD hm _) hR
theorem fold_run (hw0 : 0 < w) (hw : w ≤ 6) (hh : h ≤ 6) (hF : F.length = w * h) : ∀ (n at_ : Nat) (L : List (Nat × Fnd)), OkN (dgs F) L → (dgs F).length ≤ at_ + n →
  Ev (fun k => qI.l1 k (pcs w F) (ints (poss F L)) (at_ : Int) (tabU botI (dgs F) L) (tabU farG (dgs F) L) (tabU dieG (dgs F) L)) (tabU botI (dgs F) (Bfs.run (nextN w h F) n at_ L), tabU farG (dgs F) (Bfs.run (nextN w h F) n at_ L)) := by
 have hpl : ∀ L : List (Nat × Fnd), (ints (poss F L)).length = L.length := fun L => by rw [qlA]; unfold poss; rw [List.length_map, List.length_map]
 intro n
 induction n with
 | zero =>
  intro at_ L hok hn
  have hl := hok.len
  have a1 : ¬ (at_ : Int) < ((ints (poss F L)).length : Int) := by rw [hpl]; omega
  refine Ev.step (f := fun k => _) (fun k => by rw [qI.l1]) ?_
  exact Ev.neg a1 (Ev.now _)
 | succ n ih =>
  intro at_ L hok hn
  have hl := hok.len
  refine Ev.step (f := fun k => _) (fun k => by rw [qI.l1]) ?_
  by_cases hat : at_ < L.length
  ·have hx : L[at_]? = some L[at_] := List.getElem?_eq_getElem hat
   rw [Bfs.run, if_pos hat]
   have hro : Bfs.round (nextN w h F) at_ L = Bfs.puts L (stepsN w h F L[at_].1 L[at_].2 4 0) := by unfold Bfs.round; rw [hx]; rfl
   have := ih (at_ + 1) (Bfs.round (nextN w h F) at_ L) (quC w h F hw0 hF hok) (by omega)
   have a1 : (at_ : Int) < ((ints (poss F L)).length : Int) := by rw [hpl]; omega
   have hr : rd (ints (poss F L)) (at_ : Int) = (posN F L[at_].1 : Int) := by
    have hp : at_ < (poss F L).length := by unfold poss; rw [List.length_map, List.length_map]; exact hat
    have hg : (poss F L)[at_]? = some (posN F L[at_].1) := by unfold poss keysN; rw [List.getElem?_map, List.getElem?_map, hx]; rfl
    rw [List.getElem?_eq_getElem hp] at hg
    rw [rdInts _ _ hp, Option.some.inj hg]
   rw [hr]
   refine Ev.pos a1 (Ev.pos (Int.natCast_nonneg _) ?_)
   refine fold_steps w h F hw0 hw hh hF _ at_ L[at_].1 L[at_].2 4 0 L rfl hx hok ?_
   rw [← hro]
   exact this
  ·have a1 : ¬ (at_ : Int) < ((ints (poss F L)).length : Int) := by rw [hpl]; omega
   rw [Bfs.run, if_neg hat]
   exact Ev.neg a1 (Ev.now _)
theorem fold_fill (P : List CC) (N : Nat) (hN : N ≤ 36) (X : List Int) (R : List Int × List Int) : ∀ (d i : Nat), i + d = N →
  (Ev (fun k => qI.l0 k P X (List.replicate N (-1)) (N : Int) (N : Int)) R) →
  Ev (fun k => qI.l0 k P X (List.replicate i (-1) ++ List.replicate d 0) (N : Int) (i : Int)) R
 | 0, i, hd, hR => by
  obtain rfl : i = N := by omega
  rw [List.replicate_zero, List.append_nil]; exact hR
 | d + 1, i, hd, hR => by
  have ih := fold_fill P N hN X R d (i + 1) (by omega) hR
  have w1 := qkA i (by omega)
  have e : (List.replicate i (-1 : Int) ++ List.replicate (d + 1) (0 : Int)).set i (-1) = List.replicate (i + 1) (-1 : Int) ++ List.replicate d (0 : Int) := by
   rw [List.set_append_right _ _ (by rw [List.length_replicate]; exact Nat.le_refl _), List.length_replicate, Nat.sub_self, List.replicate_succ, List.set_cons_zero, List.replicate_succ', List.append_assoc]; rfl
  refine Ev.step (f := fun k => _) (fun k => by rw [qI.l0]) ?_
  refine Ev.pos (by omega) (Ev.pos (by omega) (Ev.pos (by simp; omega) ?_))
  rw [w1, Int.toNat_natCast, e]
  exact ih
theorem fold_ev (hw0 : 0 < w) (hw : w ≤ 6) (hh : h ≤ 6) (hF : F.length = w * h) (i0 : Nat) (D' : List Nat) (hD : dgs F = i0 :: D') :
  Ev (fun k => qI.f k (pcs w F)) (tabU botI (dgs F) (runN_ w h F i0), tabU farG (dgs F) (runN_ w h F i0)) := by
 have h36 : F.length ≤ 36 := hF ▸ (Nat.mul_le_mul hw hh : w * h ≤ 6 * 6)
 have hDl : (dgs F).length ≤ F.length := qCB F 0
 have hPl : (pcs w F).length = (dgs F).length := List.length_map _
 have hU := qkB F 0
 have hi0 : i0 ∈ dgs F := by rw [hD]; exact List.mem_cons_self
 have hl1 : 0 < (dgs F).length := by rw [hD]; exact Nat.succ_pos _
 have h00 : (dgs F)[0] = i0 := by
  have : (dgs F)[0]? = some i0 := by rw [hD]; rfl
  rw [List.getElem?_eq_getElem hl1] at this
  exact Option.some.inj this
 have hp0 : posN F i0 = 0 := by unfold posN; rw [hD, List.idxOf_cons_self]
 unfold qI.f
 rw [hPl]
 refine Ev.pos (Int.natCast_nonneg _) (Ev.pos (by rw [Int.toNat_natCast]; omega) (Ev.bindc rfl ?_))
 rw [Int.toNat_natCast, List.length_replicate]
 have hfill := fold_fill (pcs w F) (dgs F).length (by omega) (List.replicate (dgs F).length 0) (tabU botI (dgs F) (runN_ w h F i0), tabU farG (dgs F) (runN_ w h F i0)) (dgs F).length 0 (by omega)
 rw [List.replicate_zero, List.nil_append] at hfill
 refine hfill ?_
 refine Ev.step (f := fun k => _) (fun k => by rw [qI.l0]) ?_
 rw [hPl, Int.toNat_natCast]
 have l0 : (0 : Int) < ((dgs F).length : Int) := Int.ofNat_lt.2 hl1
 have n1 : ¬ ((dgs F).length : Int) < ((dgs F).length : Int) := Int.lt_irrefl _
 refine Ev.neg n1 (Ev.pos (Int.natCast_nonneg _) (Ev.pos (by omega) (Ev.bindc rfl (Ev.bindc rfl (Ev.pos (by rw [List.length_replicate]; exact l0) (Ev.pos (by rw [List.length_replicate]; exact l0) (Ev.pos (by rw [List.length_replicate]; exact l0) ?_)))))))
 have s1 := qNC botI 0 rfl (dgs F) hU 0 hl1 (plainD, 0)
 have s2 := qNC farG (-1) rfl (dgs F) hU 0 hl1 (plainD, 0)
 have s3 : (List.replicate (dgs F).length z31).set 0 (dieG (some (plainD, 0))) = tabU dieG (dgs F) [((dgs F)[0], (plainD, 0))] := by
  have h0 : List.replicate (dgs F).length z31 = tabU dieG (dgs F) [] := by
   unfold tabU
   have : (fun i => dieG (look [] i)) = fun _ => z31 := by funext i; rfl
   rw [this, List.map_const']
  rw [h0, qWB dieG (dgs F) hU [] 0 hl1 (plainD, 0) (by simp), List.nil_append]
 rw [h00] at s1 s2 s3
 have hrun := fold_run w h F hw0 hw hh hF 36 0 _ (OkN.start hi0 plainD) (by omega)
 have e1 : ints (poss F [(i0, (plainD, 0))]) = [0] := by
  show [Int.ofNat (posN F i0)] = _
  rw [hp0]; rfl
 rw [e1] at hrun
 show Ev (fun k => qI.l1 k (pcs w F) [0] 0 ((List.replicate (dgs F).length 0).set 0 (botI (some (plainD, 0)))) ((List.replicate (dgs F).length (-1)).set 0 (farG (some (plainD, 0)))) ((List.replicate (dgs F).length z31).set 0 (dieG (some (plainD, 0))))) _
 rw [s1, s2, s3]
 exact hrun
end
theorem nsRd (l : List Int) (i : Nat) (h : i < l.length) : rd l (i : Int) = l[i] := by
 unfold rd
 rw [Int.toNat_natCast, List.getD_eq_getElem?_getD, List.getElem?_eq_getElem h]; rfl
theorem idxI_loop (l : List Int) (hl : l.length ≤ 100) (x : Int) : ∀ (d q : Nat), q + d = l.length → ∃ r : Int, (0 ≤ r ↔ x ∈ l.drop q) ∧ Ev (fun k => qe.l0 k l x (l.length : Int) (q : Int)) r := by
 intro d
 induction d with
 | zero =>
  intro q hq
  refine ⟨-1, by rw [List.drop_eq_nil_of_le (by omega)]; simp, ?_⟩
  have a1 : ¬ (q : Int) < (l.length : Int) := by omega
  refine Ev.step (f := fun k => _) (fun k => by rw [qe.l0]) ?_
  exact Ev.neg a1 (Ev.now _)
 | succ d ih =>
  intro q hq
  have hql : q < l.length := by omega
  have a1 : (q : Int) < (l.length : Int) := by omega
  have w1 := qkA q (by omega)
  obtain ⟨r, hr, he⟩ := ih (q + 1) (by omega)
  by_cases e : x = l[q]
  ·refine ⟨(q : Int), ⟨fun _ => by rw [List.drop_eq_getElem_cons hql, e]; exact List.mem_cons_self, fun _ => Int.natCast_nonneg _⟩, ?_⟩
   refine Ev.step (f := fun k => _) (fun k => by rw [qe.l0]) ?_
   rw [nsRd l q hql]
   exact Ev.pos a1 (Ev.pos (Int.natCast_nonneg _) (Ev.pos a1 (Ev.pos e (Ev.now _))))
  ·refine ⟨r, by rw [List.drop_eq_getElem_cons hql, List.mem_cons, hr]; simp [e], ?_⟩
   refine Ev.step (f := fun k => _) (fun k => by rw [qe.l0]) ?_
   rw [nsRd l q hql, w1]
   exact Ev.pos a1 (Ev.pos (Int.natCast_nonneg _) (Ev.pos a1 (Ev.neg e he)))
theorem contI_ev (l : List Int) (hl : l.length ≤ 100) (x : Int) : Ev (fun k => qi.f k l x) (decide (x ∈ l)) := by
 obtain ⟨r, hr, he⟩ := idxI_loop l hl x l.length 0 (by omega)
 rw [List.drop_zero] at hr
 unfold qi.f qe.f
 refine Ev.bind he (Ev.some_ ?_)
 exact decide_eq_decide.2 hr
def runOf (a : ByteArray) : List (Nat × Fnd) := runN_ (wideN a) (highN a) (flatN a) ((placesN a).headD 0)
def hangB (a : ByteArray) : Bool := decide (∀ i ∈ placesN a, i ∈ keysN (runOf a))
def sixB (a : ByteArray) : Bool := decide (a.size ≤ 41 ∧ fitN a) && (decide ((placesN a).length = 6) && (decide (wideN a ≤ 6) && (decide (highN a ≤ 6) && (hangB a && (decide (colsFull a) && decide (linesFull a))))))
def farOf (a : ByteArray) : List Int := tabU farG (List.range (flatN a).length) (runOf a)
theorem qHC {a : ByteArray} (h6 : (placesN a).length = 6) : placesN a = (placesN a).headD 0 :: (placesN a).tail := by
 cases h : placesN a with
 | nil => rw [h] at h6; cases h6
 | cons i l => rfl
theorem farOf_neg {a : ByteArray} (hf : fitN a) {i : Nat} (hi : i ∈ placesN a) : rd (farOf a) (i : Int) < 0 ↔ ¬ i ∈ keysN (runOf a) := by
 have hlt : i < (flatN a).length := by rw [qFB hf]; exact qSB hf i hi
 unfold farOf
 rw [rdTab (γ := Unit) farG _ _ i (by rw [List.length_range]; exact hlt), List.getElem_range]
 exact qyB
theorem specFar_ev {a : ByteArray} (hf : fitN a) (h6 : (placesN a).length = 6) (hw : wideN a ≤ 6) (hh : highN a ≤ 6) : Ev (fun k => qV.f k (wideN a : Int) (highN a : Int) (nums (flatN a))) (farOf a) :=
 neFar_ev (wideN a) (highN a) (flatN a) (Nat.pos_of_ne_zero hf.1) hw hh (qFB hf) _ _ (qHC h6)
theorem sixN_is {a : ByteArray} (hf : fitN a) (h41 : a.size ≤ 41) : sixN a (farOf a) = sixB a := by
 have e : decide (∀ i ∈ placesN a, ¬ rd (farOf a) (i : Int) < 0) = hangB a := by
  unfold hangB
  refine decide_eq_decide.2 ⟨fun h i hi => Classical.byContradiction fun hn => h i hi ((farOf_neg hf hi).2 hn), fun h i hi hn => (farOf_neg hf hi).1 hn (h i hi)⟩
 unfold sixN sixB
 rw [e, decide_eq_true (show a.size ≤ 41 ∧ fitN a from ⟨h41, hf⟩), Bool.true_and]
theorem neSix_same {a : ByteArray} (hf : fitN a) (h41 : a.size ≤ 41) : Ev (fun k => qf.f k (wideN a : Int) (highN a : Int) (nums (flatN a))) (sixB a) := by
 rw [← sixN_is hf h41]
 exact neSix_ev a hf h41 (farOf a) (by unfold farOf; rw [qrA, List.length_range]) (fun h6 hw hh => specFar_ev hf h6 hw hh)
def botsOf (a : ByteArray) : List Int := tabU botI (placesN a) (runOf a)
def farsOf (a : ByteArray) : List Int := tabU farG (placesN a) (runOf a)
theorem qxC {a : ByteArray} (hf : fitN a) (h6 : (placesN a).length = 6) (hw : wideN a ≤ 6) (hh : highN a ≤ 6) : Ev (fun k => qI.f k ((placesN a).map (cellAt (wideN a)))) (botsOf a, farsOf a) :=
 fold_ev (wideN a) (highN a) (flatN a) (Nat.pos_of_ne_zero hf.1) hw hh (qFB hf) _ _ (qHC h6)
theorem qfC (a : ByteArray) : (-1 : Int) ∈ farsOf a ↔ ¬ ∀ i ∈ placesN a, i ∈ keysN (runOf a) := by
 unfold farsOf tabU
 rw [List.mem_map]
 constructor
 ·rintro ⟨i, hi, e⟩ h
  have := h i hi
  exact qyB.1 (show farG (look (runOf a) i) < 0 by rw [e]; decide) this
 ·intro h
  refine Classical.byContradiction fun hn => h fun i hi => Classical.byContradiction fun hm => hn ⟨i, hi, ?_⟩
  rw [qTC hm]; rfl
theorem hangs_ev {a : ByteArray} (hf : fitN a) (h6 : (placesN a).length = 6) (hw : wideN a ≤ 6) (hh : highN a ≤ 6) : Ev (fun k => qbA.f k ((placesN a).map (cellAt (wideN a)))) (hangB a) := by
 unfold qbA.f
 refine Ev.bind (qxC hf h6 hw hh) (Ev.bind (contI_ev (farsOf a) (by unfold farsOf; rw [qrA]; omega) (-1)) (Ev.some_ ?_))
 unfold hangB
 by_cases h : ∀ i ∈ placesN a, i ∈ keysN (runOf a)
 ·rw [decide_eq_true h, decide_eq_false (fun hn => (qfC a).1 hn h)]; rfl
 ·rw [decide_eq_false h, decide_eq_true ((qfC a).2 h)]; rfl
theorem implSix_ev (a : ByteArray) (ha : a.size ≤ 1048576) : Ev (fun k => qUB.f k a) (if sixB a = true then ((placesN a).map (cellAt (wideN a)), (placesN a).map (digAt (flatN a)), true) else ([], [], false)) := by
 suffices hs : Ev (fun k => if goodN a ∧ (placesN a).length = 6 ∧ colsFull a then (qbA.f k ((placesN a).map (cellAt (wideN a)))).bind fun t => some (if t = true then ((placesN a).map (cellAt (wideN a)), (placesN a).map (digAt (flatN a)), true) else ([], [], false)) else some ([], [], false)) (if sixB a = true then ((placesN a).map (cellAt (wideN a)), (placesN a).map (digAt (flatN a)), true) else ([], [], false)) from hs.congr (fun k => six_f k a ha)
 by_cases h : goodN a ∧ (placesN a).length = 6 ∧ colsFull a
 ·obtain ⟨hg, h6, hc⟩ := h
  obtain ⟨h41, hf, hw, hh, _, hl⟩ := (good_six a h6).1 ⟨hg, hc⟩
  refine Ev.pos ⟨hg, h6, hc⟩ (Ev.bind (hangs_ev hf h6 hw hh) (Ev.some_ ?_))
  have : sixB a = hangB a := by
   unfold sixB
   rw [decide_eq_true (show a.size ≤ 41 ∧ fitN a from ⟨h41, hf⟩), decide_eq_true h6, decide_eq_true hw, decide_eq_true hh, decide_eq_true hc, decide_eq_true hl]
   simp
  rw [this]
 ·refine Ev.neg h (Ev.some_ ?_)
  have : ¬ sixB a = true := by
   intro hs
   unfold sixB at hs
   simp only [Bool.and_eq_true, decide_eq_true_eq] at hs
   obtain ⟨⟨h41, hf⟩, h6, hw, hh, _, hc, hl⟩ := hs
   obtain ⟨hg, _⟩ := (good_six a h6).2 ⟨h41, hf, hw, hh, hc, hl⟩
   exact h ⟨hg, h6, hc⟩
  rw [if_neg this]
theorem rots_f5 : ∀ p ∈ rots, 0 ≤ p.f5 ∧ p.f5 < 6 := by decide +kernel
theorem rots_rol {p : DD} (h : p ∈ rots) (d : Nat) (hd : d < 4) : rolD p d ∈ rots := by
 have hc := rots_closed p h
 obtain rfl | rfl | rfl | rfl : d = 0 ∨ d = 1 ∨ d = 2 ∨ d = 3 := by omega
 ·exact hc.1
 ·exact hc.2.1
 ·exact hc.2.2.1
 ·exact hc.2.2.2
def DieN (L : List (Nat × Fnd)) : Prop := ∀ e ∈ L, e.2.1 ∈ rots
theorem DieN.new {L : List (Nat × Fnd)} (h : DieN L) {i j at_ : Nat} {v : Fnd} (hat : L[at_]? = some (i, v)) (d : Nat) (hd : d < 4) (q : Nat) : DieN (L ++ [(j, (rolD v.1 d, q))]) := by
 intro e he
 rcases List.mem_append.1 he with he | he
 ·exact h e he
 ·rw [List.mem_singleton] at he
  subst he
  exact rots_rol (h _ (List.mem_of_getElem? hat)) d hd
theorem botG_neg {L : List (Nat × Fnd)} (hD : DieN L) {i : Nat} : botG (look L i) < 0 ↔ ¬ i ∈ keysN L := by
 constructor
 ·intro h hm
  obtain ⟨v, hv, hmem⟩ := qvC hm
  rw [hv] at h
  have h2 : v.1.f5 < 0 := h
  have h3 : 0 ≤ v.1.f5 := (rots_f5 _ (hD _ hmem)).1
  omega
 ·intro h
  rw [qTC h]; decide
section
variable (w h : Nat) (F : List UInt8)
theorem dieN_puts (at_ i : Nat) (v : Fnd) : ∀ (n d : Nat) (L : List (Nat × Fnd)), d + n = 4 → L[at_]? = some (i, v) → DieN L → DieN (Bfs.puts L (stepsN w h F i v n d)) := by
 intro n
 induction n with
 | zero => intro d L _ _ hD; exact hD
 | succ n ih =>
  intro d L hd hat hD
  rw [stepsN, Bfs.puts]
  cases hs : stepG w h F d i with
  | none => exact ih (d + 1) L (by omega) hat hD
  | some j =>
   by_cases hm : j ∈ keysN L
   ·rw [Bfs.qFC hm]; exact ih (d + 1) L (by omega) hat hD
   ·rw [Bfs.qpB hm]
    exact ih (d + 1) _ (by omega) (by rw [List.getElem?_append_left (List.getElem?_eq_some_iff.1 hat).1]; exact hat) (hD.new hat d (by omega) _)
theorem dieN_round {at_ : Nat} {L : List (Nat × Fnd)} (hD : DieN L) : DieN (Bfs.round (nextN w h F) at_ L) := by
 unfold Bfs.round
 cases hx : L[at_]? with
 | none => exact hD
 | some x => exact dieN_puts w h F at_ x.1 x.2 4 0 L rfl hx hD
theorem dieN_run : ∀ (n at_ : Nat) (L : List (Nat × Fnd)), DieN L → DieN (Bfs.run (nextN w h F) n at_ L)
 | 0, _, L, hD => hD
 | n + 1, at_, L, hD => by
  rw [Bfs.run]
  split
  ·exact dieN_run n (at_ + 1) _ (dieN_round w h F hD)
  ·exact hD
theorem dieN_runN (i0 : Nat) : DieN (runN_ w h F i0) := dieN_run w h F 36 0 _ (fun e he => by rw [List.mem_singleton] at he; subst he; exact qvB)
theorem bot_steps (hw0 : 0 < w) (hw : w ≤ 6) (hh : h ≤ 6) (hF : F.length = w * h) (X33 : List Int) (R : List Int × Bool) (at_ : Nat) (i : Nat) (v : Fnd) : ∀ (n d : Nat) (L : List (Nat × Fnd)), d + n = 4 → L[at_]? = some (i, v) → OkN (idxFrom 0 F) L → DieN L →
  Ev (fun k => qK.l1 k (ints (keysN (Bfs.puts L (stepsN w h F i v n d)))) ((at_ + 1 : Nat) : Int) (tabU botG (List.range F.length) (Bfs.puts L (stepsN w h F i v n d))) (tabU dieG (List.range F.length) (Bfs.puts L (stepsN w h F i v n d))) X33 (w : Int) (h : Int) (nums F)) R →
  Ev (fun k => qK.l2 k (ints (keysN L)) (at_ : Int) (d : Int) (tabU botG (List.range F.length) L) (tabU dieG (List.range F.length) L) X33 (w : Int) (h : Int) (nums F)) R := by
 have h36 : F.length ≤ 36 := hF ▸ (Nat.mul_le_mul hw hh : w * h ≤ 6 * 6)
 have hDl := qCB F 0
 intro n
 induction n with
 | zero =>
  intro d L hd hat hok hdn hR
  have hal := (List.getElem?_eq_some_iff.1 hat).1
  have hlen := hok.len
  have w1 := qkA at_ (by omega)
  have a1 : ¬ (d : Int) < 4 := by omega
  refine Ev.step (f := fun k => _) (fun k => by rw [qK.l2]) ?_
  rw [w1]
  exact Ev.neg a1 hR
 | succ n ih =>
  intro d L hd hat hok hdn hR
  have hal := (List.getElem?_eq_some_iff.1 hat).1
  have hlen := hok.len
  have hd4 : d < 4 := by omega
  have hd5 : d + 1 + n = 4 := by omega
  have hLs : L.length ≤ 36 := Nat.le_trans hlen (Nat.le_trans hDl h36)
  have w1 := qkA d (Nat.lt_trans hd4 (by decide))
  have a1 : (d : Int) < 4 := Int.ofNat_lt.2 hd4
  have hkl : at_ < (keysN L).length := by rw [List.length_map]; exact hal
  have a3 : (at_ : Int) < ((ints (keysN L)).length : Int) := by rw [qlA]; exact Int.ofNat_lt.2 hkl
  have hr : rd (ints (keysN L)) (at_ : Int) = (i : Int) := by rw [rdInts _ _ hkl, keys_get hat hkl]
  have hiD : i ∈ idxFrom 0 F := hok.mem _ (List.mem_of_getElem? hat)
  have hiF : i < F.length := by
   obtain ⟨_, c, hc, _⟩ := (qeA F 0 i).1 hiD
   have := (List.getElem?_eq_some_iff.1 hc).1
   rwa [Nat.sub_zero] at this
  have hstep := neStep_is w h hw0 hw hh F hF i d (hF ▸ hiF) hd4
  have hro := specRoll_is v.1 d hd4
  have t1 : (tabU botG (List.range F.length) L).length = F.length := by rw [qrA, List.length_range]
  have t2 : (tabU dieG (List.range F.length) L).length = F.length := by rw [qrA, List.length_range]
  have hlk := qLD hok.nodup hat
  have hq : (ints (keysN L)).length < 17592186044416 := by rw [qlA, List.length_map]; exact Nat.lt_of_le_of_lt hLs (by decide)
  rw [stepsN, Bfs.puts] at hR
  refine Ev.step (f := fun k => _) (fun k => by rw [qK.l2]) ?_
  rw [w1]
  refine Ev.pos a1 (Ev.pos (Int.natCast_nonneg _) (Ev.pos a3 ?_))
  rw [hr]
  refine Ev.bindc hstep ?_
  cases hs : stepG w h F d i with
  | none =>
   rw [hs] at hR
   exact Ev.neg (by decide) (ih (d + 1) L hd5 hat hok hdn hR)
  | some j =>
   obtain ⟨hjD, _⟩ := qaB hF hw0 hs
   have hjF : j < F.length := by
    obtain ⟨_, c, hc, _⟩ := (qeA F 0 j).1 hjD
    have := (List.getElem?_eq_some_iff.1 hc).1
    rwa [Nat.sub_zero] at this
   have hjr : j < (List.range F.length).length := by rw [List.length_range]; exact hjF
   have hir : i < (List.range F.length).length := by rw [List.length_range]; exact hiF
   have hrj : rd (tabU botG (List.range F.length) L) (j : Int) = botG (look L j) := by rw [rdTab (γ := Unit) botG _ L j hjr, List.getElem_range]
   have hrd : qP (tabU dieG (List.range F.length) L) (i : Int) = v.1 := by rw [rdTabD _ L i hir, List.getElem_range, hlk]; rfl
   have b1 : (j : Int) < ((tabU botG (List.range F.length) L).length : Int) := by rw [t1]; exact Int.ofNat_lt.2 hjF
   have b2 : (i : Int) < ((tabU dieG (List.range F.length) L).length : Int) := by rw [t2]; exact Int.ofNat_lt.2 hiF
   have b3 : (j : Int) < ((tabU dieG (List.range F.length) L).length : Int) := by rw [t2]; exact Int.ofNat_lt.2 hjF
   refine Ev.pos (show (optI (fun j => (j : Int)) (some j)) ≥ 0 from Int.natCast_nonneg _) (Ev.pos (Int.natCast_nonneg _) (Ev.pos b1 ?_))
   show Ev (fun k => if rd (tabU botG (List.range F.length) L) (j : Int) < 0 then _ else _) R
   rw [hrj]
   rw [hs] at hR
   by_cases hm : j ∈ keysN L
   ·rw [Bfs.qFC hm] at hR
    exact Ev.neg (fun hn => ((botG_neg hdn).1 hn) hm) (ih (d + 1) L hd5 hat hok hdn hR)
   ·rw [Bfs.qpB hm] at hR
    have hmn : ¬ (List.range F.length)[j] ∈ keysN L := by rw [List.getElem_range]; exact hm
    have s1 := qWB botG (List.range F.length) List.nodup_range L j hjr (rolD v.1 d, v.2 + 1) hmn
    have s2 := qWB dieG (List.range F.length) List.nodup_range L j hjr (rolD v.1 d, v.2 + 1) hmn
    rw [List.getElem_range] at s1 s2
    refine Ev.pos ((botG_neg hdn).2 hm) (Ev.pos (Int.natCast_nonneg _) (Ev.pos b2 ?_))
    rw [hrd]
    refine Ev.bindc hro (Ev.pos b3 ?_)
    show Ev (fun k => (some ((tabU dieG (List.range F.length) L).set ((j : Int)).toNat (dieG (some (rolD v.1 d, v.2 + 1)))) : Option (List DD)).bind _) R
    rw [Int.toNat_natCast, s2]
    refine Ev.bindc rfl (Ev.pos hq ?_)
    have hrb : qP (tabU dieG (List.range F.length) (L ++ [(j, (rolD v.1 d, v.2 + 1))])) (j : Int) = rolD v.1 d := by rw [rdTabD _ _ j hjr, List.getElem_range, look_add L j _ hm, if_pos rfl]; rfl
    show Ev (fun k => qK.l2 k (ints (keysN L) ++ [(j : Int)]) (at_ : Int) ((d + 1 : Nat) : Int) ((tabU botG (List.range F.length) L).set j ((qP (tabU dieG (List.range F.length) (L ++ [(j, (rolD v.1 d, v.2 + 1))])) (j : Int)).f5)) (tabU dieG (List.range F.length) (L ++ [(j, (rolD v.1 d, v.2 + 1))])) X33 (w : Int) (h : Int) (nums F)) R
    rw [hrb, show (rolD v.1 d).f5 = botG (some (rolD v.1 d, v.2 + 1)) from rfl, s1, qJC, ← keys_append L j (rolD v.1 d, v.2 + 1)]
    exact ih (d + 1) _ hd5 (by rw [List.getElem?_append_left hal]; exact hat) (hok.new hat hjD hm _) (hdn.new hat d hd4 _) hR
end
theorem bit_of : ∀ m : Nat, m < 64 → ∀ b : Nat, b < 6 → (Int.tmod (shr .i64 (m : Int) (b : Int)) 2 = 1 ↔ m.testBit b = true) := by decide +kernel
def botOk (bn : Nat → Nat) : Nat → List Nat → Bool
 | _, [] => true
 | m, i :: l => if m.testBit (bn i) = true then false else botOk bn (mkM m (bn i)) l
theorem botOk_iff (bn : Nat → Nat) : ∀ (l : List Nat) (m : Nat), m < 64 → (∀ i ∈ l, bn i < 6) → (botOk bn m l = true ↔ (l.map bn).Nodup ∧ ∀ i ∈ l, m.testBit (bn i) = false)
 | [], m, _, _ => by simp [botOk]
 | i :: l, m, hm, hl => by
  have h1 := hl i List.mem_cons_self
  have hl' := fun q hq => hl q (List.mem_cons_of_mem _ hq)
  have ih := botOk_iff bn l (mkM m (bn i)) (qqB m hm _ h1).2 hl'
  rw [botOk]
  by_cases hb : m.testBit (bn i) = true
  ·rw [if_pos hb]
   constructor
   ·intro h; cases h
   ·rintro ⟨_, h⟩
    rw [h i List.mem_cons_self] at hb; cases hb
  ·rw [if_neg hb, ih, List.map_cons, List.nodup_cons]
   constructor
   ·rintro ⟨h2, h3⟩
    refine ⟨⟨fun hmem => ?_, h2⟩, fun q hq => ?_⟩
    ·obtain ⟨q, hq, e⟩ := List.mem_map.1 hmem
     have := h3 q hq
     rw [qFD m hm _ h1 _ (hl' q hq), e] at this
     simp at this
    ·rcases List.mem_cons.1 hq with rfl | hq
     ·exact Bool.eq_false_iff.2 hb
     ·have := h3 q hq
      rw [qFD m hm _ h1 _ (hl' q hq)] at this
      exact (Bool.or_eq_false_iff.1 this).1
   ·rintro ⟨⟨h2, h3⟩, h4⟩
    refine ⟨h3, fun q hq => ?_⟩
    rw [qFD m hm _ h1 _ (hl' q hq), h4 q (List.mem_cons_of_mem _ hq), Bool.false_or, decide_eq_false_iff_not]
    intro e
    exact h2 (List.mem_map.2 ⟨q, hq, e.symm⟩)
theorem bot_l3 (X : List Int) (bn : Nat → Nat) (D : List Nat) (hDl : D.length ≤ 100) (hX : ∀ i ∈ D, i < X.length ∧ rd X (i : Int) = (bn i : Int) ∧ bn i < 6) : ∀ (l : List Nat) (j m : Nat), D.drop j = l → m < 64 →
  Ev (fun k => qK.l3 k (m : Int) X (ints D) (D.length : Int) (j : Int)) (X, botOk bn m l) := by
 intro l
 induction l with
 | nil =>
  intro j m hd hm
  have hn : D.length ≤ j := by
   rcases Nat.lt_or_ge j D.length with h | h
   ·rw [List.drop_eq_getElem_cons h] at hd; cases hd
   ·exact h
  refine Ev.step (f := fun k => _) (fun k => by rw [qK.l3]) ?_
  exact Ev.neg (qSC hn) (Ev.now _)
 | cons i l ih =>
  intro j m hd hm
  have hlt : j < D.length := by
   rcases Nat.lt_or_ge j D.length with h | h
   ·exact h
   ·rw [List.drop_eq_nil_of_le h] at hd; cases hd
  rw [List.drop_eq_getElem_cons hlt] at hd
  obtain ⟨hi, hd'⟩ := List.cons.inj hd
  obtain ⟨x1, x2, x3⟩ := hX i (hi ▸ List.getElem_mem hlt)
  have hr : rd (ints D) (j : Int) = (i : Int) := by rw [rdInts D j hlt, hi]
  have w1 := qkA j (Nat.lt_of_lt_of_le hlt (Nat.le_trans hDl (by decide)))
  have a1 : (j : Int) < (D.length : Int) := Int.ofNat_lt.2 hlt
  have a3 : (j : Int) < ((ints D).length : Int) := by rw [qlA]; exact a1
  have a5 : (i : Int) < (X.length : Int) := Int.ofNat_lt.2 x1
  have hb := bit_of m hm (bn i) x3
  have ho := qqB m hm (bn i) x3
  refine Ev.step (f := fun k => _) (fun k => by rw [qK.l3]) ?_
  refine Ev.pos a1 (Ev.pos (Int.natCast_nonneg _) (Ev.pos a3 ?_))
  rw [hr]
  refine Ev.pos (Int.natCast_nonneg _) (Ev.pos a5 ?_)
  rw [x2, botOk]
  refine Ev.pos (Int.natCast_nonneg _) ?_
  by_cases ht : m.testBit (bn i) = true
  ·rw [if_pos ht]
   exact Ev.pos (hb.2 ht) (Ev.now _)
  ·rw [if_neg ht, ho.1, w1]
   exact Ev.neg (fun e => ht (hb.1 e)) (ih (j + 1) _ hd' ho.2)
end Go.Proofs.YtdncpkppkafkpaaDoor
namespace Go.Proofs.YtdncpkppkafkpaaDoor
open Go.RowKit Go.Proofs.YtdncpkppkafkpaaDoor.P Go.Proofs.YtdncpkppkafkpaaDoorW.PrintWords Go.Proofs.YtdncpkppkafkpaaDoorW.PrintLast
open Go.Lib (keeps compactUpTo)
set_option linter.unusedVariables false
set_option linter.unusedSimpArgs false
theorem kinds_nodup (l : List Int) : kinds l = l.length ↔ l.Nodup := by
 unfold kinds
 have hp := List.mergeSort_perm l (fun x y => decide (x ≤ y))
 have hs : (l.mergeSort fun x y => decide (x ≤ y)).Pairwise (fun a b => a ≤ b) := by
  have := List.pairwise_mergeSort (le := fun x y : Int => decide (x ≤ y)) (fun a b c h1 h2 => by simp only [decide_eq_true_eq] at *; omega) (fun a b => by simp only [Bool.or_eq_true, decide_eq_true_eq]; omega) l
  exact this.imp (fun h => of_decide_eq_true h)
 rw [← hp.nodup_iff, ← hp.length_eq]
 generalize (l.mergeSort fun x y => decide (x ≤ y)) = s at hs
 clear hp
 have hl : (Lib.compact s).length = ((List.range s.length).filter (keeps s.toArray)).length := by unfold Lib.compact compactUpTo; rw [List.length_map]
 have hr : (List.range s.length).length = s.length := List.length_range
 rw [hl]
 have hk : ∀ (j : Nat) (hj : j + 1 < s.length), keeps s.toArray (j + 1) = true ↔ s[j + 1] ≠ s[j] := by
  intro j hj
  unfold keeps
  have h1 : s.toArray[j + 1]! = s[j + 1] := by simp [hj]
  have h2 : s.toArray[j + 1 - 1]! = s[j] := by simp [show j < s.length by omega]
  rw [h1, h2]
  simp
 constructor
 ·intro h
  have hall : ∀ j ∈ List.range s.length, keeps s.toArray j = true := List.length_filter_eq_length_iff.1 (h.trans hr.symm)
  rw [List.nodup_iff_pairwise_ne]
  rw [List.pairwise_iff_getElem]
  intro i j hi hj hij
  have hj1 : j - 1 + 1 < s.length := by omega
  have hne := (hk (j - 1) hj1).1 (hall _ (List.mem_range.2 hj1))
  have e : j - 1 + 1 = j := by omega
  have hle : s[i] ≤ s[j - 1] := by
   rcases Nat.lt_or_ge i (j - 1) with h3 | h3
   ·exact (List.pairwise_iff_getElem.1 hs) i (j - 1) hi (by omega) h3
   ·have : i = j - 1 := by omega
    subst this; exact Int.le_refl _
  have hle2 : s[j - 1] ≤ s[j] := (List.pairwise_iff_getElem.1 hs) (j - 1) j (by omega) hj (by omega)
  have hne2 : s[j] ≠ s[j - 1] := by
   have : s[j - 1 + 1] = s[j] := by congr 1
   rw [this] at hne; exact hne
  omega
 ·intro h
  rw [List.nodup_iff_pairwise_ne, List.pairwise_iff_getElem] at h
  have this : ((List.range s.length).filter (keeps s.toArray)).length = (List.range s.length).length := List.length_filter_eq_length_iff.2 (fun j hj => by
   have hj2 := List.mem_range.1 hj
   cases j with
   | zero => simp [keeps]
   | succ j => exact (hk j hj2).2 (fun e => h j (j + 1) (by omega) hj2 (by omega) e.symm))
  rw [this, hr]
theorem bot_run (w h : Nat) (F : List UInt8) (hw0 : 0 < w) (hw : w ≤ 6) (hh : h ≤ 6) (hF : F.length = w * h) (X33 : List Int) (R : List Int × Bool) (hend : ∀ L : List (Nat × Fnd), L = Bfs.run (nextN w h F) 36 0 [((idxFrom 0 F).headD 0, (plainD, 0))] → Ev (fun k => qK.l3 k 0 (tabU botG (List.range F.length) L) X33 (X33.length : Int) 0) R) :
  ∀ (n at_ : Nat) (L : List (Nat × Fnd)), OkN (idxFrom 0 F) L → DieN L → (idxFrom 0 F).length ≤ at_ + n → Bfs.run (nextN w h F) n at_ L = Bfs.run (nextN w h F) 36 0 [((idxFrom 0 F).headD 0, (plainD, 0))] →
  Ev (fun k => qK.l1 k (ints (keysN L)) (at_ : Int) (tabU botG (List.range F.length) L) (tabU dieG (List.range F.length) L) X33 (w : Int) (h : Int) (nums F)) R := by
 have hkl : ∀ L : List (Nat × Fnd), (ints (keysN L)).length = L.length := fun L => by rw [qlA, List.length_map]
 intro n
 induction n with
 | zero =>
  intro at_ L hok hdn hn he
  have hl := hok.len
  have a1 : ¬ (at_ : Int) < ((ints (keysN L)).length : Int) := by rw [hkl]; omega
  refine Ev.step (f := fun k => _) (fun k => by rw [qK.l1]) ?_
  exact Ev.neg a1 (hend L he)
 | succ n ih =>
  intro at_ L hok hdn hn he
  have hl := hok.len
  refine Ev.step (f := fun k => _) (fun k => by rw [qK.l1]) ?_
  by_cases hat : at_ < L.length
  ·have hx : L[at_]? = some L[at_] := List.getElem?_eq_getElem hat
   rw [Bfs.run, if_pos hat] at he
   have hro : Bfs.round (nextN w h F) at_ L = Bfs.puts L (stepsN w h F L[at_].1 L[at_].2 4 0) := by unfold Bfs.round; rw [hx]; rfl
   have := ih (at_ + 1) (Bfs.round (nextN w h F) at_ L) (quC w h F hw0 hF hok) (dieN_round w h F hdn) (by omega) he
   have a1 : (at_ : Int) < ((ints (keysN L)).length : Int) := by rw [hkl]; omega
   refine Ev.pos a1 ?_
   refine bot_steps w h F hw0 hw hh hF X33 _ at_ L[at_].1 L[at_].2 4 0 L rfl hx hok hdn ?_
   rw [← hro]
   exact this
  ·have a1 : ¬ (at_ : Int) < ((ints (keysN L)).length : Int) := by rw [hkl]; omega
   rw [Bfs.run, if_neg hat] at he
   exact Ev.neg a1 (hend L he)
theorem bot_fill (w h : Nat) (F : List UInt8) (N : Nat) (hN : N ≤ 36) (Y : List DD) (R : List Int × Bool) : ∀ (d i : Nat), i + d = N →
  (Ev (fun k => qK.l0 k (List.replicate N (-1)) Y (N : Int) (N : Int) (w : Int) (h : Int) (nums F)) R) →
  Ev (fun k => qK.l0 k (List.replicate i (-1) ++ List.replicate d 0) Y (N : Int) (i : Int) (w : Int) (h : Int) (nums F)) R
 | 0, i, hd, hR => by
  obtain rfl : i = N := by omega
  rw [List.replicate_zero, List.append_nil]; exact hR
 | d + 1, i, hd, hR => by
  have ih := bot_fill w h F N hN Y R d (i + 1) (by omega) hR
  have w1 := qkA i (by omega)
  have e : (List.replicate i (-1 : Int) ++ List.replicate (d + 1) (0 : Int)).set i (-1) = List.replicate (i + 1) (-1 : Int) ++ List.replicate d (0 : Int) := by
   rw [List.set_append_right _ _ (by rw [List.length_replicate]; exact Nat.le_refl _), List.length_replicate, Nat.sub_self, List.replicate_succ, List.set_cons_zero, List.replicate_succ', List.append_assoc]; rfl
  refine Ev.step (f := fun k => _) (fun k => by rw [qK.l0]) ?_
  refine Ev.pos (by omega) (Ev.pos (by omega) (Ev.pos (by simp; omega) ?_))
  rw [w1, Int.toNat_natCast, e]
  exact ih
def botAt (a : ByteArray) (i : Nat) : Nat := (botI (look (runOf a) i)).toNat
def specBots (a : ByteArray) : List Int := tabU botG (List.range (flatN a).length) (runOf a)
theorem qoC {a : ByteArray} (hang : hangB a = true) {i : Nat} (hi : i ∈ placesN a) : ∃ v, look (runOf a) i = some v ∧ v.1.f5 = (botAt a i : Int) ∧ botAt a i < 6 := by
 have hm := of_decide_eq_true hang i hi
 obtain ⟨v, hv, hmem⟩ := qvC hm
 have hd : 0 ≤ v.1.f5 ∧ v.1.f5 < 6 := rots_f5 _ (dieN_runN _ _ _ _ _ hmem)
 refine ⟨v, hv, ?_, ?_⟩
 ·unfold botAt; rw [hv]; show v.1.f5 = ((v.1.f5).toNat : Int); omega
 ·unfold botAt; rw [hv]; show (v.1.f5).toNat < 6; omega
def netB (a : ByteArray) : Bool := sixB a && decide ((placesN a).map (botAt a)).Nodup
theorem neBottoms_ev {a : ByteArray} (hf : fitN a) (h6 : (placesN a).length = 6) (hw : wideN a ≤ 6) (hh : highN a ≤ 6) (hang : hangB a = true) :
  Ev (fun k => qK.f k (wideN a : Int) (highN a : Int) (nums (flatN a))) (specBots a, decide ((placesN a).map (botAt a)).Nodup) := by
 have hw0 := Nat.pos_of_ne_zero hf.1
 have hF := qFB hf
 have h36 : (flatN a).length ≤ 36 := hF ▸ (Nat.mul_le_mul hw hh : wideN a * highN a ≤ 6 * 6)
 have hDl : (placesN a).length ≤ (flatN a).length := qCB _ 0
 have hDl2 : (idxFrom 0 (flatN a)).length ≤ (flatN a).length := qCB _ 0
 have hn : (nums (flatN a)).length = (flatN a).length := List.length_map _
 have hcons := qHC h6
 obtain ⟨i0, hi0⟩ : ∃ i0, (placesN a).headD 0 = i0 := ⟨_, rfl⟩
 rw [hi0] at hcons
 have hi0m : i0 ∈ placesN a := by rw [hcons]; exact List.mem_cons_self
 have hiF : i0 < (flatN a).length := by rw [hF]; exact qSB hf i0 hi0m
 have hrun : runOf a = Bfs.run (nextN (wideN a) (highN a) (flatN a)) 36 0 [((idxFrom 0 (flatN a)).headD 0, (plainD, 0))] := rfl
 unfold qK.f
 rw [hn]
 refine Ev.pos (Int.natCast_nonneg _) (Ev.pos (by rw [Int.toNat_natCast]; omega) (Ev.bindc rfl (Ev.pos (by rw [Int.toNat_natCast]; omega) ?_)))
 rw [Int.toNat_natCast, List.length_replicate]
 have hfill := bot_fill (wideN a) (highN a) (flatN a) (flatN a).length h36 (List.replicate (flatN a).length z31) (specBots a, decide ((placesN a).map (botAt a)).Nodup) (flatN a).length 0 (by omega)
 rw [List.replicate_zero, List.nil_append] at hfill
 refine hfill ?_
 refine Ev.step (f := fun k => _) (fun k => by rw [qK.l0]) ?_
 have n1 : ¬ ((flatN a).length : Int) < ((flatN a).length : Int) := Int.lt_irrefl _
 refine Ev.neg n1 (Ev.bind (qjB _ _ (flatN a) (by omega)) ?_)
 have e0 : rd (ints (idxFrom 0 (flatN a))) 0 = (i0 : Int) := by
  show rd (ints (placesN a)) 0 = _
  rw [hcons]; rfl
 have e1 : (ints (idxFrom 0 (flatN a))).length = 6 := by rw [qlA]; exact h6
 rw [e0]
 have b1 : (i0 : Int) < ((List.replicate (flatN a).length z31).length : Int) := by rw [List.length_replicate]; exact Int.ofNat_lt.2 hiF
 have b2 : (i0 : Int) < ((List.replicate (flatN a).length (-1 : Int)).length : Int) := by rw [List.length_replicate]; exact Int.ofNat_lt.2 hiF
 refine Ev.pos (by rw [e1]; decide) (Ev.bindc (show qRB.f = some (0, 1, 2, 3, 4, 5) by decide +kernel) (Ev.pos (Int.natCast_nonneg _) (Ev.pos b1 (Ev.pos b2 ?_))))
 have s1 := qNC botG (-1) rfl (List.range (flatN a).length) List.nodup_range i0 (by rw [List.length_range]; exact hiF) (plainD, 0)
 have s2 : (List.replicate (flatN a).length z31).set i0 (dieG (some (plainD, 0))) = tabU dieG (List.range (flatN a).length) [(i0, (plainD, 0))] := by
  have h0 : List.replicate (flatN a).length z31 = tabU dieG (List.range (flatN a).length) [] := by
   unfold tabU
   have : (fun i => dieG (look [] i)) = fun _ => z31 := by funext i; rfl
   rw [this, List.map_const', List.length_range]
  have hs := qWB dieG (List.range (flatN a).length) List.nodup_range [] i0 (by rw [List.length_range]; exact hiF) (plainD, 0) (by simp)
  simp only [List.getElem_range] at hs
  rw [h0, hs, List.nil_append]
 simp only [List.length_range, List.getElem_range] at s1
 show Ev (fun k => qK.l1 k [(i0 : Int)] 0 ((List.replicate (flatN a).length (-1)).set ((i0 : Int)).toNat (botG (some (plainD, 0)))) ((List.replicate (flatN a).length z31).set ((i0 : Int)).toNat (dieG (some (plainD, 0)))) (ints (idxFrom 0 (flatN a))) (wideN a : Int) (highN a : Int) (nums (flatN a))) _
 rw [Int.toNat_natCast, s1, s2]
 have hst : [(i0, (plainD, 0))] = [((idxFrom 0 (flatN a)).headD 0, ((plainD, 0) : Fnd))] := by
  have : (idxFrom 0 (flatN a)).headD 0 = i0 := hi0
  rw [this]
 refine bot_run (wideN a) (highN a) (flatN a) hw0 hw hh hF _ _ (fun L hL => ?_) 36 0 [(i0, (plainD, 0))] (OkN.start hi0m plainD) (fun e he => by rw [List.mem_singleton] at he; subst he; exact qvB) (by omega) (by rw [hst])
 rw [← hrun] at hL
 subst hL
 have hX : ∀ i ∈ placesN a, i < (specBots a).length ∧ rd (specBots a) (i : Int) = (botAt a i : Int) ∧ botAt a i < 6 := by
  intro i hi
  have hil : i < (flatN a).length := by rw [hF]; exact qSB hf i hi
  obtain ⟨v, hv, e, hlt⟩ := qoC hang hi
  refine ⟨by unfold specBots; rw [qrA, List.length_range]; exact hil, ?_, hlt⟩
  unfold specBots
  rw [rdTab (γ := Unit) botG _ _ i (by rw [List.length_range]; exact hil), List.getElem_range, hv]
  exact e
 have hl3 := bot_l3 (specBots a) (botAt a) (placesN a) (by omega) hX (placesN a) 0 0 List.drop_zero (by decide)
 have hok : botOk (botAt a) 0 (placesN a) = decide ((placesN a).map (botAt a)).Nodup := by
  have := botOk_iff (botAt a) (placesN a) 0 (by decide) (fun i hi => (hX i hi).2.2)
  by_cases hnd : ((placesN a).map (botAt a)).Nodup
  ·rw [decide_eq_true hnd]; exact this.2 ⟨hnd, fun i _ => Nat.zero_testBit _⟩
  ·rw [decide_eq_false hnd, Bool.eq_false_iff]; exact fun h => hnd (this.1 h).1
 rw [hok] at hl3
 have e2 : ((ints (idxFrom 0 (flatN a))).length : Int) = ((placesN a).length : Int) := by rw [qlA]; rfl
 rw [e2]
 exact hl3
theorem neNet_ev (a : ByteArray) : ∃ r : Int × Int × List Int × List Int × Bool, Ev (fun k => qsA.f k a) r ∧ r.2.2.2.2 = netB a ∧ (netB a = true → r = ((wideN a : Int), (highN a : Int), nums (flatN a), specBots a, true)) := by
 unfold qsA.f
 by_cases h : a.size ≤ 41 ∧ fitN a
 ·have h1 := neRead_ev a
  rw [if_pos h] at h1
  have h2 := neSix_same h.2 h.1
  cases hs : sixB a with
  | true =>
   rw [hs] at h2
   have hs' := hs
   unfold sixB at hs'
   simp only [Bool.and_eq_true, decide_eq_true_eq] at hs'
   obtain ⟨_, h6, hw, hh, hang, _, _⟩ := hs'
   have h3 := neBottoms_ev h.2 h6 hw hh hang
   refine ⟨_, Ev.bind h1 (Ev.pos rfl (Ev.bind h2 (Ev.pos rfl (Ev.bind h3 (Ev.now _))))), ?_, ?_⟩
   ·unfold netB; rw [hs, Bool.true_and]
   ·intro hn
    unfold netB at hn
    rw [hs, Bool.true_and] at hn
    rw [hn]
  | false =>
   rw [hs] at h2
   refine ⟨_, Ev.bind h1 (Ev.pos rfl (Ev.bind h2 (Ev.neg (by decide) (Ev.now _)))), ?_, ?_⟩
   ·unfold netB; rw [hs]; rfl
   ·intro hn; unfold netB at hn; rw [hs] at hn; cases hn
 ·have h1 := neRead_ev a
  rw [if_neg h] at h1
  have hs : sixB a = false := by unfold sixB; rw [decide_eq_false h, Bool.false_and]
  refine ⟨_, Ev.bind h1 (Ev.neg (by decide) (Ev.now _)), ?_, ?_⟩
  ·unfold netB; rw [hs]; rfl
  ·intro hn; unfold netB at hn; rw [hs] at hn; cases hn
structure IsNetN (a : ByteArray) : Prop where
 size : a.size ≤ 41
 fit : fitN a
 six : (placesN a).length = 6
 wide : wideN a ≤ 6
 high : highN a ≤ 6
 hang : hangB a = true
 cols : colsFull a
 lines : linesFull a
 nodup : ((placesN a).map (botAt a)).Nodup
theorem qKD {a : ByteArray} (h : netB a = true) : IsNetN a := by
 unfold netB sixB at h
 simp only [Bool.and_eq_true, decide_eq_true_eq] at h
 obtain ⟨⟨⟨h1, h2⟩, h3, h4, h5, h6, h7, h8⟩, h9⟩ := h
 exact ⟨h1, h2, h3, h4, h5, h6, h7, h8, h9⟩
theorem implNet_ev (a : ByteArray) (ha : a.size ≤ 1048576) : ∃ r : List CC × List Int × Bool, Ev (fun k => qdB.f k a) r ∧ r.2.2 = netB a ∧ (netB a = true → r = ((placesN a).map (cellAt (wideN a)), (placesN a).map (digAt (flatN a)), true)) := by
 have h1 := implSix_ev a ha
 unfold qdB.f
 cases hs : sixB a with
 | true =>
  rw [hs, if_pos rfl] at h1
  have hs' := hs
  unfold sixB at hs'
  simp only [Bool.and_eq_true, decide_eq_true_eq] at hs'
  obtain ⟨⟨_, hf⟩, h6, hw, hh, hang, _, _⟩ := hs'
  have hfo := qxC hf h6 hw hh
  have hbl : (botsOf a).length = 6 := by unfold botsOf; rw [qrA]; exact h6
  have hfold : Ev (fun k => qSA.f k ((placesN a).map (cellAt (wideN a)))) (decide ((placesN a).map (botAt a)).Nodup) := by
   unfold qSA.f
   refine Ev.bind hfo (Ev.bind (contI_ev (farsOf a) (by unfold farsOf; rw [qrA]; omega) (-1)) ?_)
   rw [decide_eq_false (fun hn => (qfC a).1 hn (of_decide_eq_true hang))]
   refine Ev.neg (by decide) (Ev.pos (by rw [hbl]; decide) (Ev.some_ ?_))
   refine decide_eq_decide.2 ?_
   have hk := kinds_nodup (botsOf a)
   rw [hbl] at hk
   rw [hk]
   have e : botsOf a = ((placesN a).map (botAt a)).map (fun (n : Nat) => (n : Int)) := by
    unfold botsOf tabU
    rw [List.map_map]
    refine List.map_congr_left fun i hi => ?_
    obtain ⟨v, hv, e, _⟩ := qoC hang hi
    rw [hv]
    exact e
   rw [e]
   constructor
   ·intro h; exact (List.nodup_iff_pairwise_ne.2 ((List.pairwise_map.1 (List.nodup_iff_pairwise_ne.1 h)).imp (fun h e => h (by rw [e]))))
   ·intro h; exact (List.nodup_iff_pairwise_ne.2 (List.pairwise_map.2 ((List.nodup_iff_pairwise_ne.1 h).imp (fun h e => h (Int.ofNat.inj e)))))
  refine ⟨_, Ev.bind h1 (Ev.pos rfl (Ev.bind hfold (Ev.now _))), ?_, ?_⟩
  ·unfold netB; rw [hs, Bool.true_and]
  ·intro hn
   unfold netB at hn
   rw [hs, Bool.true_and] at hn
   rw [hn]
 | false =>
  rw [hs, if_neg (by decide)] at h1
  refine ⟨_, Ev.bind h1 (Ev.neg (by decide) (Ev.now _)), ?_, ?_⟩
  ·unfold netB; rw [hs]; rfl
  ·intro hn; unfold netB at hn; rw [hs] at hn; cases hn
theorem specBots_is {a : ByteArray} (hn : IsNetN a) : ∀ i ∈ placesN a, i < (specBots a).length ∧ rd (specBots a) (i : Int) = (botAt a i : Int) ∧ botAt a i < 6 := by
 intro i hi
 have hil : i < (flatN a).length := by rw [qFB hn.fit]; exact qSB hn.fit i hi
 obtain ⟨v, hv, e, hlt⟩ := qoC hn.hang hi
 refine ⟨by unfold specBots; rw [qrA, List.length_range]; exact hil, ?_, hlt⟩
 unfold specBots
 rw [rdTab (γ := Unit) botG _ _ i (by rw [List.length_range]; exact hil), List.getElem_range, hv]
 exact e
theorem botsOf_is {a : ByteArray} (hn : IsNetN a) : botsOf a = (placesN a).map fun i => (botAt a i : Int) := by
 unfold botsOf tabU
 refine List.map_congr_left fun i hi => ?_
 obtain ⟨v, hv, e, _⟩ := qoC hn.hang hi
 rw [hv]
 exact e
end Go.Proofs.YtdncpkppkafkpaaDoor
namespace Go.Proofs.YtdncpkppkafkpaaDoor
open Go.RowKit Go.Proofs.YtdncpkppkafkpaaDoor.P Go.Proofs.YtdncpkppkafkpaaDoorW.PrintWords Go.Proofs.YtdncpkppkafkpaaDoorW.PrintLast
set_option linter.unusedVariables false
set_option linter.unusedSimpArgs false
def facesN (bn : Nat → Nat) (dg : Nat → Int) (l : List Nat) (acc : List Int) : List Int := l.foldl (fun acc i => acc.set (bn i) (dg i)) acc
def dieL (l : List Int) : DD := ⟨rd l 0, rd l 1, rd l 2, rd l 3, rd l 4, rd l 5⟩
theorem specDieOf (l : List Int) (h : l.length = 6) : qXA.f l = some ((dieL l).f0, (dieL l).f1, (dieL l).f2, (dieL l).f3, (dieL l).f4, (dieL l).f5) := by
 unfold qXA.f
 rw [if_pos (by omega), if_pos (by omega), if_pos (by omega), if_pos (by omega), if_pos (by omega), if_pos (by omega)]
 rfl
theorem implDieOf (l : List Int) (h : l.length = 6) : qdA.f l = some ((dieL l).f0, (dieL l).f1, (dieL l).f2, (dieL l).f3, (dieL l).f4, (dieL l).f5) := by
 unfold qdA.f
 rw [if_pos (by omega), if_pos (by omega), if_pos (by omega), if_pos (by omega), if_pos (by omega), if_pos (by omega)]
 rfl
theorem specFold_loop (X : List Int) (F : List UInt8) (bn : Nat → Nat) (dg : Nat → Int) (W H : Int) (D : List Nat) (hDl : D.length ≤ 100) (hX : ∀ i ∈ D, i < X.length ∧ rd X (i : Int) = (bn i : Int) ∧ bn i < 6) (hF : ∀ i ∈ D, i < F.length ∧ (rd (nums F) (i : Int) - 48) % 256 = dg i) :
  ∀ (l : List Nat) (j : Nat) (acc : List Int), D.drop j = l → acc.length = 6 →
  Ev (fun k => qj.l0 k X acc (ints D) (D.length : Int) (j : Int) W H (nums F)) ((dieL (facesN bn dg l acc)).f0, (dieL (facesN bn dg l acc)).f1, (dieL (facesN bn dg l acc)).f2, (dieL (facesN bn dg l acc)).f3, (dieL (facesN bn dg l acc)).f4, (dieL (facesN bn dg l acc)).f5) := by
 intro l
 induction l with
 | nil =>
  intro j acc hd ha
  have hn : D.length ≤ j := by
   rcases Nat.lt_or_ge j D.length with h | h
   ·rw [List.drop_eq_getElem_cons h] at hd; cases hd
   ·exact h
  refine Ev.step (f := fun k => _) (fun k => by rw [qj.l0]) ?_
  exact Ev.neg (qSC hn) (Ev.bindc (specDieOf acc ha) (Ev.now _))
 | cons i l ih =>
  intro j acc hd ha
  have hlt : j < D.length := by
   rcases Nat.lt_or_ge j D.length with h | h
   ·exact h
   ·rw [List.drop_eq_nil_of_le h] at hd; cases hd
  rw [List.drop_eq_getElem_cons hlt] at hd
  obtain ⟨hi, hd'⟩ := List.cons.inj hd
  have hiD : i ∈ D := hi ▸ List.getElem_mem hlt
  obtain ⟨x1, x2, x3⟩ := hX i hiD
  obtain ⟨y1, y2⟩ := hF i hiD
  have hr : rd (ints D) (j : Int) = (i : Int) := by rw [rdInts D j hlt, hi]
  have w1 := qkA j (Nat.lt_of_lt_of_le hlt (Nat.le_trans hDl (by decide)))
  have a1 : (j : Int) < (D.length : Int) := Int.ofNat_lt.2 hlt
  have a3 : (j : Int) < ((ints D).length : Int) := by rw [qlA]; exact a1
  have a5 : (i : Int) < (X.length : Int) := Int.ofNat_lt.2 x1
  have a6 : (i : Int) < ((nums F).length : Int) := by unfold nums; rw [List.length_map]; exact Int.ofNat_lt.2 y1
  have a7 : (bn i : Int) < (acc.length : Int) := by rw [ha]; exact Int.ofNat_lt.2 x3
  have := ih (j + 1) (acc.set (bn i) (dg i)) hd' (by rw [List.length_set]; exact ha)
  refine Ev.step (f := fun k => _) (fun k => by rw [qj.l0]) ?_
  refine Ev.pos a1 (Ev.pos (Int.natCast_nonneg _) (Ev.pos a3 ?_))
  rw [hr]
  refine Ev.pos (Int.natCast_nonneg _) (Ev.pos a5 (Ev.pos a6 ?_))
  rw [x2]
  refine Ev.pos (Int.natCast_nonneg _) (Ev.pos a7 ?_)
  rw [w1, y2, Int.toNat_natCast]
  exact this
theorem implFold_loop (G B : List Int) (bn : Nat → Nat) (dg : Nat → Int) (D : List Nat) (hDl : D.length ≤ 100) (hB : B = D.map fun i => (bn i : Int)) (hG : G = D.map dg) (hbn : ∀ i ∈ D, bn i < 6) :
  ∀ (l : List Nat) (j : Nat) (acc : List Int), D.drop j = l → acc.length = 6 →
  Ev (fun k => qh.l0 k G B acc (D.length : Int) (j : Int)) ((dieL (facesN bn dg l acc)).f0, (dieL (facesN bn dg l acc)).f1, (dieL (facesN bn dg l acc)).f2, (dieL (facesN bn dg l acc)).f3, (dieL (facesN bn dg l acc)).f4, (dieL (facesN bn dg l acc)).f5, true) := by
 intro l
 induction l with
 | nil =>
  intro j acc hd ha
  have hn : D.length ≤ j := by
   rcases Nat.lt_or_ge j D.length with h | h
   ·rw [List.drop_eq_getElem_cons h] at hd; cases hd
   ·exact h
  refine Ev.step (f := fun k => _) (fun k => by rw [qh.l0]) ?_
  exact Ev.neg (qSC hn) (Ev.bindc (implDieOf acc ha) (Ev.now _))
 | cons i l ih =>
  intro j acc hd ha
  have hlt : j < D.length := by
   rcases Nat.lt_or_ge j D.length with h | h
   ·exact h
   ·rw [List.drop_eq_nil_of_le h] at hd; cases hd
  rw [List.drop_eq_getElem_cons hlt] at hd
  obtain ⟨hi, hd'⟩ := List.cons.inj hd
  have x3 : bn i < 6 := hbn i (hi ▸ List.getElem_mem hlt)
  have hBl : B.length = D.length := by rw [hB, List.length_map]
  have hGl : G.length = D.length := by rw [hG, List.length_map]
  have hr : rd B (j : Int) = (bn i : Int) := by
   have hj : j < B.length := hBl ▸ hlt
   rw [nsRd B j hj]
   have : B[j]? = some ((bn i : Int)) := by rw [hB, List.getElem?_map, List.getElem?_eq_getElem hlt, hi]; rfl
   rw [List.getElem?_eq_getElem hj] at this
   exact Option.some.inj this
  have hg : rd G (j : Int) = dg i := by
   have hj : j < G.length := hGl ▸ hlt
   rw [nsRd G j hj]
   have : G[j]? = some (dg i) := by rw [hG, List.getElem?_map, List.getElem?_eq_getElem hlt, hi]; rfl
   rw [List.getElem?_eq_getElem hj] at this
   exact Option.some.inj this
  have w1 := qkA j (Nat.lt_of_lt_of_le hlt (Nat.le_trans hDl (by decide)))
  have a1 : (j : Int) < (D.length : Int) := Int.ofNat_lt.2 hlt
  have a3 : (j : Int) < (B.length : Int) := by rw [hBl]; exact a1
  have a4 : (j : Int) < (G.length : Int) := by rw [hGl]; exact a1
  have a7 : (bn i : Int) < (acc.length : Int) := by rw [ha]; exact Int.ofNat_lt.2 x3
  have := ih (j + 1) (acc.set (bn i) (dg i)) hd' (by rw [List.length_set]; exact ha)
  refine Ev.step (f := fun k => _) (fun k => by rw [qh.l0]) ?_
  refine Ev.pos a1 (Ev.pos (Int.natCast_nonneg _) (Ev.pos a3 (Ev.pos a4 ?_)))
  rw [hr, hg]
  refine Ev.pos (Int.natCast_nonneg _) (Ev.pos a7 ?_)
  rw [w1, Int.toNat_natCast]
  exact this
def dieOfN (a : ByteArray) : DD := dieL (facesN (botAt a) (digAt (flatN a)) (placesN a) (List.replicate 6 0))
theorem digAt_is {a : ByteArray} (hn : IsNetN a) : ∀ i ∈ placesN a, i < (flatN a).length ∧ (rd (nums (flatN a)) (i : Int) - 48) % 256 = digAt (flatN a) i := by
 intro i hi
 have hil : i < (flatN a).length := by rw [qFB hn.fit]; exact qSB hn.fit i hi
 refine ⟨hil, ?_⟩
 obtain ⟨_, c, hc, hne⟩ := (qeA (flatN a) 0 i).1 hi
 rw [Nat.sub_zero] at hc
 have hok : okN c = true := by
  have hm := List.mem_of_getElem? hc
  unfold flatN at hm
  obtain ⟨r, hr, hcr⟩ := List.mem_flatten.1 hm
  exact List.all_eq_true.1 (hn.fit.2 r hr).2 c hcr
 unfold okN isDg at hok
 rw [decide_eq_false hne, Bool.false_or, Bool.and_eq_true, decide_eq_true_eq, decide_eq_true_eq] at hok
 have e : (flatN a)[i] = c := by rw [List.getElem?_eq_getElem hil] at hc; exact Option.some.inj hc
 rw [rdNums _ i hil, e]
 unfold digAt
 rw [List.getD_eq_getElem?_getD, hc]
 show ((c.toNat : Int) - 48) % 256 = (c.toNat : Int) - 48
 omega
theorem neFold_ev {a : ByteArray} (hn : IsNetN a) : Ev (fun k => qj.f k (wideN a : Int) (highN a : Int) (nums (flatN a)) (specBots a)) ((dieOfN a).f0, (dieOfN a).f1, (dieOfN a).f2, (dieOfN a).f3, (dieOfN a).f4, (dieOfN a).f5) := by
 have hsz : (flatN a).length ≤ 100 := by
  rw [qFB hn.fit]
  exact Nat.le_trans (Nat.mul_le_mul hn.wide hn.high) (by decide)
 have hD6 : (placesN a).length ≤ 100 := by rw [hn.six]; decide
 have hlo := specFold_loop (specBots a) (flatN a) (botAt a) (digAt (flatN a)) (wideN a : Int) (highN a : Int) (placesN a) hD6 (specBots_is hn) (digAt_is hn) (placesN a) 0 (List.replicate 6 0) List.drop_zero (by simp)
 unfold qj.f
 refine Ev.pos (by decide) (Ev.bind (qjB _ _ (flatN a) hsz) ?_)
 have e2 : ((ints (idxFrom 0 (flatN a))).length : Int) = ((placesN a).length : Int) := by rw [qlA]; rfl
 rw [e2]
 exact hlo
theorem foldNet_ev (a : ByteArray) (ha : a.size ≤ 1048576) : Ev (fun k => qh.f k a) (if netB a = true then ((dieOfN a).f0, (dieOfN a).f1, (dieOfN a).f2, (dieOfN a).f3, (dieOfN a).f4, (dieOfN a).f5, true) else (0, 0, 0, 0, 0, 0, false)) := by
 obtain ⟨q, h2, e2, n2⟩ := implNet_ev a ha
 unfold qh.f
 cases hb : netB a with
 | false =>
  rw [hb] at e2
  rw [if_neg (by decide)]
  exact Ev.bind h2 (Ev.neg (by rw [e2]; decide) (Ev.now _))
 | true =>
  have hn := qKD hb
  have eq := n2 hb
  subst eq
  have hD6 : (placesN a).length ≤ 100 := by rw [hn.six]; decide
  have hli := implFold_loop _ (botsOf a) (botAt a) (digAt (flatN a)) (placesN a) hD6 (botsOf_is hn) rfl (fun i hi => (specBots_is hn i hi).2.2) (placesN a) 0 (List.replicate 6 0) List.drop_zero (by simp)
  rw [if_pos rfl]
  refine Ev.bind h2 (Ev.pos rfl (Ev.bind (qxC hn.fit hn.six hn.wide hn.high) (Ev.pos (by decide) ?_)))
  have e3 : ((botsOf a).length : Int) = ((placesN a).length : Int) := by unfold botsOf; rw [qrA]
  show Ev (fun k => qh.l0 k _ (botsOf a) (List.replicate 6 0) ((botsOf a).length : Int) 0) _
  rw [e3]
  exact hli
def shortR (x y : DD) : List ByteArray → ByteArray × Bool
 | [] => (⟨#[]⟩, false)
 | w :: l => if rolls x (numsW w) = y then (w, true) else shortR x y l
def wordR (y : DD) : List (DD × ByteArray) → ByteArray × Bool
 | [] => (⟨#[]⟩, false)
 | z :: l => if z.1 = y then (z.2, true) else wordR y l
theorem shortR_snd (x y : DD) : ∀ l : List ByteArray, (shortR x y l).2 = decide (y ∈ l.map fun w => rolls x (numsW w))
 | [] => by simp [shortR]
 | w :: l => by
  rw [shortR]
  by_cases h : rolls x (numsW w) = y
  ·rw [if_pos h]; simp [h]
  ·rw [if_neg h, shortR_snd x y l]
   refine decide_eq_decide.2 ?_
   rw [List.map_cons, List.mem_cons]
   exact ⟨Or.inr, fun e => e.resolve_left fun e' => h e'.symm⟩
theorem wordR_snd (y : DD) : ∀ l : List (DD × ByteArray), (wordR y l).2 = decide (y ∈ l.map Prod.fst)
 | [] => by simp [wordR]
 | z :: l => by
  rw [wordR]
  by_cases h : z.1 = y
  ·rw [if_pos h]; simp [h]
  ·rw [if_neg h, wordR_snd y l]
   refine decide_eq_decide.2 ?_
   rw [List.map_cons, List.mem_cons]
   exact ⟨Or.inr, fun e => e.resolve_left fun e' => h e'.symm⟩
theorem shortest_loop (x y : DD) (W : List ByteArray) (hW : W.length ≤ 100) (hs : ∀ w ∈ W, w.size ≤ 1048576) : ∀ (l : List ByteArray) (j : Nat), W.drop j = l → j ≤ W.length →
  Ev (fun k => qp.l0 k W (W.length : Int) (j : Int) x.f0 x.f1 x.f2 x.f3 x.f4 x.f5 y.f0 y.f1 y.f2 y.f3 y.f4 y.f5) (shortR x y l)
 | [], j, hd, hj => by
  have := Sorts.qzC hd
  refine Ev.step (f := fun k => _) (fun k => by rw [qp.l0]) ?_
  exact Ev.neg (by omega) (Ev.now _)
 | w :: l, j, hd, hj => by
  obtain ⟨hlt, hc, hd'⟩ := Sorts.qgC hd
  have e := rdWD W w j (by rw [← hc]; exact List.getElem?_eq_getElem hlt)
  have ih := shortest_loop x y W hW hs l (j + 1) hd' (by omega)
  have w1 : wrap64 ((j : Int) + 1) = ((j + 1 : Nat) : Int) := by unfold wrap64; omega
  have hsz := hs w (hc ▸ List.getElem_mem hlt)
  have h := qCD (rolls x (numsW w)) y
  clear hd hd' hc
  refine Ev.step (f := fun k => _) (fun k => by rw [qp.l0]) ?_
  rw [w1, e]
  refine Ev.pos (by omega) (Ev.pos (by omega) (Ev.pos (by omega) (Ev.bind (rolled_ev x w hsz) ?_)))
  by_cases hy : y = rolls x (numsW w)
  ·rw [shortR, if_pos hy.symm]
   exact Ev.pos (h.trans (decide_eq_true hy)) (Ev.now _)
  ·rw [shortR, if_neg (fun e => hy e.symm)]
   exact Ev.neg (fun e => hy (of_decide_eq_true (h.symm.trans e))) ih
theorem rotWords_size : ∀ w ∈ rotWords, w.size ≤ 4 := by decide +kernel
theorem rotWords_len : rotWords.length = 24 := by decide +kernel
theorem shortest_ev (x y : DD) : Ev (fun k => qp.f k x.f0 x.f1 x.f2 x.f3 x.f4 x.f5 y.f0 y.f1 y.f2 y.f3 y.f4 y.f5) (shortR x y rotWords) := by
 unfold qp.f
 exact Ev.bindc (show qtA.f = some rotWords from rfl) (shortest_loop x y rotWords (by rw [rotWords_len]; decide) (fun w hw => Nat.le_trans (rotWords_size w hw) (by decide)) rotWords 0 rfl (Nat.zero_le _))
theorem wordTo_loop (y : DD) (L : List (DD × ByteArray)) (hL : L.length ≤ 100) : ∀ (l : List (DD × ByteArray)) (j : Nat), L.drop j = l → j ≤ L.length →
  Ev (fun k => qv.l0 k (dds L) (wsd L) ((dds L).length : Int) (j : Int) y.f0 y.f1 y.f2 y.f3 y.f4 y.f5) (wordR y l)
 | [], j, hd, hj => by
  have := Sorts.qzC hd
  have hl1 : (dds L).length = L.length := List.length_map _
  refine Ev.step (f := fun k => _) (fun k => by rw [qv.l0]) ?_
  exact Ev.neg (by omega) (Ev.now _)
 | z :: l, j, hd, hj => by
  obtain ⟨hlt, hc, hd'⟩ := Sorts.qgC hd
  have hg : L[j]? = some z := by rw [← hc]; exact List.getElem?_eq_getElem hlt
  have e := rdDD (dds L) z.1 j (by rw [List.getElem?_map, hg]; rfl)
  have e2 := rdWD (wsd L) z.2 j (by rw [List.getElem?_map, hg]; rfl)
  have ih := wordTo_loop y L hL l (j + 1) hd' (by omega)
  have w1 : wrap64 ((j : Int) + 1) = ((j + 1 : Nat) : Int) := by unfold wrap64; omega
  have hl1 : (dds L).length = L.length := List.length_map _
  have hl2 : (wsd L).length = L.length := List.length_map _
  have h := qCD z.1 y
  clear hd hd' hc hg
  refine Ev.step (f := fun k => _) (fun k => by rw [qv.l0]) ?_
  rw [w1, e, e2]
  refine Ev.pos (by omega) (Ev.pos (by omega) (Ev.pos (by omega) ?_))
  by_cases hy : y = z.1
  ·have hr : wordR y (z :: l) = (z.2, true) := by rw [wordR, if_pos hy.symm]
   rw [hr]
   exact Ev.pos (h.trans (decide_eq_true hy)) (Ev.pos (by omega) (Ev.now _))
  ·have hr : wordR y (z :: l) = wordR y l := by rw [wordR, if_neg (fun e => hy e.symm)]
   rw [hr]
   exact Ev.neg (fun e => hy (of_decide_eq_true (h.symm.trans e))) ih
theorem diWordTo_ev (x y : DD) : Ev (fun k => qv.f k x.f0 x.f1 x.f2 x.f3 x.f4 x.f5 y.f0 y.f1 y.f2 y.f3 y.f4 y.f5) (wordR y (runD x)) := by
 unfold qv.f
 have hL := (runD_found x).len
 have hd := diSearch_ev x
 generalize runD x = L at hL hd ⊢
 exact Ev.bind hd (wordTo_loop y L (by omega) L 0 rfl (Nat.zero_le _))
theorem same_word (x y : DD) : (shortR x y rotWords).2 = (wordR y (runD x)).2 := by
 rw [shortR_snd, wordR_snd]
 refine decide_eq_decide.2 ?_
 rw [← imgs_words, mem_run]
end Go.Proofs.YtdncpkppkafkpaaDoor
namespace Go.Proofs.YtdncpkppkafkpaaDoor.Pure
open Go.RowKit Go.Proofs.YtdncpkppkafkpaaDoor Go.Proofs.YtdncpkppkafkpaaDoor.P Go.Proofs.YtdncpkppkafkpaaDoorW.PrintWords Go.Proofs.YtdncpkppkafkpaaDoorW.PrintLast
set_option linter.unusedVariables false
set_option linter.unusedSimpArgs false
def sameR (a b : ByteArray) : Bool × Bool := if netB a = true then (if netB b = true then ((wordR (dieOfN b) (runD (dieOfN a))).2, true) else (false, false)) else (false, false)
theorem specSame_ev (a b : ByteArray) : Ev (fun k => qY.f k a b) (sameR a b) := by
 obtain ⟨p, h1, e1, n1⟩ := neNet_ev a
 obtain ⟨q, h2, e2, n2⟩ := neNet_ev b
 unfold qY.f
 refine Ev.bind h1 (Ev.bind h2 ?_)
 unfold sameR
 cases ha : netB a with
 | false =>
  rw [ha] at e1
  rw [if_neg (by decide)]
  refine Ev.neg (by rw [e1]; decide) ?_
  refine Ev.step (f := fun k => _) (fun k => by rw [qY.j0]) ?_
  exact Ev.pos rfl (Ev.now _)
 | true =>
  rw [if_pos rfl]
  rw [ha] at e1
  refine Ev.pos (by rw [e1]) ?_
  cases hb : netB b with
  | false =>
   rw [hb] at e2
   rw [if_neg (by decide)]
   refine Ev.step (f := fun k => _) (fun k => by rw [qY.j0]) ?_
   exact Ev.pos (by rw [e2]; rfl) (Ev.now _)
  | true =>
   have ep := n1 ha
   have eq := n2 hb
   subst ep
   subst eq
   rw [if_pos rfl]
   refine Ev.step (f := fun k => _) (fun k => by rw [qY.j0]) ?_
   exact Ev.neg (by simp) (Ev.bind (neFold_ev (qKD ha)) (Ev.bind (neFold_ev (qKD hb)) (Ev.bind (diWordTo_ev (dieOfN a) (dieOfN b)) (Ev.now _))))
theorem implSame_ev (a b : ByteArray) (ha_ : a.size ≤ 1048576) (hb_ : b.size ≤ 1048576) : Ev (fun k => qUA.f k a b) (sameR a b) := by
 have h1 := foldNet_ev a ha_
 have h2 := foldNet_ev b hb_
 unfold qUA.f
 cases ha : netB a with
 | false =>
  rw [ha, if_neg (by decide)] at h1
  have hr : sameR a b = (false, false) := by unfold sameR; rw [ha, if_neg (by decide)]
  rw [hr]
  exact Ev.bind h1 (Ev.bind h2 (Ev.neg (by decide) (Ev.now _)))
 | true =>
  rw [ha, if_pos rfl] at h1
  cases hb : netB b with
  | false =>
   rw [hb, if_neg (by decide)] at h2
   have hr : sameR a b = (false, false) := by unfold sameR; rw [ha, hb, if_pos rfl, if_neg (by decide)]
   rw [hr]
   exact Ev.bind h1 (Ev.bind h2 (Ev.pos rfl (Ev.neg (by decide) (Ev.now _))))
  | true =>
   rw [hb, if_pos rfl] at h2
   have hr : sameR a b = ((wordR (dieOfN b) (runD (dieOfN a))).2, true) := by unfold sameR; rw [ha, hb, if_pos rfl, if_pos rfl]
   rw [hr, ← same_word]
   exact Ev.bind h1 (Ev.bind h2 (Ev.pos rfl (Ev.pos rfl (Ev.bind (shortest_ev (dieOfN a) (dieOfN b)) (Ev.now _)))))
theorem FnExactAreSameDie : qNA.Pure := by
 intro a b _ _
 refine Ev.rounds (r := true) ?_
 unfold qNA.f
 by_cases ha : a.size ≤ 1048576
 ·by_cases hb : b.size ≤ 1048576
  ·exact Ev.neg (by omega) (Ev.neg (by omega) (Ev.bind (specSame_ev a b) (Ev.bind (implSame_ev a b ha hb) (Ev.neg (by simp) (Ev.neg (by simp) (Ev.now _))))))
  ·exact Ev.neg (by omega) (Ev.pos (by omega) (Ev.now _))
 ·exact Ev.pos (by omega) (Ev.now _)
end Go.Proofs.YtdncpkppkafkpaaDoor.Pure
