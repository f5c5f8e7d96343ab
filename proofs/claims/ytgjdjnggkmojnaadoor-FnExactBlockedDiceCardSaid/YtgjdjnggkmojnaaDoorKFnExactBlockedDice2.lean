/- The program's BlockedDice returns what the reference's returns, for all texts and dice (the law lets longer texts and lists by). No further condition. -/
import Derived.Test.YtgjdjnggkmojnaaDoorKFnExactBlockedDice1
import Derived.Lib.SliceRun
import Derived.Lib.Strings

namespace Go.Proofs.YtgjdjnggkmojnaaDoor.P
open Go.RowKit Go.Proofs.YtgjdjnggkmojnaaDoorW.PrintWords Go.Proofs.YtgjdjnggkmojnaaDoorW.PrintLast Go.Proofs.YtgjdjnggkmojnaaDoorW.PrintMore
attribute [local go_sem] qLA qJA qVA qUA qy qx qKA qIA
set_option linter.unusedVariables false
set_option linter.unusedSimpArgs false
def qEB.f (l0 : List ByteArray) (a1_0 : Int) (a1_1 : Int) (a1_2 : Int) (a1_3 : Int) (a1_4 : Int) (a1_5 : Int) (a1_6 : Int) (a1_7 : Int) (a2 : Int) : Option (Int × Int × Int × Int × Int × Int × Int × Int × Bool) := (qVC.f a1_0 a1_1 a2).bind fun bt390 => ((qXB.f a1_2 a1_3 a1_4 a1_5 a1_6 a1_7 a2).bind fun bt392 => ((qrA.f l0 bt390.1 bt390.2).bind fun t398 => (some (bt390.1, bt390.2, bt392.1, bt392.2.1, bt392.2.2.1, bt392.2.2.2.1, bt392.2.2.2.2.1, bt392.2.2.2.2.2, (t398 == 46)))))
set_option maxHeartbeats 8000000 in
set_option maxRecDepth 100000 in
theorem qEB.calls (A0 : Option Addr) (c0 : Nat) (l0 : List ByteArray) (a1_0 : Int) (a1_1 : Int) (a1_2 : Int) (a1_3 : Int) (a1_4 : Int) (a1_5 : Int) (a1_6 : Int) (a1_7 : Int) (a2 : Int) (r1 : Int) (r2 : Int) (r3 : Int) (r4 : Int) (r5 : Int) (r6 : Int) (r7 : Int) (r8 : Int) (r9 : Bool) (w : World) (hr0 : Kd.C Kd.string w A0 l0.length l0) (hc0 : l0.length ≤ c0) (h : qEB.f l0 a1_0 a1_1 a1_2 a1_3 a1_4 a1_5 a1_6 a1_7 a2 = some (r1, r2, r3, r4, r5, r6, r7, r8, r9)) :
  Calls Tryd.prog 75 #[.slice A0 l0.length c0, .agg #[.int .i64 a1_0, .int .i64 a1_1, .int .i64 a1_2, .int .i64 a1_3, .int .i64 a1_4, .int .i64 a1_5, .int .i64 a1_6, .int .i64 a1_7], .int .u8 a2] w fun e w' => e = .returned (.tuple #[.agg #[.int .i64 r1, .int .i64 r2, .int .i64 r3, .int .i64 r4, .int .i64 r5, .int .i64 r6, .int .i64 r7, .int .i64 r8], .bool r9]) ∧ Below w.heap.size w w' := by
 have hu57 := Tryd.underlying57
 have hu55 := Tryd.underlying55
 have HR0 := Aside0.mk hr0
 have HC0 := Aside0.mk hc0
 clear hr0 hc0
 have HB := Aside0.mk (Below.refl w.heap.size w)
 have H : ((qVC.f a1_0 a1_1 a2).bind fun bt390 => ((qXB.f a1_2 a1_3 a1_4 a1_5 a1_6 a1_7 a2).bind fun bt392 => ((qrA.f l0 bt390.1 bt390.2).bind fun t398 => (some (bt390.1, bt390.2, bt392.1, bt392.2.1, bt392.2.2.1, bt392.2.2.2.1, bt392.2.2.2.2.1, bt392.2.2.2.2.2, (t398 == 46)))))) = some (r1, r2, r3, r4, r5, r6, r7, r8, r9) := h
 clear h
 replace H := Option.bind_eq_some_iff.mp H
 obtain ⟨⟨t390, t391⟩, A40, H⟩ := H
 replace H : ((qXB.f a1_2 a1_3 a1_4 a1_5 a1_6 a1_7 a2).bind fun bt392 => ((qrA.f l0 t390 t391).bind fun t398 => (some (t390, t391, bt392.1, bt392.2.1, bt392.2.2.1, bt392.2.2.2.1, bt392.2.2.2.2.1, bt392.2.2.2.2.2, (t398 == 46))))) = some (r1, r2, r3, r4, r5, r6, r7, r8, r9) := H
 have A4 := Aside0.mk A40
 clear A40
 replace H := Option.bind_eq_some_iff.mp H
 obtain ⟨⟨t392, t393, t394, t395, t396, t397⟩, A50, H⟩ := H
 replace H : ((qrA.f l0 t390 t391).bind fun t398 => (some (t390, t391, t392, t393, t394, t395, t396, t397, (t398 == 46)))) = some (r1, r2, r3, r4, r5, r6, r7, r8, r9) := H
 have A5 := Aside0.mk A50
 clear A50
 replace H := Option.bind_eq_some_iff.mp H
 obtain ⟨t398, A60, H⟩ := H
 replace H : (some (t390, t391, t392, t393, t394, t395, t396, t397, (t398 == 46))) = some (r1, r2, r3, r4, r5, r6, r7, r8, r9) := H
 have A6 := Aside0.mk A60
 clear A60
 simp only [Option.some.injEq, Prod.mk.injEq] at H
 obtain ⟨rfl, rfl, rfl, rfl, rfl, rfl, rfl, rfl, rfl⟩ := H
 go_enter Tryd.func75, Tryd.ntmps75
 go_wp2_with (first | ((with_reducible refine qg (N := 4) rfl ?_); refine qd ?hg (N := 4) ?hd (cs := #[.int .i64 a1_0, .int .i64 a1_1, .int .i64 a1_2, .int .i64 a1_3, .int .i64 a1_4, .int .i64 a1_5, .int .i64 a1_6, .int .i64 a1_7]) (t := 57) ?hr ?_; (case hd => rfl); (case hg => rfl); (case hr => first | (go_simp; done) | (go_simp; rfl)); intro gb388 hg w7 hbox hb; have n0_ := Aside0.mk (qG bl hb); have n1_ := Aside0.mk (hbox); have n2_ := Aside0.mk ((gg hg)); have n3_ := Aside0.mk ((gg hg)); clear HB; have HB := n0_; have BK388 := n1_; have GW388 := n2_; have GE388 := n3_; clear n0_ n1_ n2_ n3_; clear hb hbox hg) | ((with_reducible refine qg (N := 6) rfl ?_); refine qd ?hg (N := 6) ?hd (cs := #[.int .i64 0, .int .i64 0, .int .i64 0, .int .i64 0, .int .i64 0, .int .i64 0, .int .i64 0, .int .i64 0]) (t := 57) ?hr ?_; (case hd => rfl); (case hg => rfl); (case hr => first | (go_simp; done) | (go_simp; rfl)); intro gb389 hg w8 hbox hb; have n0_ := Aside0.mk (bb BK388 hb); have n1_ := Aside0.mk (qG bl hb); have n2_ := Aside0.mk (hbox); have n3_ := Aside0.mk ((gg hg)); have n4_ := Aside0.mk ((gg hg)); have n5_ := Aside0.mk ((nl BK388 hg)); have n6_ := Aside0.mk ((nr BK388 hg)); clear BK388; clear HB; have BK388 := n0_; have HB := n1_; have BK389 := n2_; have GW389 := n3_; have GE389 := n4_; have NB388_389 := n5_; have NB389_388 := n6_; clear n0_ n1_ n2_ n3_ n4_ n5_ n6_; clear hb hbox hg; have hnb9 := NB388_389.out; have hnc9 := NB389_388.out; have hcz10_0 := bc BK388 0; have hcz10_1 := bc BK388 1; have hcz10_2 := bc BK388 2; have hcz10_3 := bc BK388 3; have hcz10_4 := bc BK388 4; have hcz10_5 := bc BK388 5; have hcz10_6 := bc BK388 6; have hcz10_7 := bc BK388 7; have hfz10_0 := qA BK388.out 0; have hfz10_1 := qA BK388.out 1; have hfz10_2 := qA BK388.out 2; have hfz10_3 := qA BK388.out 3; have hfz10_4 := qA BK388.out 4; have hfz10_5 := qA BK388.out 5; have hfz10_6 := qA BK388.out 6; have hfz10_7 := qA BK388.out 7) | ((with_reducible refine qL (f := 93) rfl ?_); refine qh (some 16) rfl rfl Tryd.func93 (by kernel_rfl) rfl #[.int .i64 a1_0, .int .i64 a1_1, .int .u8 a2] rfl (by (try simp only [List.map_toArray, List.map_cons, List.map_nil]); first | done | rfl | (simp only [List.length_drop, List.length_take]; rfl)) ?_; (with_reducible refine (qVC.calls a1_0 a1_1 a2 t390 t391 _ A4.out).mono ?_); rintro e w' ⟨rfl, ⟨nd, rfl⟩⟩; refine ⟨_, rfl, ?_⟩; (try (rw [qxC w8]; generalize hq_ : World.drewN w8 _ = w8; have n0_ : Aside0 (w8.heap[gb388]? = some (.cells #[.int .i64 a1_0, .int .i64 a1_1, .int .i64 a1_2, .int .i64 a1_3, .int .i64 a1_4, .int .i64 a1_5, .int .i64 a1_6, .int .i64 a1_7] 57 (0, 0))) := ⟨by rw [← hq_]; exact (by (with_reducible repeat (first | refine qE ?_ _ | refine qF ?_ | refine qD ?_ _)); exact BK388.out)⟩; have n1_ : Aside0 (w8.heap[gb389]? = some (.cells #[.int .i64 0, .int .i64 0, .int .i64 0, .int .i64 0, .int .i64 0, .int .i64 0, .int .i64 0, .int .i64 0] 57 (0, 0))) := ⟨by rw [← hq_]; exact (by (with_reducible repeat (first | refine qE ?_ _ | refine qF ?_ | refine qD ?_ _)); exact BK389.out)⟩; have n2_ : Aside0 (Below w.heap.size w w8) := ⟨by rw [← hq_]; exact bl⟩; clear BK388 BK389 HB hq_; have BK388 := n0_; have BK389 := n1_; have HB := n2_; clear n0_ n1_ n2_)); have hcz11_0 := bc BK388 0; have hcz11_1 := bc BK388 1; have hcz11_2 := bc BK388 2; have hcz11_3 := bc BK388 3; have hcz11_4 := bc BK388 4; have hcz11_5 := bc BK388 5; have hcz11_6 := bc BK388 6; have hcz11_7 := bc BK388 7; have hfz11_0 := qA BK388.out 0; have hfz11_1 := qA BK388.out 1; have hfz11_2 := qA BK388.out 2; have hfz11_3 := qA BK388.out 3; have hfz11_4 := qA BK388.out 4; have hfz11_5 := qA BK388.out 5; have hfz11_6 := qA BK388.out 6; have hfz11_7 := qA BK388.out 7) | ((with_reducible refine qL (f := 94) rfl ?_); refine qh (some 24) rfl rfl Tryd.func94 (by kernel_rfl) rfl #[.agg #[.int .i64 a1_2, .int .i64 a1_3, .int .i64 a1_4, .int .i64 a1_5, .int .i64 a1_6, .int .i64 a1_7], .int .u8 a2] rfl (by (try simp only [List.map_toArray, List.map_cons, List.map_nil]); first | done | rfl | (simp only [List.length_drop, List.length_take]; rfl)) ?_; (with_reducible refine (qXB.calls a1_2 a1_3 a1_4 a1_5 a1_6 a1_7 a2 t392 t393 t394 t395 t396 t397 _ A5.out).mono ?_); rintro e w12 ⟨rfl, hb⟩; refine ⟨_, rfl, ?_⟩; have n0_ := Aside0.mk (bb BK388 hb); have n1_ := Aside0.mk (bb BK389 hb); have n2_ := Aside0.mk (qG bl hb); clear BK388; clear BK389; clear HB; have BK388 := n0_; have BK389 := n1_; have HB := n2_; clear n0_ n1_ n2_; (try clear hb); (try clear hb2); (try clear hk); (try clear hi)) | ((with_reducible refine qL (f := 88) rfl ?_); refine qh (some 29) rfl rfl Tryd.func88 (by kernel_rfl) rfl #[.slice A0 l0.length c0, .int .i64 t390, .int .i64 t391] rfl (by (try simp only [List.map_toArray, List.map_cons, List.map_nil]); first | done | rfl | (simp only [List.length_drop, List.length_take]; rfl)) ?_; (with_reducible refine (qrA.calls _ _ l0 t390 t391 t398 _ ?side1 ?side2 A6.out).mono ?_); (case side1 => repeat (first | exact (Kd.qWA HR0.out HB.out) | (with_reducible refine Kd.qa ?_ _) | (with_reducible refine Kd.qZ ?_ _) | (with_reducible refine Kd.qe ?_))); (case side2 => exact HC0.out); rintro e w' ⟨rfl, ⟨nd, rfl⟩⟩; refine ⟨_, rfl, ?_⟩; (try (rw [qxC w12]; generalize hq_ : World.drewN w12 _ = w12; have n0_ : Aside0 (w12.heap[gb388]? = some (.cells #[.int .i64 a1_0, .int .i64 a1_1, .int .i64 a1_2, .int .i64 a1_3, .int .i64 a1_4, .int .i64 a1_5, .int .i64 a1_6, .int .i64 a1_7] 57 (0, 0))) := ⟨by rw [← hq_]; exact (by (with_reducible repeat (first | refine qE ?_ _ | refine qF ?_ | refine qD ?_ _)); exact BK388.out)⟩; have n1_ : Aside0 (w12.heap[gb389]? = some (.cells #[.int .i64 0, .int .i64 0, .int .i64 0, .int .i64 0, .int .i64 0, .int .i64 0, .int .i64 0, .int .i64 0] 57 (0, 0))) := ⟨by rw [← hq_]; exact (by (with_reducible repeat (first | refine qE ?_ _ | refine qF ?_ | refine qD ?_ _)); exact BK389.out)⟩; have n2_ : Aside0 (Below w.heap.size w w12) := ⟨by rw [← hq_]; exact bl⟩; clear BK388 BK389 HB hq_; have BK388 := n0_; have BK389 := n1_; have HB := n2_; clear n0_ n1_ n2_)); have hcz13_0 := bc BK389 0; have hcz13_1 := bc BK389 1; have hcz13_2 := bc BK389 2; have hcz13_3 := bc BK389 3; have hcz13_4 := bc BK389 4; have hcz13_5 := bc BK389 5; have hcz13_6 := bc BK389 6; have hcz13_7 := bc BK389 7; have hfz13_0 := qA BK389.out 0; have hfz13_1 := qA BK389.out 1; have hfz13_2 := qA BK389.out 2; have hfz13_3 := qA BK389.out 3; have hfz13_4 := qA BK389.out 4; have hfz13_5 := qA BK389.out 5; have hfz13_6 := qA BK389.out 6; have hfz13_7 := qA BK389.out 7))
 refine bodyPost_ret (qMB rfl _ _ gb389 57 #[.int .i64 t390, .int .i64 t391, .int .i64 t392, .int .i64 t393, .int .i64 t394, .int .i64 t395, .int .i64 t396, .int .i64 t397] (0, 0) _ rfl (by (with_reducible repeat (first | refine qE ?_ _ | refine qF ?_ | refine qD ?_ _)); refine qN (cs := #[.int .i64 t390, .int .i64 t391, .int .i64 t392, .int .i64 t393, .int .i64 t394, .int .i64 t395, .int .i64 t396, .int .i64 0]) ?_ 7 _ rfl; (with_reducible repeat (first | refine qE ?_ _ | refine qF ?_ | refine qD ?_ _)); refine qN (cs := #[.int .i64 t390, .int .i64 t391, .int .i64 t392, .int .i64 t393, .int .i64 t394, .int .i64 t395, .int .i64 0, .int .i64 0]) ?_ 6 _ rfl; (with_reducible repeat (first | refine qE ?_ _ | refine qF ?_ | refine qD ?_ _)); refine qN (cs := #[.int .i64 t390, .int .i64 t391, .int .i64 t392, .int .i64 t393, .int .i64 t394, .int .i64 0, .int .i64 0, .int .i64 0]) ?_ 5 _ rfl; (with_reducible repeat (first | refine qE ?_ _ | refine qF ?_ | refine qD ?_ _)); refine qN (cs := #[.int .i64 t390, .int .i64 t391, .int .i64 t392, .int .i64 t393, .int .i64 0, .int .i64 0, .int .i64 0, .int .i64 0]) ?_ 4 _ rfl; (with_reducible repeat (first | refine qE ?_ _ | refine qF ?_ | refine qD ?_ _)); refine qN (cs := #[.int .i64 t390, .int .i64 t391, .int .i64 t392, .int .i64 0, .int .i64 0, .int .i64 0, .int .i64 0, .int .i64 0]) ?_ 3 _ rfl; (with_reducible repeat (first | refine qE ?_ _ | refine qF ?_ | refine qD ?_ _)); refine qN (cs := #[.int .i64 t390, .int .i64 t391, .int .i64 0, .int .i64 0, .int .i64 0, .int .i64 0, .int .i64 0, .int .i64 0]) ?_ 2 _ rfl; (with_reducible repeat (first | refine qE ?_ _ | refine qF ?_ | refine qD ?_ _)); refine qN (cs := #[.int .i64 t390, .int .i64 0, .int .i64 0, .int .i64 0, .int .i64 0, .int .i64 0, .int .i64 0, .int .i64 0]) ?_ 1 _ rfl; (with_reducible repeat (first | refine qE ?_ _ | refine qF ?_ | refine qD ?_ _)); refine qN (cs := #[.int .i64 0, .int .i64 0, .int .i64 0, .int .i64 0, .int .i64 0, .int .i64 0, .int .i64 0, .int .i64 0]) ?_ 0 _ rfl; (with_reducible repeat (first | refine qE ?_ _ | refine qF ?_ | refine qD ?_ _)); exact BK389.out) Tryd.underlying57 rfl (by kernel_rfl)) rfl ?_
 exact ⟨by first | rfl | (simp [qI, qH] <;> rfl) | (simp [*, qI, qH] <;> rfl), bl⟩
end Go.Proofs.YtgjdjnggkmojnaaDoor.P
namespace Go.Proofs.YtgjdjnggkmojnaaDoor
open Go.RowKit Go.Proofs.YtgjdjnggkmojnaaDoor.P Go.Proofs.YtgjdjnggkmojnaaDoorW.PrintWords Go.Proofs.YtgjdjnggkmojnaaDoorW.PrintLast
set_option linter.unusedVariables false
set_option linter.unusedSimpArgs false
def qdC.f (l : List S57) (y0 y1 y2 y3 y4 y5 y6 y7 : Int) : Option Bool := some (l.any fun x => decide (x.f0 = y0) && decide (x.f1 = y1))
theorem at2_any_isAt (x : S57) (y0 y1 : Int) : qOA.f x.f0 x.f1 x.f2.f0 x.f2.f1 x.f2.f2 x.f2.f3 x.f2.f4 x.f2.f5 y0 y1 = some (decide (x.f0 = y0) && decide (x.f1 = y1)) := by
 unfold qOA.f
 by_cases h : x.f0 = y0
 ·rw [if_pos h, decide_eq_true h, Bool.true_and]; rfl
 ·rw [if_neg h, decide_eq_false h, Bool.false_and]
set_option maxHeartbeats 1000000 in
set_option maxRecDepth 100000 in
theorem at2_any_calls (x : S57) (b : Nat) (y0 y1 : Int) (w : World) (h0 : w.cell? ⟨b, 0, none⟩ = some (.int .i64 y0)) (h1 : w.cell? ⟨b, 1, none⟩ = some (.int .i64 y1)) :
  Calls Tryd.prog 76 (#[encState x] ++ #[.pointer (some ⟨b, 0, none⟩)]) w fun e w' => e = .returned (.bool (decide (x.f0 = y0) && decide (x.f1 = y1))) ∧ Below w.heap.size w w' := by
 have hu := Tryd.underlying57
 show Calls Tryd.prog 76 #[encState x, .pointer (some ⟨b, 0, none⟩)] w _
 unfold encState
 have g7 := World.block_lt_of_cell? w _ h0
 have HH := fun (W : World) => Lib.hid (qOA.calls x.f0 x.f1 x.f2.f0 x.f2.f1 x.f2.f2 x.f2.f3 x.f2.f4 x.f2.f5 y0 y1 _ W (at2_any_isAt x y0 y1))
 go_enter Tryd.func76, Tryd.ntmps76
 go_wp2_with (first | (go_at_call 69; refine (HH _).out.mono ?_; rintro e w1 ⟨rfl, hb⟩; have HB := Lib.hid (qCC (qAA (Below.refl w.heap.size w) _) (qb (qAA (Below.refl w.heap.size w) _)) hb); clear hb))
 go_ret
 exact ⟨rfl, HB.out⟩
theorem qdC.calls (A0 : Option Addr) (c0 : Nat) (l0 : List S57) (b : Nat) (y0 y1 y2 y3 y4 y5 y6 y7 : Int) (r : Bool) (w : World) (hr0 : Kd.C k57 w A0 l0.length l0) (hc0 : l0.length ≤ c0) (h0 : w.cell? ⟨b, 0, none⟩ = some (.int .i64 y0)) (h1 : w.cell? ⟨b, 1, none⟩ = some (.int .i64 y1)) (_h2 : w.cell? ⟨b, 2, none⟩ = some (.int .i64 y2)) (_h3 : w.cell? ⟨b, 3, none⟩ = some (.int .i64 y3)) (_h4 : w.cell? ⟨b, 4, none⟩ = some (.int .i64 y4)) (_h5 : w.cell? ⟨b, 5, none⟩ = some (.int .i64 y5)) (_h6 : w.cell? ⟨b, 6, none⟩ = some (.int .i64 y6)) (_h7 : w.cell? ⟨b, 7, none⟩ = some (.int .i64 y7))
  (h : qdC.f l0 y0 y1 y2 y3 y4 y5 y6 y7 = some r) :
  Calls Tryd.prog 67 #[.slice A0 l0.length c0, .func (.func 76) #[] #[.pointer (some ⟨b, 0, none⟩)]] w fun e w' => e = .returned (.bool r) ∧ Below w.heap.size w w' := by
 obtain rfl := Option.some.inj h
 have eg := Go.Proofs.enters_of Tryd.func76 (by kernel_rfl) rfl
 exact containsFunc_State (fun x => decide (x.f0 = y0) && decide (x.f1 = y1)) 76 _ eg A0 c0 l0 w hr0 fun W x hx hb => at2_any_calls x b y0 y1 W (qVB hb h0) (qVB hb h1)
end Go.Proofs.YtgjdjnggkmojnaaDoor
namespace Go.Proofs.YtgjdjnggkmojnaaDoor
open Go.RowKit Go.Proofs.YtgjdjnggkmojnaaDoor.P Go.Proofs.YtgjdjnggkmojnaaDoorW.PrintWords Go.Proofs.YtgjdjnggkmojnaaDoorW.PrintLast Go.Proofs.YtgjdjnggkmojnaaDoorW.PrintMore
set_option linter.unusedVariables false
set_option linter.unusedSimpArgs false
def qyA.f (l : List S57) : Option (List S57) := if l.length < 2199023255552 then some l else none
set_option maxHeartbeats 1000000 in
set_option maxRecDepth 100000 in
theorem qyA.calls (A0 : Option Addr) (c0 : Nat) (l0 : List S57) (r : List S57) (w : World) (hr0 : Kd.C k57 w A0 l0.length l0) (hc0 : l0.length ≤ c0) (h : qyA.f l0 = some r) :
  Calls Tryd.prog 59 #[.slice A0 l0.length c0] w fun e w' => ∃ v0_ : Value, e = .returned v0_ ∧ Kd.R k57 57 w' w.heap.size (fun _ => True) v0_ r ∧ Below w.heap.size w w' := by
 unfold qyA.f at h
 split at h
 case isFalse => cases h
 rename_i hl
 obtain rfl := Option.some.inj h
 clear h
 have HR := Aside0.mk hr0
 have HL := Aside0.mk hl
 clear hl
 have HB := Aside0.mk (Below.refl w.heap.size w)
 cases A0 with
 | none =>
  have hn : l0.length = 0 := by
   rcases Nat.eq_zero_or_pos l0.length with h | h
   ·exact h
   ·obtain ⟨ad, e, _⟩ := hr0.2.2 h
    cases e
  obtain rfl := List.length_eq_zero_iff.1 hn
  clear hr0 hc0
  have qT := fun (w : World) => Lib.run_eql_slice_nil w 26 57 none 0 c0 0 0 Tryd.underlying26
  go_enter Tryd.func59, Tryd.ntmps59
  go_wp2
  go_ret
  exact ⟨_, rfl, Kd.R_nil _ _ _ _ _, HB.out⟩
 | some ad =>
  clear hr0 hc0
  have qT := fun (w : World) => Lib.run_eql_slice_nil w 26 57 (some ad) l0.length c0 0 0 Tryd.underlying26
  go_enter Tryd.func59, Tryd.ntmps59
  go_wp2_with (first | ((with_reducible refine qg (N := 5) rfl ?_); refine Kd.R_lit k57 _ 57 ?hg (N := 5) ?hd (xs := ([] : List S57)) (inner := []) (ok := fun _ => True) (okp := fun _ => True) ?hr ?hp (fun _ hk => hk) trivial (Below.refl _ _) (Nat.le_refl _) (by simp) ?_; (case hd => rfl); (case hg => rfl); (case hr => first | (go_simp; done) | (go_simp; rfl)); (case hp => exact (Reps.none _ _)); intro v1 w1 ho1 hb1 hg_ hnew_; clear hg_ hnew_; have HO := Aside0.mk (Kd.qDA ho1 (qb HB.out)); have HB1 := Aside0.mk (qG HB.out hb1); clear hb1 ho1) | ((with_reducible refine qoB (b := .append) (xs := #[.tmp 5, .tmp 6]) rfl ?_); at_builtin; refine Kd.qrC k57 (w0 := w) w.heap.size rfl (.tmp 5) (.tmp 6) 26 57 (.agg #[(.int .i64 0), (.int .i64 0), (.int .i64 0), (.int .i64 0), (.int .i64 0), (.int .i64 0), (.int .i64 0), (.int .i64 0)]) 64 rfl Tryd.underlying26 info57 rfl (by decide) (by omega) v1 [] l0 _ _ _ (fun _ => True) (fun _ => False) rfl rfl ?aO ?aR (fun _ _ h => h) (fun _ h => h.elim) ?aF ?aB ?aS ?aL ?_; (case aR => exact Kd.qWA HR.out HB1.out); (case aB => exact HB1.out); (case aF => exact fun _ _ => trivial); (case aO => exact HO.out); (case aS => exact qb HB1.out); (case aL => have := HL.out; simp only [List.length_nil]; omega); intro v2 w2 ho2 hb2 hg2 hat2; rw [List.nil_append] at ho2; have HO2 := Aside0.mk ho2; have HB2 := Aside0.mk hb2; clear ho2 hb2 hg2 hat2))
  go_ret
  exact ⟨_, rfl, HO2.out, HB2.out⟩
end Go.Proofs.YtgjdjnggkmojnaaDoor
namespace Go.Proofs.YtgjdjnggkmojnaaDoor.P
open Go.RowKit Go.Proofs.YtgjdjnggkmojnaaDoorW.PrintWords Go.Proofs.YtgjdjnggkmojnaaDoorW.PrintLast Go.Proofs.YtgjdjnggkmojnaaDoorW.PrintMore
attribute [local go_sem] qLA qJA qVA qUA qy qx qKA qIA
set_option linter.unusedVariables false
set_option linter.unusedSimpArgs false
def qbA.f (l0 : List ByteArray) (l1 : List (S57)) (a2 : Int) (a3 : Int) : Option ((List (S57)) × Bool) := (qwA.f a2 0 (wrap64 ((l1.length : Int) - 1))).bind fun t399 => (if t399 = true then (if 0 ≤ a2 then (if a2 < (l1.length : Int) then ((qEB.f l0 ((qC l1 a2).f0) ((qC l1 a2).f1) ((qC l1 a2).f2.f0) ((qC l1 a2).f2.f1) ((qC l1 a2).f2.f2) ((qC l1 a2).f2.f3) ((qC l1 a2).f2.f4) ((qC l1 a2).f2.f5) a3).bind fun bt401 => (if bt401.2.2.2.2.2.2.2.2 = true then ((qdC.f l1 bt401.1 bt401.2.1 bt401.2.2.1 bt401.2.2.2.1 bt401.2.2.2.2.1 bt401.2.2.2.2.2.1 bt401.2.2.2.2.2.2.1 bt401.2.2.2.2.2.2.2.1).bind fun t411 => (if t411 = true then (some (([] : List (S57)), false)) else ((qyA.f l1).bind fun t412 => (if a2 < (t412.length : Int) then (some ((t412.set (a2 : Int).toNat (⟨bt401.1, bt401.2.1, (⟨bt401.2.2.1, bt401.2.2.2.1, bt401.2.2.2.2.1, bt401.2.2.2.2.2.1, bt401.2.2.2.2.2.2.1, bt401.2.2.2.2.2.2.2.1⟩ : S55)⟩ : S57)), true)) else (none))))) else (some (([] : List (S57)), false)))) else (none)) else (none)) else (some (([] : List (S57)), false)))
set_option maxHeartbeats 8000000 in
set_option maxRecDepth 100000 in
theorem qbA.calls (A0 : Option Addr) (c0 : Nat) (l0 : List ByteArray) (A1 : Option Addr) (c1 : Nat) (l1 : List (S57)) (a2 : Int) (a3 : Int) (r1 : List (S57)) (r2 : Bool) (w : World) (hr0 : Kd.C Kd.string w A0 l0.length l0) (hc0 : l0.length ≤ c0) (hr1 : Kd.C k57 w A1 l1.length l1) (hc1 : l1.length ≤ c1) (h : qbA.f l0 l1 a2 a3 = some (r1, r2)) :
  Calls Tryd.prog 51 #[.slice A0 l0.length c0, .slice A1 l1.length c1, .int .i64 a2, .int .u8 a3] w fun e w' => ∃ v0_ : Value, e = .returned (.tuple #[v0_, .bool r2]) ∧ Kd.R k57 57 w' w.heap.size (fun _ => True) v0_ r1 ∧ Below w.heap.size w w' := by
 have hu57 := Tryd.underlying57
 have HR0 := Aside0.mk hr0
 have HC0 := Aside0.mk hc0
 clear hr0 hc0
 have HR1 := Aside0.mk hr1
 have HC1 := Aside0.mk hc1
 clear hr1 hc1
 have HB := Aside0.mk (Below.refl w.heap.size w)
 have H : ((qwA.f a2 0 (wrap64 ((l1.length : Int) - 1))).bind fun t399 => (if t399 = true then (if 0 ≤ a2 then (if a2 < (l1.length : Int) then ((qEB.f l0 ((qC l1 a2).f0) ((qC l1 a2).f1) ((qC l1 a2).f2.f0) ((qC l1 a2).f2.f1) ((qC l1 a2).f2.f2) ((qC l1 a2).f2.f3) ((qC l1 a2).f2.f4) ((qC l1 a2).f2.f5) a3).bind fun bt401 => (if bt401.2.2.2.2.2.2.2.2 = true then ((qdC.f l1 bt401.1 bt401.2.1 bt401.2.2.1 bt401.2.2.2.1 bt401.2.2.2.2.1 bt401.2.2.2.2.2.1 bt401.2.2.2.2.2.2.1 bt401.2.2.2.2.2.2.2.1).bind fun t411 => (if t411 = true then (some (([] : List (S57)), false)) else ((qyA.f l1).bind fun t412 => (if a2 < (t412.length : Int) then (some ((t412.set (a2 : Int).toNat (⟨bt401.1, bt401.2.1, (⟨bt401.2.2.1, bt401.2.2.2.1, bt401.2.2.2.2.1, bt401.2.2.2.2.2.1, bt401.2.2.2.2.2.2.1, bt401.2.2.2.2.2.2.2.1⟩ : S55)⟩ : S57)), true)) else (none))))) else (some (([] : List (S57)), false)))) else (none)) else (none)) else (some (([] : List (S57)), false)))) = some (r1, r2) := h
 clear h
 replace H := Option.bind_eq_some_iff.mp H
 obtain ⟨t399, A50, H⟩ := H
 replace H : (if t399 = true then (if 0 ≤ a2 then (if a2 < (l1.length : Int) then ((qEB.f l0 ((qC l1 a2).f0) ((qC l1 a2).f1) ((qC l1 a2).f2.f0) ((qC l1 a2).f2.f1) ((qC l1 a2).f2.f2) ((qC l1 a2).f2.f3) ((qC l1 a2).f2.f4) ((qC l1 a2).f2.f5) a3).bind fun bt401 => (if bt401.2.2.2.2.2.2.2.2 = true then ((qdC.f l1 bt401.1 bt401.2.1 bt401.2.2.1 bt401.2.2.2.1 bt401.2.2.2.2.1 bt401.2.2.2.2.2.1 bt401.2.2.2.2.2.2.1 bt401.2.2.2.2.2.2.2.1).bind fun t411 => (if t411 = true then (some (([] : List (S57)), false)) else ((qyA.f l1).bind fun t412 => (if a2 < (t412.length : Int) then (some ((t412.set (a2 : Int).toNat (⟨bt401.1, bt401.2.1, (⟨bt401.2.2.1, bt401.2.2.2.1, bt401.2.2.2.2.1, bt401.2.2.2.2.2.1, bt401.2.2.2.2.2.2.1, bt401.2.2.2.2.2.2.2.1⟩ : S55)⟩ : S57)), true)) else (none))))) else (some (([] : List (S57)), false)))) else (none)) else (none)) else (some (([] : List (S57)), false))) = some (r1, r2) := H
 have A5 := Aside0.mk A50
 clear A50
 by_cases c6 : t399 = true
 ·subst c6
  have H1 : (if 0 ≤ a2 then (if a2 < (l1.length : Int) then ((qEB.f l0 ((qC l1 a2).f0) ((qC l1 a2).f1) ((qC l1 a2).f2.f0) ((qC l1 a2).f2.f1) ((qC l1 a2).f2.f2) ((qC l1 a2).f2.f3) ((qC l1 a2).f2.f4) ((qC l1 a2).f2.f5) a3).bind fun bt401 => (if bt401.2.2.2.2.2.2.2.2 = true then ((qdC.f l1 bt401.1 bt401.2.1 bt401.2.2.1 bt401.2.2.2.1 bt401.2.2.2.2.1 bt401.2.2.2.2.2.1 bt401.2.2.2.2.2.2.1 bt401.2.2.2.2.2.2.2.1).bind fun t411 => (if t411 = true then (some (([] : List (S57)), false)) else ((qyA.f l1).bind fun t412 => (if a2 < (t412.length : Int) then (some ((t412.set (a2 : Int).toNat (⟨bt401.1, bt401.2.1, (⟨bt401.2.2.1, bt401.2.2.2.1, bt401.2.2.2.2.1, bt401.2.2.2.2.2.1, bt401.2.2.2.2.2.2.1, bt401.2.2.2.2.2.2.2.1⟩ : S55)⟩ : S57)), true)) else (none))))) else (some (([] : List (S57)), false)))) else (none)) else (none)) = some (r1, r2) := by rw [if_pos rfl] at H; exact H
  clear H
  have H := H1
  clear H1
  by_cases c7 : 0 ≤ a2
  ·rw [if_pos c7] at H
   have c7b0 : decide (0 ≤ a2) = true := decide_eq_true c7
   clear c7
   by_cases c8 : a2 < (l1.length : Int)
   ·rw [if_pos c8] at H
    have c8b0 : decide (a2 < (l1.length : Int)) = true := decide_eq_true c8
    clear c8
    replace H := Option.bind_eq_some_iff.mp H
    obtain ⟨⟨t401, t402, t403, t404, t405, t406, t407, t408, t409⟩, A90, H⟩ := H
    replace H : (if t409 = true then ((qdC.f l1 t401 t402 t403 t404 t405 t406 t407 t408).bind fun t411 => (if t411 = true then (some (([] : List (S57)), false)) else ((qyA.f l1).bind fun t412 => (if a2 < (t412.length : Int) then (some ((t412.set (a2 : Int).toNat (⟨t401, t402, (⟨t403, t404, t405, t406, t407, t408⟩ : S55)⟩ : S57)), true)) else (none))))) else (some (([] : List (S57)), false))) = some (r1, r2) := H
    have A9 := Aside0.mk A90
    clear A90
    by_cases c10 : t409 = true
    ·subst c10
     have H1 : ((qdC.f l1 t401 t402 t403 t404 t405 t406 t407 t408).bind fun t411 => (if t411 = true then (some (([] : List (S57)), false)) else ((qyA.f l1).bind fun t412 => (if a2 < (t412.length : Int) then (some ((t412.set (a2 : Int).toNat (⟨t401, t402, (⟨t403, t404, t405, t406, t407, t408⟩ : S55)⟩ : S57)), true)) else (none))))) = some (r1, r2) := by rw [if_pos rfl] at H; exact H
     clear H
     have H := H1
     clear H1
     replace H := Option.bind_eq_some_iff.mp H
     obtain ⟨t411, A110, H⟩ := H
     replace H : (if t411 = true then (some (([] : List (S57)), false)) else ((qyA.f l1).bind fun t412 => (if a2 < (t412.length : Int) then (some ((t412.set (a2 : Int).toNat (⟨t401, t402, (⟨t403, t404, t405, t406, t407, t408⟩ : S55)⟩ : S57)), true)) else (none)))) = some (r1, r2) := H
     have A11 := Aside0.mk A110
     clear A110
     by_cases c12 : t411 = true
     ·subst c12
      have H1 : (some (([] : List (S57)), false)) = some (r1, r2) := by rw [if_pos rfl] at H; exact H
      clear H
      have H := H1
      clear H1
      simp only [Option.some.injEq, Prod.mk.injEq] at H
      obtain ⟨rfl, rfl⟩ := H
      go_enter Tryd.func51, Tryd.ntmps51
      go_wp2_with (first | ((with_reducible refine qL (f := 70) rfl ?_); refine qh (some 17) rfl rfl Tryd.func70 (by kernel_rfl) rfl #[.int .i64 a2, .int .i64 0, .int .i64 (wrap64 ((l1.length : Int) - 1))] rfl (by (try simp only [List.map_toArray, List.map_cons, List.map_nil]); first | done | rfl | (simp only [List.length_drop, List.length_take]; rfl)) ?_; (with_reducible refine (qwA.calls a2 0 (wrap64 ((l1.length : Int) - 1)) true _ A5.out).mono ?_); rintro e w' ⟨rfl, ⟨nd, rfl⟩⟩; refine ⟨_, rfl, ?_⟩; have p400 : 0 ≤ (a2 : Int) := of_decide_eq_true (by first | (with_reducible assumption) | assumption); have q400 : a2 < (l1.length : Int) := of_decide_eq_true (by first | (with_reducible assumption) | assumption); obtain ⟨ad400, e400, hx400_0, hx400_1, hx400_2, hx400_3, hx400_4, hx400_5, hx400_6, hx400_7⟩ := qgA HR1.out a2 p400 q400; cases e400; replace p400 := eq_true p400; replace q400 := eq_true q400) | ((with_reducible refine qL (f := 75) rfl ?_); refine qh (some 26) rfl rfl Tryd.func75 (by kernel_rfl) rfl #[.slice A0 l0.length c0, .agg #[.int .i64 ((qC l1 a2).f0), .int .i64 ((qC l1 a2).f1), .int .i64 ((qC l1 a2).f2.f0), .int .i64 ((qC l1 a2).f2.f1), .int .i64 ((qC l1 a2).f2.f2), .int .i64 ((qC l1 a2).f2.f3), .int .i64 ((qC l1 a2).f2.f4), .int .i64 ((qC l1 a2).f2.f5)], .int .u8 a3] rfl (by (try simp only [List.map_toArray, List.map_cons, List.map_nil]); first | done | rfl | (simp only [List.length_drop, List.length_take]; rfl)) ?_; (with_reducible refine (qEB.calls _ _ l0 ((qC l1 a2).f0) ((qC l1 a2).f1) ((qC l1 a2).f2.f0) ((qC l1 a2).f2.f1) ((qC l1 a2).f2.f2) ((qC l1 a2).f2.f3) ((qC l1 a2).f2.f4) ((qC l1 a2).f2.f5) a3 t401 t402 t403 t404 t405 t406 t407 t408 true _ ?side1 ?side2 A9.out).mono ?_); (case side1 => repeat (first | exact HR0.out | (with_reducible refine Kd.qa ?_ _) | (with_reducible refine Kd.qZ ?_ _) | (with_reducible refine Kd.qe ?_))); (case side2 => exact HC0.out); rintro e w13 ⟨rfl, hb⟩; refine ⟨_, rfl, ?_⟩; have n0_ := Aside0.mk (qG bl hb); clear HB; have HB := n0_; clear n0_; (try clear hb); (try clear hb2); (try clear hk); (try clear hi)) | ((with_reducible refine qg (N := 10) rfl ?_); refine qd ?hg (N := 10) ?hd (cs := #[.int .i64 0, .int .i64 0, .int .i64 0, .int .i64 0, .int .i64 0, .int .i64 0, .int .i64 0, .int .i64 0]) (t := 57) ?hr ?_; (case hd => rfl); (case hg => rfl); (case hr => first | (go_simp; done) | (go_simp; rfl)); intro gb410 hg w14 hbox hb; have n0_ := Aside0.mk (qG bl hb); have n1_ := Aside0.mk (hbox); have n2_ := Aside0.mk ((gg hg)); have n3_ := Aside0.mk ((gg hg)); clear HB; have HB := n0_; have BK410 := n1_; have GW410 := n2_; have GE410 := n3_; clear n0_ n1_ n2_ n3_; clear hb hbox hg; have hcz15_0 := bc BK410 0; have hcz15_1 := bc BK410 1; have hcz15_2 := bc BK410 2; have hcz15_3 := bc BK410 3; have hcz15_4 := bc BK410 4; have hcz15_5 := bc BK410 5; have hcz15_6 := bc BK410 6; have hcz15_7 := bc BK410 7; have hfz15_0 := qA BK410.out 0; have hfz15_1 := qA BK410.out 1; have hfz15_2 := qA BK410.out 2; have hfz15_3 := qA BK410.out 3; have hfz15_4 := qA BK410.out 4; have hfz15_5 := qA BK410.out 5; have hfz15_6 := qA BK410.out 6; have hfz15_7 := qA BK410.out 7) | (go_at_call 67; (with_reducible refine (qdC.calls _ _ l1 gb410 t401 t402 t403 t404 t405 t406 t407 t408 true _ ?side1 ?side2 ?side3 ?side4 ?side5 ?side6 ?side7 ?side8 ?side9 ?side10 A11.out).mono ?_); (case side1 => exact Kd.qWA HR1.out bl); (case side2 => exact HC1.out); (case side3 => exact (cell_of_row _ gb410 0 _ 57 (0, 0) (by (with_reducible repeat (first | refine qE ?_ _ | refine qF ?_ | refine qD ?_ _)); refine qN (cs := #[.int .i64 t401, .int .i64 t402, .int .i64 t403, .int .i64 t404, .int .i64 t405, .int .i64 t406, .int .i64 t407, .int .i64 0]) ?_ 7 _ rfl; (with_reducible repeat (first | refine qE ?_ _ | refine qF ?_ | refine qD ?_ _)); refine qN (cs := #[.int .i64 t401, .int .i64 t402, .int .i64 t403, .int .i64 t404, .int .i64 t405, .int .i64 t406, .int .i64 0, .int .i64 0]) ?_ 6 _ rfl; (with_reducible repeat (first | refine qE ?_ _ | refine qF ?_ | refine qD ?_ _)); refine qN (cs := #[.int .i64 t401, .int .i64 t402, .int .i64 t403, .int .i64 t404, .int .i64 t405, .int .i64 0, .int .i64 0, .int .i64 0]) ?_ 5 _ rfl; (with_reducible repeat (first | refine qE ?_ _ | refine qF ?_ | refine qD ?_ _)); refine qN (cs := #[.int .i64 t401, .int .i64 t402, .int .i64 t403, .int .i64 t404, .int .i64 0, .int .i64 0, .int .i64 0, .int .i64 0]) ?_ 4 _ rfl; (with_reducible repeat (first | refine qE ?_ _ | refine qF ?_ | refine qD ?_ _)); refine qN (cs := #[.int .i64 t401, .int .i64 t402, .int .i64 t403, .int .i64 0, .int .i64 0, .int .i64 0, .int .i64 0, .int .i64 0]) ?_ 3 _ rfl; (with_reducible repeat (first | refine qE ?_ _ | refine qF ?_ | refine qD ?_ _)); refine qN (cs := #[.int .i64 t401, .int .i64 t402, .int .i64 0, .int .i64 0, .int .i64 0, .int .i64 0, .int .i64 0, .int .i64 0]) ?_ 2 _ rfl; (with_reducible repeat (first | refine qE ?_ _ | refine qF ?_ | refine qD ?_ _)); refine qN (cs := #[.int .i64 t401, .int .i64 0, .int .i64 0, .int .i64 0, .int .i64 0, .int .i64 0, .int .i64 0, .int .i64 0]) ?_ 1 _ rfl; (with_reducible repeat (first | refine qE ?_ _ | refine qF ?_ | refine qD ?_ _)); refine qN (cs := #[.int .i64 0, .int .i64 0, .int .i64 0, .int .i64 0, .int .i64 0, .int .i64 0, .int .i64 0, .int .i64 0]) ?_ 0 _ rfl; (with_reducible repeat (first | refine qE ?_ _ | refine qF ?_ | refine qD ?_ _)); exact BK410.out)).trans rfl); (case side4 => exact (cell_of_row _ gb410 1 _ 57 (0, 0) (by (with_reducible repeat (first | refine qE ?_ _ | refine qF ?_ | refine qD ?_ _)); refine qN (cs := #[.int .i64 t401, .int .i64 t402, .int .i64 t403, .int .i64 t404, .int .i64 t405, .int .i64 t406, .int .i64 t407, .int .i64 0]) ?_ 7 _ rfl; (with_reducible repeat (first | refine qE ?_ _ | refine qF ?_ | refine qD ?_ _)); refine qN (cs := #[.int .i64 t401, .int .i64 t402, .int .i64 t403, .int .i64 t404, .int .i64 t405, .int .i64 t406, .int .i64 0, .int .i64 0]) ?_ 6 _ rfl; (with_reducible repeat (first | refine qE ?_ _ | refine qF ?_ | refine qD ?_ _)); refine qN (cs := #[.int .i64 t401, .int .i64 t402, .int .i64 t403, .int .i64 t404, .int .i64 t405, .int .i64 0, .int .i64 0, .int .i64 0]) ?_ 5 _ rfl; (with_reducible repeat (first | refine qE ?_ _ | refine qF ?_ | refine qD ?_ _)); refine qN (cs := #[.int .i64 t401, .int .i64 t402, .int .i64 t403, .int .i64 t404, .int .i64 0, .int .i64 0, .int .i64 0, .int .i64 0]) ?_ 4 _ rfl; (with_reducible repeat (first | refine qE ?_ _ | refine qF ?_ | refine qD ?_ _)); refine qN (cs := #[.int .i64 t401, .int .i64 t402, .int .i64 t403, .int .i64 0, .int .i64 0, .int .i64 0, .int .i64 0, .int .i64 0]) ?_ 3 _ rfl; (with_reducible repeat (first | refine qE ?_ _ | refine qF ?_ | refine qD ?_ _)); refine qN (cs := #[.int .i64 t401, .int .i64 t402, .int .i64 0, .int .i64 0, .int .i64 0, .int .i64 0, .int .i64 0, .int .i64 0]) ?_ 2 _ rfl; (with_reducible repeat (first | refine qE ?_ _ | refine qF ?_ | refine qD ?_ _)); refine qN (cs := #[.int .i64 t401, .int .i64 0, .int .i64 0, .int .i64 0, .int .i64 0, .int .i64 0, .int .i64 0, .int .i64 0]) ?_ 1 _ rfl; (with_reducible repeat (first | refine qE ?_ _ | refine qF ?_ | refine qD ?_ _)); refine qN (cs := #[.int .i64 0, .int .i64 0, .int .i64 0, .int .i64 0, .int .i64 0, .int .i64 0, .int .i64 0, .int .i64 0]) ?_ 0 _ rfl; (with_reducible repeat (first | refine qE ?_ _ | refine qF ?_ | refine qD ?_ _)); exact BK410.out)).trans rfl); (case side5 => exact (cell_of_row _ gb410 2 _ 57 (0, 0) (by (with_reducible repeat (first | refine qE ?_ _ | refine qF ?_ | refine qD ?_ _)); refine qN (cs := #[.int .i64 t401, .int .i64 t402, .int .i64 t403, .int .i64 t404, .int .i64 t405, .int .i64 t406, .int .i64 t407, .int .i64 0]) ?_ 7 _ rfl; (with_reducible repeat (first | refine qE ?_ _ | refine qF ?_ | refine qD ?_ _)); refine qN (cs := #[.int .i64 t401, .int .i64 t402, .int .i64 t403, .int .i64 t404, .int .i64 t405, .int .i64 t406, .int .i64 0, .int .i64 0]) ?_ 6 _ rfl; (with_reducible repeat (first | refine qE ?_ _ | refine qF ?_ | refine qD ?_ _)); refine qN (cs := #[.int .i64 t401, .int .i64 t402, .int .i64 t403, .int .i64 t404, .int .i64 t405, .int .i64 0, .int .i64 0, .int .i64 0]) ?_ 5 _ rfl; (with_reducible repeat (first | refine qE ?_ _ | refine qF ?_ | refine qD ?_ _)); refine qN (cs := #[.int .i64 t401, .int .i64 t402, .int .i64 t403, .int .i64 t404, .int .i64 0, .int .i64 0, .int .i64 0, .int .i64 0]) ?_ 4 _ rfl; (with_reducible repeat (first | refine qE ?_ _ | refine qF ?_ | refine qD ?_ _)); refine qN (cs := #[.int .i64 t401, .int .i64 t402, .int .i64 t403, .int .i64 0, .int .i64 0, .int .i64 0, .int .i64 0, .int .i64 0]) ?_ 3 _ rfl; (with_reducible repeat (first | refine qE ?_ _ | refine qF ?_ | refine qD ?_ _)); refine qN (cs := #[.int .i64 t401, .int .i64 t402, .int .i64 0, .int .i64 0, .int .i64 0, .int .i64 0, .int .i64 0, .int .i64 0]) ?_ 2 _ rfl; (with_reducible repeat (first | refine qE ?_ _ | refine qF ?_ | refine qD ?_ _)); refine qN (cs := #[.int .i64 t401, .int .i64 0, .int .i64 0, .int .i64 0, .int .i64 0, .int .i64 0, .int .i64 0, .int .i64 0]) ?_ 1 _ rfl; (with_reducible repeat (first | refine qE ?_ _ | refine qF ?_ | refine qD ?_ _)); refine qN (cs := #[.int .i64 0, .int .i64 0, .int .i64 0, .int .i64 0, .int .i64 0, .int .i64 0, .int .i64 0, .int .i64 0]) ?_ 0 _ rfl; (with_reducible repeat (first | refine qE ?_ _ | refine qF ?_ | refine qD ?_ _)); exact BK410.out)).trans rfl); (case side6 => exact (cell_of_row _ gb410 3 _ 57 (0, 0) (by (with_reducible repeat (first | refine qE ?_ _ | refine qF ?_ | refine qD ?_ _)); refine qN (cs := #[.int .i64 t401, .int .i64 t402, .int .i64 t403, .int .i64 t404, .int .i64 t405, .int .i64 t406, .int .i64 t407, .int .i64 0]) ?_ 7 _ rfl; (with_reducible repeat (first | refine qE ?_ _ | refine qF ?_ | refine qD ?_ _)); refine qN (cs := #[.int .i64 t401, .int .i64 t402, .int .i64 t403, .int .i64 t404, .int .i64 t405, .int .i64 t406, .int .i64 0, .int .i64 0]) ?_ 6 _ rfl; (with_reducible repeat (first | refine qE ?_ _ | refine qF ?_ | refine qD ?_ _)); refine qN (cs := #[.int .i64 t401, .int .i64 t402, .int .i64 t403, .int .i64 t404, .int .i64 t405, .int .i64 0, .int .i64 0, .int .i64 0]) ?_ 5 _ rfl; (with_reducible repeat (first | refine qE ?_ _ | refine qF ?_ | refine qD ?_ _)); refine qN (cs := #[.int .i64 t401, .int .i64 t402, .int .i64 t403, .int .i64 t404, .int .i64 0, .int .i64 0, .int .i64 0, .int .i64 0]) ?_ 4 _ rfl; (with_reducible repeat (first | refine qE ?_ _ | refine qF ?_ | refine qD ?_ _)); refine qN (cs := #[.int .i64 t401, .int .i64 t402, .int .i64 t403, .int .i64 0, .int .i64 0, .int .i64 0, .int .i64 0, .int .i64 0]) ?_ 3 _ rfl; (with_reducible repeat (first | refine qE ?_ _ | refine qF ?_ | refine qD ?_ _)); refine qN (cs := #[.int .i64 t401, .int .i64 t402, .int .i64 0, .int .i64 0, .int .i64 0, .int .i64 0, .int .i64 0, .int .i64 0]) ?_ 2 _ rfl; (with_reducible repeat (first | refine qE ?_ _ | refine qF ?_ | refine qD ?_ _)); refine qN (cs := #[.int .i64 t401, .int .i64 0, .int .i64 0, .int .i64 0, .int .i64 0, .int .i64 0, .int .i64 0, .int .i64 0]) ?_ 1 _ rfl; (with_reducible repeat (first | refine qE ?_ _ | refine qF ?_ | refine qD ?_ _)); refine qN (cs := #[.int .i64 0, .int .i64 0, .int .i64 0, .int .i64 0, .int .i64 0, .int .i64 0, .int .i64 0, .int .i64 0]) ?_ 0 _ rfl; (with_reducible repeat (first | refine qE ?_ _ | refine qF ?_ | refine qD ?_ _)); exact BK410.out)).trans rfl); (case side7 => exact (cell_of_row _ gb410 4 _ 57 (0, 0) (by (with_reducible repeat (first | refine qE ?_ _ | refine qF ?_ | refine qD ?_ _)); refine qN (cs := #[.int .i64 t401, .int .i64 t402, .int .i64 t403, .int .i64 t404, .int .i64 t405, .int .i64 t406, .int .i64 t407, .int .i64 0]) ?_ 7 _ rfl; (with_reducible repeat (first | refine qE ?_ _ | refine qF ?_ | refine qD ?_ _)); refine qN (cs := #[.int .i64 t401, .int .i64 t402, .int .i64 t403, .int .i64 t404, .int .i64 t405, .int .i64 t406, .int .i64 0, .int .i64 0]) ?_ 6 _ rfl; (with_reducible repeat (first | refine qE ?_ _ | refine qF ?_ | refine qD ?_ _)); refine qN (cs := #[.int .i64 t401, .int .i64 t402, .int .i64 t403, .int .i64 t404, .int .i64 t405, .int .i64 0, .int .i64 0, .int .i64 0]) ?_ 5 _ rfl; (with_reducible repeat (first | refine qE ?_ _ | refine qF ?_ | refine qD ?_ _)); refine qN (cs := #[.int .i64 t401, .int .i64 t402, .int .i64 t403, .int .i64 t404, .int .i64 0, .int .i64 0, .int .i64 0, .int .i64 0]) ?_ 4 _ rfl; (with_reducible repeat (first | refine qE ?_ _ | refine qF ?_ | refine qD ?_ _)); refine qN (cs := #[.int .i64 t401, .int .i64 t402, .int .i64 t403, .int .i64 0, .int .i64 0, .int .i64 0, .int .i64 0, .int .i64 0]) ?_ 3 _ rfl; (with_reducible repeat (first | refine qE ?_ _ | refine qF ?_ | refine qD ?_ _)); refine qN (cs := #[.int .i64 t401, .int .i64 t402, .int .i64 0, .int .i64 0, .int .i64 0, .int .i64 0, .int .i64 0, .int .i64 0]) ?_ 2 _ rfl; (with_reducible repeat (first | refine qE ?_ _ | refine qF ?_ | refine qD ?_ _)); refine qN (cs := #[.int .i64 t401, .int .i64 0, .int .i64 0, .int .i64 0, .int .i64 0, .int .i64 0, .int .i64 0, .int .i64 0]) ?_ 1 _ rfl; (with_reducible repeat (first | refine qE ?_ _ | refine qF ?_ | refine qD ?_ _)); refine qN (cs := #[.int .i64 0, .int .i64 0, .int .i64 0, .int .i64 0, .int .i64 0, .int .i64 0, .int .i64 0, .int .i64 0]) ?_ 0 _ rfl; (with_reducible repeat (first | refine qE ?_ _ | refine qF ?_ | refine qD ?_ _)); exact BK410.out)).trans rfl); (case side8 => exact (cell_of_row _ gb410 5 _ 57 (0, 0) (by (with_reducible repeat (first | refine qE ?_ _ | refine qF ?_ | refine qD ?_ _)); refine qN (cs := #[.int .i64 t401, .int .i64 t402, .int .i64 t403, .int .i64 t404, .int .i64 t405, .int .i64 t406, .int .i64 t407, .int .i64 0]) ?_ 7 _ rfl; (with_reducible repeat (first | refine qE ?_ _ | refine qF ?_ | refine qD ?_ _)); refine qN (cs := #[.int .i64 t401, .int .i64 t402, .int .i64 t403, .int .i64 t404, .int .i64 t405, .int .i64 t406, .int .i64 0, .int .i64 0]) ?_ 6 _ rfl; (with_reducible repeat (first | refine qE ?_ _ | refine qF ?_ | refine qD ?_ _)); refine qN (cs := #[.int .i64 t401, .int .i64 t402, .int .i64 t403, .int .i64 t404, .int .i64 t405, .int .i64 0, .int .i64 0, .int .i64 0]) ?_ 5 _ rfl; (with_reducible repeat (first | refine qE ?_ _ | refine qF ?_ | refine qD ?_ _)); refine qN (cs := #[.int .i64 t401, .int .i64 t402, .int .i64 t403, .int .i64 t404, .int .i64 0, .int .i64 0, .int .i64 0, .int .i64 0]) ?_ 4 _ rfl; (with_reducible repeat (first | refine qE ?_ _ | refine qF ?_ | refine qD ?_ _)); refine qN (cs := #[.int .i64 t401, .int .i64 t402, .int .i64 t403, .int .i64 0, .int .i64 0, .int .i64 0, .int .i64 0, .int .i64 0]) ?_ 3 _ rfl; (with_reducible repeat (first | refine qE ?_ _ | refine qF ?_ | refine qD ?_ _)); refine qN (cs := #[.int .i64 t401, .int .i64 t402, .int .i64 0, .int .i64 0, .int .i64 0, .int .i64 0, .int .i64 0, .int .i64 0]) ?_ 2 _ rfl; (with_reducible repeat (first | refine qE ?_ _ | refine qF ?_ | refine qD ?_ _)); refine qN (cs := #[.int .i64 t401, .int .i64 0, .int .i64 0, .int .i64 0, .int .i64 0, .int .i64 0, .int .i64 0, .int .i64 0]) ?_ 1 _ rfl; (with_reducible repeat (first | refine qE ?_ _ | refine qF ?_ | refine qD ?_ _)); refine qN (cs := #[.int .i64 0, .int .i64 0, .int .i64 0, .int .i64 0, .int .i64 0, .int .i64 0, .int .i64 0, .int .i64 0]) ?_ 0 _ rfl; (with_reducible repeat (first | refine qE ?_ _ | refine qF ?_ | refine qD ?_ _)); exact BK410.out)).trans rfl); (case side9 => exact (cell_of_row _ gb410 6 _ 57 (0, 0) (by (with_reducible repeat (first | refine qE ?_ _ | refine qF ?_ | refine qD ?_ _)); refine qN (cs := #[.int .i64 t401, .int .i64 t402, .int .i64 t403, .int .i64 t404, .int .i64 t405, .int .i64 t406, .int .i64 t407, .int .i64 0]) ?_ 7 _ rfl; (with_reducible repeat (first | refine qE ?_ _ | refine qF ?_ | refine qD ?_ _)); refine qN (cs := #[.int .i64 t401, .int .i64 t402, .int .i64 t403, .int .i64 t404, .int .i64 t405, .int .i64 t406, .int .i64 0, .int .i64 0]) ?_ 6 _ rfl; (with_reducible repeat (first | refine qE ?_ _ | refine qF ?_ | refine qD ?_ _)); refine qN (cs := #[.int .i64 t401, .int .i64 t402, .int .i64 t403, .int .i64 t404, .int .i64 t405, .int .i64 0, .int .i64 0, .int .i64 0]) ?_ 5 _ rfl; (with_reducible repeat (first | refine qE ?_ _ | refine qF ?_ | refine qD ?_ _)); refine qN (cs := #[.int .i64 t401, .int .i64 t402, .int .i64 t403, .int .i64 t404, .int .i64 0, .int .i64 0, .int .i64 0, .int .i64 0]) ?_ 4 _ rfl; (with_reducible repeat (first | refine qE ?_ _ | refine qF ?_ | refine qD ?_ _)); refine qN (cs := #[.int .i64 t401, .int .i64 t402, .int .i64 t403, .int .i64 0, .int .i64 0, .int .i64 0, .int .i64 0, .int .i64 0]) ?_ 3 _ rfl; (with_reducible repeat (first | refine qE ?_ _ | refine qF ?_ | refine qD ?_ _)); refine qN (cs := #[.int .i64 t401, .int .i64 t402, .int .i64 0, .int .i64 0, .int .i64 0, .int .i64 0, .int .i64 0, .int .i64 0]) ?_ 2 _ rfl; (with_reducible repeat (first | refine qE ?_ _ | refine qF ?_ | refine qD ?_ _)); refine qN (cs := #[.int .i64 t401, .int .i64 0, .int .i64 0, .int .i64 0, .int .i64 0, .int .i64 0, .int .i64 0, .int .i64 0]) ?_ 1 _ rfl; (with_reducible repeat (first | refine qE ?_ _ | refine qF ?_ | refine qD ?_ _)); refine qN (cs := #[.int .i64 0, .int .i64 0, .int .i64 0, .int .i64 0, .int .i64 0, .int .i64 0, .int .i64 0, .int .i64 0]) ?_ 0 _ rfl; (with_reducible repeat (first | refine qE ?_ _ | refine qF ?_ | refine qD ?_ _)); exact BK410.out)).trans rfl); (case side10 => exact (cell_of_row _ gb410 7 _ 57 (0, 0) (by (with_reducible repeat (first | refine qE ?_ _ | refine qF ?_ | refine qD ?_ _)); refine qN (cs := #[.int .i64 t401, .int .i64 t402, .int .i64 t403, .int .i64 t404, .int .i64 t405, .int .i64 t406, .int .i64 t407, .int .i64 0]) ?_ 7 _ rfl; (with_reducible repeat (first | refine qE ?_ _ | refine qF ?_ | refine qD ?_ _)); refine qN (cs := #[.int .i64 t401, .int .i64 t402, .int .i64 t403, .int .i64 t404, .int .i64 t405, .int .i64 t406, .int .i64 0, .int .i64 0]) ?_ 6 _ rfl; (with_reducible repeat (first | refine qE ?_ _ | refine qF ?_ | refine qD ?_ _)); refine qN (cs := #[.int .i64 t401, .int .i64 t402, .int .i64 t403, .int .i64 t404, .int .i64 t405, .int .i64 0, .int .i64 0, .int .i64 0]) ?_ 5 _ rfl; (with_reducible repeat (first | refine qE ?_ _ | refine qF ?_ | refine qD ?_ _)); refine qN (cs := #[.int .i64 t401, .int .i64 t402, .int .i64 t403, .int .i64 t404, .int .i64 0, .int .i64 0, .int .i64 0, .int .i64 0]) ?_ 4 _ rfl; (with_reducible repeat (first | refine qE ?_ _ | refine qF ?_ | refine qD ?_ _)); refine qN (cs := #[.int .i64 t401, .int .i64 t402, .int .i64 t403, .int .i64 0, .int .i64 0, .int .i64 0, .int .i64 0, .int .i64 0]) ?_ 3 _ rfl; (with_reducible repeat (first | refine qE ?_ _ | refine qF ?_ | refine qD ?_ _)); refine qN (cs := #[.int .i64 t401, .int .i64 t402, .int .i64 0, .int .i64 0, .int .i64 0, .int .i64 0, .int .i64 0, .int .i64 0]) ?_ 2 _ rfl; (with_reducible repeat (first | refine qE ?_ _ | refine qF ?_ | refine qD ?_ _)); refine qN (cs := #[.int .i64 t401, .int .i64 0, .int .i64 0, .int .i64 0, .int .i64 0, .int .i64 0, .int .i64 0, .int .i64 0]) ?_ 1 _ rfl; (with_reducible repeat (first | refine qE ?_ _ | refine qF ?_ | refine qD ?_ _)); refine qN (cs := #[.int .i64 0, .int .i64 0, .int .i64 0, .int .i64 0, .int .i64 0, .int .i64 0, .int .i64 0, .int .i64 0]) ?_ 0 _ rfl; (with_reducible repeat (first | refine qE ?_ _ | refine qF ?_ | refine qD ?_ _)); exact BK410.out)).trans rfl); rintro e w16 ⟨rfl, hb⟩; have n0_ := Aside0.mk (qCB (g := gb410) (o := .cells #[.int .i64 t401, .int .i64 t402, .int .i64 t403, .int .i64 t404, .int .i64 t405, .int .i64 t406, .int .i64 t407, .int .i64 t408] 57 (0, 0)) (by (with_reducible repeat (first | refine qE ?_ _ | refine qF ?_ | refine qD ?_ _)); refine qN (cs := #[.int .i64 t401, .int .i64 t402, .int .i64 t403, .int .i64 t404, .int .i64 t405, .int .i64 t406, .int .i64 t407, .int .i64 0]) ?_ 7 _ rfl; (with_reducible repeat (first | refine qE ?_ _ | refine qF ?_ | refine qD ?_ _)); refine qN (cs := #[.int .i64 t401, .int .i64 t402, .int .i64 t403, .int .i64 t404, .int .i64 t405, .int .i64 t406, .int .i64 0, .int .i64 0]) ?_ 6 _ rfl; (with_reducible repeat (first | refine qE ?_ _ | refine qF ?_ | refine qD ?_ _)); refine qN (cs := #[.int .i64 t401, .int .i64 t402, .int .i64 t403, .int .i64 t404, .int .i64 t405, .int .i64 0, .int .i64 0, .int .i64 0]) ?_ 5 _ rfl; (with_reducible repeat (first | refine qE ?_ _ | refine qF ?_ | refine qD ?_ _)); refine qN (cs := #[.int .i64 t401, .int .i64 t402, .int .i64 t403, .int .i64 t404, .int .i64 0, .int .i64 0, .int .i64 0, .int .i64 0]) ?_ 4 _ rfl; (with_reducible repeat (first | refine qE ?_ _ | refine qF ?_ | refine qD ?_ _)); refine qN (cs := #[.int .i64 t401, .int .i64 t402, .int .i64 t403, .int .i64 0, .int .i64 0, .int .i64 0, .int .i64 0, .int .i64 0]) ?_ 3 _ rfl; (with_reducible repeat (first | refine qE ?_ _ | refine qF ?_ | refine qD ?_ _)); refine qN (cs := #[.int .i64 t401, .int .i64 t402, .int .i64 0, .int .i64 0, .int .i64 0, .int .i64 0, .int .i64 0, .int .i64 0]) ?_ 2 _ rfl; (with_reducible repeat (first | refine qE ?_ _ | refine qF ?_ | refine qD ?_ _)); refine qN (cs := #[.int .i64 t401, .int .i64 0, .int .i64 0, .int .i64 0, .int .i64 0, .int .i64 0, .int .i64 0, .int .i64 0]) ?_ 1 _ rfl; (with_reducible repeat (first | refine qE ?_ _ | refine qF ?_ | refine qD ?_ _)); refine qN (cs := #[.int .i64 0, .int .i64 0, .int .i64 0, .int .i64 0, .int .i64 0, .int .i64 0, .int .i64 0, .int .i64 0]) ?_ 0 _ rfl; (with_reducible repeat (first | refine qE ?_ _ | refine qF ?_ | refine qD ?_ _)); exact BK410.out) hb); have n1_ := Aside0.mk (qG bl hb); clear BK410; clear HB; have BK410 := n0_; have HB := n1_; clear n0_ n1_; (try clear hb); (try clear hb2); (try clear hk); (try clear hi)))
      go_ret2
      exact ⟨_, by first | rfl | (simp [qI, qH] <;> rfl) | (simp [*, qI, qH] <;> rfl), by first | exact Kd.R_nil _ _ _ _ _ | exact Kd.N_nil _ _ _ _ _ | exact Kd.V_nil _ _ _ _ _ | exact Kd.Q_nil _ _ _ _ _ | exact Kd.S_nil _ _ _ _ _, bl⟩
     ·replace c12 := Bool.eq_false_iff.mpr c12
      subst c12
      have H1 : ((qyA.f l1).bind fun t412 => (if a2 < (t412.length : Int) then (some ((t412.set (a2 : Int).toNat (⟨t401, t402, (⟨t403, t404, t405, t406, t407, t408⟩ : S55)⟩ : S57)), true)) else (none))) = some (r1, r2) := by rw [if_neg (show ¬ (false = true) by decide)] at H; exact H
      clear H
      have H := H1
      clear H1
      replace H := Option.bind_eq_some_iff.mp H
      obtain ⟨t412, A170, H⟩ := H
      replace H : (if a2 < (t412.length : Int) then (some ((t412.set (a2 : Int).toNat (⟨t401, t402, (⟨t403, t404, t405, t406, t407, t408⟩ : S55)⟩ : S57)), true)) else (none)) = some (r1, r2) := H
      have A17 := Aside0.mk A170
      clear A170
      by_cases c18 : a2 < (t412.length : Int)
      ·rw [if_pos c18] at H
       have c18b0 : decide (a2 < (t412.length : Int)) = true := decide_eq_true c18
       clear c18
       obtain ⟨y415, hy415⟩ : ∃ y_ : List (S57), y_ = (t412.set (a2 : Int).toNat (⟨t401, t402, (⟨t403, t404, t405, t406, t407, t408⟩ : S55)⟩ : S57)) := ⟨_, rfl⟩
       replace H : (some (y415, true)) = some (r1, r2) := by first | (rw [hy415]; with_reducible exact H) | (have H2_ := (Option.bind_some _ _).symm.trans H; rw [hy415]; with_reducible exact H2_) | (have H2_ := (Option.bind_some _ _).symm.trans H; with_reducible exact H2_) | with_reducible exact H | (rw [hy415]; exact H) | exact H
       have Ny415 := Aside0.mk hy415
       clear hy415
       simp only [Option.some.injEq, Prod.mk.injEq] at H
       obtain ⟨rfl, rfl⟩ := H
       go_enter Tryd.func51, Tryd.ntmps51
       go_wp2_with (first | ((with_reducible refine qL (f := 70) rfl ?_); refine qh (some 17) rfl rfl Tryd.func70 (by kernel_rfl) rfl #[.int .i64 a2, .int .i64 0, .int .i64 (wrap64 ((l1.length : Int) - 1))] rfl (by (try simp only [List.map_toArray, List.map_cons, List.map_nil]); first | done | rfl | (simp only [List.length_drop, List.length_take]; rfl)) ?_; (with_reducible refine (qwA.calls a2 0 (wrap64 ((l1.length : Int) - 1)) true _ A5.out).mono ?_); rintro e w' ⟨rfl, ⟨nd, rfl⟩⟩; refine ⟨_, rfl, ?_⟩; have p400 : 0 ≤ (a2 : Int) := of_decide_eq_true (by first | (with_reducible assumption) | assumption); have q400 : a2 < (l1.length : Int) := of_decide_eq_true (by first | (with_reducible assumption) | assumption); obtain ⟨ad400, e400, hx400_0, hx400_1, hx400_2, hx400_3, hx400_4, hx400_5, hx400_6, hx400_7⟩ := qgA HR1.out a2 p400 q400; cases e400; replace p400 := eq_true p400; replace q400 := eq_true q400) | ((with_reducible refine qL (f := 75) rfl ?_); refine qh (some 26) rfl rfl Tryd.func75 (by kernel_rfl) rfl #[.slice A0 l0.length c0, .agg #[.int .i64 ((qC l1 a2).f0), .int .i64 ((qC l1 a2).f1), .int .i64 ((qC l1 a2).f2.f0), .int .i64 ((qC l1 a2).f2.f1), .int .i64 ((qC l1 a2).f2.f2), .int .i64 ((qC l1 a2).f2.f3), .int .i64 ((qC l1 a2).f2.f4), .int .i64 ((qC l1 a2).f2.f5)], .int .u8 a3] rfl (by (try simp only [List.map_toArray, List.map_cons, List.map_nil]); first | done | rfl | (simp only [List.length_drop, List.length_take]; rfl)) ?_; (with_reducible refine (qEB.calls _ _ l0 ((qC l1 a2).f0) ((qC l1 a2).f1) ((qC l1 a2).f2.f0) ((qC l1 a2).f2.f1) ((qC l1 a2).f2.f2) ((qC l1 a2).f2.f3) ((qC l1 a2).f2.f4) ((qC l1 a2).f2.f5) a3 t401 t402 t403 t404 t405 t406 t407 t408 true _ ?side1 ?side2 A9.out).mono ?_); (case side1 => repeat (first | exact HR0.out | (with_reducible refine Kd.qa ?_ _) | (with_reducible refine Kd.qZ ?_ _) | (with_reducible refine Kd.qe ?_))); (case side2 => exact HC0.out); rintro e w20 ⟨rfl, hb⟩; refine ⟨_, rfl, ?_⟩; have n0_ := Aside0.mk (qG bl hb); clear HB; have HB := n0_; clear n0_; (try clear hb); (try clear hb2); (try clear hk); (try clear hi)) | ((with_reducible refine qg (N := 10) rfl ?_); refine qd ?hg (N := 10) ?hd (cs := #[.int .i64 0, .int .i64 0, .int .i64 0, .int .i64 0, .int .i64 0, .int .i64 0, .int .i64 0, .int .i64 0]) (t := 57) ?hr ?_; (case hd => rfl); (case hg => rfl); (case hr => first | (go_simp; done) | (go_simp; rfl)); intro gb410 hg w21 hbox hb; have n0_ := Aside0.mk (qG bl hb); have n1_ := Aside0.mk (hbox); have n2_ := Aside0.mk ((gg hg)); have n3_ := Aside0.mk ((gg hg)); clear HB; have HB := n0_; have BK410 := n1_; have GW410 := n2_; have GE410 := n3_; clear n0_ n1_ n2_ n3_; clear hb hbox hg; have hcz22_0 := bc BK410 0; have hcz22_1 := bc BK410 1; have hcz22_2 := bc BK410 2; have hcz22_3 := bc BK410 3; have hcz22_4 := bc BK410 4; have hcz22_5 := bc BK410 5; have hcz22_6 := bc BK410 6; have hcz22_7 := bc BK410 7; have hfz22_0 := qA BK410.out 0; have hfz22_1 := qA BK410.out 1; have hfz22_2 := qA BK410.out 2; have hfz22_3 := qA BK410.out 3; have hfz22_4 := qA BK410.out 4; have hfz22_5 := qA BK410.out 5; have hfz22_6 := qA BK410.out 6; have hfz22_7 := qA BK410.out 7) | (go_at_call 67; (with_reducible refine (qdC.calls _ _ l1 gb410 t401 t402 t403 t404 t405 t406 t407 t408 false _ ?side1 ?side2 ?side3 ?side4 ?side5 ?side6 ?side7 ?side8 ?side9 ?side10 A11.out).mono ?_); (case side1 => exact Kd.qWA HR1.out bl); (case side2 => exact HC1.out); (case side3 => exact (cell_of_row _ gb410 0 _ 57 (0, 0) (by (with_reducible repeat (first | refine qE ?_ _ | refine qF ?_ | refine qD ?_ _)); refine qN (cs := #[.int .i64 t401, .int .i64 t402, .int .i64 t403, .int .i64 t404, .int .i64 t405, .int .i64 t406, .int .i64 t407, .int .i64 0]) ?_ 7 _ rfl; (with_reducible repeat (first | refine qE ?_ _ | refine qF ?_ | refine qD ?_ _)); refine qN (cs := #[.int .i64 t401, .int .i64 t402, .int .i64 t403, .int .i64 t404, .int .i64 t405, .int .i64 t406, .int .i64 0, .int .i64 0]) ?_ 6 _ rfl; (with_reducible repeat (first | refine qE ?_ _ | refine qF ?_ | refine qD ?_ _)); refine qN (cs := #[.int .i64 t401, .int .i64 t402, .int .i64 t403, .int .i64 t404, .int .i64 t405, .int .i64 0, .int .i64 0, .int .i64 0]) ?_ 5 _ rfl; (with_reducible repeat (first | refine qE ?_ _ | refine qF ?_ | refine qD ?_ _)); refine qN (cs := #[.int .i64 t401, .int .i64 t402, .int .i64 t403, .int .i64 t404, .int .i64 0, .int .i64 0, .int .i64 0, .int .i64 0]) ?_ 4 _ rfl; (with_reducible repeat (first | refine qE ?_ _ | refine qF ?_ | refine qD ?_ _)); refine qN (cs := #[.int .i64 t401, .int .i64 t402, .int .i64 t403, .int .i64 0, .int .i64 0, .int .i64 0, .int .i64 0, .int .i64 0]) ?_ 3 _ rfl; (with_reducible repeat (first | refine qE ?_ _ | refine qF ?_ | refine qD ?_ _)); refine qN (cs := #[.int .i64 t401, .int .i64 t402, .int .i64 0, .int .i64 0, .int .i64 0, .int .i64 0, .int .i64 0, .int .i64 0]) ?_ 2 _ rfl; (with_reducible repeat (first | refine qE ?_ _ | refine qF ?_ | refine qD ?_ _)); refine qN (cs := #[.int .i64 t401, .int .i64 0, .int .i64 0, .int .i64 0, .int .i64 0, .int .i64 0, .int .i64 0, .int .i64 0]) ?_ 1 _ rfl; (with_reducible repeat (first | refine qE ?_ _ | refine qF ?_ | refine qD ?_ _)); refine qN (cs := #[.int .i64 0, .int .i64 0, .int .i64 0, .int .i64 0, .int .i64 0, .int .i64 0, .int .i64 0, .int .i64 0]) ?_ 0 _ rfl; (with_reducible repeat (first | refine qE ?_ _ | refine qF ?_ | refine qD ?_ _)); exact BK410.out)).trans rfl); (case side4 => exact (cell_of_row _ gb410 1 _ 57 (0, 0) (by (with_reducible repeat (first | refine qE ?_ _ | refine qF ?_ | refine qD ?_ _)); refine qN (cs := #[.int .i64 t401, .int .i64 t402, .int .i64 t403, .int .i64 t404, .int .i64 t405, .int .i64 t406, .int .i64 t407, .int .i64 0]) ?_ 7 _ rfl; (with_reducible repeat (first | refine qE ?_ _ | refine qF ?_ | refine qD ?_ _)); refine qN (cs := #[.int .i64 t401, .int .i64 t402, .int .i64 t403, .int .i64 t404, .int .i64 t405, .int .i64 t406, .int .i64 0, .int .i64 0]) ?_ 6 _ rfl; (with_reducible repeat (first | refine qE ?_ _ | refine qF ?_ | refine qD ?_ _)); refine qN (cs := #[.int .i64 t401, .int .i64 t402, .int .i64 t403, .int .i64 t404, .int .i64 t405, .int .i64 0, .int .i64 0, .int .i64 0]) ?_ 5 _ rfl; (with_reducible repeat (first | refine qE ?_ _ | refine qF ?_ | refine qD ?_ _)); refine qN (cs := #[.int .i64 t401, .int .i64 t402, .int .i64 t403, .int .i64 t404, .int .i64 0, .int .i64 0, .int .i64 0, .int .i64 0]) ?_ 4 _ rfl; (with_reducible repeat (first | refine qE ?_ _ | refine qF ?_ | refine qD ?_ _)); refine qN (cs := #[.int .i64 t401, .int .i64 t402, .int .i64 t403, .int .i64 0, .int .i64 0, .int .i64 0, .int .i64 0, .int .i64 0]) ?_ 3 _ rfl; (with_reducible repeat (first | refine qE ?_ _ | refine qF ?_ | refine qD ?_ _)); refine qN (cs := #[.int .i64 t401, .int .i64 t402, .int .i64 0, .int .i64 0, .int .i64 0, .int .i64 0, .int .i64 0, .int .i64 0]) ?_ 2 _ rfl; (with_reducible repeat (first | refine qE ?_ _ | refine qF ?_ | refine qD ?_ _)); refine qN (cs := #[.int .i64 t401, .int .i64 0, .int .i64 0, .int .i64 0, .int .i64 0, .int .i64 0, .int .i64 0, .int .i64 0]) ?_ 1 _ rfl; (with_reducible repeat (first | refine qE ?_ _ | refine qF ?_ | refine qD ?_ _)); refine qN (cs := #[.int .i64 0, .int .i64 0, .int .i64 0, .int .i64 0, .int .i64 0, .int .i64 0, .int .i64 0, .int .i64 0]) ?_ 0 _ rfl; (with_reducible repeat (first | refine qE ?_ _ | refine qF ?_ | refine qD ?_ _)); exact BK410.out)).trans rfl); (case side5 => exact (cell_of_row _ gb410 2 _ 57 (0, 0) (by (with_reducible repeat (first | refine qE ?_ _ | refine qF ?_ | refine qD ?_ _)); refine qN (cs := #[.int .i64 t401, .int .i64 t402, .int .i64 t403, .int .i64 t404, .int .i64 t405, .int .i64 t406, .int .i64 t407, .int .i64 0]) ?_ 7 _ rfl; (with_reducible repeat (first | refine qE ?_ _ | refine qF ?_ | refine qD ?_ _)); refine qN (cs := #[.int .i64 t401, .int .i64 t402, .int .i64 t403, .int .i64 t404, .int .i64 t405, .int .i64 t406, .int .i64 0, .int .i64 0]) ?_ 6 _ rfl; (with_reducible repeat (first | refine qE ?_ _ | refine qF ?_ | refine qD ?_ _)); refine qN (cs := #[.int .i64 t401, .int .i64 t402, .int .i64 t403, .int .i64 t404, .int .i64 t405, .int .i64 0, .int .i64 0, .int .i64 0]) ?_ 5 _ rfl; (with_reducible repeat (first | refine qE ?_ _ | refine qF ?_ | refine qD ?_ _)); refine qN (cs := #[.int .i64 t401, .int .i64 t402, .int .i64 t403, .int .i64 t404, .int .i64 0, .int .i64 0, .int .i64 0, .int .i64 0]) ?_ 4 _ rfl; (with_reducible repeat (first | refine qE ?_ _ | refine qF ?_ | refine qD ?_ _)); refine qN (cs := #[.int .i64 t401, .int .i64 t402, .int .i64 t403, .int .i64 0, .int .i64 0, .int .i64 0, .int .i64 0, .int .i64 0]) ?_ 3 _ rfl; (with_reducible repeat (first | refine qE ?_ _ | refine qF ?_ | refine qD ?_ _)); refine qN (cs := #[.int .i64 t401, .int .i64 t402, .int .i64 0, .int .i64 0, .int .i64 0, .int .i64 0, .int .i64 0, .int .i64 0]) ?_ 2 _ rfl; (with_reducible repeat (first | refine qE ?_ _ | refine qF ?_ | refine qD ?_ _)); refine qN (cs := #[.int .i64 t401, .int .i64 0, .int .i64 0, .int .i64 0, .int .i64 0, .int .i64 0, .int .i64 0, .int .i64 0]) ?_ 1 _ rfl; (with_reducible repeat (first | refine qE ?_ _ | refine qF ?_ | refine qD ?_ _)); refine qN (cs := #[.int .i64 0, .int .i64 0, .int .i64 0, .int .i64 0, .int .i64 0, .int .i64 0, .int .i64 0, .int .i64 0]) ?_ 0 _ rfl; (with_reducible repeat (first | refine qE ?_ _ | refine qF ?_ | refine qD ?_ _)); exact BK410.out)).trans rfl); (case side6 => exact (cell_of_row _ gb410 3 _ 57 (0, 0) (by (with_reducible repeat (first | refine qE ?_ _ | refine qF ?_ | refine qD ?_ _)); refine qN (cs := #[.int .i64 t401, .int .i64 t402, .int .i64 t403, .int .i64 t404, .int .i64 t405, .int .i64 t406, .int .i64 t407, .int .i64 0]) ?_ 7 _ rfl; (with_reducible repeat (first | refine qE ?_ _ | refine qF ?_ | refine qD ?_ _)); refine qN (cs := #[.int .i64 t401, .int .i64 t402, .int .i64 t403, .int .i64 t404, .int .i64 t405, .int .i64 t406, .int .i64 0, .int .i64 0]) ?_ 6 _ rfl; (with_reducible repeat (first | refine qE ?_ _ | refine qF ?_ | refine qD ?_ _)); refine qN (cs := #[.int .i64 t401, .int .i64 t402, .int .i64 t403, .int .i64 t404, .int .i64 t405, .int .i64 0, .int .i64 0, .int .i64 0]) ?_ 5 _ rfl; (with_reducible repeat (first | refine qE ?_ _ | refine qF ?_ | refine qD ?_ _)); refine qN (cs := #[.int .i64 t401, .int .i64 t402, .int .i64 t403, .int .i64 t404, .int .i64 0, .int .i64 0, .int .i64 0, .int .i64 0]) ?_ 4 _ rfl; (with_reducible repeat (first | refine qE ?_ _ | refine qF ?_ | refine qD ?_ _)); refine qN (cs := #[.int .i64 t401, .int .i64 t402, .int .i64 t403, .int .i64 0, .int .i64 0, .int .i64 0, .int .i64 0, .int .i64 0]) ?_ 3 _ rfl; (with_reducible repeat (first | refine qE ?_ _ | refine qF ?_ | refine qD ?_ _)); refine qN (cs := #[.int .i64 t401, .int .i64 t402, .int .i64 0, .int .i64 0, .int .i64 0, .int .i64 0, .int .i64 0, .int .i64 0]) ?_ 2 _ rfl; (with_reducible repeat (first | refine qE ?_ _ | refine qF ?_ | refine qD ?_ _)); refine qN (cs := #[.int .i64 t401, .int .i64 0, .int .i64 0, .int .i64 0, .int .i64 0, .int .i64 0, .int .i64 0, .int .i64 0]) ?_ 1 _ rfl; (with_reducible repeat (first | refine qE ?_ _ | refine qF ?_ | refine qD ?_ _)); refine qN (cs := #[.int .i64 0, .int .i64 0, .int .i64 0, .int .i64 0, .int .i64 0, .int .i64 0, .int .i64 0, .int .i64 0]) ?_ 0 _ rfl; (with_reducible repeat (first | refine qE ?_ _ | refine qF ?_ | refine qD ?_ _)); exact BK410.out)).trans rfl); (case side7 => exact (cell_of_row _ gb410 4 _ 57 (0, 0) (by (with_reducible repeat (first | refine qE ?_ _ | refine qF ?_ | refine qD ?_ _)); refine qN (cs := #[.int .i64 t401, .int .i64 t402, .int .i64 t403, .int .i64 t404, .int .i64 t405, .int .i64 t406, .int .i64 t407, .int .i64 0]) ?_ 7 _ rfl; (with_reducible repeat (first | refine qE ?_ _ | refine qF ?_ | refine qD ?_ _)); refine qN (cs := #[.int .i64 t401, .int .i64 t402, .int .i64 t403, .int .i64 t404, .int .i64 t405, .int .i64 t406, .int .i64 0, .int .i64 0]) ?_ 6 _ rfl; (with_reducible repeat (first | refine qE ?_ _ | refine qF ?_ | refine qD ?_ _)); refine qN (cs := #[.int .i64 t401, .int .i64 t402, .int .i64 t403, .int .i64 t404, .int .i64 t405, .int .i64 0, .int .i64 0, .int .i64 0]) ?_ 5 _ rfl; (with_reducible repeat (first | refine qE ?_ _ | refine qF ?_ | refine qD ?_ _)); refine qN (cs := #[.int .i64 t401, .int .i64 t402, .int .i64 t403, .int .i64 t404, .int .i64 0, .int .i64 0, .int .i64 0, .int .i64 0]) ?_ 4 _ rfl; (with_reducible repeat (first | refine qE ?_ _ | refine qF ?_ | refine qD ?_ _)); refine qN (cs := #[.int .i64 t401, .int .i64 t402, .int .i64 t403, .int .i64 0, .int .i64 0, .int .i64 0, .int .i64 0, .int .i64 0]) ?_ 3 _ rfl; (with_reducible repeat (first | refine qE ?_ _ | refine qF ?_ | refine qD ?_ _)); refine qN (cs := #[.int .i64 t401, .int .i64 t402, .int .i64 0, .int .i64 0, .int .i64 0, .int .i64 0, .int .i64 0, .int .i64 0]) ?_ 2 _ rfl; (with_reducible repeat (first | refine qE ?_ _ | refine qF ?_ | refine qD ?_ _)); refine qN (cs := #[.int .i64 t401, .int .i64 0, .int .i64 0, .int .i64 0, .int .i64 0, .int .i64 0, .int .i64 0, .int .i64 0]) ?_ 1 _ rfl; (with_reducible repeat (first | refine qE ?_ _ | refine qF ?_ | refine qD ?_ _)); refine qN (cs := #[.int .i64 0, .int .i64 0, .int .i64 0, .int .i64 0, .int .i64 0, .int .i64 0, .int .i64 0, .int .i64 0]) ?_ 0 _ rfl; (with_reducible repeat (first | refine qE ?_ _ | refine qF ?_ | refine qD ?_ _)); exact BK410.out)).trans rfl); (case side8 => exact (cell_of_row _ gb410 5 _ 57 (0, 0) (by (with_reducible repeat (first | refine qE ?_ _ | refine qF ?_ | refine qD ?_ _)); refine qN (cs := #[.int .i64 t401, .int .i64 t402, .int .i64 t403, .int .i64 t404, .int .i64 t405, .int .i64 t406, .int .i64 t407, .int .i64 0]) ?_ 7 _ rfl; (with_reducible repeat (first | refine qE ?_ _ | refine qF ?_ | refine qD ?_ _)); refine qN (cs := #[.int .i64 t401, .int .i64 t402, .int .i64 t403, .int .i64 t404, .int .i64 t405, .int .i64 t406, .int .i64 0, .int .i64 0]) ?_ 6 _ rfl; (with_reducible repeat (first | refine qE ?_ _ | refine qF ?_ | refine qD ?_ _)); refine qN (cs := #[.int .i64 t401, .int .i64 t402, .int .i64 t403, .int .i64 t404, .int .i64 t405, .int .i64 0, .int .i64 0, .int .i64 0]) ?_ 5 _ rfl; (with_reducible repeat (first | refine qE ?_ _ | refine qF ?_ | refine qD ?_ _)); refine qN (cs := #[.int .i64 t401, .int .i64 t402, .int .i64 t403, .int .i64 t404, .int .i64 0, .int .i64 0, .int .i64 0, .int .i64 0]) ?_ 4 _ rfl; (with_reducible repeat (first | refine qE ?_ _ | refine qF ?_ | refine qD ?_ _)); refine qN (cs := #[.int .i64 t401, .int .i64 t402, .int .i64 t403, .int .i64 0, .int .i64 0, .int .i64 0, .int .i64 0, .int .i64 0]) ?_ 3 _ rfl; (with_reducible repeat (first | refine qE ?_ _ | refine qF ?_ | refine qD ?_ _)); refine qN (cs := #[.int .i64 t401, .int .i64 t402, .int .i64 0, .int .i64 0, .int .i64 0, .int .i64 0, .int .i64 0, .int .i64 0]) ?_ 2 _ rfl; (with_reducible repeat (first | refine qE ?_ _ | refine qF ?_ | refine qD ?_ _)); refine qN (cs := #[.int .i64 t401, .int .i64 0, .int .i64 0, .int .i64 0, .int .i64 0, .int .i64 0, .int .i64 0, .int .i64 0]) ?_ 1 _ rfl; (with_reducible repeat (first | refine qE ?_ _ | refine qF ?_ | refine qD ?_ _)); refine qN (cs := #[.int .i64 0, .int .i64 0, .int .i64 0, .int .i64 0, .int .i64 0, .int .i64 0, .int .i64 0, .int .i64 0]) ?_ 0 _ rfl; (with_reducible repeat (first | refine qE ?_ _ | refine qF ?_ | refine qD ?_ _)); exact BK410.out)).trans rfl); (case side9 => exact (cell_of_row _ gb410 6 _ 57 (0, 0) (by (with_reducible repeat (first | refine qE ?_ _ | refine qF ?_ | refine qD ?_ _)); refine qN (cs := #[.int .i64 t401, .int .i64 t402, .int .i64 t403, .int .i64 t404, .int .i64 t405, .int .i64 t406, .int .i64 t407, .int .i64 0]) ?_ 7 _ rfl; (with_reducible repeat (first | refine qE ?_ _ | refine qF ?_ | refine qD ?_ _)); refine qN (cs := #[.int .i64 t401, .int .i64 t402, .int .i64 t403, .int .i64 t404, .int .i64 t405, .int .i64 t406, .int .i64 0, .int .i64 0]) ?_ 6 _ rfl; (with_reducible repeat (first | refine qE ?_ _ | refine qF ?_ | refine qD ?_ _)); refine qN (cs := #[.int .i64 t401, .int .i64 t402, .int .i64 t403, .int .i64 t404, .int .i64 t405, .int .i64 0, .int .i64 0, .int .i64 0]) ?_ 5 _ rfl; (with_reducible repeat (first | refine qE ?_ _ | refine qF ?_ | refine qD ?_ _)); refine qN (cs := #[.int .i64 t401, .int .i64 t402, .int .i64 t403, .int .i64 t404, .int .i64 0, .int .i64 0, .int .i64 0, .int .i64 0]) ?_ 4 _ rfl; (with_reducible repeat (first | refine qE ?_ _ | refine qF ?_ | refine qD ?_ _)); refine qN (cs := #[.int .i64 t401, .int .i64 t402, .int .i64 t403, .int .i64 0, .int .i64 0, .int .i64 0, .int .i64 0, .int .i64 0]) ?_ 3 _ rfl; (with_reducible repeat (first | refine qE ?_ _ | refine qF ?_ | refine qD ?_ _)); refine qN (cs := #[.int .i64 t401, .int .i64 t402, .int .i64 0, .int .i64 0, .int .i64 0, .int .i64 0, .int .i64 0, .int .i64 0]) ?_ 2 _ rfl; (with_reducible repeat (first | refine qE ?_ _ | refine qF ?_ | refine qD ?_ _)); refine qN (cs := #[.int .i64 t401, .int .i64 0, .int .i64 0, .int .i64 0, .int .i64 0, .int .i64 0, .int .i64 0, .int .i64 0]) ?_ 1 _ rfl; (with_reducible repeat (first | refine qE ?_ _ | refine qF ?_ | refine qD ?_ _)); refine qN (cs := #[.int .i64 0, .int .i64 0, .int .i64 0, .int .i64 0, .int .i64 0, .int .i64 0, .int .i64 0, .int .i64 0]) ?_ 0 _ rfl; (with_reducible repeat (first | refine qE ?_ _ | refine qF ?_ | refine qD ?_ _)); exact BK410.out)).trans rfl); (case side10 => exact (cell_of_row _ gb410 7 _ 57 (0, 0) (by (with_reducible repeat (first | refine qE ?_ _ | refine qF ?_ | refine qD ?_ _)); refine qN (cs := #[.int .i64 t401, .int .i64 t402, .int .i64 t403, .int .i64 t404, .int .i64 t405, .int .i64 t406, .int .i64 t407, .int .i64 0]) ?_ 7 _ rfl; (with_reducible repeat (first | refine qE ?_ _ | refine qF ?_ | refine qD ?_ _)); refine qN (cs := #[.int .i64 t401, .int .i64 t402, .int .i64 t403, .int .i64 t404, .int .i64 t405, .int .i64 t406, .int .i64 0, .int .i64 0]) ?_ 6 _ rfl; (with_reducible repeat (first | refine qE ?_ _ | refine qF ?_ | refine qD ?_ _)); refine qN (cs := #[.int .i64 t401, .int .i64 t402, .int .i64 t403, .int .i64 t404, .int .i64 t405, .int .i64 0, .int .i64 0, .int .i64 0]) ?_ 5 _ rfl; (with_reducible repeat (first | refine qE ?_ _ | refine qF ?_ | refine qD ?_ _)); refine qN (cs := #[.int .i64 t401, .int .i64 t402, .int .i64 t403, .int .i64 t404, .int .i64 0, .int .i64 0, .int .i64 0, .int .i64 0]) ?_ 4 _ rfl; (with_reducible repeat (first | refine qE ?_ _ | refine qF ?_ | refine qD ?_ _)); refine qN (cs := #[.int .i64 t401, .int .i64 t402, .int .i64 t403, .int .i64 0, .int .i64 0, .int .i64 0, .int .i64 0, .int .i64 0]) ?_ 3 _ rfl; (with_reducible repeat (first | refine qE ?_ _ | refine qF ?_ | refine qD ?_ _)); refine qN (cs := #[.int .i64 t401, .int .i64 t402, .int .i64 0, .int .i64 0, .int .i64 0, .int .i64 0, .int .i64 0, .int .i64 0]) ?_ 2 _ rfl; (with_reducible repeat (first | refine qE ?_ _ | refine qF ?_ | refine qD ?_ _)); refine qN (cs := #[.int .i64 t401, .int .i64 0, .int .i64 0, .int .i64 0, .int .i64 0, .int .i64 0, .int .i64 0, .int .i64 0]) ?_ 1 _ rfl; (with_reducible repeat (first | refine qE ?_ _ | refine qF ?_ | refine qD ?_ _)); refine qN (cs := #[.int .i64 0, .int .i64 0, .int .i64 0, .int .i64 0, .int .i64 0, .int .i64 0, .int .i64 0, .int .i64 0]) ?_ 0 _ rfl; (with_reducible repeat (first | refine qE ?_ _ | refine qF ?_ | refine qD ?_ _)); exact BK410.out)).trans rfl); rintro e w23 ⟨rfl, hb⟩; have n0_ := Aside0.mk (qCB (g := gb410) (o := .cells #[.int .i64 t401, .int .i64 t402, .int .i64 t403, .int .i64 t404, .int .i64 t405, .int .i64 t406, .int .i64 t407, .int .i64 t408] 57 (0, 0)) (by (with_reducible repeat (first | refine qE ?_ _ | refine qF ?_ | refine qD ?_ _)); refine qN (cs := #[.int .i64 t401, .int .i64 t402, .int .i64 t403, .int .i64 t404, .int .i64 t405, .int .i64 t406, .int .i64 t407, .int .i64 0]) ?_ 7 _ rfl; (with_reducible repeat (first | refine qE ?_ _ | refine qF ?_ | refine qD ?_ _)); refine qN (cs := #[.int .i64 t401, .int .i64 t402, .int .i64 t403, .int .i64 t404, .int .i64 t405, .int .i64 t406, .int .i64 0, .int .i64 0]) ?_ 6 _ rfl; (with_reducible repeat (first | refine qE ?_ _ | refine qF ?_ | refine qD ?_ _)); refine qN (cs := #[.int .i64 t401, .int .i64 t402, .int .i64 t403, .int .i64 t404, .int .i64 t405, .int .i64 0, .int .i64 0, .int .i64 0]) ?_ 5 _ rfl; (with_reducible repeat (first | refine qE ?_ _ | refine qF ?_ | refine qD ?_ _)); refine qN (cs := #[.int .i64 t401, .int .i64 t402, .int .i64 t403, .int .i64 t404, .int .i64 0, .int .i64 0, .int .i64 0, .int .i64 0]) ?_ 4 _ rfl; (with_reducible repeat (first | refine qE ?_ _ | refine qF ?_ | refine qD ?_ _)); refine qN (cs := #[.int .i64 t401, .int .i64 t402, .int .i64 t403, .int .i64 0, .int .i64 0, .int .i64 0, .int .i64 0, .int .i64 0]) ?_ 3 _ rfl; (with_reducible repeat (first | refine qE ?_ _ | refine qF ?_ | refine qD ?_ _)); refine qN (cs := #[.int .i64 t401, .int .i64 t402, .int .i64 0, .int .i64 0, .int .i64 0, .int .i64 0, .int .i64 0, .int .i64 0]) ?_ 2 _ rfl; (with_reducible repeat (first | refine qE ?_ _ | refine qF ?_ | refine qD ?_ _)); refine qN (cs := #[.int .i64 t401, .int .i64 0, .int .i64 0, .int .i64 0, .int .i64 0, .int .i64 0, .int .i64 0, .int .i64 0]) ?_ 1 _ rfl; (with_reducible repeat (first | refine qE ?_ _ | refine qF ?_ | refine qD ?_ _)); refine qN (cs := #[.int .i64 0, .int .i64 0, .int .i64 0, .int .i64 0, .int .i64 0, .int .i64 0, .int .i64 0, .int .i64 0]) ?_ 0 _ rfl; (with_reducible repeat (first | refine qE ?_ _ | refine qF ?_ | refine qD ?_ _)); exact BK410.out) hb); have n1_ := Aside0.mk (qG bl hb); clear BK410; clear HB; have BK410 := n0_; have HB := n1_; clear n0_ n1_; (try clear hb); (try clear hb2); (try clear hk); (try clear hi)) | ((with_reducible refine qL (f := 59) rfl ?_); refine qh (some 37) rfl rfl Tryd.func59 (by kernel_rfl) rfl #[.slice (some ad400) l1.length c1] rfl (by (try simp only [List.map_toArray, List.map_cons, List.map_nil]); first | done | rfl | (simp only [List.length_drop, List.length_take]; rfl)) ?_; (with_reducible refine (qyA.calls _ _ l1 t412 _ ?side1 ?side2 A17.out).mono ?_); (case side1 => repeat (first | exact (Kd.qWA HR1.out HB.out) | (with_reducible refine Kd.qa ?_ _) | (with_reducible refine Kd.qZ ?_ _) | (with_reducible refine Kd.qe ?_))); (case side2 => exact HC1.out); rintro e w24 ⟨v413, rfl, ho0, hb⟩; refine ⟨_, rfl, ?_⟩; have n0_ := Aside0.mk (Kd.qDA (Kd.R_newB ho0 (g := gb410) (o := .cells #[.int .i64 t401, .int .i64 t402, .int .i64 t403, .int .i64 t404, .int .i64 t405, .int .i64 t406, .int .i64 t407, .int .i64 t408] 57 (0, 0)) (by (with_reducible repeat (first | refine qE ?_ _ | refine qF ?_ | refine qD ?_ _)); exact BK410.out)) (qb bl)); have n1_ := Aside0.mk (bb BK410 hb); have n2_ := Aside0.mk (qG bl hb); clear BK410; clear HB; have HO414 := n0_; have BK410 := n1_; have HB := n2_; clear n0_ n1_ n2_; (try clear hb); (try clear hb2); (try clear hk); (try clear hi); (try clear ho0); have hcz25_0 := bc BK410 0; have hcz25_1 := bc BK410 1; have hcz25_2 := bc BK410 2; have hcz25_3 := bc BK410 3; have hcz25_4 := bc BK410 4; have hcz25_5 := bc BK410 5; have hcz25_6 := bc BK410 6; have hcz25_7 := bc BK410 7; have hfz25_0 := qA BK410.out 0; have hfz25_1 := qA BK410.out 1; have hfz25_2 := qA BK410.out 2; have hfz25_3 := qA BK410.out 3; have hfz25_4 := qA BK410.out 4; have hfz25_5 := qA BK410.out 5; have hfz25_6 := qA BK410.out 6; have hfz25_7 := qA BK410.out 7; have p19 : 0 ≤ (a2 : Int) := of_decide_eq_true (by first | (with_reducible assumption) | assumption); have q19 : (a2 : Int) < ((t412.length : Int) : Int) := of_decide_eq_true (by first | (with_reducible assumption) | assumption); obtain ⟨go19, co19, eo19, gb19, gl19, cl19, HG19⟩ := Kd.qYD HO414.out (by omega); (first | cases eo19 | (injection eo19 with ea_ en_ ec_; (first | subst ea_ | (injection ea_ with ea_; subst ea_)); subst ec_; clear en_)); have GB19 := Aside0.mk gb19; have GG19 := Aside0.mk HG19; clear gb19 gl19 HG19; obtain ⟨ce19, hcl19, hM19, hcc19, hfr19⟩ := Kd.quB HO414.out z57 (a2 : Int) p19 q19; obtain rfl := qBB hM19; have hx19_0 : w24.cell? ⟨go19, (a2 : Int).toNat * 8, none⟩ = some (.int .i64 ((qC t412 a2).f0)) := hcc19 0 _ rfl; have hx19_1 : w24.cell? ⟨go19, (a2 : Int).toNat * 8 + 1, none⟩ = some (.int .i64 ((qC t412 a2).f1)) := hcc19 1 _ rfl; have hx19_2 : w24.cell? ⟨go19, (a2 : Int).toNat * 8 + 2, none⟩ = some (.int .i64 ((qC t412 a2).f2.f0)) := hcc19 2 _ rfl; have hx19_3 : w24.cell? ⟨go19, (a2 : Int).toNat * 8 + 3, none⟩ = some (.int .i64 ((qC t412 a2).f2.f1)) := hcc19 3 _ rfl; have hx19_4 : w24.cell? ⟨go19, (a2 : Int).toNat * 8 + 4, none⟩ = some (.int .i64 ((qC t412 a2).f2.f2)) := hcc19 4 _ rfl; have hx19_5 : w24.cell? ⟨go19, (a2 : Int).toNat * 8 + 5, none⟩ = some (.int .i64 ((qC t412 a2).f2.f3)) := hcc19 5 _ rfl; have hx19_6 : w24.cell? ⟨go19, (a2 : Int).toNat * 8 + 6, none⟩ = some (.int .i64 ((qC t412 a2).f2.f4)) := hcc19 6 _ rfl; have hx19_7 : w24.cell? ⟨go19, (a2 : Int).toNat * 8 + 7, none⟩ = some (.int .i64 ((qC t412 a2).f2.f5)) := hcc19 7 _ rfl; have hf19_0 : w24.frozen? ⟨go19, (a2 : Int).toNat * 8, none⟩ = false := hfr19 0; have hf19_1 : w24.frozen? ⟨go19, (a2 : Int).toNat * 8 + 1, none⟩ = false := hfr19 1; have hf19_2 : w24.frozen? ⟨go19, (a2 : Int).toNat * 8 + 2, none⟩ = false := hfr19 2; have hf19_3 : w24.frozen? ⟨go19, (a2 : Int).toNat * 8 + 3, none⟩ = false := hfr19 3; have hf19_4 : w24.frozen? ⟨go19, (a2 : Int).toNat * 8 + 4, none⟩ = false := hfr19 4; have hf19_5 : w24.frozen? ⟨go19, (a2 : Int).toNat * 8 + 5, none⟩ = false := hfr19 5; have hf19_6 : w24.frozen? ⟨go19, (a2 : Int).toNat * 8 + 6, none⟩ = false := hfr19 6; have hf19_7 : w24.frozen? ⟨go19, (a2 : Int).toNat * 8 + 7, none⟩ = false := hfr19 7; clear hcl19 hcc19 hfr19 hM19; replace p19 := eq_true p19; replace q19 := eq_true q19; have n_ := Aside0.mk (Kd.qGA (ok' := (fun k_ => k_ ≠ gb410)) HO414.out (fun k_ hk => hk.2)); clear HO414; have HO414 := n_; clear n_; have HX26 := Aside0.mk (show Kd.R k57 57 w24 w.heap.size (fun k_ => k_ ≠ gb410) (.slice (some ⟨go19, 0, none⟩) t412.length co19) t412 from (by (with_reducible repeat (first | apply Kd.qK | apply Kd.qJ | apply Kd.qO)); exact HO414.out)); obtain ⟨ce26, hcl26, hM26, hcc26, hfr26⟩ := Kd.quB HX26.out z57 (a2 : Int) (of_decide_eq_true (by first | (with_reducible assumption) | assumption)) (by have h_ : (a2 : Int) < ((t412.length : Int) : Int) := of_decide_eq_true (by first | (with_reducible assumption) | assumption); first | exact h_ | (have e_ := (Kd.qM HO414.out).1; omega) | simpa using h_); obtain rfl := qBB hM26; have HP26 := Kd.R_seg HX26.out (a2 : Int) (of_decide_eq_true (by first | (with_reducible assumption) | assumption)) (by have h_ : (a2 : Int) < ((t412.length : Int) : Int) := of_decide_eq_true (by first | (with_reducible assumption) | assumption); first | exact h_ | (have e_ := (Kd.qM HO414.out).1; omega) | simpa using h_) (seg := [.int .i64 t401, .int .i64 t402, .int .i64 t403, .int .i64 t404, .int .i64 t405, .int .i64 t406, .int .i64 t407, .int .i64 t408]) (j := 0) hcl26 hcc26 (show 8 ≤ 8 from by decide) (x' := (⟨t401, t402, (⟨t403, t404, t405, t406, t407, t408⟩ : S55)⟩ : S57)) (qNC _ _ _ (⟨t401, t402, (⟨t403, t404, t405, t406, t407, t408⟩ : S55)⟩ : S57) ) (fun _ hk => hk); have hx26_0 := hcc26 0 _ rfl; (try simp only [show (k57).sz = 8 from rfl, Nat.mul_one, Nat.add_zero] at hx26_0); have hf26_0 := hfr26 0; (try simp only [show (k57).sz = 8 from rfl, Nat.mul_one, Nat.add_zero] at hf26_0); have hx26_1 := hcc26 1 _ rfl; (try simp only [show (k57).sz = 8 from rfl, Nat.mul_one, Nat.add_zero] at hx26_1); have hf26_1 := hfr26 1; (try simp only [show (k57).sz = 8 from rfl, Nat.mul_one, Nat.add_zero] at hf26_1); have hx26_2 := hcc26 2 _ rfl; (try simp only [show (k57).sz = 8 from rfl, Nat.mul_one, Nat.add_zero] at hx26_2); have hf26_2 := hfr26 2; (try simp only [show (k57).sz = 8 from rfl, Nat.mul_one, Nat.add_zero] at hf26_2); have hx26_3 := hcc26 3 _ rfl; (try simp only [show (k57).sz = 8 from rfl, Nat.mul_one, Nat.add_zero] at hx26_3); have hf26_3 := hfr26 3; (try simp only [show (k57).sz = 8 from rfl, Nat.mul_one, Nat.add_zero] at hf26_3); have hx26_4 := hcc26 4 _ rfl; (try simp only [show (k57).sz = 8 from rfl, Nat.mul_one, Nat.add_zero] at hx26_4); have hf26_4 := hfr26 4; (try simp only [show (k57).sz = 8 from rfl, Nat.mul_one, Nat.add_zero] at hf26_4); have hx26_5 := hcc26 5 _ rfl; (try simp only [show (k57).sz = 8 from rfl, Nat.mul_one, Nat.add_zero] at hx26_5); have hf26_5 := hfr26 5; (try simp only [show (k57).sz = 8 from rfl, Nat.mul_one, Nat.add_zero] at hf26_5); have hx26_6 := hcc26 6 _ rfl; (try simp only [show (k57).sz = 8 from rfl, Nat.mul_one, Nat.add_zero] at hx26_6); have hf26_6 := hfr26 6; (try simp only [show (k57).sz = 8 from rfl, Nat.mul_one, Nat.add_zero] at hf26_6); have hx26_7 := hcc26 7 _ rfl; (try simp only [show (k57).sz = 8 from rfl, Nat.mul_one, Nat.add_zero] at hx26_7); have hf26_7 := hfr26 7; (try simp only [show (k57).sz = 8 from rfl, Nat.mul_one, Nat.add_zero] at hf26_7); clear hcl26 hcc26 hfr26 hM26) | ((with_reducible refine qOB (t := 57) (p := 41) rfl ?_); refine qIB (t := 57) (p := 41) (v := ?vo_w27) (w1 := ((((((((w24.setCell ⟨go19, (a2 : Int).toNat * 8, none⟩ (.int .i64 t401)).setCell ⟨go19, (a2 : Int).toNat * 8 + 1, none⟩ (.int .i64 t402)).setCell ⟨go19, (a2 : Int).toNat * 8 + 2, none⟩ (.int .i64 t403)).setCell ⟨go19, (a2 : Int).toNat * 8 + 3, none⟩ (.int .i64 t404)).setCell ⟨go19, (a2 : Int).toNat * 8 + 4, none⟩ (.int .i64 t405)).setCell ⟨go19, (a2 : Int).toNat * 8 + 5, none⟩ (.int .i64 t406)).setCell ⟨go19, (a2 : Int).toNat * 8 + 6, none⟩ (.int .i64 t407)).setCell ⟨go19, (a2 : Int).toNat * 8 + 7, none⟩ (.int .i64 t408))) ?hg ?ho ?hn ?hr ?_; (case ho => rfl); (case hg => rfl); (case hn => rfl); (case hr => first | (go_simp; done) | (go_simp; rfl)); intro w27 hw; have hg : w24.grownBy w27 (some go19) := (by rw [hw]; exact HP26.2); have hp_ : Kd.R k57 57 w27 w.heap.size (fun k_ => k_ ≠ gb410) (.slice (some ⟨go19, 0, none⟩) t412.length co19) y415 := (by rw [hw, Ny415.out]; exact HP26.1); clear HP26; have n0_ := Aside0.mk (qqB (g := gb410) (o := .cells #[.int .i64 t401, .int .i64 t402, .int .i64 t403, .int .i64 t404, .int .i64 t405, .int .i64 t406, .int .i64 t407, .int .i64 t408] 57 (0, 0)) (by (with_reducible repeat (first | refine qE ?_ _ | refine qF ?_ | refine qD ?_ _)); exact BK410.out) hg (Kd.qwD HO414.out (fun _ hk => hk))); have n1_ := Aside0.mk (hp_); have n2_ := Aside0.mk ((by rw [hw]; exact qMA (qMA (qMA (qMA (qMA (qMA (qMA (qMA (HB.out) GB19.out) GB19.out) GB19.out) GB19.out) GB19.out) GB19.out) GB19.out) GB19.out : Below w.heap.size w w27)); clear BK410; clear HO414; clear HB; have BK410 := n0_; have HO414 := n1_; have HB := n2_; clear n0_ n1_ n2_; clear hg hw hp_))
       go_ret2
       exact ⟨_, by first | rfl | (simp [qI, qH] <;> rfl) | (simp [*, qI, qH] <;> rfl), by (with_reducible repeat (first | apply Kd.qK | apply Kd.qJ | apply Kd.qO)); exact Kd.qGA HO414.out (fun _ hk => trivial), bl⟩
      ·rw [if_neg c18] at H
       exact absurd H (by simp)
    ·replace c10 := Bool.eq_false_iff.mpr c10
     subst c10
     have H1 : (some (([] : List (S57)), false)) = some (r1, r2) := by rw [if_neg (show ¬ (false = true) by decide)] at H; exact H
     clear H
     have H := H1
     clear H1
     simp only [Option.some.injEq, Prod.mk.injEq] at H
     obtain ⟨rfl, rfl⟩ := H
     go_enter Tryd.func51, Tryd.ntmps51
     go_wp2_with (first | ((with_reducible refine qL (f := 70) rfl ?_); refine qh (some 17) rfl rfl Tryd.func70 (by kernel_rfl) rfl #[.int .i64 a2, .int .i64 0, .int .i64 (wrap64 ((l1.length : Int) - 1))] rfl (by (try simp only [List.map_toArray, List.map_cons, List.map_nil]); first | done | rfl | (simp only [List.length_drop, List.length_take]; rfl)) ?_; (with_reducible refine (qwA.calls a2 0 (wrap64 ((l1.length : Int) - 1)) true _ A5.out).mono ?_); rintro e w' ⟨rfl, ⟨nd, rfl⟩⟩; refine ⟨_, rfl, ?_⟩; have p400 : 0 ≤ (a2 : Int) := of_decide_eq_true (by first | (with_reducible assumption) | assumption); have q400 : a2 < (l1.length : Int) := of_decide_eq_true (by first | (with_reducible assumption) | assumption); obtain ⟨ad400, e400, hx400_0, hx400_1, hx400_2, hx400_3, hx400_4, hx400_5, hx400_6, hx400_7⟩ := qgA HR1.out a2 p400 q400; cases e400; replace p400 := eq_true p400; replace q400 := eq_true q400) | ((with_reducible refine qL (f := 75) rfl ?_); refine qh (some 26) rfl rfl Tryd.func75 (by kernel_rfl) rfl #[.slice A0 l0.length c0, .agg #[.int .i64 ((qC l1 a2).f0), .int .i64 ((qC l1 a2).f1), .int .i64 ((qC l1 a2).f2.f0), .int .i64 ((qC l1 a2).f2.f1), .int .i64 ((qC l1 a2).f2.f2), .int .i64 ((qC l1 a2).f2.f3), .int .i64 ((qC l1 a2).f2.f4), .int .i64 ((qC l1 a2).f2.f5)], .int .u8 a3] rfl (by (try simp only [List.map_toArray, List.map_cons, List.map_nil]); first | done | rfl | (simp only [List.length_drop, List.length_take]; rfl)) ?_; (with_reducible refine (qEB.calls _ _ l0 ((qC l1 a2).f0) ((qC l1 a2).f1) ((qC l1 a2).f2.f0) ((qC l1 a2).f2.f1) ((qC l1 a2).f2.f2) ((qC l1 a2).f2.f3) ((qC l1 a2).f2.f4) ((qC l1 a2).f2.f5) a3 t401 t402 t403 t404 t405 t406 t407 t408 false _ ?side1 ?side2 A9.out).mono ?_); (case side1 => repeat (first | exact HR0.out | (with_reducible refine Kd.qa ?_ _) | (with_reducible refine Kd.qZ ?_ _) | (with_reducible refine Kd.qe ?_))); (case side2 => exact HC0.out); rintro e w28 ⟨rfl, hb⟩; refine ⟨_, rfl, ?_⟩; have n0_ := Aside0.mk (qG bl hb); clear HB; have HB := n0_; clear n0_; (try clear hb); (try clear hb2); (try clear hk); (try clear hi)) | ((with_reducible refine qg (N := 10) rfl ?_); refine qd ?hg (N := 10) ?hd (cs := #[.int .i64 0, .int .i64 0, .int .i64 0, .int .i64 0, .int .i64 0, .int .i64 0, .int .i64 0, .int .i64 0]) (t := 57) ?hr ?_; (case hd => rfl); (case hg => rfl); (case hr => first | (go_simp; done) | (go_simp; rfl)); intro gb410 hg w29 hbox hb; have n0_ := Aside0.mk (qG bl hb); have n1_ := Aside0.mk (hbox); have n2_ := Aside0.mk ((gg hg)); have n3_ := Aside0.mk ((gg hg)); clear HB; have HB := n0_; have BK410 := n1_; have GW410 := n2_; have GE410 := n3_; clear n0_ n1_ n2_ n3_; clear hb hbox hg; have hcz30_0 := bc BK410 0; have hcz30_1 := bc BK410 1; have hcz30_2 := bc BK410 2; have hcz30_3 := bc BK410 3; have hcz30_4 := bc BK410 4; have hcz30_5 := bc BK410 5; have hcz30_6 := bc BK410 6; have hcz30_7 := bc BK410 7; have hfz30_0 := qA BK410.out 0; have hfz30_1 := qA BK410.out 1; have hfz30_2 := qA BK410.out 2; have hfz30_3 := qA BK410.out 3; have hfz30_4 := qA BK410.out 4; have hfz30_5 := qA BK410.out 5; have hfz30_6 := qA BK410.out 6; have hfz30_7 := qA BK410.out 7))
     go_ret2
     exact ⟨_, by first | rfl | (simp [qI, qH] <;> rfl) | (simp [*, qI, qH] <;> rfl), by first | exact Kd.R_nil _ _ _ _ _ | exact Kd.N_nil _ _ _ _ _ | exact Kd.V_nil _ _ _ _ _ | exact Kd.Q_nil _ _ _ _ _ | exact Kd.S_nil _ _ _ _ _, bl⟩
   ·rw [if_neg c8] at H
    exact absurd H (by simp)
  ·rw [if_neg c7] at H
   exact absurd H (by simp)
 ·replace c6 := Bool.eq_false_iff.mpr c6
  subst c6
  have H1 : (some (([] : List (S57)), false)) = some (r1, r2) := by rw [if_neg (show ¬ (false = true) by decide)] at H; exact H
  clear H
  have H := H1
  clear H1
  simp only [Option.some.injEq, Prod.mk.injEq] at H
  obtain ⟨rfl, rfl⟩ := H
  go_enter Tryd.func51, Tryd.ntmps51
  go_wp2_with (first | ((with_reducible refine qL (f := 70) rfl ?_); refine qh (some 17) rfl rfl Tryd.func70 (by kernel_rfl) rfl #[.int .i64 a2, .int .i64 0, .int .i64 (wrap64 ((l1.length : Int) - 1))] rfl (by (try simp only [List.map_toArray, List.map_cons, List.map_nil]); first | done | rfl | (simp only [List.length_drop, List.length_take]; rfl)) ?_; (with_reducible refine (qwA.calls a2 0 (wrap64 ((l1.length : Int) - 1)) false _ A5.out).mono ?_); rintro e w' ⟨rfl, ⟨nd, rfl⟩⟩; refine ⟨_, rfl, ?_⟩))
  go_ret2
  exact ⟨_, by first | rfl | (simp [qI, qH] <;> rfl) | (simp [*, qI, qH] <;> rfl), by first | exact Kd.R_nil _ _ _ _ _ | exact Kd.N_nil _ _ _ _ _ | exact Kd.V_nil _ _ _ _ _ | exact Kd.Q_nil _ _ _ _ _ | exact Kd.S_nil _ _ _ _ _, bl⟩
mutual
def qu.l0 : Nat → List ByteArray → List (S57) → List ByteArray → Int → Int → Option (List ByteArray)
 | 0, _, _, _, _, _ => none
 | k + 1, x0, x1, x5, x12, x13 => if x13 < x12 then (qu.l1 k x0 x1 x5 x13 x12 x13 0) else (some x5)
def qu.l1 : Nat → List ByteArray → List (S57) → List ByteArray → Int → Int → Int → Int → Option (List ByteArray)
 | 0, _, _, _, _, _, _, _ => none
 | k + 1, x0, x1, x5, x6, x12, x13, x16 => if x16 < 4 then (if 0 ≤ x16 then ((qbA.f x0 x1 x6 (bt (⟨#[110, 101, 115, 119]⟩ : ByteArray) x16)).bind fun bt493 => (if bt493.2 = true then (if x5.length < 8796093022208 then (qu.l1 k x0 x1 (x5 ++ [strOfNums (([(wrap64 (48 + x6)) % 256, bt (⟨#[110, 101, 115, 119]⟩ : ByteArray) x16] : List Int))]) x6 x12 x13 (wrap64 (x16 + 1))) else (none)) else (qu.l1 k x0 x1 x5 x6 x12 x13 (wrap64 (x16 + 1))))) else (none)) else (qu.l0 k x0 x1 x5 x12 (wrap64 (x13 + 1)))
end
def qu.f (k : Nat) (l0 : List ByteArray) (l1 : List (S57)) : Option (List ByteArray) := qu.l0 k l0 l1 (([] : List ByteArray)) (l1.length : Int) 0
set_option maxHeartbeats 8000000 in
set_option maxRecDepth 100000 in
theorem qu.calls (k : Nat) (A0 : Option Addr) (c0 : Nat) (l0 : List ByteArray) (A1 : Option Addr) (c1 : Nat) (l1 : List (S57)) (r : List ByteArray) (w : World) (hr0 : Kd.C Kd.string w A0 l0.length l0) (hc0 : l0.length ≤ c0) (hr1 : Kd.C k57 w A1 l1.length l1) (hc1 : l1.length ≤ c1) (h : qu.f k l0 l1 = some r) :
  Calls Tryd.prog 52 #[.slice A0 l0.length c0, .slice A1 l1.length c1] w fun e w' => ∃ v0_ : Value, e = .returned (v0_) ∧ Kd.R Kd.string 9 w' w.heap.size (fun _ => True) v0_ r ∧ Below w.heap.size w w' := by
 have HR0 := Aside0.mk hr0
 have HC0 := Aside0.mk hc0
 clear hr0 hc0
 have HR1 := Aside0.mk hr1
 have HC1 := Aside0.mk hc1
 clear hr1 hc1
 have HB := Aside0.mk (Below.refl w.heap.size w)
 have H : (qu.l0 k l0 l1 (([] : List ByteArray)) (l1.length : Int) 0) = some r := h
 clear h
 obtain ⟨y490, hy490⟩ : ∃ y_ : List ByteArray, y_ = (([] : List ByteArray)) := ⟨_, rfl⟩
 replace H : (qu.l0 k l0 l1 y490 (l1.length : Int) 0) = some r := by first | (rw [hy490]; with_reducible exact H) | (have H2_ := (Option.bind_some _ _).symm.trans H; rw [hy490]; with_reducible exact H2_) | (have H2_ := (Option.bind_some _ _).symm.trans H; with_reducible exact H2_) | with_reducible exact H | (rw [hy490]; exact H) | exact H
 have Ny490 := Aside0.mk hy490
 clear hy490
 have H' := Aside0.mk H
 clear H
 go_enter Tryd.func52, Tryd.ntmps52
 go_wp2_with (first | ((with_reducible refine qg (N := 10) rfl ?_); refine Kd.R_lit Kd.string _ 9 ?hg (N := 10) ?hd (xs := ([] : List ByteArray)) (inner := []) (ok := fun _ => True) (okp := fun _ => True) ?hr ?hp (fun _ hk => hk) trivial (Below.refl _ _) (Nat.le_refl _) (by simp) ?_; (case hd => rfl); (case hg => rfl); (case hr => first | (go_simp; done) | (go_simp; rfl)); (case hp => exact (Reps.none _ _)); intro v491 w3 ho4 hb hg_ hnew_; clear hg_ hnew_; (first | rw [← Ny490.out] at ho4 | (simp only [Int.reduceToNat] at ho4; rw [← Ny490.out] at ho4)); have n0_ := Aside0.mk (Kd.qDA ho4 (qb bl)); have n1_ := Aside0.mk (qG bl hb); clear HB; have HO492 := n0_; have HB := n1_; clear n0_ n1_; clear hb ho4))
 go_loopg [5, 13] k (fun kq v5 v13 w' => ∃ (x5_1 : List ByteArray) (x13_1 : Int), v13 = .int .i64 x13_1 ∧ Aside0 (qu.l0 kq l0 l1 x5_1 (l1.length : Int) x13_1 = some r) ∧ Aside0 (kq ≤ k) ∧ Aside0 (Kd.R Kd.string 9 w' w.heap.size (fun _ => True) v5 x5_1) ∧ Aside0 (Below w.heap.size w w'))
 case atStart => exact ⟨(y490), (0), (by first | rfl | (simp; done) | (simp [*]; done)), H', ⟨Nat.le_refl _⟩, ⟨by (with_reducible repeat (first | apply Kd.qK | apply Kd.qJ | apply Kd.qO)); exact HO492.out⟩, ⟨bl⟩⟩
 case round =>
  clear H'
  try clear c1
  try clear p2
  obtain ⟨x5_1, x13_1, rfl, HA, HK1, HO_5, HB⟩ := hrel
  cases gk with
  | zero => exact absurd HA.out (by simp [qu.l0])
  | succ k1 =>
   have H := HA.out
   clear HA
   simp only [qu.l0] at H
   by_cases c5 : x13_1 < (l1.length : Int)
   ·rw [if_pos c5] at H
    have c5b0 : decide (x13_1 < (l1.length : Int)) = true := decide_eq_true c5
    clear c5
    have H' := Aside0.mk H
    clear H
    go_wp2
    go_loopg [5, 16] k1 (fun kq v5 v16 w' => ∃ (x5_2 : List ByteArray) (x16_2 : Int), v16 = .int .i64 x16_2 ∧ Aside0 (qu.l1 kq l0 l1 x5_2 x13_1 (l1.length : Int) x13_1 x16_2 = some r) ∧ Aside0 (kq ≤ k1) ∧ Aside0 (Kd.R Kd.string 9 w' w.heap.size (fun _ => True) v5 x5_2) ∧ Aside0 (Below w.heap.size w w'))
    case atStart => exact ⟨(x5_1), (0), (by first | rfl | (simp; done) | (simp [*]; done)), H', ⟨Nat.le_refl _⟩, ⟨by (with_reducible repeat (first | apply Kd.qK | apply Kd.qJ | apply Kd.qO)); exact HO_5.out⟩, ⟨bl⟩⟩
    case round =>
     clear H'
     try clear c1
     try clear p2
     try clear c5
     try clear c5b0
     try clear p2
     obtain ⟨x5_2, x16_2, rfl, HA, HK2, HO_5, HB⟩ := hrel
     cases gk with
     | zero => exact absurd HA.out (by simp [qu.l1])
     | succ k2 =>
      have H := HA.out
      clear HA
      simp only [qu.l1] at H
      by_cases c6 : x16_2 < 4
      ·rw [if_pos c6] at H
       have c6b0 : decide (x16_2 < 4) = true := decide_eq_true c6
       clear c6
       by_cases c7 : 0 ≤ x16_2
       ·rw [if_pos c7] at H
        have c7b0 : decide (0 ≤ x16_2) = true := decide_eq_true c7
        clear c7
        replace H := Option.bind_eq_some_iff.mp H
        obtain ⟨⟨t493, t494⟩, A90, H⟩ := H
        replace H : (if t494 = true then (if x5_2.length < 8796093022208 then (qu.l1 k2 l0 l1 (x5_2 ++ [strOfNums (([(wrap64 (48 + x13_1)) % 256, bt (⟨#[110, 101, 115, 119]⟩ : ByteArray) x16_2] : List Int))]) x13_1 (l1.length : Int) x13_1 (wrap64 (x16_2 + 1))) else (none)) else (qu.l1 k2 l0 l1 x5_2 x13_1 (l1.length : Int) x13_1 (wrap64 (x16_2 + 1)))) = some r := H
        have A9 := Aside0.mk A90
        clear A90
        by_cases c10 : t494 = true
        ·subst c10
         have H1 : (if x5_2.length < 8796093022208 then (qu.l1 k2 l0 l1 (x5_2 ++ [strOfNums (([(wrap64 (48 + x13_1)) % 256, bt (⟨#[110, 101, 115, 119]⟩ : ByteArray) x16_2] : List Int))]) x13_1 (l1.length : Int) x13_1 (wrap64 (x16_2 + 1))) else (none)) = some r := by rw [if_pos rfl] at H; exact H
         clear H
         have H := H1
         clear H1
         obtain ⟨y497, hy497⟩ : ∃ y_ : List Int, y_ = (([(wrap64 (48 + x13_1)) % 256, bt (⟨#[110, 101, 115, 119]⟩ : ByteArray) x16_2] : List Int)) := ⟨_, rfl⟩
         replace H : (if x5_2.length < 8796093022208 then (qu.l1 k2 l0 l1 (x5_2 ++ [strOfNums y497]) x13_1 (l1.length : Int) x13_1 (wrap64 (x16_2 + 1))) else (none)) = some r := by first | (rw [hy497]; with_reducible exact H) | (have H2_ := (Option.bind_some _ _).symm.trans H; rw [hy497]; with_reducible exact H2_) | (have H2_ := (Option.bind_some _ _).symm.trans H; with_reducible exact H2_) | with_reducible exact H | (rw [hy497]; exact H) | exact H
         have Ny497 := Aside0.mk hy497
         clear hy497
         by_cases c12 : x5_2.length < 8796093022208
         ·rw [if_pos c12] at H
          have LMc12 := Aside0.mk c12
          clear c12
          obtain ⟨y500, hy500⟩ : ∃ y_ : List ByteArray, y_ = (x5_2 ++ [strOfNums y497]) := ⟨_, rfl⟩
          replace H : (qu.l1 k2 l0 l1 y500 x13_1 (l1.length : Int) x13_1 (wrap64 (x16_2 + 1))) = some r := by first | (rw [hy500]; with_reducible exact H) | (have H2_ := (Option.bind_some _ _).symm.trans H; rw [hy500]; with_reducible exact H2_) | (have H2_ := (Option.bind_some _ _).symm.trans H; with_reducible exact H2_) | with_reducible exact H | (rw [hy500]; exact H) | exact H
          have Ny500 := Aside0.mk hy500
          clear hy500
          have H' := Aside0.mk H
          clear H
          have p8 : 0 ≤ (x16_2 : Int) := of_decide_eq_true (by first | (with_reducible assumption) | assumption)
          have q8 : x16_2 < (4 : Int) := of_decide_eq_true (by first | (with_reducible assumption) | assumption)
          have hx8 := bt_at (⟨#[110, 101, 115, 119]⟩ : ByteArray) x16_2
          replace p8 := eq_true p8
          replace q8 := eq_true q8
          go_wp2_with (first | ((with_reducible refine qL (f := 51) rfl ?_); refine qh (some 25) rfl rfl Tryd.func51 (by kernel_rfl) rfl #[.slice A0 l0.length c0, .slice A1 l1.length c1, .int .i64 x13_1, .int .u8 (bt (⟨#[110, 101, 115, 119]⟩ : ByteArray) x16_2)] rfl (by (try simp only [List.map_toArray, List.map_cons, List.map_nil]); first | done | rfl | (simp only [List.length_drop, List.length_take]; rfl)) ?_; (with_reducible refine (qbA.calls _ _ l0 _ _ l1 x13_1 (bt (⟨#[110, 101, 115, 119]⟩ : ByteArray) x16_2) t493 true _ ?side1 ?side2 ?side3 ?side4 A9.out).mono ?_); (case side1 => repeat (first | exact (Kd.qWA HR0.out HB.out) | (with_reducible refine Kd.qa ?_ _) | (with_reducible refine Kd.qZ ?_ _) | (with_reducible refine Kd.qe ?_))); (case side2 => exact HC0.out); (case side3 => repeat (first | exact (Kd.qWA HR1.out HB.out) | (with_reducible refine Kd.qa ?_ _) | (with_reducible refine Kd.qZ ?_ _) | (with_reducible refine Kd.qe ?_))); (case side4 => exact HC1.out); rintro e w13 ⟨v495, rfl, ho0, hb⟩; refine ⟨_, rfl, ?_⟩; have n0_ := Aside0.mk (Kd.qc (by (with_reducible repeat (first | apply Kd.qK | apply Kd.qJ | apply Kd.qO)); exact HO_5.out) hb); have n1_ := Aside0.mk (Kd.qDA ho0 (qb bl)); have n2_ := Aside0.mk (qG bl hb); clear HO_5; clear HB; have HO_5 := n0_; have HO496 := n1_; have HB := n2_; clear n0_ n1_ n2_; (try clear hb); (try clear hb2); (try clear hk); (try clear hi); (try clear ho0); have p11 : 0 ≤ (x16_2 : Int) := of_decide_eq_true (by first | (with_reducible assumption) | assumption); have q11 : x16_2 < (4 : Int) := of_decide_eq_true (by first | (with_reducible assumption) | assumption); have hx11 := bt_at (⟨#[110, 101, 115, 119]⟩ : ByteArray) x16_2; replace p11 := eq_true p11; replace q11 := eq_true q11) | ((with_reducible refine qg (N := 35) rfl ?_); refine Kd.R_lit (Kd.int .u8) _ 5 ?hg (N := 35) ?hd (xs := ([(wrap64 (48 + x13_1)) % 256, bt (⟨#[110, 101, 115, 119]⟩ : ByteArray) x16_2] : List Int)) (inner := [.int .u8 ((wrap64 (48 + x13_1)) % 256), .int .u8 (bt (⟨#[110, 101, 115, 119]⟩ : ByteArray) x16_2)]) (ok := fun _ => True) (okp := fun _ => True) ?hr ?hp (fun _ hk => hk) trivial (Below.refl _ _) (Nat.le_refl _) (by simp) ?_; (case hd => rfl); (case hg => rfl); (case hr => first | (go_simp; done) | (go_simp; rfl)); (case hp => exact (Reps.one (show Kd.M (Kd.int .u8) _ _ _ ((wrap64 (48 + x13_1)) % 256) [.int .u8 ((wrap64 (48 + x13_1)) % 256)] from rfl) (Reps.one (show Kd.M (Kd.int .u8) _ _ _ (bt (⟨#[110, 101, 115, 119]⟩ : ByteArray) x16_2) [.int .u8 (bt (⟨#[110, 101, 115, 119]⟩ : ByteArray) x16_2)] from rfl) (Reps.none _ _)))); intro v498 w14 ho15 hb hg_ hnew_; clear hg_ hnew_; (first | rw [← Ny497.out] at ho15 | (simp only [Int.reduceToNat] at ho15; rw [← Ny497.out] at ho15)); have n0_ := Aside0.mk (Kd.qc (by (with_reducible repeat (first | apply Kd.qK | apply Kd.qJ | apply Kd.qO)); exact HO_5.out) hb); have n1_ := Aside0.mk (Kd.qc (by (with_reducible repeat (first | apply Kd.qK | apply Kd.qJ | apply Kd.qO)); exact HO496.out) hb); have n2_ := Aside0.mk (Kd.qDA ho15 (qb bl)); have n3_ := Aside0.mk (qG bl hb); clear HO_5; clear HO496; clear HB; have HO_5 := n0_; have HO496 := n1_; have HO499 := n2_; have HB := n3_; clear n0_ n1_ n2_ n3_; clear hb ho15; have hcv16 := qQC (P := Tryd.prog) Tryd.underlying48 Tryd.underlying5 Tryd.underlying9 (Kd.qZC HO499.out)) | ((with_reducible refine qoB (b := .append) (xs := #[.tmp 29, .tmp 37]) rfl ?_); at_builtin; refine Kd.qQD Kd.string (w0 := w) w.heap.size rfl (.tmp 29) (.tmp 37) 41 9 (.string ⟨#[]⟩) 16 rfl Tryd.underlying41 info9 rfl (by decide) (by omega) u5 x5_2 (strOfNums y497) [.string (strOfNums y497)] (fun _ => True) (fun _ => False) rfl rfl ?aP (fun _ hk => hk.elim) ?aF ?aO ?aB ?aS ?aL ?_; (case aP => exact rfl); (case aB => exact bl); (case aF => exact (fun _ _ => trivial)); (case aO => exact (by (with_reducible repeat (first | apply Kd.qK | apply Kd.qJ | apply Kd.qO)); exact HO_5.out)); (case aS => exact (qb bl)); (case aL => have := LMc12.out; omega); intro v501 w17 ho hb hg hat; rw [← Ny500.out] at ho; have n0_ := Aside0.mk (Kd.qDD (by (with_reducible repeat (first | apply Kd.qK | apply Kd.qJ | apply Kd.qO)); exact HO496.out) (Kd.qXC (by (with_reducible repeat (first | apply Kd.qK | apply Kd.qJ | apply Kd.qO)); exact HO_5.out)) (by decide) hg); have n1_ := Aside0.mk (Kd.qDD (by (with_reducible repeat (first | apply Kd.qK | apply Kd.qJ | apply Kd.qO)); exact HO499.out) (Kd.qXC (by (with_reducible repeat (first | apply Kd.qK | apply Kd.qJ | apply Kd.qO)); exact HO_5.out)) (by decide) hg); have n2_ := Aside0.mk (hb); have n3_ := Aside0.mk (ho); clear HO496; clear HO499; clear HB; clear HO_5; have HO496 := n0_; have HO499 := n1_; have HB := n2_; have HO502 := n3_; clear n0_ n1_ n2_ n3_; clear ho hb hg hat))
          go_roundg k2
          case measure => have := HK1.out; have := HK2.out; omega
          case rel => exact ⟨(y500), (wrap64 (x16_2 + 1)), (by first | rfl | (simp; done) | (simp [*]; done)), H', ⟨by have := HK1.out; have := HK2.out; omega⟩, ⟨by (with_reducible repeat (first | apply Kd.qK | apply Kd.qJ | apply Kd.qO)); exact HO502.out⟩, ⟨bl⟩⟩
         ·rw [if_neg c12] at H
          exact absurd H (by simp)
        ·replace c10 := Bool.eq_false_iff.mpr c10
         subst c10
         have H1 : (qu.l1 k2 l0 l1 x5_2 x13_1 (l1.length : Int) x13_1 (wrap64 (x16_2 + 1))) = some r := by rw [if_neg (show ¬ (false = true) by decide)] at H; exact H
         clear H
         have H := H1
         clear H1
         have H' := Aside0.mk H
         clear H
         have p8 : 0 ≤ (x16_2 : Int) := of_decide_eq_true (by first | (with_reducible assumption) | assumption)
         have q8 : x16_2 < (4 : Int) := of_decide_eq_true (by first | (with_reducible assumption) | assumption)
         have hx8 := bt_at (⟨#[110, 101, 115, 119]⟩ : ByteArray) x16_2
         replace p8 := eq_true p8
         replace q8 := eq_true q8
         go_wp2_with (first | ((with_reducible refine qL (f := 51) rfl ?_); refine qh (some 25) rfl rfl Tryd.func51 (by kernel_rfl) rfl #[.slice A0 l0.length c0, .slice A1 l1.length c1, .int .i64 x13_1, .int .u8 (bt (⟨#[110, 101, 115, 119]⟩ : ByteArray) x16_2)] rfl (by (try simp only [List.map_toArray, List.map_cons, List.map_nil]); first | done | rfl | (simp only [List.length_drop, List.length_take]; rfl)) ?_; (with_reducible refine (qbA.calls _ _ l0 _ _ l1 x13_1 (bt (⟨#[110, 101, 115, 119]⟩ : ByteArray) x16_2) t493 false _ ?side1 ?side2 ?side3 ?side4 A9.out).mono ?_); (case side1 => repeat (first | exact (Kd.qWA HR0.out HB.out) | (with_reducible refine Kd.qa ?_ _) | (with_reducible refine Kd.qZ ?_ _) | (with_reducible refine Kd.qe ?_))); (case side2 => exact HC0.out); (case side3 => repeat (first | exact (Kd.qWA HR1.out HB.out) | (with_reducible refine Kd.qa ?_ _) | (with_reducible refine Kd.qZ ?_ _) | (with_reducible refine Kd.qe ?_))); (case side4 => exact HC1.out); rintro e w18 ⟨v495, rfl, ho0, hb⟩; refine ⟨_, rfl, ?_⟩; have n0_ := Aside0.mk (Kd.qc (by (with_reducible repeat (first | apply Kd.qK | apply Kd.qJ | apply Kd.qO)); exact HO_5.out) hb); have n1_ := Aside0.mk (Kd.qDA ho0 (qb bl)); have n2_ := Aside0.mk (qG bl hb); clear HO_5; clear HB; have HO_5 := n0_; have HO496 := n1_; have HB := n2_; clear n0_ n1_ n2_; (try clear hb); (try clear hb2); (try clear hk); (try clear hi); (try clear ho0)))
         go_roundg k2
         case measure => have := HK1.out; have := HK2.out; omega
         case rel => exact ⟨(x5_2), (wrap64 (x16_2 + 1)), (by first | rfl | (simp; done) | (simp [*]; done)), H', ⟨by have := HK1.out; have := HK2.out; omega⟩, ⟨by (with_reducible repeat (first | apply Kd.qK | apply Kd.qJ | apply Kd.qO)); exact HO_5.out⟩, ⟨bl⟩⟩
       ·rw [if_neg c7] at H
        exact absurd H (by simp)
      ·rw [if_neg c6] at H
       have c6b0 : decide (x16_2 < 4) = false := decide_eq_false c6
       clear c6
       have H' := Aside0.mk H
       clear H
       go_wp2
       go_roundg k2
       case measure => have := HK1.out; have := HK2.out; omega
       case rel => exact ⟨(x5_2), (wrap64 (x13_1 + 1)), (by first | rfl | (simp; done) | (simp [*]; done)), H', ⟨by have := HK1.out; have := HK2.out; omega⟩, ⟨by (with_reducible repeat (first | apply Kd.qK | apply Kd.qJ | apply Kd.qO)); exact HO_5.out⟩, ⟨bl⟩⟩
   ·rw [if_neg c5] at H
    have c5b0 : decide (x13_1 < (l1.length : Int)) = false := decide_eq_false c5
    clear c5
    obtain rfl := Option.some.inj H
    go_wp2
    go_ret
    exact ⟨_, by first | rfl | (simp [qI, qH] <;> rfl) | (simp [*, qI, qH] <;> rfl), by (with_reducible repeat (first | apply Kd.qK | apply Kd.qJ | apply Kd.qO)); exact HO_5.out, bl⟩
end Go.Proofs.YtgjdjnggkmojnaaDoor.P
namespace Go.Proofs.YtgjdjnggkmojnaaDoor
open Go.RowKit Go.Proofs.YtgjdjnggkmojnaaDoor.P Go.Proofs.YtgjdjnggkmojnaaDoorW.PrintWords Go.Proofs.YtgjdjnggkmojnaaDoorW.PrintLast
set_option linter.unusedVariables false
set_option linter.unusedSimpArgs false
theorem rd_getStr (l : List ByteArray) (j : Nat) (h : j < l.length) : rdOf ByteArray.empty l (j : Int) = l[j] := by
 unfold rdOf
 rw [Int.toNat_natCast, List.getD_eq_getElem?_getD, List.getElem?_eq_getElem h]; rfl
set_option maxHeartbeats 1000000 in
theorem indexFunc_Str (p : ByteArray → Bool) (g : Nat) (lb : Array Value) (eg : ∀ args w, (callFunc g args).run Tryd.prog w = .ok (.enter g args) w) (A0 : Option Addr) (c0 : Nat) (l : List ByteArray) (w : World)
  (hr : Kd.C Kd.string w A0 l.length l) (hp : PredOn g lb Value.string p l w) :
  Calls Tryd.prog 77 #[.slice A0 l.length c0, .func (.func g) #[] lb] w fun e w' => e = .returned (.int .i64 (idxP p l)) ∧ Below w.heap.size w w' := by
 have HR := Lib.hid hr
 have hn : l.length ≤ 9223372036854775807 := hr.2.1
 clear hr
 go_enter Tryd.func77, Tryd.ntmps77
 go_wp2
 go_loopg [5, 8] l.length (fun gg _ s8 wr => ∃ kk : Nat, kk ≤ l.length ∧ l.length - kk ≤ gg ∧ s8 = .int .i64 kk ∧ Aside0 (Below w.heap.size w wr) ∧ Aside0 (∀ j, (h : j < l.length) → j < kk → p l[j] = false))
 case atStart => exact ⟨0, Nat.zero_le _, by omega, rfl, ⟨Below.refl _ w⟩, ⟨fun j _ hj => absurd hj (Nat.not_lt_zero _)⟩⟩
 case round =>
  obtain ⟨kk, hkk, hg, rfl, BW, A⟩ := hrel
  rename World => wr
  by_cases hlt : kk < l.length
  ·have hltz : (kk : Int) < (l.length : Int) := by omega
   obtain ⟨ad, e, hcell⟩ := Kd.qbB (Kd.qWA HR.out BW.out) (kk : Int) (by omega) hltz
   cases e
   rw [rd_getStr l kk hlt, Int.toNat_natCast] at hcell
   have hcall := hp wr l[kk] (List.getElem_mem hlt) BW.out
   have B := Lib.hid (rfl : l[kk] = l[kk])
   generalize hy : l[kk] = y at hcell hcall
   have HY := Lib.hid hy
   clear hy B
   cases hq : p y with
   | true =>
    rw [hq] at hcall
    have HQ := Lib.hid hq
    have HC := Lib.hid hcall
    clear hq hp hcall
    go_wp2
    refine HC.out.mono ?_
    rintro e w' ⟨rfl, hb'⟩
    clear HC hcell eg
    go_wp2
    go_ret
    exact ⟨qZD (idxP_hit p l kk hlt (fun j hj => A.out j _ hj) (by rw [HY.out]; exact HQ.out)).symm, qCC BW.out BW.out.size hb'⟩
   | false =>
    rw [hq] at hcall
    have HQ := Lib.hid hq
    have HC := Lib.hid hcall
    clear hq hp hcall
    go_wp2
    refine HC.out.mono ?_
    rintro e w' ⟨rfl, hb'⟩
    clear HC hcell eg
    go_wp2
    go_roundg (l.length - (kk + 1))
    case measure => omega
    case rel =>
     refine ⟨kk + 1, by omega, by omega, by go_num, ⟨qCC BW.out BW.out.size hb'⟩, ⟨fun j h hj => ?_⟩⟩
     by_cases e : j = kk
     ·subst e
      rw [HY.out]; exact HQ.out
     ·exact A.out j h (by omega)
  ·have hltz : ¬ (kk : Int) < (l.length : Int) := by omega
   have hke : kk = l.length := by omega
   subst hke
   clear hp
   go_wp2
   go_ret
   exact ⟨qZD (idxP_miss p l (fun j h => A.out j h h)).symm, BW.out⟩
theorem containsFunc_Str (p : ByteArray → Bool) (g : Nat) (lb : Array Value) (eg : ∀ args w, (callFunc g args).run Tryd.prog w = .ok (.enter g args) w) (A0 : Option Addr) (c0 : Nat) (l : List ByteArray) (w : World)
  (hr : Kd.C Kd.string w A0 l.length l) (hp : PredOn g lb Value.string p l w) :
  Calls Tryd.prog 53 #[.slice A0 l.length c0, .func (.func g) #[] lb] w fun e w' => e = .returned (.bool (l.any p)) ∧ Below w.heap.size w w' := by
 have hcall := fun c => indexFunc_Str p g lb eg A0 c l w hr hp
 have HA := Lib.hid (idxP_any p l)
 clear hr hp
 go_enter Tryd.func53, Tryd.ntmps53
 go_wp2_with (go_at_call 77; refine (hcall _).mono ?_; rintro e w' ⟨rfl, hb'⟩)
 go_ret
 exact ⟨qaD HA.out, hb'⟩
def mvNum (m : ByteArray) : Int := (bt m 0 - 48) % 256
def qaC.f (l : List ByteArray) (k : Int) : Option Bool := if (l.all fun m => decide (0 < m.size)) = true then some (l.any fun m => decide (mvNum m = k)) else none
set_option maxHeartbeats 1000000 in
set_option maxRecDepth 100000 in
theorem blk1_calls (m : ByteArray) (b : Nat) (k : Int) (w : World) (hm : 0 < m.size) (h0 : w.cell? ⟨b, 0, none⟩ = some (.int .i64 k)) :
  Calls Tryd.prog 54 (#[.string m] ++ #[.pointer (some ⟨b, 0, none⟩)]) w fun e w' => e = .returned (.bool (decide (mvNum m = k))) ∧ Below w.heap.size w w' := by
 show Calls Tryd.prog 54 #[.string m, .pointer (some ⟨b, 0, none⟩)] w _
 have g7 := World.block_lt_of_cell? w _ h0
 go_enter Tryd.func54, Tryd.ntmps54
 have hm2 : (0 : Int) < (m.size : Int) := by omega
 go_wp2
 go_quiet (fail)
 go_wp2
 go_ret
 have hb : bt m 0 = ((m[0].toNat : Nat) : Int) := by
  unfold bt
  rw [dif_pos (by simpa using hm)]
  rfl
 exact ⟨qaD (by unfold mvNum; rw [hb]; rfl), qo (Below.refl _ _) _⟩
theorem qaC.calls (A0 : Option Addr) (c0 : Nat) (l0 : List ByteArray) (b : Nat) (y0 : Int) (r : Bool) (w : World) (hr0 : Kd.C Kd.string w A0 l0.length l0) (hc0 : l0.length ≤ c0) (h0 : w.cell? ⟨b, 0, none⟩ = some (.int .i64 y0))
  (h : qaC.f l0 y0 = some r) :
  Calls Tryd.prog 53 #[.slice A0 l0.length c0, .func (.func 54) #[] #[.pointer (some ⟨b, 0, none⟩)]] w fun e w' => e = .returned (.bool r) ∧ Below w.heap.size w w' := by
 unfold qaC.f at h
 split at h
 ·rename_i hall
  obtain rfl := Option.some.inj h
  have eg := Go.Proofs.enters_of Tryd.func54 (by kernel_rfl) rfl
  refine containsFunc_Str (fun m => decide (mvNum m = y0)) 54 _ eg A0 c0 l0 w hr0 fun W x hx hb => ?_
  exact blk1_calls x b y0 W (of_decide_eq_true (List.all_eq_true.1 hall x hx)) (qVB hb h0)
 ·cases h
end Go.Proofs.YtgjdjnggkmojnaaDoor
namespace Go.Proofs.YtgjdjnggkmojnaaDoor.P
open Go.RowKit Go.Proofs.YtgjdjnggkmojnaaDoorW.PrintWords Go.Proofs.YtgjdjnggkmojnaaDoorW.PrintLast Go.Proofs.YtgjdjnggkmojnaaDoorW.PrintMore
attribute [local go_sem] qLA qJA qVA qUA qy qx qKA qIA
set_option linter.unusedVariables false
set_option linter.unusedSimpArgs false
def qw.l0 : Nat → List Int → List ByteArray → Int → Int → Option (List Int × Bool)
 | 0, _, _, _, _ => none
 | k + 1, x8, x22, x24, x25 => if x25 < x24 then ((qaC.f x22 x25).bind fun t514 => (if t514 = true then (qw.l0 k x8 x22 x24 (wrap64 (x25 + 1))) else (if x8.length < 17592186044416 then (qw.l0 k (x8 ++ [x25]) x22 x24 (wrap64 (x25 + 1))) else (none)))) else (some (x8, true))
def qw.f (k : Nat) (a0 : ByteArray) (l1 : List (S57)) : Option (List Int × Bool) := (qZA.f k a0 l1).bind fun bt503 => (if bt503.2 = true then ((qu.f k bt503.1 l1).bind fun t510 => (qw.l0 k (([] : List Int)) t510 (l1.length : Int) 0)) else (some (([] : List Int), false)))
set_option maxHeartbeats 8000000 in
set_option maxRecDepth 100000 in
theorem qw.calls (k : Nat) (a0 : ByteArray) (A1 : Option Addr) (c1 : Nat) (l1 : List (S57)) (r1 : List Int) (r2 : Bool) (w : World) (hr1 : Kd.C k57 w A1 l1.length l1) (hc1 : l1.length ≤ c1) (hL : Laid w) (h : qw.f k a0 l1 = some (r1, r2)) :
  Calls Tryd.prog 25 #[.string a0, .slice A1 l1.length c1] w fun e w' => ∃ v0_ : Value, e = .returned (.tuple #[v0_, .bool r2]) ∧ Kd.R (Kd.int .i64) 3 w' w.heap.size (fun _ => True) v0_ r1 ∧ Below w.heap.size w w' := by
 have HR1 := Aside0.mk hr1
 have HC1 := Aside0.mk hc1
 clear hr1 hc1
 have HLD := Aside0.mk hL
 clear hL
 have HB := Aside0.mk (Below.refl w.heap.size w)
 have H : ((qZA.f k a0 l1).bind fun bt503 => (if bt503.2 = true then ((qu.f k bt503.1 l1).bind fun t510 => (qw.l0 k (([] : List Int)) t510 (l1.length : Int) 0)) else (some (([] : List Int), false)))) = some (r1, r2) := h
 clear h
 replace H := Option.bind_eq_some_iff.mp H
 obtain ⟨⟨t503, t504⟩, A30, H⟩ := H
 replace H : (if t504 = true then ((qu.f k t503 l1).bind fun t510 => (qw.l0 k (([] : List Int)) t510 (l1.length : Int) 0)) else (some (([] : List Int), false))) = some (r1, r2) := H
 have A3 := Aside0.mk A30
 clear A30
 by_cases c4 : t504 = true
 ·subst c4
  have H1 : ((qu.f k t503 l1).bind fun t510 => (qw.l0 k (([] : List Int)) t510 (l1.length : Int) 0)) = some (r1, r2) := by rw [if_pos rfl] at H; exact H
  clear H
  have H := H1
  clear H1
  obtain ⟨y507, hy507⟩ : ∃ y_ : List Int, y_ = (([] : List Int)) := ⟨_, rfl⟩
  replace H : ((qu.f k t503 l1).bind fun t510 => (qw.l0 k y507 t510 (l1.length : Int) 0)) = some (r1, r2) := by first | (rw [hy507]; with_reducible exact H) | (have H2_ := (Option.bind_some _ _).symm.trans H; rw [hy507]; with_reducible exact H2_) | (have H2_ := (Option.bind_some _ _).symm.trans H; with_reducible exact H2_) | with_reducible exact H | (rw [hy507]; exact H) | exact H
  have Ny507 := Aside0.mk hy507
  clear hy507
  replace H := Option.bind_eq_some_iff.mp H
  obtain ⟨t510, A50, H⟩ := H
  replace H : (qw.l0 k y507 t510 (l1.length : Int) 0) = some (r1, r2) := H
  have A5 := Aside0.mk A50
  clear A50
  have H' := Aside0.mk H
  clear H
  go_enter Tryd.func25, Tryd.ntmps25
  go_wp2_with (first | ((with_reducible refine qL (f := 45) rfl ?_); refine qh (some 14) rfl rfl Tryd.func45 (by kernel_rfl) rfl #[.string a0, .slice A1 l1.length c1] rfl (by (try simp only [List.map_toArray, List.map_cons, List.map_nil]); first | done | rfl | (simp only [List.length_drop, List.length_take]; rfl)) ?_; (with_reducible refine (qZA.calls k a0 _ _ l1 t503 true _ ?side1 ?side2 ?side3 A3.out).mono ?_); (case side1 => repeat (first | exact HR1.out | (with_reducible refine Kd.qa ?_ _) | (with_reducible refine Kd.qZ ?_ _) | (with_reducible refine Kd.qe ?_))); (case side2 => exact HC1.out); (case side3 => first | exact HLD.out | exact Laid.below HLD.out (by repeat (first | (with_reducible first | exact HB.out | apply qAA | apply qo | apply qp | refine qMA ?_ (Aside0.out (by with_reducible assumption))) | exact HB.out))); rintro e w6 ⟨v505, rfl, ho0, hb⟩; refine ⟨_, rfl, ?_⟩; have n0_ := Aside0.mk (Kd.qDA ho0 (qb bl)); have n1_ := Aside0.mk (qG bl hb); clear HB; have HO506 := n0_; have HB := n1_; clear n0_ n1_; (try clear hb); (try clear hb2); (try clear hk); (try clear hi); (try clear ho0)) | ((with_reducible refine qg (N := 19) rfl ?_); refine Kd.R_lit (Kd.int .i64) _ 3 ?hg (N := 19) ?hd (xs := ([] : List Int)) (inner := []) (ok := fun _ => True) (okp := fun _ => True) ?hr ?hp (fun _ hk => hk) trivial (Below.refl _ _) (Nat.le_refl _) (by simp) ?_; (case hd => rfl); (case hg => rfl); (case hr => first | (go_simp; done) | (go_simp; rfl)); (case hp => exact (Reps.none _ _)); intro v508 w7 ho8 hb hg_ hnew_; clear hg_ hnew_; (first | rw [← Ny507.out] at ho8 | (simp only [Int.reduceToNat] at ho8; rw [← Ny507.out] at ho8)); have n0_ := Aside0.mk (Kd.qc (by (with_reducible repeat (first | apply Kd.qK | apply Kd.qJ | apply Kd.qO)); exact HO506.out) hb); have n1_ := Aside0.mk (Kd.qDA ho8 (qb bl)); have n2_ := Aside0.mk (qG bl hb); clear HO506; clear HB; have HO506 := n0_; have HO509 := n1_; have HB := n2_; clear n0_ n1_ n2_; clear hb ho8; obtain ⟨Ao9, co9, eo9⟩ := Kd.qt HO506.out; subst eo9) | ((with_reducible refine qL (f := 52) rfl ?_); refine qh (some 22) rfl rfl Tryd.func52 (by kernel_rfl) rfl #[.slice Ao9 t503.length co9, .slice A1 l1.length c1] rfl (by (try simp only [List.map_toArray, List.map_cons, List.map_nil]); first | done | rfl | (simp only [List.length_drop, List.length_take]; rfl)) ?_; (with_reducible refine (qu.calls k _ _ t503 _ _ l1 t510 _ ?side1 ?side2 ?side3 ?side4 A5.out).mono ?_); (case side1 => repeat (first | exact (Kd.qM HO506.out).2.2 | (with_reducible refine Kd.qa ?_ _) | (with_reducible refine Kd.qZ ?_ _) | (with_reducible refine Kd.qe ?_))); (case side2 => exact (Kd.qM HO506.out).2.1); (case side3 => repeat (first | exact (Kd.qWA HR1.out HB.out) | (with_reducible refine Kd.qa ?_ _) | (with_reducible refine Kd.qZ ?_ _) | (with_reducible refine Kd.qe ?_))); (case side4 => exact HC1.out); rintro e w10 ⟨v511, rfl, ho0, hb⟩; refine ⟨_, rfl, ?_⟩; have n0_ := Aside0.mk (Kd.qYA (by (with_reducible repeat (first | apply Kd.qK | apply Kd.qJ | apply Kd.qO)); exact HO506.out) (Kd.qnA ho0) hb); have n1_ := Aside0.mk (Kd.qc (by (with_reducible repeat (first | apply Kd.qK | apply Kd.qJ | apply Kd.qO)); exact HO509.out) hb); have n2_ := Aside0.mk (Kd.qDA (Kd.qmA ho0 (Kd.R_lt (by (with_reducible repeat (first | apply Kd.qK | apply Kd.qJ | apply Kd.qO)); exact HO506.out))) (qb bl)); have n3_ := Aside0.mk (qG bl hb); clear HO506; clear HO509; clear HB; have HO506 := n0_; have HO509 := n1_; have HO512 := n2_; have HB := n3_; clear n0_ n1_ n2_ n3_; (try clear hb); (try clear hb2); (try clear hk); (try clear hi); (try clear ho0)))
  go_loopg [8, 25] k (fun kq v8 v25 w' => ∃ (x8_1 : List Int) (x25_1 : Int), v25 = .int .i64 x25_1 ∧ Aside0 (qw.l0 kq x8_1 t510 (l1.length : Int) x25_1 = some (r1, r2)) ∧ Aside0 (kq ≤ k) ∧ Aside0 (Kd.R (Kd.int .i64) 3 w' w.heap.size (fun _ => True) v8 x8_1) ∧ Aside0 (Kd.R Kd.string 9 w' w.heap.size (fun _ => True) v511 t510) ∧ Aside0 (Below w.heap.size w w'))
  case atStart => exact ⟨(y507), (0), (by first | rfl | (simp; done) | (simp [*]; done)), H', ⟨Nat.le_refl _⟩, ⟨by (with_reducible repeat (first | apply Kd.qK | apply Kd.qJ | apply Kd.qO)); exact HO509.out⟩, ⟨by (with_reducible repeat (first | apply Kd.qK | apply Kd.qJ | apply Kd.qO)); exact Kd.qGA HO512.out (fun _ hk => trivial)⟩, ⟨bl⟩⟩
  case round =>
   clear H'
   try clear c1
   try clear c2
   try clear p2
   try clear c4
   try clear c5
   obtain ⟨x8_1, x25_1, rfl, HA, HK1, HO_8, HO_22, HB⟩ := hrel
   cases gk with
   | zero => exact absurd HA.out (by simp [qw.l0])
   | succ k1 =>
    have H := HA.out
    clear HA
    simp only [qw.l0] at H
    by_cases c11 : x25_1 < (l1.length : Int)
    ·rw [if_pos c11] at H
     have c11b0 : decide (x25_1 < (l1.length : Int)) = true := decide_eq_true c11
     clear c11
     replace H := Option.bind_eq_some_iff.mp H
     obtain ⟨t514, A120, H⟩ := H
     replace H : (if t514 = true then (qw.l0 k1 x8_1 t510 (l1.length : Int) (wrap64 (x25_1 + 1))) else (if x8_1.length < 17592186044416 then (qw.l0 k1 (x8_1 ++ [x25_1]) t510 (l1.length : Int) (wrap64 (x25_1 + 1))) else (none))) = some (r1, r2) := H
     have A12 := Aside0.mk A120
     clear A120
     by_cases c13 : t514 = true
     ·subst c13
      have H1 : (qw.l0 k1 x8_1 t510 (l1.length : Int) (wrap64 (x25_1 + 1))) = some (r1, r2) := by rw [if_pos rfl] at H; exact H
      clear H
      have H := H1
      clear H1
      have H' := Aside0.mk H
      clear H
      go_wp2_with (first | ((with_reducible refine qg (N := 10) rfl ?_); refine qd ?hg (N := 10) ?hd (cs := #[.int .i64 0]) (t := 3) ?hr ?_; (case hd => rfl); (case hg => rfl); (case hr => first | (go_simp; done) | (go_simp; rfl)); intro gb513 hg w14 hbox hb; have n0_ := Aside0.mk (Kd.qc (Kd.R_elderB (by (with_reducible repeat (first | apply Kd.qK | apply Kd.qJ | apply Kd.qO)); exact HO_8.out) gb513 (Nat.le_of_eq hg.symm)) hb); have n1_ := Aside0.mk (Kd.qc (by (with_reducible repeat (first | apply Kd.qK | apply Kd.qJ | apply Kd.qO)); exact HO_22.out) hb); have n2_ := Aside0.mk (qG bl hb); have n3_ := Aside0.mk (hbox); have n4_ := Aside0.mk ((gg hg)); have n5_ := Aside0.mk ((gg hg)); clear HO_8; clear HO_22; clear HB; have HO_8 := n0_; have HO_22 := n1_; have HB := n2_; have BK513 := n3_; have GW513 := n4_; have GE513 := n5_; clear n0_ n1_ n2_ n3_ n4_ n5_; clear hb hbox hg; have hcz15_0 := bc BK513 0; have hfz15_0 := qA BK513.out 0; obtain ⟨Ao16, co16, eo16⟩ := Kd.qt HO_22.out; subst eo16) | ((with_reducible refine qL (f := 53) rfl ?_); refine qh (some 30) rfl rfl Tryd.func53 (by kernel_rfl) rfl #[.slice Ao16 t510.length co16, .func (.func 54) #[] #[.pointer (some ⟨gb513, 0, none⟩)]] rfl (by (try simp only [List.map_toArray, List.map_cons, List.map_nil]); first | done | rfl | (simp only [List.length_drop, List.length_take]; rfl)) ?_; (with_reducible refine (qaC.calls _ _ t510 gb513 x25_1 true _ ?side1 ?side2 ?side3 A12.out).mono ?_); (case side1 => refine (Kd.qM (e := 9) (base := w.heap.size) (ok := fun k_ => True) (n := t510.length) (c := co16) ?_).2.2; exact (by (with_reducible repeat (first | apply Kd.qK | apply Kd.qJ | apply Kd.qO)); exact (Kd.qGA (Kd.R_far (p := ⟨gb513, 0, none⟩) (Kd.qvA HO_22.out BK513.out (by decide)) (fun _ hk => hk.2) (.int .i64 x25_1)) (fun _ h_ => h_.1)))); (case side2 => exact (Kd.qM HO_22.out).2.1); (case side3 => exact (cell_of_row _ gb513 0 _ 3 (0, 0) (by (with_reducible repeat (first | refine qE ?_ _ | refine qF ?_ | refine qD ?_ _)); refine qN (cs := #[.int .i64 0]) ?_ 0 _ rfl; (with_reducible repeat (first | refine qE ?_ _ | refine qF ?_ | refine qD ?_ _)); exact BK513.out)).trans rfl); rintro e w17 ⟨rfl, hb⟩; refine ⟨_, rfl, ?_⟩; have n0_ := Aside0.mk (Kd.qc (by (with_reducible repeat (first | apply Kd.qK | apply Kd.qJ | apply Kd.qO)); exact (Kd.qGA (Kd.R_far (p := ⟨gb513, 0, none⟩) (Kd.qGA HO_8.out (fun k_ hk => (⟨hk, hk.2⟩ : _ ∧ k_ ≠ gb513))) (fun _ hk => hk.2) (.int .i64 x25_1)) (fun _ h_ => h_.1))) hb); have n1_ := Aside0.mk (Kd.qc (by (with_reducible repeat (first | apply Kd.qK | apply Kd.qJ | apply Kd.qO)); exact (Kd.qGA (Kd.R_far (p := ⟨gb513, 0, none⟩) (Kd.qvA HO_22.out BK513.out (by decide)) (fun _ hk => hk.2) (.int .i64 x25_1)) (fun _ h_ => h_.1))) hb); have n2_ := Aside0.mk (qCB (g := gb513) (o := .cells #[.int .i64 x25_1] 3 (0, 0)) (by (with_reducible repeat (first | refine qE ?_ _ | refine qF ?_ | refine qD ?_ _)); refine qN (cs := #[.int .i64 0]) ?_ 0 _ rfl; (with_reducible repeat (first | refine qE ?_ _ | refine qF ?_ | refine qD ?_ _)); exact BK513.out) hb); have n3_ := Aside0.mk (qG bl hb); clear HO_8; clear HO_22; clear BK513; clear HB; have HO_8 := n0_; have HO_22 := n1_; have BK513 := n2_; have HB := n3_; clear n0_ n1_ n2_ n3_; (try clear hb); (try clear hb2); (try clear hk); (try clear hi)))
      go_roundg k1
      case measure => have := HK1.out; omega
      case rel => exact ⟨(x8_1), (wrap64 (x25_1 + 1)), (by first | rfl | (simp; done) | (simp [*]; done)), H', ⟨by have := HK1.out; omega⟩, ⟨by (with_reducible repeat (first | apply Kd.qK | apply Kd.qJ | apply Kd.qO)); exact Kd.qGA HO_8.out (fun _ hk => trivial)⟩, ⟨by (with_reducible repeat (first | apply Kd.qK | apply Kd.qJ | apply Kd.qO)); exact HO_22.out⟩, ⟨bl⟩⟩
     ·replace c13 := Bool.eq_false_iff.mpr c13
      subst c13
      have H1 : (if x8_1.length < 17592186044416 then (qw.l0 k1 (x8_1 ++ [x25_1]) t510 (l1.length : Int) (wrap64 (x25_1 + 1))) else (none)) = some (r1, r2) := by rw [if_neg (show ¬ (false = true) by decide)] at H; exact H
      clear H
      have H := H1
      clear H1
      by_cases c18 : x8_1.length < 17592186044416
      ·rw [if_pos c18] at H
       have LMc18 := Aside0.mk c18
       clear c18
       obtain ⟨y515, hy515⟩ : ∃ y_ : List Int, y_ = (x8_1 ++ [x25_1]) := ⟨_, rfl⟩
       replace H : (qw.l0 k1 y515 t510 (l1.length : Int) (wrap64 (x25_1 + 1))) = some (r1, r2) := by first | (rw [hy515]; with_reducible exact H) | (have H2_ := (Option.bind_some _ _).symm.trans H; rw [hy515]; with_reducible exact H2_) | (have H2_ := (Option.bind_some _ _).symm.trans H; with_reducible exact H2_) | with_reducible exact H | (rw [hy515]; exact H) | exact H
       have Ny515 := Aside0.mk hy515
       clear hy515
       have H' := Aside0.mk H
       clear H
       go_wp2_with (first | ((with_reducible refine qg (N := 10) rfl ?_); refine qd ?hg (N := 10) ?hd (cs := #[.int .i64 0]) (t := 3) ?hr ?_; (case hd => rfl); (case hg => rfl); (case hr => first | (go_simp; done) | (go_simp; rfl)); intro gb513 hg w19 hbox hb; have n0_ := Aside0.mk (Kd.qc (Kd.R_elderB (by (with_reducible repeat (first | apply Kd.qK | apply Kd.qJ | apply Kd.qO)); exact HO_8.out) gb513 (Nat.le_of_eq hg.symm)) hb); have n1_ := Aside0.mk (Kd.qc (by (with_reducible repeat (first | apply Kd.qK | apply Kd.qJ | apply Kd.qO)); exact HO_22.out) hb); have n2_ := Aside0.mk (qG bl hb); have n3_ := Aside0.mk (hbox); have n4_ := Aside0.mk ((gg hg)); have n5_ := Aside0.mk ((gg hg)); clear HO_8; clear HO_22; clear HB; have HO_8 := n0_; have HO_22 := n1_; have HB := n2_; have BK513 := n3_; have GW513 := n4_; have GE513 := n5_; clear n0_ n1_ n2_ n3_ n4_ n5_; clear hb hbox hg; have hcz20_0 := bc BK513 0; have hfz20_0 := qA BK513.out 0; obtain ⟨Ao21, co21, eo21⟩ := Kd.qt HO_22.out; subst eo21) | ((with_reducible refine qL (f := 53) rfl ?_); refine qh (some 30) rfl rfl Tryd.func53 (by kernel_rfl) rfl #[.slice Ao21 t510.length co21, .func (.func 54) #[] #[.pointer (some ⟨gb513, 0, none⟩)]] rfl (by (try simp only [List.map_toArray, List.map_cons, List.map_nil]); first | done | rfl | (simp only [List.length_drop, List.length_take]; rfl)) ?_; (with_reducible refine (qaC.calls _ _ t510 gb513 x25_1 false _ ?side1 ?side2 ?side3 A12.out).mono ?_); (case side1 => refine (Kd.qM (e := 9) (base := w.heap.size) (ok := fun k_ => True) (n := t510.length) (c := co21) ?_).2.2; exact (by (with_reducible repeat (first | apply Kd.qK | apply Kd.qJ | apply Kd.qO)); exact (Kd.qGA (Kd.R_far (p := ⟨gb513, 0, none⟩) (Kd.qvA HO_22.out BK513.out (by decide)) (fun _ hk => hk.2) (.int .i64 x25_1)) (fun _ h_ => h_.1)))); (case side2 => exact (Kd.qM HO_22.out).2.1); (case side3 => exact (cell_of_row _ gb513 0 _ 3 (0, 0) (by (with_reducible repeat (first | refine qE ?_ _ | refine qF ?_ | refine qD ?_ _)); refine qN (cs := #[.int .i64 0]) ?_ 0 _ rfl; (with_reducible repeat (first | refine qE ?_ _ | refine qF ?_ | refine qD ?_ _)); exact BK513.out)).trans rfl); rintro e w22 ⟨rfl, hb⟩; refine ⟨_, rfl, ?_⟩; have n0_ := Aside0.mk (Kd.qc (by (with_reducible repeat (first | apply Kd.qK | apply Kd.qJ | apply Kd.qO)); exact (Kd.qGA (Kd.R_far (p := ⟨gb513, 0, none⟩) (Kd.qGA HO_8.out (fun k_ hk => (⟨hk, hk.2⟩ : _ ∧ k_ ≠ gb513))) (fun _ hk => hk.2) (.int .i64 x25_1)) (fun _ h_ => h_.1))) hb); have n1_ := Aside0.mk (Kd.qc (by (with_reducible repeat (first | apply Kd.qK | apply Kd.qJ | apply Kd.qO)); exact (Kd.qGA (Kd.R_far (p := ⟨gb513, 0, none⟩) (Kd.qvA HO_22.out BK513.out (by decide)) (fun _ hk => hk.2) (.int .i64 x25_1)) (fun _ h_ => h_.1))) hb); have n2_ := Aside0.mk (qCB (g := gb513) (o := .cells #[.int .i64 x25_1] 3 (0, 0)) (by (with_reducible repeat (first | refine qE ?_ _ | refine qF ?_ | refine qD ?_ _)); refine qN (cs := #[.int .i64 0]) ?_ 0 _ rfl; (with_reducible repeat (first | refine qE ?_ _ | refine qF ?_ | refine qD ?_ _)); exact BK513.out) hb); have n3_ := Aside0.mk (qG bl hb); clear HO_8; clear HO_22; clear BK513; clear HB; have HO_8 := n0_; have HO_22 := n1_; have BK513 := n2_; have HB := n3_; clear n0_ n1_ n2_ n3_; (try clear hb); (try clear hb2); (try clear hk); (try clear hi); have hcz23_0 := bc BK513 0; have hfz23_0 := qA BK513.out 0) | ((with_reducible refine qoB (b := .append) (xs := #[.tmp 32, .tmp 34]) rfl ?_); at_builtin; refine Kd.qQD (Kd.int .i64) (w0 := w) w.heap.size rfl (.tmp 32) (.tmp 34) 36 3 (.int .i64 0) 8 rfl Tryd.underlying36 info3 rfl (by decide) (by omega) u8 x8_1 x25_1 [.int .i64 x25_1] (fun k_ => k_ ≠ gb513) (fun _ => False) rfl rfl ?aP (fun _ hk => hk.elim) ?aF ?aO ?aB ?aS ?aL ?_; (case aP => exact rfl); (case aB => exact bl); (case aF => exact (fun k_ hk => Kd.freshB (g := gb513) (o := .cells #[.int .i64 x25_1] 3 (0, 0)) (by (with_reducible repeat (first | refine qE ?_ _ | refine qF ?_ | refine qD ?_ _)); exact BK513.out) k_ hk)); (case aO => exact (by (with_reducible repeat (first | apply Kd.qK | apply Kd.qJ | apply Kd.qO)); exact Kd.qGA HO_8.out (fun _ hk => hk.2))); (case aS => exact (qb bl)); (case aL => have := LMc18.out; omega); intro v516 w24 ho hb hg hat; rw [← Ny515.out] at ho; have n0_ := Aside0.mk (Kd.qDD (by (with_reducible repeat (first | apply Kd.qK | apply Kd.qJ | apply Kd.qO)); exact HO_22.out) (Kd.qXC (by (with_reducible repeat (first | apply Kd.qK | apply Kd.qJ | apply Kd.qO)); exact HO_8.out)) (by decide) hg); have n1_ := Aside0.mk (qqB (g := gb513) (o := .cells #[.int .i64 x25_1] 3 (0, 0)) (by (with_reducible repeat (first | refine qE ?_ _ | refine qF ?_ | refine qD ?_ _)); exact BK513.out) hg (Kd.qwD HO_8.out (fun _ hk => hk.2))); have n2_ := Aside0.mk (hb); have n3_ := Aside0.mk (ho); clear HO_22; clear BK513; clear HB; clear HO_8; have HO_22 := n0_; have BK513 := n1_; have HB := n2_; have HO517 := n3_; clear n0_ n1_ n2_ n3_; clear ho hb hg hat))
       go_roundg k1
       case measure => have := HK1.out; omega
       case rel => exact ⟨(y515), (wrap64 (x25_1 + 1)), (by first | rfl | (simp; done) | (simp [*]; done)), H', ⟨by have := HK1.out; omega⟩, ⟨by (with_reducible repeat (first | apply Kd.qK | apply Kd.qJ | apply Kd.qO)); exact Kd.qGA HO517.out (fun _ hk => trivial)⟩, ⟨by (with_reducible repeat (first | apply Kd.qK | apply Kd.qJ | apply Kd.qO)); exact HO_22.out⟩, ⟨bl⟩⟩
      ·rw [if_neg c18] at H
       exact absurd H (by simp)
    ·rw [if_neg c11] at H
     have c11b0 : decide (x25_1 < (l1.length : Int)) = false := decide_eq_false c11
     clear c11
     simp only [Option.some.injEq, Prod.mk.injEq] at H
     obtain ⟨rfl, rfl⟩ := H
     go_wp2
     go_ret2
     exact ⟨_, by first | rfl | (simp [qI, qH] <;> rfl) | (simp [*, qI, qH] <;> rfl), by (with_reducible repeat (first | apply Kd.qK | apply Kd.qJ | apply Kd.qO)); exact HO_8.out, bl⟩
 ·replace c4 := Bool.eq_false_iff.mpr c4
  subst c4
  have H1 : (some (([] : List Int), false)) = some (r1, r2) := by rw [if_neg (show ¬ (false = true) by decide)] at H; exact H
  clear H
  have H := H1
  clear H1
  simp only [Option.some.injEq, Prod.mk.injEq] at H
  obtain ⟨rfl, rfl⟩ := H
  go_enter Tryd.func25, Tryd.ntmps25
  go_wp2_with (first | ((with_reducible refine qL (f := 45) rfl ?_); refine qh (some 14) rfl rfl Tryd.func45 (by kernel_rfl) rfl #[.string a0, .slice A1 l1.length c1] rfl (by (try simp only [List.map_toArray, List.map_cons, List.map_nil]); first | done | rfl | (simp only [List.length_drop, List.length_take]; rfl)) ?_; (with_reducible refine (qZA.calls k a0 _ _ l1 t503 false _ ?side1 ?side2 ?side3 A3.out).mono ?_); (case side1 => repeat (first | exact HR1.out | (with_reducible refine Kd.qa ?_ _) | (with_reducible refine Kd.qZ ?_ _) | (with_reducible refine Kd.qe ?_))); (case side2 => exact HC1.out); (case side3 => first | exact HLD.out | exact Laid.below HLD.out (by repeat (first | (with_reducible first | exact HB.out | apply qAA | apply qo | apply qp | refine qMA ?_ (Aside0.out (by with_reducible assumption))) | exact HB.out))); rintro e w25 ⟨v505, rfl, ho0, hb⟩; refine ⟨_, rfl, ?_⟩; have n0_ := Aside0.mk (Kd.qDA ho0 (qb bl)); have n1_ := Aside0.mk (qG bl hb); clear HB; have HO506 := n0_; have HB := n1_; clear n0_ n1_; (try clear hb); (try clear hb2); (try clear hk); (try clear hi); (try clear ho0)))
  go_ret2
  exact ⟨_, by first | rfl | (simp [qI, qH] <;> rfl) | (simp [*, qI, qH] <;> rfl), by first | exact Kd.R_nil _ _ _ _ _ | exact Kd.N_nil _ _ _ _ _ | exact Kd.V_nil _ _ _ _ _ | exact Kd.Q_nil _ _ _ _ _ | exact Kd.S_nil _ _ _ _ _, bl⟩
def qXA.l0 : Nat → List Int → List Int → Int → Option (Bool)
 | 0, _, _, _ => none
 | k + 1, x0, x1, x5 => if x5 < (x0.length : Int) then (if 0 ≤ x5 then (if x5 < (x1.length : Int) then (if (rd x0 x5) = (rd x1 x5) then (qXA.l0 k x0 x1 (wrap64 (x5 + 1))) else (some false)) else (none)) else (none)) else (some true)
def qXA.f (k : Nat) (l0 : List Int) (l1 : List Int) : Option (Bool) := if (l0.length : Int) = (l1.length : Int) then (qXA.l0 k l0 l1 0) else (some false)
set_option maxHeartbeats 8000000 in
set_option maxRecDepth 100000 in
theorem qXA.calls (k : Nat) (A0 : Option Addr) (c0 : Nat) (l0 : List Int) (A1 : Option Addr) (c1 : Nat) (l1 : List Int) (r : Bool) (w : World) (hr0 : Kd.C (Kd.int .i64) w A0 l0.length l0) (hc0 : l0.length ≤ c0) (hr1 : Kd.C (Kd.int .i64) w A1 l1.length l1) (hc1 : l1.length ≤ c1) (h : qXA.f k l0 l1 = some r) :
  Calls Tryd.prog 26 #[.slice A0 l0.length c0, .slice A1 l1.length c1] w fun e w' => e = .returned (.bool r) ∧ Drawn0 w w' := by
 have HR0 := Aside0.mk hr0
 have HC0 := Aside0.mk hc0
 clear hr0 hc0
 have HR1 := Aside0.mk hr1
 have HC1 := Aside0.mk hc1
 clear hr1 hc1
 have H : (if (l0.length : Int) = (l1.length : Int) then (qXA.l0 k l0 l1 0) else (some false)) = some r := h
 clear h
 by_cases c3 : (l0.length : Int) = (l1.length : Int)
 ·rw [if_pos c3] at H
  have c3b0 : ((l0.length : Int) == (l1.length : Int)) = true := beq_iff_eq.mpr c3
  have c3b1 : ((l0.length : Int) != (l1.length : Int)) = false := bne_eq_false_iff_eq.mpr c3
  have c3b2 : (l0.length == l1.length) = true := by first | simpa using c3 | (simp at c3 ⊢; omega)
  clear c3
  have H' := Aside0.mk H
  clear H
  go_enter Tryd.func26, Tryd.ntmps26
  go_wp2
  repeat (go_quiet (fail); try go_wp2)
  go_loopg [5] k (fun kq v5 w' => ∃ (x5_1 : Int), v5 = .int .i64 x5_1 ∧ Aside0 (qXA.l0 kq l0 l1 x5_1 = some r) ∧ Aside0 (kq ≤ k) ∧ Drawn0 w w')
  case atStart => exact ⟨(0), (by first | rfl | (simp; done) | (simp [*]; done)), H', ⟨Nat.le_refl _⟩, by repeat (first | exact Drawn0.refl _ | apply Drawn0.step)⟩
  case round =>
   clear H'
   try clear c1
   try clear c2
   try clear p2
   try clear c3
   try clear c3b0
   try clear c3b1
   try clear c3b2
   obtain ⟨x5_1, rfl, HA, HK1, ⟨m1, rfl⟩⟩ := hrel
   cases gk with
   | zero => exact absurd HA.out (by simp [qXA.l0])
   | succ k1 =>
    have H := HA.out
    clear HA
    simp only [qXA.l0] at H
    by_cases c4 : x5_1 < (l0.length : Int)
    ·rw [if_pos c4] at H
     have c4b0 : decide (x5_1 < (l0.length : Int)) = true := decide_eq_true c4
     clear c4
     by_cases c5 : 0 ≤ x5_1
     ·rw [if_pos c5] at H
      have c5b0 : decide (0 ≤ x5_1) = true := decide_eq_true c5
      clear c5
      by_cases c6 : x5_1 < (l1.length : Int)
      ·rw [if_pos c6] at H
       have c6b0 : decide (x5_1 < (l1.length : Int)) = true := decide_eq_true c6
       clear c6
       by_cases c7 : (rd l0 x5_1) = (rd l1 x5_1)
       ·rw [if_pos c7] at H
        have c7b0 : ((rd l0 x5_1) == (rd l1 x5_1)) = true := beq_iff_eq.mpr c7
        have c7b1 : ((rd l0 x5_1) != (rd l1 x5_1)) = false := bne_eq_false_iff_eq.mpr c7
        clear c7
        have H' := Aside0.mk H
        clear H
        have p518 : 0 ≤ (x5_1 : Int) := of_decide_eq_true (by first | (with_reducible assumption) | assumption)
        have q518 : x5_1 < (l0.length : Int) := of_decide_eq_true (by first | (with_reducible assumption) | assumption)
        obtain ⟨ad518, e518, hx518_0⟩ := Kd.qtC HR0.out x5_1 p518 q518
        cases e518
        replace p518 := eq_true p518
        replace q518 := eq_true q518
        have p519 : 0 ≤ (x5_1 : Int) := of_decide_eq_true (by first | (with_reducible assumption) | assumption)
        have q519 : x5_1 < (l1.length : Int) := of_decide_eq_true (by first | (with_reducible assumption) | assumption)
        obtain ⟨ad519, e519, hx519_0⟩ := Kd.qtC HR1.out x5_1 p519 q519
        cases e519
        replace p519 := eq_true p519
        replace q519 := eq_true q519
        go_wp2
        repeat (go_quiet (fail); try go_wp2)
        go_roundg k1
        case measure => have := HK1.out; omega
        case rel => exact ⟨(wrap64 (x5_1 + 1)), (by first | rfl | (simp; done) | (simp [*]; done)), H', ⟨by have := HK1.out; omega⟩, by repeat (first | exact Drawn0.refl _ | apply Drawn0.step)⟩
       ·rw [if_neg c7] at H
        have c7b0 : ((rd l0 x5_1) == (rd l1 x5_1)) = false := beq_eq_false_iff_ne.mpr c7
        have c7b1 : ((rd l0 x5_1) != (rd l1 x5_1)) = true := bne_iff_ne.mpr c7
        obtain rfl := Option.some.inj H
        have p518 : 0 ≤ (x5_1 : Int) := of_decide_eq_true (by first | (with_reducible assumption) | assumption)
        have q518 : x5_1 < (l0.length : Int) := of_decide_eq_true (by first | (with_reducible assumption) | assumption)
        obtain ⟨ad518, e518, hx518_0⟩ := Kd.qtC HR0.out x5_1 p518 q518
        cases e518
        replace p518 := eq_true p518
        replace q518 := eq_true q518
        have p519 : 0 ≤ (x5_1 : Int) := of_decide_eq_true (by first | (with_reducible assumption) | assumption)
        have q519 : x5_1 < (l1.length : Int) := of_decide_eq_true (by first | (with_reducible assumption) | assumption)
        obtain ⟨ad519, e519, hx519_0⟩ := Kd.qtC HR1.out x5_1 p519 q519
        cases e519
        replace p519 := eq_true p519
        replace q519 := eq_true q519
        go_wp2
        repeat (go_quiet (fail); try go_wp2)
        go_ret
        exact ⟨by first | rfl | (simp; done) | (simp [*]; done), by repeat (first | exact Drawn0.refl _ | apply Drawn0.step)⟩
      ·rw [if_neg c6] at H
       exact absurd H (by simp)
     ·rw [if_neg c5] at H
      exact absurd H (by simp)
    ·rw [if_neg c4] at H
     have c4b0 : decide (x5_1 < (l0.length : Int)) = false := decide_eq_false c4
     clear c4
     obtain rfl := Option.some.inj H
     go_wp2
     repeat (go_quiet (fail); try go_wp2)
     go_ret
     exact ⟨by first | rfl | (simp; done) | (simp [*]; done), by repeat (first | exact Drawn0.refl _ | apply Drawn0.step)⟩
 ·rw [if_neg c3] at H
  have c3b0 : ((l0.length : Int) == (l1.length : Int)) = false := beq_eq_false_iff_ne.mpr c3
  have c3b1 : ((l0.length : Int) != (l1.length : Int)) = true := bne_iff_ne.mpr c3
  have c3b2 : (l0.length == l1.length) = false := by first | simpa using c3 | (simp at c3 ⊢; omega)
  obtain rfl := Option.some.inj H
  go_enter Tryd.func26, Tryd.ntmps26
  go_wp2
  repeat (go_quiet (fail); try go_wp2)
  go_ret
  exact ⟨by first | rfl | (simp; done) | (simp [*]; done), by repeat (first | exact Drawn0.refl _ | apply Drawn0.step)⟩
def qkA.l0 : Nat → List Int → Int → Int → Option (Int × List Int)
 | 0, _, _, _ => none
 | k + 1, x0, x1, x5 => if x5 < (x0.length : Int) then (if 0 ≤ x5 then (qkA.l0 k (x0.set (x5 : Int).toNat x1) (wrap64 (x1 + 1)) (wrap64 (x5 + 1))) else (none)) else (some (x1, x0))
def qkA.f (k : Nat) (l0 : List Int) (a1 : Int) : Option (Int × List Int) := qkA.l0 k l0 a1 0
set_option maxHeartbeats 8000000 in
set_option maxRecDepth 100000 in
theorem qkA.calls (k : Nat) (P0_ : Nat → Prop) (u9000_ : Value) (l0 : List Int) (a1 : Int) (r1 : Int) (r2 : List Int) (w0 w : World) (hB : Below w0.heap.size w0 w) (ho0 : Kd.R (Kd.int .i64) 3 w w0.heap.size P0_ u9000_ l0) (h : qkA.f k l0 a1 = some (r1, r2)) :
  Calls Tryd.prog 27 #[u9000_, .int .i64 a1] w fun e w' => e = .returned (.int .i64 r1) ∧ Kd.R (Kd.int .i64) 3 w' w0.heap.size (fun k_ => (P0_ k_ ∨ w.heap.size ≤ k_)) u9000_ r2 ∧ Below w0.heap.size w0 w' ∧ Kept w w' (fun k_ => P0_ k_) := by
 have HO0 := Aside0.mk (show Kd.R (Kd.int .i64) 3 w w0.heap.size (fun k_ => (P0_ k_ ∨ w.heap.size ≤ k_)) u9000_ l0 from Kd.qGA ho0 (fun k_ hk => (.inl hk)))
 have HK := Aside0.mk (Kept.refl w (fun k_ => P0_ k_))
 have HW0 := Aside0.mk hB.size
 have HB := Aside0.mk hB
 clear hB
 have H : (qkA.l0 k l0 a1 0) = some (r1, r2) := h
 clear h
 have H' := Aside0.mk H
 clear H
 go_enter Tryd.func27, Tryd.ntmps27
 go_wp2
 go_loopg [1, 5] k (fun kq v1 v5 w' => ∃ (x0_1 : List Int) (x1_1 : Int) (x5_1 : Int), v1 = .int .i64 x1_1 ∧ v5 = .int .i64 x5_1 ∧ Aside0 (qkA.l0 kq x0_1 x1_1 x5_1 = some (r1, r2)) ∧ Aside0 (kq ≤ k) ∧ Aside0 (Kd.R (Kd.int .i64) 3 w' w0.heap.size (fun k_ => (P0_ k_ ∨ w.heap.size ≤ k_)) u9000_ x0_1) ∧ Aside0 (Kept w w' (fun k_ => P0_ k_)) ∧ Aside0 (Below w0.heap.size w0 w'))
 case atStart => exact ⟨(l0), (a1), (0), (by first | rfl | (simp; done) | (simp [*]; done)), (by first | rfl | (simp; done) | (simp [*]; done)), H', ⟨Nat.le_refl _⟩, ⟨by (with_reducible repeat (first | apply Kd.qK | apply Kd.qJ | apply Kd.qO)); exact HO0.out⟩, ⟨by repeat (first | (with_reducible first | exact HK.out | apply Kept.alloc | apply Kept.drewN | apply Kept.drew) | exact HK.out)⟩, ⟨bl⟩⟩
 case round =>
  clear H'
  try clear c2
  try clear p2
  obtain ⟨x0_1, x1_1, x5_1, rfl, rfl, HA, HK1, HO_0, HK, HB⟩ := hrel
  cases gk with
  | zero => exact absurd HA.out (by simp [qkA.l0])
  | succ k1 =>
   have H := HA.out
   clear HA
   simp only [qkA.l0] at H
   by_cases c3 : x5_1 < (x0_1.length : Int)
   ·rw [if_pos c3] at H
    have c3b0 : decide (x5_1 < (x0_1.length : Int)) = true := decide_eq_true c3
    clear c3
    by_cases c4 : 0 ≤ x5_1
    ·rw [if_pos c4] at H
     have c4b0 : decide (0 ≤ x5_1) = true := decide_eq_true c4
     clear c4
     obtain ⟨y520, hy520⟩ : ∃ y_ : List Int, y_ = (x0_1.set (x5_1 : Int).toNat x1_1) := ⟨_, rfl⟩
     replace H : (qkA.l0 k1 y520 (wrap64 (x1_1 + 1)) (wrap64 (x5_1 + 1))) = some (r1, r2) := by first | (rw [hy520]; with_reducible exact H) | (have H2_ := (Option.bind_some _ _).symm.trans H; rw [hy520]; with_reducible exact H2_) | (have H2_ := (Option.bind_some _ _).symm.trans H; with_reducible exact H2_) | with_reducible exact H | (rw [hy520]; exact H) | exact H
     have Ny520 := Aside0.mk hy520
     clear hy520
     have H' := Aside0.mk H
     clear H
     obtain ⟨Ao6, co6, eo6⟩ := Kd.qt HO_0.out
     subst eo6
     have p5 : 0 ≤ (x5_1 : Int) := of_decide_eq_true (by first | (with_reducible assumption) | assumption)
     have q5 : (x5_1 : Int) < ((x0_1.length : Int) : Int) := of_decide_eq_true (by first | (with_reducible assumption) | assumption)
     obtain ⟨go5, co5, eo5, gb5, gl5, cl5, HG5⟩ := Kd.qYD HO_0.out (by omega)
     (first | cases eo5 | (injection eo5 with ea_ en_ ec_; (first | subst ea_ | (injection ea_ with ea_; subst ea_)); subst ec_; clear en_))
     have GB5 := Aside0.mk gb5
     have GG5 := Aside0.mk HG5
     clear gb5 gl5 HG5
     have HMgo5 := Aside0.mk (show (P0_ go5 ∨ w.heap.size ≤ go5) from (HO_0.out.1 _ rfl))
     obtain ⟨hx5_0, hf5_0⟩ := Kd.qrD 0 HO_0.out (x5_1 : Int) p5 q5
     replace p5 := eq_true p5
     replace q5 := eq_true q5
     have HP7 := Kd.R_putg HO_0.out (x5_1 : Int) x1_1
     go_wp2_with (first | ((with_reducible refine qOB (t := 3) (p := 15) rfl ?_); refine qIB (t := 3) (p := 15) (v := ?vo_w8) (w1 := (wr.setCell ⟨go5, (x5_1 : Int).toNat, none⟩ (.int .i64 x1_1))) ?hg ?ho ?hn ?hr ?_; (case ho => rfl); (case hg => rfl); (case hn => rfl); (case hr => first | (go_simp; done) | (go_simp; rfl)); intro w8 hw; have hg : wr.grownBy w8 (some go5) := (by rw [hw]; exact HP7.2); have hp_ : Kd.R (Kd.int .i64) 3 w8 w0.heap.size (fun k_ => (P0_ k_ ∨ w.heap.size ≤ k_)) (.slice (some ⟨go5, 0, none⟩) x0_1.length co6) y520 := (by rw [hw, Ny520.out]; exact HP7.1); clear HP7; have n0_ := Aside0.mk (hp_); have n1_ := Aside0.mk ((by rw [hw]; exact qMA (HB.out) GB5.out : Below w0.heap.size w0 w8)); have n2_ := Aside0.mk (Kept.qEC (S := (fun k_ => P0_ k_)) hg (by repeat (first | (with_reducible first | exact HK.out | apply Kept.alloc | apply Kept.drewN | apply Kept.drew) | exact HK.out)) (fun k_ e_ => (HO_0.out.1 k_ e_))); clear HO_0; clear HB; clear HK; have HO_0 := n0_; have HB := n1_; have HK := n2_; clear n0_ n1_ n2_; clear hg hw hp_))
     go_roundg k1
     case measure => have := HK1.out; omega
     case rel => exact ⟨(y520), (wrap64 (x1_1 + 1)), (wrap64 (x5_1 + 1)), (by first | rfl | (simp; done) | (simp [*]; done)), (by first | rfl | (simp; done) | (simp [*]; done)), H', ⟨by have := HK1.out; omega⟩, ⟨by (with_reducible repeat (first | apply Kd.qK | apply Kd.qJ | apply Kd.qO)); exact HO_0.out⟩, ⟨by repeat (first | (with_reducible first | exact HK.out | apply Kept.alloc | apply Kept.drewN | apply Kept.drew) | exact HK.out)⟩, ⟨bl⟩⟩
    ·rw [if_neg c4] at H
     exact absurd H (by simp)
   ·rw [if_neg c3] at H
    have c3b0 : decide (x5_1 < (x0_1.length : Int)) = false := decide_eq_false c3
    clear c3
    simp only [Option.some.injEq, Prod.mk.injEq] at H
    obtain ⟨rfl, rfl⟩ := H
    obtain ⟨Ao9, co9, eo9⟩ := Kd.qt HO_0.out
    subst eo9
    go_wp2
    go_ret
    exact ⟨by first | rfl | (simp [qI, qH] <;> rfl) | (simp [*, qI, qH] <;> rfl), by (with_reducible repeat (first | apply Kd.qK | apply Kd.qJ | apply Kd.qO)); exact HO_0.out, bl, by repeat (first | (with_reducible first | exact HK.out | apply Kept.alloc | apply Kept.drewN | apply Kept.drew) | exact HK.out)⟩
def qeA.l0 : Nat → List Int → Int → Int → Option (Int)
 | 0, _, _, _ => none
 | k + 1, x0, x1, x5 => if x5 < (x0.length : Int) then (if 0 ≤ x5 then (if (rd x0 x5) = x1 then (qeA.l0 k x0 (wrap64 (x1 + 1)) (wrap64 (x5 + 1))) else (some (-1))) else (none)) else (some x1)
def qeA.f (k : Nat) (l0 : List Int) (a1 : Int) : Option (Int) := qeA.l0 k l0 a1 0
set_option maxHeartbeats 8000000 in
set_option maxRecDepth 100000 in
theorem qeA.calls (k : Nat) (A0 : Option Addr) (c0 : Nat) (l0 : List Int) (a1 : Int) (r : Int) (w : World) (hr0 : Kd.C (Kd.int .i64) w A0 l0.length l0) (hc0 : l0.length ≤ c0) (h : qeA.f k l0 a1 = some r) :
  Calls Tryd.prog 28 #[.slice A0 l0.length c0, .int .i64 a1] w fun e w' => e = .returned (.int .i64 r) ∧ Drawn0 w w' := by
 have HR0 := Aside0.mk hr0
 have HC0 := Aside0.mk hc0
 clear hr0 hc0
 have H : (qeA.l0 k l0 a1 0) = some r := h
 clear h
 have H' := Aside0.mk H
 clear H
 go_enter Tryd.func28, Tryd.ntmps28
 go_wp2
 go_loopg [1, 5] k (fun kq v1 v5 w' => ∃ (x1_1 : Int) (x5_1 : Int), v1 = .int .i64 x1_1 ∧ v5 = .int .i64 x5_1 ∧ Aside0 (qeA.l0 kq l0 x1_1 x5_1 = some r) ∧ Aside0 (kq ≤ k) ∧ Drawn0 w w')
 case atStart => exact ⟨(a1), (0), (by first | rfl | (simp; done) | (simp [*]; done)), (by first | rfl | (simp; done) | (simp [*]; done)), H', ⟨Nat.le_refl _⟩, by repeat (first | exact Drawn0.refl _ | apply Drawn0.step)⟩
 case round =>
  clear H'
  try clear c2
  try clear p2
  obtain ⟨x1_1, x5_1, rfl, rfl, HA, HK1, ⟨m1, rfl⟩⟩ := hrel
  cases gk with
  | zero => exact absurd HA.out (by simp [qeA.l0])
  | succ k1 =>
   have H := HA.out
   clear HA
   simp only [qeA.l0] at H
   by_cases c3 : x5_1 < (l0.length : Int)
   ·rw [if_pos c3] at H
    have c3b0 : decide (x5_1 < (l0.length : Int)) = true := decide_eq_true c3
    clear c3
    by_cases c4 : 0 ≤ x5_1
    ·rw [if_pos c4] at H
     have c4b0 : decide (0 ≤ x5_1) = true := decide_eq_true c4
     clear c4
     by_cases c5 : (rd l0 x5_1) = x1_1
     ·rw [if_pos c5] at H
      have c5b0 : ((rd l0 x5_1) == x1_1) = true := beq_iff_eq.mpr c5
      have c5b1 : ((rd l0 x5_1) != x1_1) = false := bne_eq_false_iff_eq.mpr c5
      clear c5
      have H' := Aside0.mk H
      clear H
      have p521 : 0 ≤ (x5_1 : Int) := of_decide_eq_true (by first | (with_reducible assumption) | assumption)
      have q521 : x5_1 < (l0.length : Int) := of_decide_eq_true (by first | (with_reducible assumption) | assumption)
      obtain ⟨ad521, e521, hx521_0⟩ := Kd.qtC HR0.out x5_1 p521 q521
      cases e521
      replace p521 := eq_true p521
      replace q521 := eq_true q521
      go_wp2
      go_roundg k1
      case measure => have := HK1.out; omega
      case rel => exact ⟨(wrap64 (x1_1 + 1)), (wrap64 (x5_1 + 1)), (by first | rfl | (simp; done) | (simp [*]; done)), (by first | rfl | (simp; done) | (simp [*]; done)), H', ⟨by have := HK1.out; omega⟩, by repeat (first | exact Drawn0.refl _ | apply Drawn0.step)⟩
     ·rw [if_neg c5] at H
      have c5b0 : ((rd l0 x5_1) == x1_1) = false := beq_eq_false_iff_ne.mpr c5
      have c5b1 : ((rd l0 x5_1) != x1_1) = true := bne_iff_ne.mpr c5
      obtain rfl := Option.some.inj H
      have p521 : 0 ≤ (x5_1 : Int) := of_decide_eq_true (by first | (with_reducible assumption) | assumption)
      have q521 : x5_1 < (l0.length : Int) := of_decide_eq_true (by first | (with_reducible assumption) | assumption)
      obtain ⟨ad521, e521, hx521_0⟩ := Kd.qtC HR0.out x5_1 p521 q521
      cases e521
      replace p521 := eq_true p521
      replace q521 := eq_true q521
      go_wp2
      go_ret
      exact ⟨by first | rfl | (simp; done) | (simp [*]; done), by repeat (first | exact Drawn0.refl _ | apply Drawn0.step)⟩
    ·rw [if_neg c4] at H
     exact absurd H (by simp)
   ·rw [if_neg c3] at H
    have c3b0 : decide (x5_1 < (l0.length : Int)) = false := decide_eq_false c3
    clear c3
    obtain rfl := Option.some.inj H
    go_wp2
    go_ret
    exact ⟨by first | rfl | (simp; done) | (simp [*]; done), by repeat (first | exact Drawn0.refl _ | apply Drawn0.step)⟩
mutual
def qP.j0 : Nat → ByteArray → List (S61) → List Int → Bool → List (S57) → List Int → Bool → Bool → Option (Bool)
 | 0, _, _, _, _, _, _, _, _ => none
 | k + 1, x0, x1, x6, x7, x8, x9, x10, x47 => if x47 = true then (some false) else ((qS.f k x1).bind fun t538 => ((qX.f k x8 t538).bind fun t541 => (if t541 = true then ((qj.f k x8 1).bind fun bt542 => (if bt542.1 < 0 then (qP.j1 k x0 x1 x6 x7 x9 true) else ((qXA.f k x9 x6).bind fun t544 => (if t544 = true then (qP.j1 k x0 x1 x6 x7 x9 (x10 != x7)) else (qP.j1 k x0 x1 x6 x7 x9 true))))) else (some false))))
def qP.j1 : Nat → ByteArray → List (S61) → List Int → Bool → List Int → Bool → Option (Bool)
 | 0, _, _, _, _, _, _ => none
 | k + 1, x0, x1, x6, x7, x9, x68 => if x68 = true then (some false) else ((qkA.f k x9 1).bind fun bt545 => ((qeA.f k bt545.2 1).bind fun t547 => (if t547 < 0 then (some false) else (if t547 = bt545.1 then ((qS.f k x1).bind fun t548 => ((qw.f k x0 t548).bind fun bt551 => ((qXA.f k bt551.1 x6).bind fun t555 => (if t555 = true then (qP.j2 k bt545.2 bt545.1 (bt551.2 != x7)) else (qP.j2 k bt545.2 bt545.1 true))))) else (some false)))))
def qP.j2 : Nat → List Int → Int → Bool → Option (Bool)
 | 0, _, _, _ => none
 | k + 1, x9, x12, x95 => if x95 = true then (some false) else ((qeA.f k x9 1).bind fun t556 => (if t556 < 0 then (some false) else (if t556 = x12 then (some true) else (some false))))
end
def qP.f (k : Nat) (a0 : ByteArray) (l1 : List (S61)) : Option (Bool) := if (a0.size : Int) > 1048576 then (some true) else ((qSA.f l1 1048576).bind fun t522 => (if t522 < 0 then (some true) else ((qS.f k l1).bind fun t523 => ((qq.f k a0 t523).bind fun bt526 => ((qS.f k l1).bind fun t530 => ((qw.f k a0 t530).bind fun bt533 => ((qXA.f k bt533.1 bt526.1).bind fun t537 => (if t537 = true then (qP.j0 k a0 l1 bt526.1 bt526.2 t530 bt533.1 bt533.2 (bt533.2 != bt526.2)) else (qP.j0 k a0 l1 bt526.1 bt526.2 t530 bt533.1 bt533.2 true)))))))))
set_option maxHeartbeats 8000000 in
set_option maxRecDepth 100000 in
theorem qP.calls (k : Nat) (a0 : ByteArray) (A1 : Option Addr) (c1 : Nat) (l1 : List (S61)) (r : Bool) (w : World) (hr1 : Kd.C k61 w A1 l1.length l1) (hc1 : l1.length ≤ c1) (hL : Laid w) (h : qP.f k a0 l1 = some r) :
  Calls Tryd.prog 7 #[.string a0, .slice A1 l1.length c1] w fun e w' => e = .returned (.bool r) ∧ Below w.heap.size w w' := by
 have HR1 := Aside0.mk hr1
 have HC1 := Aside0.mk hc1
 clear hr1 hc1
 have HLD := Aside0.mk hL
 clear hL
 have HB := Aside0.mk (Below.refl w.heap.size w)
 have H : (if (a0.size : Int) > 1048576 then (some true) else ((qSA.f l1 1048576).bind fun t522 => (if t522 < 0 then (some true) else ((qS.f k l1).bind fun t523 => ((qq.f k a0 t523).bind fun bt526 => ((qS.f k l1).bind fun t530 => ((qw.f k a0 t530).bind fun bt533 => ((qXA.f k bt533.1 bt526.1).bind fun t537 => (if t537 = true then (qP.j0 k a0 l1 bt526.1 bt526.2 t530 bt533.1 bt533.2 (bt533.2 != bt526.2)) else (qP.j0 k a0 l1 bt526.1 bt526.2 t530 bt533.1 bt533.2 true)))))))))) = some r := h
 clear h
 by_cases c3 : (a0.size : Int) > 1048576
 ·rw [if_pos c3] at H
  have c3b0 : decide (1048576 < (a0.size : Int)) = true := decide_eq_true c3
  have c3b1 : decide (1048576 < a0.size) = true := decide_eq_true (by omega)
  clear c3
  obtain rfl := Option.some.inj H
  go_enter Tryd.func7, Tryd.ntmps7
  go_wp2
  go_ret
  exact ⟨by first | rfl | (simp [qI, qH] <;> rfl) | (simp [*, qI, qH] <;> rfl), bl⟩
 ·rw [if_neg c3] at H
  have c3b0 : decide (1048576 < (a0.size : Int)) = false := decide_eq_false c3
  have c3b1 : decide (1048576 < a0.size) = false := decide_eq_false (by omega)
  clear c3
  replace H := Option.bind_eq_some_iff.mp H
  obtain ⟨t522, A40, H⟩ := H
  replace H : (if t522 < 0 then (some true) else ((qS.f k l1).bind fun t523 => ((qq.f k a0 t523).bind fun bt526 => ((qS.f k l1).bind fun t530 => ((qw.f k a0 t530).bind fun bt533 => ((qXA.f k bt533.1 bt526.1).bind fun t537 => (if t537 = true then (qP.j0 k a0 l1 bt526.1 bt526.2 t530 bt533.1 bt533.2 (bt533.2 != bt526.2)) else (qP.j0 k a0 l1 bt526.1 bt526.2 t530 bt533.1 bt533.2 true)))))))) = some r := H
  have A4 := Aside0.mk A40
  clear A40
  by_cases c5 : t522 < 0
  ·rw [if_pos c5] at H
   have c5b0 : decide (t522 < 0) = true := decide_eq_true c5
   clear c5
   obtain rfl := Option.some.inj H
   go_enter Tryd.func7, Tryd.ntmps7
   go_wp2_with (first | ((with_reducible refine qL (f := 11) rfl ?_); refine qh (some 21) rfl rfl Tryd.func11 (by kernel_rfl) rfl #[.slice A1 l1.length c1, .int .i64 1048576] rfl (by (try simp only [List.map_toArray, List.map_cons, List.map_nil]); first | done | rfl | (simp only [List.length_drop, List.length_take]; rfl)) ?_; (with_reducible refine (qSA.calls _ _ l1 1048576 t522 _ ?side1 ?side2 A4.out).mono ?_); (case side1 => repeat (first | exact HR1.out | (with_reducible refine Kd.qa ?_ _) | (with_reducible refine Kd.qZ ?_ _) | (with_reducible refine Kd.qe ?_))); (case side2 => exact HC1.out); rintro e w' ⟨rfl, ⟨nd, rfl⟩⟩; refine ⟨_, rfl, ?_⟩))
   go_ret
   exact ⟨by first | rfl | (simp [qI, qH] <;> rfl) | (simp [*, qI, qH] <;> rfl), bl⟩
  ·rw [if_neg c5] at H
   have c5b0 : decide (t522 < 0) = false := decide_eq_false c5
   clear c5
   replace H := Option.bind_eq_some_iff.mp H
   obtain ⟨t523, A60, H⟩ := H
   replace H : ((qq.f k a0 t523).bind fun bt526 => ((qS.f k l1).bind fun t530 => ((qw.f k a0 t530).bind fun bt533 => ((qXA.f k bt533.1 bt526.1).bind fun t537 => (if t537 = true then (qP.j0 k a0 l1 bt526.1 bt526.2 t530 bt533.1 bt533.2 (bt533.2 != bt526.2)) else (qP.j0 k a0 l1 bt526.1 bt526.2 t530 bt533.1 bt533.2 true)))))) = some r := H
   have A6 := Aside0.mk A60
   clear A60
   replace H := Option.bind_eq_some_iff.mp H
   obtain ⟨⟨t526, t527⟩, A70, H⟩ := H
   replace H : ((qS.f k l1).bind fun t530 => ((qw.f k a0 t530).bind fun bt533 => ((qXA.f k bt533.1 t526).bind fun t537 => (if t537 = true then (qP.j0 k a0 l1 t526 t527 t530 bt533.1 bt533.2 (bt533.2 != t527)) else (qP.j0 k a0 l1 t526 t527 t530 bt533.1 bt533.2 true))))) = some r := H
   have A7 := Aside0.mk A70
   clear A70
   replace H := Option.bind_eq_some_iff.mp H
   obtain ⟨t530, A80, H⟩ := H
   replace H : ((qw.f k a0 t530).bind fun bt533 => ((qXA.f k bt533.1 t526).bind fun t537 => (if t537 = true then (qP.j0 k a0 l1 t526 t527 t530 bt533.1 bt533.2 (bt533.2 != t527)) else (qP.j0 k a0 l1 t526 t527 t530 bt533.1 bt533.2 true)))) = some r := H
   have A8 := Aside0.mk A80
   clear A80
   replace H := Option.bind_eq_some_iff.mp H
   obtain ⟨⟨t533, t534⟩, A90, H⟩ := H
   replace H : ((qXA.f k t533 t526).bind fun t537 => (if t537 = true then (qP.j0 k a0 l1 t526 t527 t530 t533 t534 (t534 != t527)) else (qP.j0 k a0 l1 t526 t527 t530 t533 t534 true))) = some r := H
   have A9 := Aside0.mk A90
   clear A90
   have HC10 := Aside0.mk H
   clear H
   go_enter Tryd.func7, Tryd.ntmps7
   go_upto_region 10 with (first | ((with_reducible refine qL (f := 11) rfl ?_); refine qh (some 21) rfl rfl Tryd.func11 (by kernel_rfl) rfl #[.slice A1 l1.length c1, .int .i64 1048576] rfl (by (try simp only [List.map_toArray, List.map_cons, List.map_nil]); first | done | rfl | (simp only [List.length_drop, List.length_take]; rfl)) ?_; (with_reducible refine (qSA.calls _ _ l1 1048576 t522 _ ?side1 ?side2 A4.out).mono ?_); (case side1 => repeat (first | exact HR1.out | (with_reducible refine Kd.qa ?_ _) | (with_reducible refine Kd.qZ ?_ _) | (with_reducible refine Kd.qe ?_))); (case side2 => exact HC1.out); rintro e w' ⟨rfl, ⟨nd, rfl⟩⟩; refine ⟨_, rfl, ?_⟩) | ((with_reducible refine qL (f := 13) rfl ?_); refine qh (some 27) rfl rfl Tryd.func13 (by kernel_rfl) rfl #[.slice A1 l1.length c1] rfl (by (try simp only [List.map_toArray, List.map_cons, List.map_nil]); first | done | rfl | (simp only [List.length_drop, List.length_take]; rfl)) ?_; (with_reducible refine (qS.calls k _ _ l1 t523 _ ?side1 ?side2 A6.out).mono ?_); (case side1 => repeat (first | exact HR1.out | (with_reducible refine Kd.qa ?_ _) | (with_reducible refine Kd.qZ ?_ _) | (with_reducible refine Kd.qe ?_))); (case side2 => exact HC1.out); rintro e w11 ⟨v524, rfl, ho0, hb⟩; refine ⟨_, rfl, ?_⟩; have n0_ := Aside0.mk (Kd.qDA ho0 (qb bl)); have n1_ := Aside0.mk (qG bl hb); clear HB; have HO525 := n0_; have HB := n1_; clear n0_ n1_; (try clear hb); (try clear hb2); (try clear hk); (try clear hi); (try clear ho0); obtain ⟨Ao12, co12, eo12⟩ := Kd.qt HO525.out; subst eo12) | ((with_reducible refine qL (f := 24) rfl ?_); refine qh (some 28) rfl rfl Tryd.func24 (by kernel_rfl) rfl #[.string a0, .slice Ao12 t523.length co12] rfl (by (try simp only [List.map_toArray, List.map_cons, List.map_nil]); first | done | rfl | (simp only [List.length_drop, List.length_take]; rfl)) ?_; (with_reducible refine (qq.calls k a0 _ _ t523 t526 t527 _ ?side1 ?side2 A7.out).mono ?_); (case side1 => repeat (first | exact (Kd.qM HO525.out).2.2 | (with_reducible refine Kd.qa ?_ _) | (with_reducible refine Kd.qZ ?_ _) | (with_reducible refine Kd.qe ?_))); (case side2 => exact (Kd.qM HO525.out).2.1); rintro e w13 ⟨v528, rfl, ho0, hb⟩; refine ⟨_, rfl, ?_⟩; have n0_ := Aside0.mk (Kd.qc (by (with_reducible repeat (first | apply Kd.qK | apply Kd.qJ | apply Kd.qO)); exact HO525.out) hb); have n1_ := Aside0.mk (Kd.qDA ho0 (qb bl)); have n2_ := Aside0.mk (qG bl hb); clear HO525; clear HB; have HO525 := n0_; have HO529 := n1_; have HB := n2_; clear n0_ n1_ n2_; (try clear hb); (try clear hb2); (try clear hk); (try clear hi); (try clear ho0)) | ((with_reducible refine qL (f := 13) rfl ?_); refine qh (some 32) rfl rfl Tryd.func13 (by kernel_rfl) rfl #[.slice A1 l1.length c1] rfl (by (try simp only [List.map_toArray, List.map_cons, List.map_nil]); first | done | rfl | (simp only [List.length_drop, List.length_take]; rfl)) ?_; (with_reducible refine (qS.calls k _ _ l1 t530 _ ?side1 ?side2 A8.out).mono ?_); (case side1 => repeat (first | exact (Kd.qWA HR1.out HB.out) | (with_reducible refine Kd.qa ?_ _) | (with_reducible refine Kd.qZ ?_ _) | (with_reducible refine Kd.qe ?_))); (case side2 => exact HC1.out); rintro e w14 ⟨v531, rfl, ho0, hb⟩; refine ⟨_, rfl, ?_⟩; have n0_ := Aside0.mk (Kd.qYA (by (with_reducible repeat (first | apply Kd.qK | apply Kd.qJ | apply Kd.qO)); exact HO525.out) (Kd.qnA ho0) hb); have n1_ := Aside0.mk (Kd.qc (by (with_reducible repeat (first | apply Kd.qK | apply Kd.qJ | apply Kd.qO)); exact HO529.out) hb); have n2_ := Aside0.mk (Kd.qDA (Kd.qmA ho0 (Kd.R_lt (by (with_reducible repeat (first | apply Kd.qK | apply Kd.qJ | apply Kd.qO)); exact HO525.out))) (qb bl)); have n3_ := Aside0.mk (qG bl hb); clear HO525; clear HO529; clear HB; have HO525 := n0_; have HO529 := n1_; have HO532 := n2_; have HB := n3_; clear n0_ n1_ n2_ n3_; (try clear hb); (try clear hb2); (try clear hk); (try clear hi); (try clear ho0); obtain ⟨Ao15, co15, eo15⟩ := Kd.qt HO532.out; subst eo15) | ((with_reducible refine qL (f := 25) rfl ?_); refine qh (some 36) rfl rfl Tryd.func25 (by kernel_rfl) rfl #[.string a0, .slice Ao15 t530.length co15] rfl (by (try simp only [List.map_toArray, List.map_cons, List.map_nil]); first | done | rfl | (simp only [List.length_drop, List.length_take]; rfl)) ?_; (with_reducible refine (qw.calls k a0 _ _ t530 t533 t534 _ ?side1 ?side2 ?side3 A9.out).mono ?_); (case side1 => repeat (first | exact (Kd.qM HO532.out).2.2 | (with_reducible refine Kd.qa ?_ _) | (with_reducible refine Kd.qZ ?_ _) | (with_reducible refine Kd.qe ?_))); (case side2 => exact (Kd.qM HO532.out).2.1); (case side3 => first | exact HLD.out | exact Laid.below HLD.out (by repeat (first | (with_reducible first | exact HB.out | apply qAA | apply qo | apply qp | refine qMA ?_ (Aside0.out (by with_reducible assumption))) | exact HB.out))); rintro e w16 ⟨v535, rfl, ho0, hb⟩; refine ⟨_, rfl, ?_⟩; have n0_ := Aside0.mk (Kd.qc (by (with_reducible repeat (first | apply Kd.qK | apply Kd.qJ | apply Kd.qO)); exact HO525.out) hb); have n1_ := Aside0.mk (Kd.qYA (by (with_reducible repeat (first | apply Kd.qK | apply Kd.qJ | apply Kd.qO)); exact HO529.out) (Kd.qnA ho0) hb); have n2_ := Aside0.mk (Kd.qc (by (with_reducible repeat (first | apply Kd.qK | apply Kd.qJ | apply Kd.qO)); exact HO532.out) hb); have n3_ := Aside0.mk (Kd.qDA (Kd.qmA ho0 (Kd.R_lt (by (with_reducible repeat (first | apply Kd.qK | apply Kd.qJ | apply Kd.qO)); exact HO529.out))) (qb bl)); have n4_ := Aside0.mk (qG bl hb); clear HO525; clear HO529; clear HO532; clear HB; have HO525 := n0_; have HO529 := n1_; have HO532 := n2_; have HO536 := n3_; have HB := n4_; clear n0_ n1_ n2_ n3_ n4_; (try clear hb); (try clear hb2); (try clear hk); (try clear hi); (try clear ho0)))
   (try simp only [Act.put, List.setIfInBounds_toArray, List.set_cons_zero, List.set_cons_succ])
   go_cut [47] (fun v47 wc => ∃ (kq : Nat) (x47_9 : Bool), v47 = .bool x47_9 ∧ Aside0 (qP.j0 kq a0 l1 t526 t527 t530 t533 t534 x47_9 = some r) ∧ Aside0 (kq ≤ k) ∧ Aside0 (Kd.R (Kd.int .i64) 3 wc w.heap.size (fun k_ => some k_ ≠ (v535 : Value).ownBlock) v528 t526) ∧ Aside0 (Kd.R k57 57 wc w.heap.size (fun _ => True) (.slice Ao15 t530.length co15) t530) ∧ Aside0 (Kd.R (Kd.int .i64) 3 wc w.heap.size (fun k_ => some k_ ≠ (v528 : Value).ownBlock) v535 t533) ∧ Aside0 (Below w.heap.size w wc))
   case first =>
    have H := HC10.out
    clear HC10
    replace H := Option.bind_eq_some_iff.mp H
    obtain ⟨t537, A170, H⟩ := H
    replace H : (if t537 = true then (qP.j0 k a0 l1 t526 t527 t530 t533 t534 (t534 != t527)) else (qP.j0 k a0 l1 t526 t527 t530 t533 t534 true)) = some r := H
    have A17 := Aside0.mk A170
    clear A170
    by_cases c18 : t537 = true
    ·subst c18
     have H1 : (qP.j0 k a0 l1 t526 t527 t530 t533 t534 (t534 != t527)) = some r := by rw [if_pos rfl] at H; exact H
     clear H
     have H := H1
     clear H1
     have H' := Aside0.mk H
     clear H
     obtain ⟨Ao19, co19, eo19⟩ := Kd.qt HO536.out
     subst eo19
     obtain ⟨Ao20, co20, eo20⟩ := Kd.qt HO529.out
     subst eo20
     go_wp2_with (first | ((with_reducible refine qL (f := 26) rfl ?_); refine qh (some 41) rfl rfl Tryd.func26 (by kernel_rfl) rfl #[.slice Ao19 t533.length co19, .slice Ao20 t526.length co20] rfl (by (try simp only [List.map_toArray, List.map_cons, List.map_nil]); first | done | rfl | (simp only [List.length_drop, List.length_take]; rfl)) ?_; (with_reducible refine (qXA.calls k _ _ t533 _ _ t526 true _ ?side1 ?side2 ?side3 ?side4 A17.out).mono ?_); (case side1 => repeat (first | exact (Kd.qM HO536.out).2.2 | (with_reducible refine Kd.qa ?_ _) | (with_reducible refine Kd.qZ ?_ _) | (with_reducible refine Kd.qe ?_))); (case side2 => exact (Kd.qM HO536.out).2.1); (case side3 => repeat (first | exact (Kd.qM HO529.out).2.2 | (with_reducible refine Kd.qa ?_ _) | (with_reducible refine Kd.qZ ?_ _) | (with_reducible refine Kd.qe ?_))); (case side4 => exact (Kd.qM HO529.out).2.1); rintro e w' ⟨rfl, ⟨nd, rfl⟩⟩; refine ⟨_, rfl, ?_⟩))
     go_meet
     case rel => exact ⟨_, ((t534 != t527)), (by first | rfl | (simp; done) | (simp [*]; done)), H', ⟨by first | omega | exact Nat.le_refl _⟩, ⟨by (with_reducible repeat (first | apply Kd.qK | apply Kd.qJ | apply Kd.qO)); exact Kd.qGA HO529.out (fun _ hk => hk.2)⟩, ⟨by (with_reducible repeat (first | apply Kd.qK | apply Kd.qJ | apply Kd.qO)); exact Kd.qGA HO532.out (fun _ hk => trivial)⟩, ⟨by (with_reducible repeat (first | apply Kd.qK | apply Kd.qJ | apply Kd.qO)); exact Kd.qGA HO536.out (fun _ hk => hk.2)⟩, ⟨bl⟩⟩
    ·replace c18 := Bool.eq_false_iff.mpr c18
     subst c18
     have H1 : (qP.j0 k a0 l1 t526 t527 t530 t533 t534 true) = some r := by rw [if_neg (show ¬ (false = true) by decide)] at H; exact H
     clear H
     have H := H1
     clear H1
     have H' := Aside0.mk H
     clear H
     obtain ⟨Ao21, co21, eo21⟩ := Kd.qt HO536.out
     subst eo21
     obtain ⟨Ao22, co22, eo22⟩ := Kd.qt HO529.out
     subst eo22
     go_wp2_with (first | ((with_reducible refine qL (f := 26) rfl ?_); refine qh (some 41) rfl rfl Tryd.func26 (by kernel_rfl) rfl #[.slice Ao21 t533.length co21, .slice Ao22 t526.length co22] rfl (by (try simp only [List.map_toArray, List.map_cons, List.map_nil]); first | done | rfl | (simp only [List.length_drop, List.length_take]; rfl)) ?_; (with_reducible refine (qXA.calls k _ _ t533 _ _ t526 false _ ?side1 ?side2 ?side3 ?side4 A17.out).mono ?_); (case side1 => repeat (first | exact (Kd.qM HO536.out).2.2 | (with_reducible refine Kd.qa ?_ _) | (with_reducible refine Kd.qZ ?_ _) | (with_reducible refine Kd.qe ?_))); (case side2 => exact (Kd.qM HO536.out).2.1); (case side3 => repeat (first | exact (Kd.qM HO529.out).2.2 | (with_reducible refine Kd.qa ?_ _) | (with_reducible refine Kd.qZ ?_ _) | (with_reducible refine Kd.qe ?_))); (case side4 => exact (Kd.qM HO529.out).2.1); rintro e w' ⟨rfl, ⟨nd, rfl⟩⟩; refine ⟨_, rfl, ?_⟩))
     go_meet
     case rel => exact ⟨_, (true), (by first | rfl | (simp; done) | (simp [*]; done)), H', ⟨by first | omega | exact Nat.le_refl _⟩, ⟨by (with_reducible repeat (first | apply Kd.qK | apply Kd.qJ | apply Kd.qO)); exact Kd.qGA HO529.out (fun _ hk => hk.2)⟩, ⟨by (with_reducible repeat (first | apply Kd.qK | apply Kd.qJ | apply Kd.qO)); exact Kd.qGA HO532.out (fun _ hk => trivial)⟩, ⟨by (with_reducible repeat (first | apply Kd.qK | apply Kd.qJ | apply Kd.qO)); exact Kd.qGA HO536.out (fun _ hk => hk.2)⟩, ⟨bl⟩⟩
   case rest =>
    clear HC10
    try clear c1
    try clear c2
    try clear p2
    try clear c3
    try clear c3b0
    try clear c3b1
    try clear c5
    try clear c5b0
    try clear c7
    try clear c11
    try clear c13
    try clear c18
    obtain ⟨kq, x47_9, rfl, HA, HJ9, HO_6, HO_8, HO_9, HB⟩ := hcut
    cases kq with
    | zero => exact absurd HA.out (by simp [qP.j0])
    | succ kj9 =>
     have H := HA.out
     clear HA
     simp only [qP.j0] at H
     by_cases c23 : x47_9 = true
     ·subst c23
      have H1 : (some false) = some r := by rw [if_pos rfl] at H; exact H
      clear H
      have H := H1
      clear H1
      obtain rfl := Option.some.inj H
      go_wp2
      go_ret
      exact ⟨by first | rfl | (simp [qI, qH] <;> rfl) | (simp [*, qI, qH] <;> rfl), bl⟩
     ·replace c23 := Bool.eq_false_iff.mpr c23
      subst c23
      have H1 : ((qS.f kj9 l1).bind fun t538 => ((qX.f kj9 t530 t538).bind fun t541 => (if t541 = true then ((qj.f kj9 t530 1).bind fun bt542 => (if bt542.1 < 0 then (qP.j1 kj9 a0 l1 t526 t527 t533 true) else ((qXA.f kj9 t533 t526).bind fun t544 => (if t544 = true then (qP.j1 kj9 a0 l1 t526 t527 t533 (t534 != t527)) else (qP.j1 kj9 a0 l1 t526 t527 t533 true))))) else (some false)))) = some r := by rw [if_neg (show ¬ (false = true) by decide)] at H; exact H
      clear H
      have H := H1
      clear H1
      replace H := Option.bind_eq_some_iff.mp H
      obtain ⟨t538, A240, H⟩ := H
      replace H : ((qX.f kj9 t530 t538).bind fun t541 => (if t541 = true then ((qj.f kj9 t530 1).bind fun bt542 => (if bt542.1 < 0 then (qP.j1 kj9 a0 l1 t526 t527 t533 true) else ((qXA.f kj9 t533 t526).bind fun t544 => (if t544 = true then (qP.j1 kj9 a0 l1 t526 t527 t533 (t534 != t527)) else (qP.j1 kj9 a0 l1 t526 t527 t533 true))))) else (some false))) = some r := H
      have A24 := Aside0.mk A240
      clear A240
      replace H := Option.bind_eq_some_iff.mp H
      obtain ⟨t541, A250, H⟩ := H
      replace H : (if t541 = true then ((qj.f kj9 t530 1).bind fun bt542 => (if bt542.1 < 0 then (qP.j1 kj9 a0 l1 t526 t527 t533 true) else ((qXA.f kj9 t533 t526).bind fun t544 => (if t544 = true then (qP.j1 kj9 a0 l1 t526 t527 t533 (t534 != t527)) else (qP.j1 kj9 a0 l1 t526 t527 t533 true))))) else (some false)) = some r := H
      have A25 := Aside0.mk A250
      clear A250
      by_cases c26 : t541 = true
      ·subst c26
       have H1 : ((qj.f kj9 t530 1).bind fun bt542 => (if bt542.1 < 0 then (qP.j1 kj9 a0 l1 t526 t527 t533 true) else ((qXA.f kj9 t533 t526).bind fun t544 => (if t544 = true then (qP.j1 kj9 a0 l1 t526 t527 t533 (t534 != t527)) else (qP.j1 kj9 a0 l1 t526 t527 t533 true))))) = some r := by rw [if_pos rfl] at H; exact H
       clear H
       have H := H1
       clear H1
       replace H := Option.bind_eq_some_iff.mp H
       obtain ⟨⟨t542, t543⟩, A270, H⟩ := H
       replace H : (if t542 < 0 then (qP.j1 kj9 a0 l1 t526 t527 t533 true) else ((qXA.f kj9 t533 t526).bind fun t544 => (if t544 = true then (qP.j1 kj9 a0 l1 t526 t527 t533 (t534 != t527)) else (qP.j1 kj9 a0 l1 t526 t527 t533 true)))) = some r := H
       have A27 := Aside0.mk A270
       clear A270
       have HC28 := Aside0.mk H
       clear H
       go_upto_region 16 with (first | ((with_reducible refine qL (f := 13) rfl ?_); refine qh (some 50) rfl rfl Tryd.func13 (by kernel_rfl) rfl #[.slice A1 l1.length c1] rfl (by (try simp only [List.map_toArray, List.map_cons, List.map_nil]); first | done | rfl | (simp only [List.length_drop, List.length_take]; rfl)) ?_; (with_reducible refine (qS.calls kj9 _ _ l1 t538 _ ?side1 ?side2 A24.out).mono ?_); (case side1 => repeat (first | exact (Kd.qWA HR1.out HB.out) | (with_reducible refine Kd.qa ?_ _) | (with_reducible refine Kd.qZ ?_ _) | (with_reducible refine Kd.qe ?_))); (case side2 => exact HC1.out); rintro e w29 ⟨v539, rfl, ho0, hb⟩; refine ⟨_, rfl, ?_⟩; have n0_ := Aside0.mk (Kd.qc (by (with_reducible repeat (first | apply Kd.qK | apply Kd.qJ | apply Kd.qO)); exact HO_6.out) hb); have n1_ := Aside0.mk (Kd.qYA (by (with_reducible repeat (first | apply Kd.qK | apply Kd.qJ | apply Kd.qO)); exact HO_8.out) (Kd.qnA ho0) hb); have n2_ := Aside0.mk (Kd.qc (by (with_reducible repeat (first | apply Kd.qK | apply Kd.qJ | apply Kd.qO)); exact HO_9.out) hb); have n3_ := Aside0.mk (Kd.qDA (Kd.qmA ho0 (Kd.R_lt (by (with_reducible repeat (first | apply Kd.qK | apply Kd.qJ | apply Kd.qO)); exact HO_8.out))) (qb bl)); have n4_ := Aside0.mk (qG bl hb); clear HO_6; clear HO_8; clear HO_9; clear HB; have HO_6 := n0_; have HO_8 := n1_; have HO_9 := n2_; have HO540 := n3_; have HB := n4_; clear n0_ n1_ n2_ n3_ n4_; (try clear hb); (try clear hb2); (try clear hk); (try clear hi); (try clear ho0); obtain ⟨Ao30, co30, eo30⟩ := Kd.qt HO540.out; subst eo30) | ((with_reducible refine qL (f := 15) rfl ?_); refine qh (some 51) rfl rfl Tryd.func15 (by kernel_rfl) rfl #[.slice Ao15 t530.length co15, .slice Ao30 t538.length co30] rfl (by (try simp only [List.map_toArray, List.map_cons, List.map_nil]); first | done | rfl | (simp only [List.length_drop, List.length_take]; rfl)) ?_; (with_reducible refine (qX.calls kj9 _ _ t530 _ _ t538 true _ ?side1 ?side2 ?side3 ?side4 A25.out).mono ?_); (case side1 => repeat (first | exact (Kd.qM HO_8.out).2.2 | (with_reducible refine Kd.qa ?_ _) | (with_reducible refine Kd.qZ ?_ _) | (with_reducible refine Kd.qe ?_))); (case side2 => exact (Kd.qM HO_8.out).2.1); (case side3 => repeat (first | exact (Kd.qM HO540.out).2.2 | (with_reducible refine Kd.qa ?_ _) | (with_reducible refine Kd.qZ ?_ _) | (with_reducible refine Kd.qe ?_))); (case side4 => exact (Kd.qM HO540.out).2.1); rintro e w31 ⟨rfl, hb⟩; refine ⟨_, rfl, ?_⟩; have n0_ := Aside0.mk (Kd.qc (by (with_reducible repeat (first | apply Kd.qK | apply Kd.qJ | apply Kd.qO)); exact HO_6.out) hb); have n1_ := Aside0.mk (Kd.qc (by (with_reducible repeat (first | apply Kd.qK | apply Kd.qJ | apply Kd.qO)); exact HO_8.out) hb); have n2_ := Aside0.mk (Kd.qc (by (with_reducible repeat (first | apply Kd.qK | apply Kd.qJ | apply Kd.qO)); exact HO_9.out) hb); have n3_ := Aside0.mk (Kd.qc (by (with_reducible repeat (first | apply Kd.qK | apply Kd.qJ | apply Kd.qO)); exact HO540.out) hb); have n4_ := Aside0.mk (qG bl hb); clear HO_6; clear HO_8; clear HO_9; clear HO540; clear HB; have HO_6 := n0_; have HO_8 := n1_; have HO_9 := n2_; have HO540 := n3_; have HB := n4_; clear n0_ n1_ n2_ n3_ n4_; (try clear hb); (try clear hb2); (try clear hk); (try clear hi)) | ((with_reducible refine qL (f := 22) rfl ?_); refine qh (some 55) rfl rfl Tryd.func22 (by kernel_rfl) rfl #[.slice Ao15 t530.length co15, .int .i64 1] rfl (by (try simp only [List.map_toArray, List.map_cons, List.map_nil]); first | done | rfl | (simp only [List.length_drop, List.length_take]; rfl)) ?_; (with_reducible refine (qj.calls kj9 (fun k_ => some k_ = (.slice Ao15 t530.length co15 : Value).ownBlock) (.slice Ao15 t530.length co15) t530 1 t542 t543 w _ ?side1 ?side2 A27.out).mono ?_); (case side1 => repeat (first | (with_reducible first | exact HB.out | apply qAA | apply qo | apply qp) | exact HB.out)); (case side2 => exact Kd.qrB rfl HO_8.out); rintro e w32 ⟨rfl, hy0, hb, hkp⟩; refine ⟨_, rfl, ?_⟩; have n0_ := Aside0.mk (Kd.qGA (ok' := fun k_ => some k_ ≠ (v535 : Value).ownBlock) (Kd.qRB ((Kd.qRD HO_6.out (Kd.qXC HO_8.out) (by decide))) hkp (fun k_ hk_ hs_ => (hk_.2) hs_)) (fun k_ hk_ => hk_.1.1)); have n1_ := Aside0.mk (Kd.qOC rfl hy0 (fun k_ e_ => HO_8.out.1 k_ e_)); have n2_ := Aside0.mk (Kd.qGA (ok' := fun k_ => some k_ ≠ (v528 : Value).ownBlock) (Kd.qRB ((Kd.qRD HO_9.out (Kd.qXC HO_8.out) (by decide))) hkp (fun k_ hk_ hs_ => (hk_.2) hs_)) (fun k_ hk_ => hk_.1.1)); have n3_ := Aside0.mk (Kd.qGA (ok' := fun k_ => some k_ ≠ (.slice Ao15 t530.length co15 : Value).ownBlock) (Kd.qRB (HO540.out) hkp (fun k_ hk_ hs_ => (hk_.2) hs_)) (fun k_ hk_ => hk_.1.2)); have n4_ := Aside0.mk (hb); clear HO_6; clear HO_8; clear HO_9; clear HO540; clear HB; have HO_6 := n0_; have HO_8 := n1_; have HO_9 := n2_; have HO540 := n3_; have HB := n4_; clear n0_ n1_ n2_ n3_ n4_; (try clear hb); (try clear hkp); (try clear hy0)))
       (try simp only [Act.put, List.setIfInBounds_toArray, List.set_cons_zero, List.set_cons_succ])
       go_cut [68] (fun v68 wc => ∃ (kq : Nat) (x68_27 : Bool), v68 = .bool x68_27 ∧ Aside0 (qP.j1 kq a0 l1 t526 t527 t533 x68_27 = some r) ∧ Aside0 (kq ≤ kj9) ∧ Aside0 (Kd.R (Kd.int .i64) 3 wc w.heap.size (fun k_ => some k_ ≠ (v535 : Value).ownBlock) v528 t526) ∧ Aside0 (Kd.R (Kd.int .i64) 3 wc w.heap.size (fun k_ => some k_ ≠ (v528 : Value).ownBlock) v535 t533) ∧ Aside0 (Below w.heap.size w wc))
       case first =>
        have H := HC28.out
        clear HC28
        by_cases c33 : t542 < 0
        ·rw [if_pos c33] at H
         have c33b0 : decide (t542 < 0) = true := decide_eq_true c33
         clear c33
         (first | rw [c33b0] | (simp only [i64_w, i32_w]; rw [c33b0]) | skip)
         have H' := Aside0.mk H
         clear H
         go_wp2
         go_meet
         case rel => exact ⟨_, (true), (by first | rfl | (simp; done) | (simp [*]; done)), H', ⟨by have := HJ9.out; first | omega | exact Nat.le_refl _⟩, ⟨by (with_reducible repeat (first | apply Kd.qK | apply Kd.qJ | apply Kd.qO)); exact HO_6.out⟩, ⟨by (with_reducible repeat (first | apply Kd.qK | apply Kd.qJ | apply Kd.qO)); exact HO_9.out⟩, ⟨bl⟩⟩
        ·rw [if_neg c33] at H
         have c33b0 : decide (t542 < 0) = false := decide_eq_false c33
         clear c33
         (first | rw [c33b0] | (simp only [i64_w, i32_w]; rw [c33b0]) | skip)
         replace H := Option.bind_eq_some_iff.mp H
         obtain ⟨t544, A340, H⟩ := H
         replace H : (if t544 = true then (qP.j1 kj9 a0 l1 t526 t527 t533 (t534 != t527)) else (qP.j1 kj9 a0 l1 t526 t527 t533 true)) = some r := H
         have A34 := Aside0.mk A340
         clear A340
         by_cases c35 : t544 = true
         ·subst c35
          have H1 : (qP.j1 kj9 a0 l1 t526 t527 t533 (t534 != t527)) = some r := by rw [if_pos rfl] at H; exact H
          clear H
          have H := H1
          clear H1
          have H' := Aside0.mk H
          clear H
          obtain ⟨Ao36, co36, eo36⟩ := Kd.qt HO_9.out
          subst eo36
          obtain ⟨Ao37, co37, eo37⟩ := Kd.qt HO_6.out
          subst eo37
          go_wp2_with (first | (go_at_call 26; (with_reducible refine (qXA.calls kj9 _ _ t533 _ _ t526 true _ ?side1 ?side2 ?side3 ?side4 A34.out).mono ?_); (case side1 => repeat (first | exact (Kd.qM HO_9.out).2.2 | (with_reducible refine Kd.qa ?_ _) | (with_reducible refine Kd.qZ ?_ _) | (with_reducible refine Kd.qe ?_))); (case side2 => exact (Kd.qM HO_9.out).2.1); (case side3 => repeat (first | exact (Kd.qM HO_6.out).2.2 | (with_reducible refine Kd.qa ?_ _) | (with_reducible refine Kd.qZ ?_ _) | (with_reducible refine Kd.qe ?_))); (case side4 => exact (Kd.qM HO_6.out).2.1); rintro e w' ⟨rfl, ⟨nd, rfl⟩⟩))
          go_meet
          case rel => exact ⟨_, ((t534 != t527)), (by first | rfl | (simp; done) | (simp [*]; done)), H', ⟨by have := HJ9.out; first | omega | exact Nat.le_refl _⟩, ⟨by (with_reducible repeat (first | apply Kd.qK | apply Kd.qJ | apply Kd.qO)); exact HO_6.out⟩, ⟨by (with_reducible repeat (first | apply Kd.qK | apply Kd.qJ | apply Kd.qO)); exact HO_9.out⟩, ⟨bl⟩⟩
         ·replace c35 := Bool.eq_false_iff.mpr c35
          subst c35
          have H1 : (qP.j1 kj9 a0 l1 t526 t527 t533 true) = some r := by rw [if_neg (show ¬ (false = true) by decide)] at H; exact H
          clear H
          have H := H1
          clear H1
          have H' := Aside0.mk H
          clear H
          obtain ⟨Ao38, co38, eo38⟩ := Kd.qt HO_9.out
          subst eo38
          obtain ⟨Ao39, co39, eo39⟩ := Kd.qt HO_6.out
          subst eo39
          go_wp2_with (first | (go_at_call 26; (with_reducible refine (qXA.calls kj9 _ _ t533 _ _ t526 false _ ?side1 ?side2 ?side3 ?side4 A34.out).mono ?_); (case side1 => repeat (first | exact (Kd.qM HO_9.out).2.2 | (with_reducible refine Kd.qa ?_ _) | (with_reducible refine Kd.qZ ?_ _) | (with_reducible refine Kd.qe ?_))); (case side2 => exact (Kd.qM HO_9.out).2.1); (case side3 => repeat (first | exact (Kd.qM HO_6.out).2.2 | (with_reducible refine Kd.qa ?_ _) | (with_reducible refine Kd.qZ ?_ _) | (with_reducible refine Kd.qe ?_))); (case side4 => exact (Kd.qM HO_6.out).2.1); rintro e w' ⟨rfl, ⟨nd, rfl⟩⟩))
          go_meet
          case rel => exact ⟨_, (true), (by first | rfl | (simp; done) | (simp [*]; done)), H', ⟨by have := HJ9.out; first | omega | exact Nat.le_refl _⟩, ⟨by (with_reducible repeat (first | apply Kd.qK | apply Kd.qJ | apply Kd.qO)); exact HO_6.out⟩, ⟨by (with_reducible repeat (first | apply Kd.qK | apply Kd.qJ | apply Kd.qO)); exact HO_9.out⟩, ⟨bl⟩⟩
       case rest =>
        clear HC28
        try clear c1
        try clear c2
        try clear p2
        try clear c3
        try clear c3b0
        try clear c3b1
        try clear c5
        try clear c5b0
        try clear c7
        try clear c11
        try clear c13
        try clear c15
        try clear c18
        try clear c22
        try clear c23
        try clear c24
        try clear c25
        try clear c26
        try clear c33
        try clear c33b0
        try clear c35
        try clear p2
        obtain ⟨kq, x68_27, rfl, HA, HJ27, HO_6, HO_9, HB⟩ := hcut
        cases kq with
        | zero => exact absurd HA.out (by simp [qP.j1])
        | succ kj27 =>
         have H := HA.out
         clear HA
         simp only [qP.j1] at H
         by_cases c40 : x68_27 = true
         ·subst c40
          have H1 : (some false) = some r := by rw [if_pos rfl] at H; exact H
          clear H
          have H := H1
          clear H1
          obtain rfl := Option.some.inj H
          go_wp2
          go_ret
          exact ⟨by first | rfl | (simp [qI, qH] <;> rfl) | (simp [*, qI, qH] <;> rfl), bl⟩
         ·replace c40 := Bool.eq_false_iff.mpr c40
          subst c40
          have H1 : ((qkA.f kj27 t533 1).bind fun bt545 => ((qeA.f kj27 bt545.2 1).bind fun t547 => (if t547 < 0 then (some false) else (if t547 = bt545.1 then ((qS.f kj27 l1).bind fun t548 => ((qw.f kj27 a0 t548).bind fun bt551 => ((qXA.f kj27 bt551.1 t526).bind fun t555 => (if t555 = true then (qP.j2 kj27 bt545.2 bt545.1 (bt551.2 != t527)) else (qP.j2 kj27 bt545.2 bt545.1 true))))) else (some false))))) = some r := by rw [if_neg (show ¬ (false = true) by decide)] at H; exact H
          clear H
          have H := H1
          clear H1
          replace H := Option.bind_eq_some_iff.mp H
          obtain ⟨⟨t545, t546⟩, A410, H⟩ := H
          replace H : ((qeA.f kj27 t546 1).bind fun t547 => (if t547 < 0 then (some false) else (if t547 = t545 then ((qS.f kj27 l1).bind fun t548 => ((qw.f kj27 a0 t548).bind fun bt551 => ((qXA.f kj27 bt551.1 t526).bind fun t555 => (if t555 = true then (qP.j2 kj27 t546 t545 (bt551.2 != t527)) else (qP.j2 kj27 t546 t545 true))))) else (some false)))) = some r := H
          have A41 := Aside0.mk A410
          clear A410
          replace H := Option.bind_eq_some_iff.mp H
          obtain ⟨t547, A420, H⟩ := H
          replace H : (if t547 < 0 then (some false) else (if t547 = t545 then ((qS.f kj27 l1).bind fun t548 => ((qw.f kj27 a0 t548).bind fun bt551 => ((qXA.f kj27 bt551.1 t526).bind fun t555 => (if t555 = true then (qP.j2 kj27 t546 t545 (bt551.2 != t527)) else (qP.j2 kj27 t546 t545 true))))) else (some false))) = some r := H
          have A42 := Aside0.mk A420
          clear A420
          by_cases c43 : t547 < 0
          ·rw [if_pos c43] at H
           have c43b0 : decide (t547 < 0) = true := decide_eq_true c43
           clear c43
           obtain rfl := Option.some.inj H
           obtain ⟨Ao44, co44, eo44⟩ := Kd.qt HO_9.out
           subst eo44
           go_wp2_with (first | ((with_reducible refine qL (f := 27) rfl ?_); refine qh (some 71) rfl rfl Tryd.func27 (by kernel_rfl) rfl #[.slice Ao44 t533.length co44, .int .i64 1] rfl (by (try simp only [List.map_toArray, List.map_cons, List.map_nil]); first | done | rfl | (simp only [List.length_drop, List.length_take]; rfl)) ?_; (with_reducible refine (qkA.calls kj27 (fun k_ => some k_ = (.slice Ao44 t533.length co44 : Value).ownBlock) (.slice Ao44 t533.length co44) t533 1 t545 t546 w _ ?side1 ?side2 A41.out).mono ?_); (case side1 => repeat (first | (with_reducible first | exact HB.out | apply qAA | apply qo | apply qp) | exact HB.out)); (case side2 => exact Kd.qrB rfl HO_9.out); rintro e w45 ⟨rfl, hy0, hb, hkp⟩; refine ⟨_, rfl, ?_⟩; have n0_ := Aside0.mk (Kd.qGA (ok' := fun k_ => some k_ ≠ (.slice Ao44 t533.length co44 : Value).ownBlock) (Kd.qRB (HO_6.out) hkp (fun k_ hk_ hs_ => (hk_) hs_)) (fun k_ hk_ => hk_.1)); have n1_ := Aside0.mk (Kd.qOC rfl hy0 (fun k_ e_ => HO_9.out.1 k_ e_)); have n2_ := Aside0.mk (hb); clear HO_6; clear HO_9; clear HB; have HO_6 := n0_; have HO_9 := n1_; have HB := n2_; clear n0_ n1_ n2_; (try clear hb); (try clear hkp); (try clear hy0)) | ((with_reducible refine qL (f := 28) rfl ?_); refine qh (some 74) rfl rfl Tryd.func28 (by kernel_rfl) rfl #[.slice Ao44 t546.length co44, .int .i64 1] rfl (by (try simp only [List.map_toArray, List.map_cons, List.map_nil]); first | done | (rw [show t546.length = t533.length from (Kd.qM HO_9.out).1.symm] <;> rfl) | rfl | (simp only [List.length_drop, List.length_take]; rfl)) ?_; (with_reducible refine (qeA.calls kj27 _ _ t546 1 t547 _ ?side1 ?side2 A42.out).mono ?_); (case side1 => repeat (first | exact (Kd.qM HO_9.out).2.2 | (with_reducible refine Kd.qa ?_ _) | (with_reducible refine Kd.qZ ?_ _) | (with_reducible refine Kd.qe ?_))); (case side2 => rw [show t546.length = t533.length from (Kd.qM HO_9.out).1.symm]; exact (Kd.qM HO_9.out).2.1); rintro e w' ⟨rfl, ⟨nd, rfl⟩⟩; refine ⟨_, rfl, ?_⟩))
           go_ret
           exact ⟨by first | rfl | (simp [qI, qH] <;> rfl) | (simp [*, qI, qH] <;> rfl), bl⟩
          ·rw [if_neg c43] at H
           have c43b0 : decide (t547 < 0) = false := decide_eq_false c43
           clear c43
           by_cases c46 : t547 = t545
           ·rw [if_pos c46] at H
            have c46b0 : (t547 == t545) = true := beq_iff_eq.mpr c46
            have c46b1 : (t547 != t545) = false := bne_eq_false_iff_eq.mpr c46
            clear c46
            replace H := Option.bind_eq_some_iff.mp H
            obtain ⟨t548, A470, H⟩ := H
            replace H : ((qw.f kj27 a0 t548).bind fun bt551 => ((qXA.f kj27 bt551.1 t526).bind fun t555 => (if t555 = true then (qP.j2 kj27 t546 t545 (bt551.2 != t527)) else (qP.j2 kj27 t546 t545 true)))) = some r := H
            have A47 := Aside0.mk A470
            clear A470
            replace H := Option.bind_eq_some_iff.mp H
            obtain ⟨⟨t551, t552⟩, A480, H⟩ := H
            replace H : ((qXA.f kj27 t551 t526).bind fun t555 => (if t555 = true then (qP.j2 kj27 t546 t545 (t552 != t527)) else (qP.j2 kj27 t546 t545 true))) = some r := H
            have A48 := Aside0.mk A480
            clear A480
            have HC49 := Aside0.mk H
            clear H
            obtain ⟨Ao50, co50, eo50⟩ := Kd.qt HO_9.out
            subst eo50
            go_upto_region 27 with (first | ((with_reducible refine qL (f := 27) rfl ?_); refine qh (some 71) rfl rfl Tryd.func27 (by kernel_rfl) rfl #[.slice Ao50 t533.length co50, .int .i64 1] rfl (by (try simp only [List.map_toArray, List.map_cons, List.map_nil]); first | done | rfl | (simp only [List.length_drop, List.length_take]; rfl)) ?_; (with_reducible refine (qkA.calls kj27 (fun k_ => some k_ = (.slice Ao50 t533.length co50 : Value).ownBlock) (.slice Ao50 t533.length co50) t533 1 t545 t546 w _ ?side1 ?side2 A41.out).mono ?_); (case side1 => repeat (first | (with_reducible first | exact HB.out | apply qAA | apply qo | apply qp) | exact HB.out)); (case side2 => exact Kd.qrB rfl HO_9.out); rintro e w51 ⟨rfl, hy0, hb, hkp⟩; refine ⟨_, rfl, ?_⟩; have n0_ := Aside0.mk (Kd.qGA (ok' := fun k_ => some k_ ≠ (.slice Ao50 t533.length co50 : Value).ownBlock) (Kd.qRB (HO_6.out) hkp (fun k_ hk_ hs_ => (hk_) hs_)) (fun k_ hk_ => hk_.1)); have n1_ := Aside0.mk (Kd.qOC rfl hy0 (fun k_ e_ => HO_9.out.1 k_ e_)); have n2_ := Aside0.mk (hb); clear HO_6; clear HO_9; clear HB; have HO_6 := n0_; have HO_9 := n1_; have HB := n2_; clear n0_ n1_ n2_; (try clear hb); (try clear hkp); (try clear hy0)) | ((with_reducible refine qL (f := 28) rfl ?_); refine qh (some 74) rfl rfl Tryd.func28 (by kernel_rfl) rfl #[.slice Ao50 t546.length co50, .int .i64 1] rfl (by (try simp only [List.map_toArray, List.map_cons, List.map_nil]); first | done | (rw [show t546.length = t533.length from (Kd.qM HO_9.out).1.symm] <;> rfl) | rfl | (simp only [List.length_drop, List.length_take]; rfl)) ?_; (with_reducible refine (qeA.calls kj27 _ _ t546 1 t547 _ ?side1 ?side2 A42.out).mono ?_); (case side1 => repeat (first | exact (Kd.qM HO_9.out).2.2 | (with_reducible refine Kd.qa ?_ _) | (with_reducible refine Kd.qZ ?_ _) | (with_reducible refine Kd.qe ?_))); (case side2 => rw [show t546.length = t533.length from (Kd.qM HO_9.out).1.symm]; exact (Kd.qM HO_9.out).2.1); rintro e w' ⟨rfl, ⟨nd, rfl⟩⟩; refine ⟨_, rfl, ?_⟩) | ((with_reducible refine qL (f := 13) rfl ?_); refine qh (some 83) rfl rfl Tryd.func13 (by kernel_rfl) rfl #[.slice A1 l1.length c1] rfl (by (try simp only [List.map_toArray, List.map_cons, List.map_nil]); first | done | rfl | (simp only [List.length_drop, List.length_take]; rfl)) ?_; (with_reducible refine (qS.calls kj27 _ _ l1 t548 _ ?side1 ?side2 A47.out).mono ?_); (case side1 => repeat (first | exact (Kd.qWA HR1.out bl) | (with_reducible refine Kd.qa ?_ _) | (with_reducible refine Kd.qZ ?_ _) | (with_reducible refine Kd.qe ?_))); (case side2 => exact HC1.out); rintro e w52 ⟨v549, rfl, ho0, hb⟩; refine ⟨_, rfl, ?_⟩; have n0_ := Aside0.mk (Kd.qc (by (with_reducible repeat (first | apply Kd.qK | apply Kd.qJ | apply Kd.qO)); exact HO_6.out) hb); have n1_ := Aside0.mk (Kd.qc (by (with_reducible repeat (first | apply Kd.qK | apply Kd.qJ | apply Kd.qO)); exact HO_9.out) hb); have n2_ := Aside0.mk (Kd.qDA ho0 (qb bl)); have n3_ := Aside0.mk (qG bl hb); clear HO_6; clear HO_9; clear HB; have HO_6 := n0_; have HO_9 := n1_; have HO550 := n2_; have HB := n3_; clear n0_ n1_ n2_ n3_; (try clear hb); (try clear hb2); (try clear hk); (try clear hi); (try clear ho0); obtain ⟨Ao53, co53, eo53⟩ := Kd.qt HO550.out; subst eo53) | ((with_reducible refine qL (f := 25) rfl ?_); refine qh (some 84) rfl rfl Tryd.func25 (by kernel_rfl) rfl #[.string a0, .slice Ao53 t548.length co53] rfl (by (try simp only [List.map_toArray, List.map_cons, List.map_nil]); first | done | rfl | (simp only [List.length_drop, List.length_take]; rfl)) ?_; (with_reducible refine (qw.calls kj27 a0 _ _ t548 t551 t552 _ ?side1 ?side2 ?side3 A48.out).mono ?_); (case side1 => repeat (first | exact (Kd.qM HO550.out).2.2 | (with_reducible refine Kd.qa ?_ _) | (with_reducible refine Kd.qZ ?_ _) | (with_reducible refine Kd.qe ?_))); (case side2 => exact (Kd.qM HO550.out).2.1); (case side3 => first | exact HLD.out | exact Laid.below HLD.out (by repeat (first | (with_reducible first | exact HB.out | apply qAA | apply qo | apply qp | refine qMA ?_ (Aside0.out (by with_reducible assumption))) | exact HB.out))); rintro e w54 ⟨v553, rfl, ho0, hb⟩; refine ⟨_, rfl, ?_⟩; have n0_ := Aside0.mk (Kd.qYA (by (with_reducible repeat (first | apply Kd.qK | apply Kd.qJ | apply Kd.qO)); exact HO_6.out) (Kd.qnA ho0) hb); have n1_ := Aside0.mk (Kd.qYA (by (with_reducible repeat (first | apply Kd.qK | apply Kd.qJ | apply Kd.qO)); exact HO_9.out) (Kd.qnA ho0) hb); have n2_ := Aside0.mk (Kd.qc (by (with_reducible repeat (first | apply Kd.qK | apply Kd.qJ | apply Kd.qO)); exact HO550.out) hb); have n3_ := Aside0.mk (Kd.qDA (Kd.qmA (Kd.qmA ho0 (Kd.R_lt (by (with_reducible repeat (first | apply Kd.qK | apply Kd.qJ | apply Kd.qO)); exact HO_6.out))) (Kd.R_lt (by (with_reducible repeat (first | apply Kd.qK | apply Kd.qJ | apply Kd.qO)); exact HO_9.out))) (qb bl)); have n4_ := Aside0.mk (qG bl hb); clear HO_6; clear HO_9; clear HO550; clear HB; have HO_6 := n0_; have HO_9 := n1_; have HO550 := n2_; have HO554 := n3_; have HB := n4_; clear n0_ n1_ n2_ n3_ n4_; (try clear hb); (try clear hb2); (try clear hk); (try clear hi); (try clear ho0)))
            (try simp only [Act.put, List.setIfInBounds_toArray, List.set_cons_zero, List.set_cons_succ])
            go_cut [95] (fun v95 wc => ∃ (kq : Nat) (x95_48 : Bool), v95 = .bool x95_48 ∧ Aside0 (qP.j2 kq t546 t545 x95_48 = some r) ∧ Aside0 (kq ≤ kj27) ∧ Aside0 (Kd.R (Kd.int .i64) 3 wc w.heap.size (fun _ => True) (.slice Ao50 t533.length co50) t546) ∧ Aside0 (Below w.heap.size w wc))
            case first =>
             have H := HC49.out
             clear HC49
             replace H := Option.bind_eq_some_iff.mp H
             obtain ⟨t555, A550, H⟩ := H
             replace H : (if t555 = true then (qP.j2 kj27 t546 t545 (t552 != t527)) else (qP.j2 kj27 t546 t545 true)) = some r := H
             have A55 := Aside0.mk A550
             clear A550
             by_cases c56 : t555 = true
             ·subst c56
              have H1 : (qP.j2 kj27 t546 t545 (t552 != t527)) = some r := by rw [if_pos rfl] at H; exact H
              clear H
              have H := H1
              clear H1
              have H' := Aside0.mk H
              clear H
              obtain ⟨Ao57, co57, eo57⟩ := Kd.qt HO554.out
              subst eo57
              obtain ⟨Ao58, co58, eo58⟩ := Kd.qt HO_6.out
              subst eo58
              go_wp2_with (first | ((with_reducible refine qL (f := 26) rfl ?_); refine qh (some 89) rfl rfl Tryd.func26 (by kernel_rfl) rfl #[.slice Ao57 t551.length co57, .slice Ao58 t526.length co58] rfl (by (try simp only [List.map_toArray, List.map_cons, List.map_nil]); first | done | rfl | (simp only [List.length_drop, List.length_take]; rfl)) ?_; (with_reducible refine (qXA.calls kj27 _ _ t551 _ _ t526 true _ ?side1 ?side2 ?side3 ?side4 A55.out).mono ?_); (case side1 => repeat (first | exact (Kd.qM HO554.out).2.2 | (with_reducible refine Kd.qa ?_ _) | (with_reducible refine Kd.qZ ?_ _) | (with_reducible refine Kd.qe ?_))); (case side2 => exact (Kd.qM HO554.out).2.1); (case side3 => repeat (first | exact (Kd.qM HO_6.out).2.2 | (with_reducible refine Kd.qa ?_ _) | (with_reducible refine Kd.qZ ?_ _) | (with_reducible refine Kd.qe ?_))); (case side4 => exact (Kd.qM HO_6.out).2.1); rintro e w' ⟨rfl, ⟨nd, rfl⟩⟩; refine ⟨_, rfl, ?_⟩))
              go_meet
              case rel => exact ⟨_, ((t552 != t527)), (by first | rfl | (simp; done) | (simp [*]; done)), H', ⟨by have := HJ9.out; have := HJ27.out; first | omega | exact Nat.le_refl _⟩, ⟨by (with_reducible repeat (first | apply Kd.qK | apply Kd.qJ | apply Kd.qO)); exact Kd.qGA HO_9.out (fun _ hk => trivial)⟩, ⟨bl⟩⟩
             ·replace c56 := Bool.eq_false_iff.mpr c56
              subst c56
              have H1 : (qP.j2 kj27 t546 t545 true) = some r := by rw [if_neg (show ¬ (false = true) by decide)] at H; exact H
              clear H
              have H := H1
              clear H1
              have H' := Aside0.mk H
              clear H
              obtain ⟨Ao59, co59, eo59⟩ := Kd.qt HO554.out
              subst eo59
              obtain ⟨Ao60, co60, eo60⟩ := Kd.qt HO_6.out
              subst eo60
              go_wp2_with (first | ((with_reducible refine qL (f := 26) rfl ?_); refine qh (some 89) rfl rfl Tryd.func26 (by kernel_rfl) rfl #[.slice Ao59 t551.length co59, .slice Ao60 t526.length co60] rfl (by (try simp only [List.map_toArray, List.map_cons, List.map_nil]); first | done | rfl | (simp only [List.length_drop, List.length_take]; rfl)) ?_; (with_reducible refine (qXA.calls kj27 _ _ t551 _ _ t526 false _ ?side1 ?side2 ?side3 ?side4 A55.out).mono ?_); (case side1 => repeat (first | exact (Kd.qM HO554.out).2.2 | (with_reducible refine Kd.qa ?_ _) | (with_reducible refine Kd.qZ ?_ _) | (with_reducible refine Kd.qe ?_))); (case side2 => exact (Kd.qM HO554.out).2.1); (case side3 => repeat (first | exact (Kd.qM HO_6.out).2.2 | (with_reducible refine Kd.qa ?_ _) | (with_reducible refine Kd.qZ ?_ _) | (with_reducible refine Kd.qe ?_))); (case side4 => exact (Kd.qM HO_6.out).2.1); rintro e w' ⟨rfl, ⟨nd, rfl⟩⟩; refine ⟨_, rfl, ?_⟩))
              go_meet
              case rel => exact ⟨_, (true), (by first | rfl | (simp; done) | (simp [*]; done)), H', ⟨by have := HJ9.out; have := HJ27.out; first | omega | exact Nat.le_refl _⟩, ⟨by (with_reducible repeat (first | apply Kd.qK | apply Kd.qJ | apply Kd.qO)); exact Kd.qGA HO_9.out (fun _ hk => trivial)⟩, ⟨bl⟩⟩
            case rest =>
             clear HC49
             try clear c1
             try clear c2
             try clear p2
             try clear c3
             try clear c3b0
             try clear c3b1
             try clear c4
             try clear c5
             try clear c5b0
             try clear c7
             try clear c11
             try clear c13
             try clear c15
             try clear c18
             try clear c22
             try clear c23
             try clear c24
             try clear c25
             try clear c26
             try clear c27
             try clear c28
             try clear c33
             try clear c33b0
             try clear c35
             try clear c40
             try clear c43
             try clear c43b0
             try clear c46
             try clear c46b0
             try clear c46b1
             try clear c56
             try clear p2
             obtain ⟨kq, x95_48, rfl, HA, HJ48, HO_9, HB⟩ := hcut
             have hl9_48 := (Kd.qM HO_9.out).1
             rw [hl9_48] at HO_9
             (try simp only [hl9_48])
             cases kq with
             | zero => exact absurd HA.out (by simp [qP.j2])
             | succ kj48 =>
              have H := HA.out
              clear HA
              simp only [qP.j2] at H
              by_cases c61 : x95_48 = true
              ·subst c61
               have H1 : (some false) = some r := by rw [if_pos rfl] at H; exact H
               clear H
               have H := H1
               clear H1
               obtain rfl := Option.some.inj H
               go_wp2
               go_ret
               exact ⟨by first | rfl | (simp [qI, qH] <;> rfl) | (simp [*, qI, qH] <;> rfl), bl⟩
              ·replace c61 := Bool.eq_false_iff.mpr c61
               subst c61
               have H1 : ((qeA.f kj48 t546 1).bind fun t556 => (if t556 < 0 then (some false) else (if t556 = t545 then (some true) else (some false)))) = some r := by rw [if_neg (show ¬ (false = true) by decide)] at H; exact H
               clear H
               have H := H1
               clear H1
               replace H := Option.bind_eq_some_iff.mp H
               obtain ⟨t556, A620, H⟩ := H
               replace H : (if t556 < 0 then (some false) else (if t556 = t545 then (some true) else (some false))) = some r := H
               have A62 := Aside0.mk A620
               clear A620
               by_cases c63 : t556 < 0
               ·rw [if_pos c63] at H
                have c63b0 : decide (t556 < 0) = true := decide_eq_true c63
                clear c63
                obtain rfl := Option.some.inj H
                go_wp2_with (first | ((with_reducible refine qL (f := 28) rfl ?_); refine qh (some 98) rfl rfl Tryd.func28 (by kernel_rfl) rfl #[.slice Ao50 t546.length co50, .int .i64 1] rfl (by (try simp only [List.map_toArray, List.map_cons, List.map_nil]); first | done | rfl | (simp only [List.length_drop, List.length_take]; rfl)) ?_; (with_reducible refine (qeA.calls kj48 _ _ t546 1 t556 _ ?side1 ?side2 A62.out).mono ?_); (case side1 => repeat (first | exact (Kd.qM HO_9.out).2.2 | (with_reducible refine Kd.qa ?_ _) | (with_reducible refine Kd.qZ ?_ _) | (with_reducible refine Kd.qe ?_))); (case side2 => exact (Kd.qM HO_9.out).2.1); rintro e w' ⟨rfl, ⟨nd, rfl⟩⟩; refine ⟨_, rfl, ?_⟩))
                go_ret
                exact ⟨by first | rfl | (simp [qI, qH] <;> rfl) | (simp [*, qI, qH] <;> rfl), bl⟩
               ·rw [if_neg c63] at H
                have c63b0 : decide (t556 < 0) = false := decide_eq_false c63
                clear c63
                by_cases c64 : t556 = t545
                ·rw [if_pos c64] at H
                 have c64b0 : (t556 == t545) = true := beq_iff_eq.mpr c64
                 have c64b1 : (t556 != t545) = false := bne_eq_false_iff_eq.mpr c64
                 clear c64
                 obtain rfl := Option.some.inj H
                 go_wp2_with (first | ((with_reducible refine qL (f := 28) rfl ?_); refine qh (some 98) rfl rfl Tryd.func28 (by kernel_rfl) rfl #[.slice Ao50 t546.length co50, .int .i64 1] rfl (by (try simp only [List.map_toArray, List.map_cons, List.map_nil]); first | done | rfl | (simp only [List.length_drop, List.length_take]; rfl)) ?_; (with_reducible refine (qeA.calls kj48 _ _ t546 1 t556 _ ?side1 ?side2 A62.out).mono ?_); (case side1 => repeat (first | exact (Kd.qM HO_9.out).2.2 | (with_reducible refine Kd.qa ?_ _) | (with_reducible refine Kd.qZ ?_ _) | (with_reducible refine Kd.qe ?_))); (case side2 => exact (Kd.qM HO_9.out).2.1); rintro e w' ⟨rfl, ⟨nd, rfl⟩⟩; refine ⟨_, rfl, ?_⟩))
                 go_ret
                 exact ⟨by first | rfl | (simp [qI, qH] <;> rfl) | (simp [*, qI, qH] <;> rfl), bl⟩
                ·rw [if_neg c64] at H
                 have c64b0 : (t556 == t545) = false := beq_eq_false_iff_ne.mpr c64
                 have c64b1 : (t556 != t545) = true := bne_iff_ne.mpr c64
                 obtain rfl := Option.some.inj H
                 go_wp2_with (first | ((with_reducible refine qL (f := 28) rfl ?_); refine qh (some 98) rfl rfl Tryd.func28 (by kernel_rfl) rfl #[.slice Ao50 t546.length co50, .int .i64 1] rfl (by (try simp only [List.map_toArray, List.map_cons, List.map_nil]); first | done | rfl | (simp only [List.length_drop, List.length_take]; rfl)) ?_; (with_reducible refine (qeA.calls kj48 _ _ t546 1 t556 _ ?side1 ?side2 A62.out).mono ?_); (case side1 => repeat (first | exact (Kd.qM HO_9.out).2.2 | (with_reducible refine Kd.qa ?_ _) | (with_reducible refine Kd.qZ ?_ _) | (with_reducible refine Kd.qe ?_))); (case side2 => exact (Kd.qM HO_9.out).2.1); rintro e w' ⟨rfl, ⟨nd, rfl⟩⟩; refine ⟨_, rfl, ?_⟩))
                 go_ret
                 exact ⟨by first | rfl | (simp [qI, qH] <;> rfl) | (simp [*, qI, qH] <;> rfl), bl⟩
           ·rw [if_neg c46] at H
            have c46b0 : (t547 == t545) = false := beq_eq_false_iff_ne.mpr c46
            have c46b1 : (t547 != t545) = true := bne_iff_ne.mpr c46
            obtain rfl := Option.some.inj H
            obtain ⟨Ao65, co65, eo65⟩ := Kd.qt HO_9.out
            subst eo65
            go_wp2_with (first | ((with_reducible refine qL (f := 27) rfl ?_); refine qh (some 71) rfl rfl Tryd.func27 (by kernel_rfl) rfl #[.slice Ao65 t533.length co65, .int .i64 1] rfl (by (try simp only [List.map_toArray, List.map_cons, List.map_nil]); first | done | rfl | (simp only [List.length_drop, List.length_take]; rfl)) ?_; (with_reducible refine (qkA.calls kj27 (fun k_ => some k_ = (.slice Ao65 t533.length co65 : Value).ownBlock) (.slice Ao65 t533.length co65) t533 1 t545 t546 w _ ?side1 ?side2 A41.out).mono ?_); (case side1 => repeat (first | (with_reducible first | exact HB.out | apply qAA | apply qo | apply qp) | exact HB.out)); (case side2 => exact Kd.qrB rfl HO_9.out); rintro e w66 ⟨rfl, hy0, hb, hkp⟩; refine ⟨_, rfl, ?_⟩; have n0_ := Aside0.mk (Kd.qGA (ok' := fun k_ => some k_ ≠ (.slice Ao65 t533.length co65 : Value).ownBlock) (Kd.qRB (HO_6.out) hkp (fun k_ hk_ hs_ => (hk_) hs_)) (fun k_ hk_ => hk_.1)); have n1_ := Aside0.mk (Kd.qOC rfl hy0 (fun k_ e_ => HO_9.out.1 k_ e_)); have n2_ := Aside0.mk (hb); clear HO_6; clear HO_9; clear HB; have HO_6 := n0_; have HO_9 := n1_; have HB := n2_; clear n0_ n1_ n2_; (try clear hb); (try clear hkp); (try clear hy0)) | ((with_reducible refine qL (f := 28) rfl ?_); refine qh (some 74) rfl rfl Tryd.func28 (by kernel_rfl) rfl #[.slice Ao65 t546.length co65, .int .i64 1] rfl (by (try simp only [List.map_toArray, List.map_cons, List.map_nil]); first | done | (rw [show t546.length = t533.length from (Kd.qM HO_9.out).1.symm] <;> rfl) | rfl | (simp only [List.length_drop, List.length_take]; rfl)) ?_; (with_reducible refine (qeA.calls kj27 _ _ t546 1 t547 _ ?side1 ?side2 A42.out).mono ?_); (case side1 => repeat (first | exact (Kd.qM HO_9.out).2.2 | (with_reducible refine Kd.qa ?_ _) | (with_reducible refine Kd.qZ ?_ _) | (with_reducible refine Kd.qe ?_))); (case side2 => rw [show t546.length = t533.length from (Kd.qM HO_9.out).1.symm]; exact (Kd.qM HO_9.out).2.1); rintro e w' ⟨rfl, ⟨nd, rfl⟩⟩; refine ⟨_, rfl, ?_⟩))
            go_ret
            exact ⟨by first | rfl | (simp [qI, qH] <;> rfl) | (simp [*, qI, qH] <;> rfl), bl⟩
      ·replace c26 := Bool.eq_false_iff.mpr c26
       subst c26
       have H1 : (some false) = some r := by rw [if_neg (show ¬ (false = true) by decide)] at H; exact H
       clear H
       have H := H1
       clear H1
       obtain rfl := Option.some.inj H
       go_wp2_with (first | ((with_reducible refine qL (f := 13) rfl ?_); refine qh (some 50) rfl rfl Tryd.func13 (by kernel_rfl) rfl #[.slice A1 l1.length c1] rfl (by (try simp only [List.map_toArray, List.map_cons, List.map_nil]); first | done | rfl | (simp only [List.length_drop, List.length_take]; rfl)) ?_; (with_reducible refine (qS.calls kj9 _ _ l1 t538 _ ?side1 ?side2 A24.out).mono ?_); (case side1 => repeat (first | exact (Kd.qWA HR1.out HB.out) | (with_reducible refine Kd.qa ?_ _) | (with_reducible refine Kd.qZ ?_ _) | (with_reducible refine Kd.qe ?_))); (case side2 => exact HC1.out); rintro e w67 ⟨v539, rfl, ho0, hb⟩; refine ⟨_, rfl, ?_⟩; have n0_ := Aside0.mk (Kd.qc (by (with_reducible repeat (first | apply Kd.qK | apply Kd.qJ | apply Kd.qO)); exact HO_6.out) hb); have n1_ := Aside0.mk (Kd.qYA (by (with_reducible repeat (first | apply Kd.qK | apply Kd.qJ | apply Kd.qO)); exact HO_8.out) (Kd.qnA ho0) hb); have n2_ := Aside0.mk (Kd.qc (by (with_reducible repeat (first | apply Kd.qK | apply Kd.qJ | apply Kd.qO)); exact HO_9.out) hb); have n3_ := Aside0.mk (Kd.qDA (Kd.qmA ho0 (Kd.R_lt (by (with_reducible repeat (first | apply Kd.qK | apply Kd.qJ | apply Kd.qO)); exact HO_8.out))) (qb bl)); have n4_ := Aside0.mk (qG bl hb); clear HO_6; clear HO_8; clear HO_9; clear HB; have HO_6 := n0_; have HO_8 := n1_; have HO_9 := n2_; have HO540 := n3_; have HB := n4_; clear n0_ n1_ n2_ n3_ n4_; (try clear hb); (try clear hb2); (try clear hk); (try clear hi); (try clear ho0); obtain ⟨Ao68, co68, eo68⟩ := Kd.qt HO540.out; subst eo68) | ((with_reducible refine qL (f := 15) rfl ?_); refine qh (some 51) rfl rfl Tryd.func15 (by kernel_rfl) rfl #[.slice Ao15 t530.length co15, .slice Ao68 t538.length co68] rfl (by (try simp only [List.map_toArray, List.map_cons, List.map_nil]); first | done | rfl | (simp only [List.length_drop, List.length_take]; rfl)) ?_; (with_reducible refine (qX.calls kj9 _ _ t530 _ _ t538 false _ ?side1 ?side2 ?side3 ?side4 A25.out).mono ?_); (case side1 => repeat (first | exact (Kd.qM HO_8.out).2.2 | (with_reducible refine Kd.qa ?_ _) | (with_reducible refine Kd.qZ ?_ _) | (with_reducible refine Kd.qe ?_))); (case side2 => exact (Kd.qM HO_8.out).2.1); (case side3 => repeat (first | exact (Kd.qM HO540.out).2.2 | (with_reducible refine Kd.qa ?_ _) | (with_reducible refine Kd.qZ ?_ _) | (with_reducible refine Kd.qe ?_))); (case side4 => exact (Kd.qM HO540.out).2.1); rintro e w69 ⟨rfl, hb⟩; refine ⟨_, rfl, ?_⟩; have n0_ := Aside0.mk (Kd.qc (by (with_reducible repeat (first | apply Kd.qK | apply Kd.qJ | apply Kd.qO)); exact HO_6.out) hb); have n1_ := Aside0.mk (Kd.qc (by (with_reducible repeat (first | apply Kd.qK | apply Kd.qJ | apply Kd.qO)); exact HO_8.out) hb); have n2_ := Aside0.mk (Kd.qc (by (with_reducible repeat (first | apply Kd.qK | apply Kd.qJ | apply Kd.qO)); exact HO_9.out) hb); have n3_ := Aside0.mk (Kd.qc (by (with_reducible repeat (first | apply Kd.qK | apply Kd.qJ | apply Kd.qO)); exact HO540.out) hb); have n4_ := Aside0.mk (qG bl hb); clear HO_6; clear HO_8; clear HO_9; clear HO540; clear HB; have HO_6 := n0_; have HO_8 := n1_; have HO_9 := n2_; have HO540 := n3_; have HB := n4_; clear n0_ n1_ n2_ n3_ n4_; (try clear hb); (try clear hb2); (try clear hk); (try clear hi)))
       go_ret
       exact ⟨by first | rfl | (simp [qI, qH] <;> rfl) | (simp [*, qI, qH] <;> rfl), bl⟩
def qP.Pure : Prop := ∀ (a0 : ByteArray) (l1 : List (S61)), a0.size ≤ 140737488351232 → l1.length * 64 ≤ 140737488351232 → ∃ k, qP.f k a0 l1 = some true
def qaB.f  : Option (ByteArray) := some (⟨#[110, 101, 115, 119]⟩ : ByteArray)
def qjA.l0 : Nat → ByteArray → Int → Option (Int)
 | 0, _, _ => none
 | k + 1, x0, x3 => if x3 < 4 then ((qaB.f).bind fun t336 => (if 0 ≤ x3 then (if x3 ≤ (wrap64 (x3 + 1)) then (if (wrap64 (x3 + 1)) ≤ (t336.size : Int) then (if x0.toList = (t336.extract (x3 : Int).toNat ((wrap64 (x3 + 1)) : Int).toNat).toList then (some x3) else (qjA.l0 k x0 (wrap64 (x3 + 1)))) else (none)) else (none)) else (none))) else (some (-1))
def qjA.f (k : Nat) (a0 : ByteArray) : Option (Int) := qjA.l0 k a0 0
end Go.Proofs.YtgjdjnggkmojnaaDoor.P
namespace Go.Proofs.YtgjdjnggkmojnaaDoor
open Go.RowKit Go.Proofs.YtgjdjnggkmojnaaDoor.P Go.Proofs.YtgjdjnggkmojnaaDoorW.PrintWords Go.Proofs.YtgjdjnggkmojnaaDoorW.PrintLast
set_option linter.unusedVariables false
set_option linter.unusedSimpArgs false
def dirI (l : List UInt8) : Int := if l = [110] then 0 else if l = [101] then 1 else if l = [115] then 2 else if l = [119] then 3 else -1
theorem qkC (a : ByteArray) : Ev (fun k => qjA.f k a) (dirI a.data.toList) := by
 refine Ev.at_ 5 fun k => ?_
 have e0 : ((⟨#[110, 101, 115, 119]⟩ : ByteArray).extract 0 1).toList = [110] := by decide +kernel
 have e1 : ((⟨#[110, 101, 115, 119]⟩ : ByteArray).extract 1 2).toList = [101] := by decide +kernel
 have e2 : ((⟨#[110, 101, 115, 119]⟩ : ByteArray).extract 2 3).toList = [115] := by decide +kernel
 have e3 : ((⟨#[110, 101, 115, 119]⟩ : ByteArray).extract 3 4).toList = [119] := by decide +kernel
 have hz : ((⟨#[110, 101, 115, 119]⟩ : ByteArray).size : Int) = 4 := rfl
 simp [qjA.f, qjA.l0, qaB.f, dirI, wrap64, Go.Lib.toList_data a, e0, e1, e2, e3, hz]
 repeat (split; rfl)
 rfl
theorem dlen (s : ByteArray) : s.data.toList.length = s.size := by rw [Array.length_toList]; rfl
theorem qXD (s : ByteArray) (i : Nat) (h : i < s.data.toList.length) : bt s (i : Int) = ((s.data.toList[i]).toNat : Int) := by
 have h' : i < s.size := by rw [← dlen]; exact h
 unfold bt
 rw [dif_pos (by simpa using h')]
 simp only [Int.toNat_natCast, Array.getElem_toList]
 rfl
theorem ext1 (s : ByteArray) (i : Nat) (h : i < s.data.toList.length) : (s.extract i (i + 1)).data.toList = [s.data.toList[i]] := by
 rw [Go.Lib.extract_data, show i + 1 - i = 1 by omega, List.drop_eq_getElem_cons h]
 rfl
theorem spec_diDir_at (s : ByteArray) (i : Nat) (h : i < s.data.toList.length) : Ev (fun k => qjA.f k (s.extract i (i + 1))) (dirI [s.data.toList[i]]) := by
 have := qkC (s.extract i (i + 1))
 rwa [ext1 s i h] at this
theorem qeD (c : UInt8) : (dirI [c] < 0) = (¬ (c = 110 ∨ c = 101 ∨ c = 115 ∨ c = 119)) := by
 unfold dirI
 by_cases h1 : c = 110
 ·simp [h1]
 by_cases h2 : c = 101
 ·simp [h2]
 by_cases h3 : c = 115
 ·simp [h3]
 by_cases h4 : c = 119
 ·simp [h4]
 simp [h1, h2, h3, h4]
end Go.Proofs.YtgjdjnggkmojnaaDoor
namespace Go.Proofs.YtgjdjnggkmojnaaDoor.P
open Go.RowKit Go.Proofs.YtgjdjnggkmojnaaDoorW.PrintWords Go.Proofs.YtgjdjnggkmojnaaDoorW.PrintLast Go.Proofs.YtgjdjnggkmojnaaDoorW.PrintMore
attribute [local go_sem] qLA qJA qVA qUA qy qx qKA qIA
set_option linter.unusedVariables false
set_option linter.unusedSimpArgs false
def qiB.f (a0 : ByteArray) : Option (Bool) := if (a0.size : Int) = 1 then ((qPB.f (⟨#[110, 101, 115, 119]⟩ : ByteArray) a0).bind fun t385 => (some t385)) else (some false)
end Go.Proofs.YtgjdjnggkmojnaaDoor.P
namespace Go.Proofs.YtgjdjnggkmojnaaDoor
open Go.RowKit Go.Proofs.YtgjdjnggkmojnaaDoor.P Go.Proofs.YtgjdjnggkmojnaaDoorW.PrintWords Go.Proofs.YtgjdjnggkmojnaaDoorW.PrintLast
set_option linter.unusedVariables false
set_option linter.unusedSimpArgs false
def isDirU (c : UInt8) : Bool := c == 110 || c == 101 || c == 115 || c == 119
def dirU (c : UInt8) : Nat := if c = 110 then 0 else if c = 101 then 1 else if c = 115 then 2 else 3
theorem qwC (c : UInt8) : isDirU c = true ↔ c = 110 ∨ c = 101 ∨ c = 115 ∨ c = 119 := by
 unfold isDirU
 simp only [Bool.or_eq_true, beq_iff_eq, or_assoc]
theorem qxD {c : UInt8} (h : isDirU c = true) : dirI [c] = (dirU c : Int) := by
 rcases (qwC c).1 h with rfl | rfl | rfl | rfl <;> decide
theorem dirI_not {c : UInt8} (h : isDirU c = false) : dirI [c] < 0 := by
 rw [qeD, ← qwC, h]
 decide
theorem qJB (l : List UInt8) (h : l.length = 1) : ∃ c, l = [c] := by
 match l, h with
 | [c], _ => exact ⟨c, rfl⟩
theorem indexByte_dirs (c : UInt8) : decide (0 ≤ Lib.indexByte [110, 101, 115, 119] c) = isDirU c := by
 unfold isDirU
 by_cases h1 : c = 110
 ·subst h1; decide
 by_cases h2 : c = 101
 ·subst h2; decide
 by_cases h3 : c = 115
 ·subst h3; decide
 by_cases h4 : c = 119
 ·subst h4; decide
 have b1 : (c == 110) = false := by simpa using h1
 have b2 : (c == 101) = false := by simpa using h2
 have b3 : (c == 115) = false := by simpa using h3
 have b4 : (c == 119) = false := by simpa using h4
 rw [b1, b2, b3, b4]
 have a1 : ((110 : UInt8) == c) = false := by simpa using Ne.symm h1
 have a2 : ((101 : UInt8) == c) = false := by simpa using Ne.symm h2
 have a3 : ((115 : UInt8) == c) = false := by simpa using Ne.symm h3
 have a4 : ((119 : UInt8) == c) = false := by simpa using Ne.symm h4
 simp [Lib.indexByte, a1, a2, a3, a4, h1, h2, h3, h4, Ne.symm h1, Ne.symm h2, Ne.symm h3, Ne.symm h4]
def dirB (a : ByteArray) : Bool := match a.data.toList with | [c] => isDirU c | _ => false
theorem qbD (a : ByteArray) : qiB.f a = some (dirB a) := by
 unfold qiB.f dirB
 by_cases h : a.size = 1
 ·rw [if_pos (by omega)]
  obtain ⟨c, hc⟩ := qJB a.data.toList (by rw [dlen]; exact h)
  unfold qPB.f
  rw [hc]
  simp only [Option.bind_some]
  rw [indexByte_dirs]
 ·rw [if_neg (by omega)]
  have hl : a.data.toList.length ≠ 1 := by rw [dlen]; exact h
  match a.data.toList, hl with
  | [], _ => rfl
  | [c], hl => exact absurd rfl hl
  | _ :: _ :: _, _ => rfl
theorem dirI_B (a : ByteArray) : decide (dirI a.data.toList < 0) = !dirB a := by
 unfold dirB
 match h : a.data.toList with
 | [] => rfl
 | [c] =>
  cases hc : isDirU c with
  | true =>
   rw [qxD hc, decide_eq_false (by omega)]
   show false = !isDirU c
   rw [hc]; rfl
  | false =>
   rw [decide_eq_true (dirI_not hc)]
   show true = !isDirU c
   rw [hc]; rfl
 | c :: d :: l => simp [dirI]
theorem dirB_one {a : ByteArray} (h : dirB a = true) : ∃ c, a.data.toList = [c] ∧ isDirU c = true := by
 unfold dirB at h
 split at h
 ·rename_i c hc
  exact ⟨c, hc, h⟩
 ·cases h
def dOf (c : Int) : Int := if c = 110 then 0 else if c = 101 then 1 else if c = 115 then 2 else 3
def nextC (x y d : Int) : Int × Int := if d = 0 then (x, wrap64 (y - 1)) else if d = 1 then (wrap64 (x + 1), y) else if d = 2 then (x, wrap64 (y + 1)) else (wrap64 (x - 1), y)
abbrev XD := S55
def rollD (x : XD) (d : Int) : XD := if d = 0 then ⟨x.f3, x.f0, x.f2, x.f5, x.f4, x.f1⟩ else if d = 1 then ⟨x.f4, x.f1, x.f0, x.f3, x.f5, x.f2⟩ else if d = 2 then ⟨x.f1, x.f5, x.f2, x.f0, x.f4, x.f3⟩ else ⟨x.f2, x.f1, x.f5, x.f3, x.f0, x.f4⟩
def tupD (x : XD) : Int × Int × Int × Int × Int × Int := (x.f0, x.f1, x.f2, x.f3, x.f4, x.f5)
def rollS (s : XS) (d : Int) : XS := ⟨(nextC s.f0 s.f1 d).1, (nextC s.f0 s.f1 d).2, rollD s.f2 d⟩
theorem implNext_eq (x y c : Int) : qVC.f x y c = some (nextC x y (dOf c)) := by
 unfold qVC.f nextC dOf
 by_cases h1 : c = 110
 ·simp [h1]
 by_cases h2 : c = 101
 ·simp [h1, h2]
 by_cases h3 : c = 115
 ·simp [h1, h2, h3]
 simp [h1, h2, h3]
theorem specNext_eq (x y d : Int) : qkB.f x y d = some (nextC x y d) := by
 unfold qkB.f nextC
 by_cases h1 : d = 0
 ·simp [h1]
 by_cases h2 : d = 1
 ·simp [h1, h2]
 by_cases h3 : d = 2
 ·simp [h1, h2, h3]
 simp [h1, h2, h3]
theorem implDie_eq (x : XD) (c : Int) : qXB.f x.f0 x.f1 x.f2 x.f3 x.f4 x.f5 c = some (tupD (rollD x (dOf c))) := by
 unfold qXB.f rollD dOf
 by_cases h1 : c = 110
 ·simp [tupD, h1]
 by_cases h2 : c = 101
 ·simp [tupD, h1, h2]
 by_cases h3 : c = 115
 ·simp [tupD, h1, h2, h3]
 simp [tupD, h1, h2, h3]
theorem specDie_eq (x : XD) (d : Int) : qZB.f x.f0 x.f1 x.f2 x.f3 x.f4 x.f5 d = some (tupD (rollD x d)) := by
 unfold qZB.f rollD
 by_cases h1 : d = 0
 ·simp [tupD, h1]
 by_cases h2 : d = 1
 ·simp [tupD, h1, h2]
 by_cases h3 : d = 2
 ·simp [tupD, h1, h2, h3]
 simp [tupD, h1, h2, h3]
theorem implRoll_eq {a : ByteArray} (g : Gnd a) (s : XS) (c : Int) : qEB.f (rowsT a) s.f0 s.f1 s.f2.f0 s.f2.f1 s.f2.f2 s.f2.f3 s.f2.f4 s.f2.f5 c = some ((rollS s (dOf c)).f0, (rollS s (dOf c)).f1, (rollS s (dOf c)).f2.f0, (rollS s (dOf c)).f2.f1, (rollS s (dOf c)).f2.f2, (rollS s (dOf c)).f2.f3, (rollS s (dOf c)).f2.f4, (rollS s (dOf c)).f2.f5, floorB a (rollS s (dOf c)).f0 (rollS s (dOf c)).f1) := by
 unfold qEB.f
 obtain ⟨q, h1, h2⟩ := at_floor g (rollS s (dOf c)).f0 (rollS s (dOf c)).f1
 rw [implNext_eq, Option.bind_some, implDie_eq, Option.bind_some]
 rw [show qrA.f (rowsT a) (nextC s.f0 s.f1 (dOf c)).1 (nextC s.f0 s.f1 (dOf c)).2 = some q from h1, Option.bind_some, ← h2]
 rfl
theorem specRoll_eq {a : ByteArray} (g : Gnd a) (s : XS) (d : Int) : qQB.f (wideT a : Int) (highT a : Int) (csOf a) s.f0 s.f1 s.f2.f0 s.f2.f1 s.f2.f2 s.f2.f3 s.f2.f4 s.f2.f5 d = some (if floorB a (rollS s d).f0 (rollS s d).f1 = true then ((rollS s d).f0, (rollS s d).f1, (rollS s d).f2.f0, (rollS s d).f2.f1, (rollS s d).f2.f2, (rollS s d).f2.f3, (rollS s d).f2.f4, (rollS s d).f2.f5, true) else (0, 0, 0, 0, 0, 0, 0, 0, false)) := by
 unfold qQB.f
 rw [specNext_eq, Option.bind_some, show qDB.f (wideT a : Int) (highT a : Int) (csOf a) (nextC s.f0 s.f1 d).1 (nextC s.f0 s.f1 d).2 = some (floorB a (rollS s d).f0 (rollS s d).f1) from boFloor_eq g _ _, Option.bind_some]
 cases h : floorB a (rollS s d).f0 (rollS s d).f1 with
 | true =>
  rw [if_pos rfl, specDie_eq, Option.bind_some, if_pos rfl]; rfl
 | false => rw [if_neg (by decide), if_neg (by decide)]
def moveB (a : ByteArray) (l : List XS) (k : Nat) (d : Int) : List XS × Bool :=
 if h : k < l.length then (if floorB a (rollS l[k] d).f0 (rollS l[k] d).f1 = true ∧ l.any (atCell (rollS l[k] d).f0 (rollS l[k] d).f1) = false then (l.set k (rollS l[k] d), true) else ([], false)) else ([], false)
theorem qJD {a : ByteArray} {l : List XS} {k : Nat} {d : Int} (h : (moveB a l k d).2 = true) : (moveB a l k d).1.length = l.length := by
 unfold moveB at h ⊢
 split
 ·rename_i hk
  rw [dif_pos hk] at h
  split
  ·simp
  ·rename_i hc
   rw [if_neg hc] at h; cases h
 ·rename_i hk
  rw [dif_neg hk] at h; cases h
theorem moveB_pair {a : ByteArray} {l : List XS} {k : Nat} {d : Int} (h : (moveB a l k d).2 = false) : moveB a l k d = ([], false) := by
 unfold moveB at h ⊢
 split
 ·rename_i hk
  rw [dif_pos hk] at h
  split
  ·rename_i hc
   rw [if_pos hc] at h; cases h
  ·rfl
 ·rfl
theorem qAD {a : ByteArray} (g : Gnd a) (l : List XS) (hl : l.length ≤ 2000000) (k : Nat) (c : Int) : qbA.f (rowsT a) l (k : Int) c = some (moveB a l k (dOf c)) := by
 unfold qbA.f moveB
 have w : wrap64 ((l.length : Int) - 1) = (l.length : Int) - 1 := by unfold wrap64; omega
 rw [qoC, w, Option.bind_some]
 by_cases hk : k < l.length
 ·rw [dif_pos hk, if_pos (by simp only [Bool.and_eq_true, decide_eq_true_eq]; omega), if_pos (by omega), if_pos (by omega), rdXS l k hk, implRoll_eq g, Option.bind_some]
  show (if floorB a (rollS l[k] (dOf c)).f0 (rollS l[k] (dOf c)).f1 = true then _ else _) = _
  cases hf : floorB a (rollS l[k] (dOf c)).f0 (rollS l[k] (dOf c)).f1 with
  | false => rw [if_neg (by decide), if_neg (by simp)]
  | true =>
   rw [if_pos rfl]
   show (if l.any (atCell (rollS l[k] (dOf c)).f0 (rollS l[k] (dOf c)).f1) = true then _ else _) = _
   cases ha : l.any (atCell (rollS l[k] (dOf c)).f0 (rollS l[k] (dOf c)).f1) with
   | true => rw [if_pos rfl, if_neg (by simp)]
   | false =>
    rw [if_neg (by decide), if_pos ⟨rfl, rfl⟩]
    unfold qyA.f
    rw [if_pos (by omega), Option.bind_some, if_pos (by omega), Int.toNat_natCast]
 ·rw [dif_neg hk, if_neg (by simp only [Bool.and_eq_true, decide_eq_true_eq]; omega)]
theorem qlC {a : ByteArray} (g : Gnd a) (l : List XS) (hl : l.length ≤ 2000000) (k : Nat) (hk : k < l.length) (d : Int) : Ev (fun n => qcA.f n (wideT a : Int) (highT a : Int) (csOf a) l (k : Int) d) (moveB a l k d) := by
 unfold qcA.f moveB
 rw [dif_pos hk]
 obtain ⟨r, h1, h2⟩ := myAt_ev l (by omega) (rollS l[k] d).f0 (rollS l[k] d).f1
 refine Ev.pos (by omega) (Ev.pos (by omega) ?_)
 rw [rdXS l k hk]
 refine Ev.bindc (specRoll_eq g l[k] d) ?_
 cases hf : floorB a (rollS l[k] d).f0 (rollS l[k] d).f1 with
 | false => exact Ev.neg (by simp) (Ev.some_ (by simp))
 | true =>
  refine Ev.pos rfl (Ev.bind h1 ?_)
  rw [← h2]
  by_cases hq : r ≥ 0
  ·rw [decide_eq_true hq]
   exact Ev.pos hq (Ev.some_ (by simp))
  ·rw [decide_eq_false hq]
   refine Ev.neg hq (Ev.bindc rfl (Ev.pos (by simp; omega) (Ev.bindc rfl (Ev.pos (by simp; omega) (Ev.some_ ?_)))))
   rw [List.nil_append, Int.toNat_natCast]
   exact (if_pos ⟨rfl, rfl⟩).symm
theorem dOf_U {c : UInt8} (h : isDirU c = true) : dOf (c.toNat : Int) = (dirU c : Int) := by
 rcases (qwC c).1 h with rfl | rfl | rfl | rfl <;> decide
end Go.Proofs.YtgjdjnggkmojnaaDoor
namespace Go.Proofs.YtgjdjnggkmojnaaDoor.P
open Go.RowKit Go.Proofs.YtgjdjnggkmojnaaDoorW.PrintWords Go.Proofs.YtgjdjnggkmojnaaDoorW.PrintLast Go.Proofs.YtgjdjnggkmojnaaDoorW.PrintMore
attribute [local go_sem] qLA qJA qVA qUA qy qx qKA qIA
set_option linter.unusedVariables false
set_option linter.unusedSimpArgs false
def qzA.f : Nat → Int → Option (ByteArray)
 | 0, _ => none
 | k + 1, a0 => if a0 < 10 then (some (strOfNums (([(wrap64 (48 + a0)) % 256] : List Int)))) else ((qzA.f k (wrap64 (Int.tdiv a0 10))).bind fun t560 => ((some (([(wrap64 (48 + (Int.tmod a0 10))) % 256] : List Int) : List Int)).bind fun y561 => (if t560.size + (strOfNums y561).size ≤ 9223372036854775807 then (some (t560 ++ (strOfNums y561))) else (none))))
def qjB.f (k : Nat) (a0 : Int) (a1 : Int) : Option (ByteArray) := (qzA.f k a0).bind fun t564 => ((qaB.f).bind fun t565 => (if 0 ≤ a1 then (if a1 ≤ (wrap64 (a1 + 1)) then (if (wrap64 (a1 + 1)) ≤ (t565.size : Int) then (if t564.size + (t565.extract (a1 : Int).toNat ((wrap64 (a1 + 1)) : Int).toNat).size ≤ 9223372036854775807 then (some (t564 ++ (t565.extract (a1 : Int).toNat ((wrap64 (a1 + 1)) : Int).toNat))) else (none)) else (none)) else (none)) else (none)))
end Go.Proofs.YtgjdjnggkmojnaaDoor.P
namespace Go.Proofs.YtgjdjnggkmojnaaDoor
open Go.RowKit Go.Proofs.YtgjdjnggkmojnaaDoor.P Go.Proofs.YtgjdjnggkmojnaaDoorW.PrintWords Go.Proofs.YtgjdjnggkmojnaaDoorW.PrintLast
set_option linter.unusedVariables false
set_option linter.unusedSimpArgs false
def dirsT : ByteArray := ⟨#[110, 101, 115, 119]⟩
def signN (k i : Nat) : ByteArray := strOfNums [48 + (k : Int), bt dirsT (i : Int)]
theorem dOf_bt (i : Nat) (h : i < 4) : dOf (bt dirsT (i : Int)) = (i : Int) := by
 have : i = 0 ∨ i = 1 ∨ i = 2 ∨ i = 3 := by omega
 rcases this with rfl | rfl | rfl | rfl <;> decide +kernel
theorem sign_spec (k i : Nat) (hk : k < 3) (hi : i < 4) : Ev (fun n => qjB.f n (k : Int) (i : Int)) (signN k i) := by
 have h1 : i = 0 ∨ i = 1 ∨ i = 2 ∨ i = 3 := by omega
 have h2 : k = 0 ∨ k = 1 ∨ k = 2 := by omega
 refine Ev.at_ 1 fun n => ?_
 unfold qjB.f
 rw [qzA.f, if_pos (by omega)]
 rcases h2 with rfl | rfl | rfl <;> rcases h1 with rfl | rfl | rfl | rfl <;> decide +kernel
theorem sign_size (k i : Nat) : (signN k i).size = 2 := rfl
theorem sign_num (k i : Nat) (hk : k < 3) (hi : i < 4) : (bt (signN k i) 0 - 48) % 256 = (k : Int) := by
 have h1 : i = 0 ∨ i = 1 ∨ i = 2 ∨ i = 3 := by omega
 have h2 : k = 0 ∨ k = 1 ∨ k = 2 := by omega
 rcases h2 with rfl | rfl | rfl <;> rcases h1 with rfl | rfl | rfl | rfl <;> decide +kernel
def mv1 (a : ByteArray) (l : List XS) (k i : Nat) : List ByteArray := if (moveB a l k (i : Int)).2 = true then [signN k i] else []
def mvK (a : ByteArray) (l : List XS) (k : Nat) : List ByteArray := mv1 a l k 0 ++ (mv1 a l k 1 ++ (mv1 a l k 2 ++ mv1 a l k 3))
def mvs (a : ByteArray) (l : List XS) : Nat → Nat → List ByteArray
 | _, 0 => []
 | k, d + 1 => mvK a l k ++ mvs a l (k + 1) d
theorem qMC (a : ByteArray) (l : List XS) (k i : Nat) : (mv1 a l k i).length ≤ 1 := by
 unfold mv1; split <;> simp
theorem qmD (a : ByteArray) (l : List XS) (k : Nat) : (mvK a l k).length ≤ 4 := by
 have h0 := qMC a l k 0
 have h1 := qMC a l k 1
 have h2 := qMC a l k 2
 have h3 := qMC a l k 3
 unfold mvK
 simp only [List.length_append]; omega
theorem mvs_len (a : ByteArray) (l : List XS) (d : Nat) : ∀ k, (mvs a l k d).length ≤ 4 * d := by
 induction d with
 | zero => intro k; simp [mvs]
 | succ d ih =>
  intro k
  have := ih (k + 1)
  have h := qmD a l k
  unfold mvs
  simp only [List.length_append]; omega
theorem qvC {a : ByteArray} (g : Gnd a) (l : List XS) (hl : l.length ≤ 3) (k : Nat) (hk : k < l.length) (i : Nat) (hi : i < 4) (out : List ByteArray) (ho : out.length ≤ 1000) (r : List ByteArray)
  (h : Ev (fun n => qu.l1 n (rowsT a) l (out ++ mv1 a l k i) (k : Int) (l.length : Int) (k : Int) ((i + 1 : Nat) : Int)) r) :
  Ev (fun n => qu.l1 n (rowsT a) l out (k : Int) (l.length : Int) (k : Int) (i : Int)) r := by
 have w : wrap64 ((i : Int) + 1) = ((i + 1 : Nat) : Int) := by unfold wrap64; omega
 have w2 : wrap64 (48 + (k : Int)) % 256 = 48 + (k : Int) := by unfold wrap64; omega
 refine Ev.step (f := fun n => _) (fun n => by rw [qu.l1]) (Ev.pos (by omega) (Ev.pos (by omega) (Ev.bindc (qAD g l (by omega) k _) ?_)))
 rw [w, w2, show dOf (bt (⟨#[110, 101, 115, 119]⟩ : ByteArray) (i : Int)) = (i : Int) from dOf_bt i hi]
 unfold mv1 at h
 cases hm : (moveB a l k (i : Int)).2 with
 | true =>
  rw [hm, if_pos rfl] at h
  exact Ev.pos rfl (Ev.pos (by omega) h)
 | false =>
  rw [hm, if_neg (by decide), List.append_nil] at h
  exact Ev.neg (by decide) h
theorem moves_loop {a : ByteArray} (g : Gnd a) (l : List XS) (hl : l.length ≤ 3) (d : Nat) : ∀ (k : Nat) (out : List ByteArray), k ≤ l.length → l.length - k = d → out.length ≤ 100 * k →
  Ev (fun n => qu.l0 n (rowsT a) l out (l.length : Int) (k : Int)) (out ++ mvs a l k d) := by
 induction d with
 | zero =>
  intro k out hk hd ho
  refine Ev.step (f := fun n => _) (fun n => by rw [qu.l0]) (Ev.neg (by omega) (Ev.some_ ?_))
  simp [mvs]
 | succ d ih =>
  intro k out hk hd ho
  have h : k < l.length := by omega
  have w : wrap64 ((k : Int) + 1) = ((k + 1 : Nat) : Int) := by unfold wrap64; omega
  have h0 := qMC a l k 0
  have h1 := qMC a l k 1
  have h2 := qMC a l k 2
  have h3 := qMC a l k 3
  have hn := ih (k + 1) (out ++ mvK a l k) (by omega) (by omega) (by have := qmD a l k; simp only [List.length_append]; omega)
  refine Ev.step (f := fun n => _) (fun n => by rw [qu.l0]) (Ev.pos (by omega) ?_)
  refine qvC g l hl k h 0 (by omega) _ (by omega) _ (qvC g l hl k h 1 (by omega) _ (by simp only [List.length_append]; omega) _ (qvC g l hl k h 2 (by omega) _ (by simp only [List.length_append]; omega) _ (qvC g l hl k h 3 (by omega) _ (by simp only [List.length_append]; omega) _ ?_)))
  refine Ev.step (f := fun n => _) (fun n => by rw [qu.l1]) (Ev.neg (by omega) ?_)
  rw [w]
  unfold mvs
  unfold mvK at hn
  simpa only [mvK, List.append_assoc] using hn
theorem moves_ev {a : ByteArray} (g : Gnd a) (l : List XS) (hl : l.length ≤ 3) : Ev (fun n => qu.f n (rowsT a) l) (mvs a l 0 l.length) := by
 have := moves_loop g l hl l.length 0 [] (by omega) (by omega) (by simp)
 rwa [List.nil_append] at this
def markXS (j : Nat) : XS := ⟨1 + 8 * (j : Int), 2 + 8 * (j : Int), ⟨3 + 8 * (j : Int), 4 + 8 * (j : Int), 5 + 8 * (j : Int), 6 + 8 * (j : Int), 7 + 8 * (j : Int), 8 + 8 * (j : Int)⟩⟩
def marksXS (n : Nat) : List XS := (List.range n).map markXS
theorem qSB (n : Nat) : (marksXS n).length = n := by simp [marksXS]
theorem marksXS_succ (n : Nat) : marksXS (n + 1) = marksXS n ++ [markXS n] := by simp [marksXS, List.range_succ]
theorem markStateS_loop (l : List XS) (ha : l.length ≤ 2000000) (d : Nat) : ∀ i : Nat, i ≤ l.length → l.length - i = d →
  Ev (fun k => qj.l0 k (marksXS i ++ l.drop i) (1 + 8 * (i : Int)) (i : Int)) (1 + 8 * (l.length : Int), marksXS l.length) := by
 induction d with
 | zero =>
  intro i hi hd
  obtain rfl : i = l.length := by omega
  refine Ev.step (f := fun k => _) (fun k => by rw [qj.l0]) (Ev.neg ?_ (Ev.some_ ?_))
  ·simp [qSB]
  ·simp
 | succ d ih =>
  intro i hi hd
  refine Ev.step (f := fun k => _) (fun k => by rw [qj.l0]) (Ev.pos ?_ (Ev.pos (by omega) ?_))
  ·simp [qSB]; omega
  ·have hl : i < (marksXS i ++ l.drop i).length := by simp [qSB]; omega
   have w0 : wrap64 ((i : Int) + 1) = ((i + 1 : Nat) : Int) := by unfold wrap64; omega
   have w1 : wrap64 (1 + 8 * (i : Int) + 1) = 2 + 8 * (i : Int) := by unfold wrap64; omega
   have w2 : wrap64 (2 + 8 * (i : Int) + 1) = 3 + 8 * (i : Int) := by unfold wrap64; omega
   have w3 : wrap64 (3 + 8 * (i : Int) + 1) = 4 + 8 * (i : Int) := by unfold wrap64; omega
   have w4 : wrap64 (4 + 8 * (i : Int) + 1) = 5 + 8 * (i : Int) := by unfold wrap64; omega
   have w5 : wrap64 (5 + 8 * (i : Int) + 1) = 6 + 8 * (i : Int) := by unfold wrap64; omega
   have w6 : wrap64 (6 + 8 * (i : Int) + 1) = 7 + 8 * (i : Int) := by unfold wrap64; omega
   have w7 : wrap64 (7 + 8 * (i : Int) + 1) = 8 + 8 * (i : Int) := by unfold wrap64; omega
   have w8 : wrap64 (8 + 8 * (i : Int) + 1) = 1 + 8 * ((i + 1 : Nat) : Int) := by unfold wrap64; omega
   have e : (marksXS i ++ l.drop i).set i (markXS i) = marksXS (i + 1) ++ l.drop (i + 1) := by
    rw [List.set_append_right _ _ (by rw [qSB]; omega), qSB, Nat.sub_self, List.drop_eq_getElem_cons (show i < l.length by omega), List.set_cons_zero, marksXS_succ, List.append_assoc]
    rfl
   simp only [Option.bind_some, Int.toNat_natCast, w0, w1, w2, w3, w4, w5, w6, w7, w8]
   simp only [rdXS_set _ _ _ hl, List.set_set]
   have := ih (i + 1) (by omega) (by omega)
   rw [← e] at this
   exact this
theorem qtB (l : List XS) (ha : l.length ≤ 2000000) : Ev (fun k => qj.f k l 1) (1 + 8 * (l.length : Int), marksXS l.length) := by
 have := markStateS_loop l ha l.length 0 (by omega) (by omega)
 simpa [marksXS, qj.f] using this
theorem eqIntS_loop (a : List Int) (ha : a.length ≤ 140737488355328) (d : Nat) : ∀ i : Nat, i ≤ a.length → a.length - i = d → Ev (fun k => qXA.l0 k a a (i : Int)) true := by
 induction d with
 | zero =>
  intro i hi hd
  refine Ev.step (f := fun k => _) (fun k => by rw [qXA.l0]) (Ev.neg (by omega) (Ev.now _))
 | succ d ih =>
  intro i hi hd
  refine Ev.step (f := fun k => _) (fun k => by rw [qXA.l0]) (Ev.pos (by omega) (Ev.pos (by omega) (Ev.pos (by omega) (Ev.pos rfl ?_))))
  rw [show wrap64 ((i : Int) + 1) = ((i + 1 : Nat) : Int) by unfold wrap64; omega]
  exact ih (i + 1) (by omega) (by omega)
theorem qBD (a : List Int) (ha : a.length ≤ 140737488355328) : Ev (fun k => qXA.f k a a) true := by
 unfold qXA.f
 exact Ev.pos rfl (eqIntS_loop a ha a.length 0 (by omega) (by omega))
def marksI (n : Nat) : List Int := (List.range n).map fun j : Nat => 1 + (j : Int)
theorem qsB (n : Nat) : (marksI n).length = n := by simp [marksI]
theorem marksI_succ (n : Nat) : marksI (n + 1) = marksI n ++ [1 + (n : Int)] := by simp [marksI, List.range_succ]
theorem markIntS_loop (l : List Int) (ha : l.length ≤ 140737488355328) (d : Nat) : ∀ i : Nat, i ≤ l.length → l.length - i = d →
  Ev (fun k => qkA.l0 k (marksI i ++ l.drop i) (1 + (i : Int)) (i : Int)) (1 + (l.length : Int), marksI l.length) := by
 induction d with
 | zero =>
  intro i hi hd
  obtain rfl : i = l.length := by omega
  refine Ev.step (f := fun k => _) (fun k => by rw [qkA.l0]) (Ev.neg ?_ (Ev.some_ ?_))
  ·simp [qsB]
  ·simp
 | succ d ih =>
  intro i hi hd
  refine Ev.step (f := fun k => _) (fun k => by rw [qkA.l0]) (Ev.pos ?_ (Ev.pos (by omega) ?_))
  ·simp [qsB]; omega
  ·rw [show wrap64 ((i : Int) + 1) = ((i + 1 : Nat) : Int) by unfold wrap64; omega, show wrap64 (1 + (i : Int) + 1) = 1 + ((i + 1 : Nat) : Int) by unfold wrap64; omega]
   have e : (marksI i ++ l.drop i).set ((i : Int).toNat) (1 + (i : Int)) = marksI (i + 1) ++ l.drop (i + 1) := by
    rw [Int.toNat_natCast, List.set_append_right _ _ (by rw [qsB]; omega), qsB, Nat.sub_self, List.drop_eq_getElem_cons (show i < l.length by omega), List.set_cons_zero, marksI_succ, List.append_assoc]
    rfl
   rw [e]
   exact ih (i + 1) (by omega) (by omega)
theorem markIntS_ev (l : List Int) (ha : l.length ≤ 140737488355328) : Ev (fun k => qkA.f k l 1) (1 + (l.length : Int), marksI l.length) := by
 have := markIntS_loop l ha l.length 0 (by omega) (by omega)
 simpa [marksI, qkA.f] using this
theorem heldIntS_loop (n : Nat) (hn : n ≤ 140737488355328) (d : Nat) : ∀ i : Nat, i ≤ n → n - i = d → Ev (fun k => qeA.l0 k (marksI n) (1 + (i : Int)) (i : Int)) (1 + (n : Int)) := by
 induction d with
 | zero =>
  intro i hi hd
  obtain rfl : i = n := by omega
  exact Ev.step (f := fun k => _) (fun k => by rw [qeA.l0]) (Ev.neg (by rw [qsB]; omega) (Ev.now _))
 | succ d ih =>
  intro i hi hd
  refine Ev.step (f := fun k => _) (fun k => by rw [qeA.l0]) (Ev.pos (by rw [qsB]; omega) (Ev.pos (by omega) (Ev.pos ?_ ?_)))
  ·unfold rd
   rw [Int.toNat_natCast, List.getD_eq_getElem?_getD]
   unfold marksI
   rw [List.getElem?_map, List.getElem?_range (by omega)]
   rfl
  ·rw [show wrap64 ((i : Int) + 1) = ((i + 1 : Nat) : Int) by unfold wrap64; omega, show wrap64 (1 + (i : Int) + 1) = 1 + ((i + 1 : Nat) : Int) by unfold wrap64; omega]
   exact ih (i + 1) (by omega) (by omega)
theorem heldIntS_ev (n : Nat) (hn : n ≤ 140737488355328) : Ev (fun k => qeA.f k (marksI n) 1) (1 + (n : Int)) := by
 have := heldIntS_loop n hn n 0 (by omega) (by omega)
 simpa [qeA.f] using this
end Go.Proofs.YtgjdjnggkmojnaaDoor
namespace Go.Proofs.YtgjdjnggkmojnaaDoor.Pure
open Go.RowKit Go.Proofs.YtgjdjnggkmojnaaDoor.P Go.Proofs.YtgjdjnggkmojnaaDoorW.PrintWords Go.Proofs.YtgjdjnggkmojnaaDoorW.PrintLast
set_option linter.unusedVariables false
set_option linter.unusedSimpArgs false
def canK (a : ByteArray) (l : List XS) (k : Nat) : Bool := (moveB a l k 0).2 || ((moveB a l k 1).2 || ((moveB a l k 2).2 || (moveB a l k 3).2))
def blk (a : ByteArray) (l : List XS) (k : Nat) : List Int := if canK a l k = true then [] else [(k : Int)]
def blks (a : ByteArray) (l : List XS) : Nat → Nat → List Int
 | _, 0 => []
 | k, d + 1 => blk a l k ++ blks a l (k + 1) d
theorem qpD (a : ByteArray) (l : List XS) (k : Nat) : (blk a l k).length ≤ 1 := by
 unfold blk; split <;> simp
theorem blks_len (a : ByteArray) (l : List XS) (d : Nat) : ∀ k, (blks a l k d).length ≤ d := by
 induction d with
 | zero => intro k; simp [blks]
 | succ d ih =>
  intro k
  have := ih (k + 1)
  have h := qpD a l k
  unfold blks
  simp only [List.length_append]; omega
theorem qgD (a : ByteArray) (l : List XS) (k i q : Nat) (hk : k < 3) (hi : i < 4) : ((mv1 a l k i).any fun m => decide (mvNum m = (q : Int))) = (decide (k = q) && (moveB a l k (i : Int)).2) := by
 unfold mv1
 cases hm : (moveB a l k (i : Int)).2 with
 | true =>
  rw [if_pos rfl, List.any_cons, List.any_nil, Bool.or_false, Bool.and_true]
  unfold mvNum
  rw [sign_num k i hk hi]
  exact decide_eq_decide.2 (by omega)
 | false => rw [if_neg (by decide), Bool.and_false]; rfl
theorem any_mvK (a : ByteArray) (l : List XS) (k q : Nat) (hk : k < 3) : ((mvK a l k).any fun m => decide (mvNum m = (q : Int))) = (decide (k = q) && canK a l k) := by
 unfold mvK canK
 rw [List.any_append, List.any_append, List.any_append, qgD a l k 0 q hk (by omega), qgD a l k 1 q hk (by omega), qgD a l k 2 q hk (by omega), qgD a l k 3 q hk (by omega)]
 show (decide (k = q) && (moveB a l k 0).2 || (decide (k = q) && (moveB a l k 1).2 || (decide (k = q) && (moveB a l k 2).2 || decide (k = q) && (moveB a l k 3).2))) = _
 cases decide (k = q) <;> simp
theorem any_mvs (a : ByteArray) (l : List XS) (q : Nat) (d : Nat) : ∀ k, k + d ≤ 3 → ((mvs a l k d).any fun m => decide (mvNum m = (q : Int))) = (decide (k ≤ q ∧ q < k + d) && canK a l q) := by
 induction d with
 | zero =>
  intro k hk
  rw [decide_eq_false (by omega)]; rfl
 | succ d ih =>
  intro k hk
  unfold mvs
  rw [List.any_append, any_mvK a l k q (by omega), ih (k + 1) (by omega)]
  by_cases e : k = q
  ·subst e
   rw [decide_eq_true rfl, decide_eq_false (by omega), decide_eq_true (by omega), Bool.false_and, Bool.or_false]
  ·rw [decide_eq_false e, Bool.false_and, Bool.false_or]
   congr 1
   exact decide_eq_decide.2 (by omega)
theorem qhD (a : ByteArray) (l : List XS) (k i : Nat) : ∀ m ∈ mv1 a l k i, 0 < m.size := by
 intro m hm
 unfold mv1 at hm
 split at hm
 ·rw [List.mem_singleton] at hm
  subst hm
  rw [sign_size]; omega
 ·cases hm
theorem all_mvs (a : ByteArray) (l : List XS) (d : Nat) : ∀ k, ∀ m ∈ mvs a l k d, 0 < m.size := by
 induction d with
 | zero => intro k m hm; simp [mvs] at hm
 | succ d ih =>
  intro k m hm
  unfold mvs mvK at hm
  simp only [List.mem_append] at hm
  rcases hm with (h | h | h | h) | h
  ·exact qhD a l _ _ _ h
  ·exact qhD a l _ _ _ h
  ·exact qhD a l _ _ _ h
  ·exact qhD a l _ _ _ h
  ·exact ih _ _ h
theorem qWD (a : ByteArray) (l : List XS) (hl : l.length ≤ 3) (d : Nat) : ∀ (k : Nat) (out : List Int), k ≤ l.length → l.length - k = d → out.length ≤ k →
  Ev (fun n => qw.l0 n out (mvs a l 0 l.length) (l.length : Int) (k : Int)) (out ++ blks a l k d, true) := by
 induction d with
 | zero =>
  intro k out hk hd ho
  refine Ev.step (f := fun n => _) (fun n => by rw [qw.l0]) (Ev.neg (by omega) (Ev.some_ ?_))
  simp [blks]
 | succ d ih =>
  intro k out hk hd ho
  have w : wrap64 ((k : Int) + 1) = ((k + 1 : Nat) : Int) := by unfold wrap64; omega
  have hn := ih (k + 1) (out ++ blk a l k) (by omega) (by omega) (by have := qpD a l k; simp only [List.length_append]; omega)
  have hq := any_mvs a l k l.length 0 (by omega)
  rw [decide_eq_true (by omega), Bool.true_and] at hq
  refine Ev.step (f := fun n => _) (fun n => by rw [qw.l0]) (Ev.pos (by omega) (Ev.bindc (show qaC.f _ _ = some (canK a l k) from ?_) ?_))
  ·unfold qaC.f
   rw [if_pos (by rw [List.all_eq_true]; intro m hm; exact decide_eq_true (all_mvs a l l.length 0 m hm)), hq]
  ·rw [w]
   unfold blks
   unfold blk at hn ⊢
   rw [List.append_assoc] at hn
   cases hc : canK a l k with
   | true =>
    rw [hc] at hn
    rw [if_pos rfl] at hn ⊢
    rw [List.append_nil] at hn
    exact Ev.pos rfl hn
   | false =>
    rw [hc] at hn
    rw [if_neg (by decide)] at hn ⊢
    exact Ev.neg (by decide) (Ev.pos (by omega) hn)
theorem qjC {a : ByteArray} (g : Gnd a) (l : List XS) (hl : l.length ≤ 3) (k : Nat) (hk : k < l.length) (i : Nat) (hi : i < 4) (out : List Int) (c : Bool) (r : List Int × Bool)
  (h : Ev (fun n => qq.l1 n l out (k : Int) (c || (moveB a l k (i : Int)).2) ((i + 1 : Nat) : Int) (l.length : Int) (k : Int) (wideT a : Int) (highT a : Int) (csOf a)) r) :
  Ev (fun n => qq.l1 n l out (k : Int) c (i : Int) (l.length : Int) (k : Int) (wideT a : Int) (highT a : Int) (csOf a)) r := by
 have w : wrap64 ((i : Int) + 1) = ((i + 1 : Nat) : Int) := by unfold wrap64; omega
 refine Ev.step (f := fun n => _) (fun n => by rw [qq.l1]) (Ev.pos (by omega) (Ev.bind (qlC g l (by omega) k hk (i : Int)) ?_))
 rw [w]
 cases c with
 | true => exact Ev.pos rfl h
 | false => exact Ev.neg (by decide) h
theorem qSD {a : ByteArray} (g : Gnd a) (l : List XS) (hl : l.length ≤ 3) (d : Nat) : ∀ (k : Nat) (out : List Int), k ≤ l.length → l.length - k = d → out.length ≤ k →
  Ev (fun n => qq.l0 n l out (l.length : Int) (k : Int) (wideT a : Int) (highT a : Int) (csOf a)) (out ++ blks a l k d, true) := by
 induction d with
 | zero =>
  intro k out hk hd ho
  refine Ev.step (f := fun n => _) (fun n => by rw [qq.l0]) (Ev.neg (by omega) (Ev.some_ ?_))
  simp [blks]
 | succ d ih =>
  intro k out hk hd ho
  have h : k < l.length := by omega
  have w : wrap64 ((k : Int) + 1) = ((k + 1 : Nat) : Int) := by unfold wrap64; omega
  have hn := ih (k + 1) (out ++ blk a l k) (by omega) (by omega) (by have := qpD a l k; simp only [List.length_append]; omega)
  refine Ev.step (f := fun n => _) (fun n => by rw [qq.l0]) (Ev.pos (by omega) ?_)
  refine qjC g l hl k h 0 (by omega) _ _ _ (qjC g l hl k h 1 (by omega) _ _ _ (qjC g l hl k h 2 (by omega) _ _ _ (qjC g l hl k h 3 (by omega) _ _ _ ?_)))
  refine Ev.step (f := fun n => _) (fun n => by rw [qq.l1]) (Ev.neg (by omega) ?_)
  rw [w]
  have e : (((false || (moveB a l k ((0 : Nat) : Int)).2) || (moveB a l k ((1 : Nat) : Int)).2) || (moveB a l k ((2 : Nat) : Int)).2 || (moveB a l k ((3 : Nat) : Int)).2) = canK a l k := by
   unfold canK
   simp only [Bool.false_or, Bool.or_assoc]
   rfl
  rw [e]
  unfold blks
  unfold blk at hn ⊢
  rw [List.append_assoc] at hn
  cases hc : canK a l k with
  | true =>
   rw [hc] at hn
   rw [if_pos rfl] at hn ⊢
   rw [List.append_nil] at hn
   exact Ev.pos rfl hn
  | false =>
   rw [hc] at hn
   rw [if_neg (by decide)] at hn ⊢
   exact Ev.neg (by decide) (Ev.pos (by omega) hn)
theorem both (a : ByteArray) (l : List XS) (ha : a.size ≤ 1048576) (hl : l.length ≤ 2000000) : ∃ r : List Int × Bool, r.1.length ≤ 3 ∧ Ev (fun n => qq.f n a l) r ∧ Ev (fun n => qw.f n a l) r := by
 obtain ⟨rows, h1, hr⟩ := qGC a l ha hl
 obtain ⟨w, h, cs, h2, hs⟩ := qRC a l hl
 unfold qq.f qw.f
 cases hb : askD a l with
 | false =>
  rw [hb] at h1 h2
  exact ⟨([], false), by simp, Ev.bind h2 (Ev.neg (by simp) (Ev.now _)), Ev.bind h1 (Ev.neg (by simp) (Ev.now _))⟩
 | true =>
  have g := qMD (qiC hb)
  obtain ⟨e1, e2, e3⟩ := hs hb
  have er := hr hb
  obtain ⟨l1, l3⟩ := qfD hb
  subst e1 e2 e3 er
  rw [hb] at h1 h2
  have h3 := qSD g l l3 l.length 0 [] (by omega) (by omega) (by simp)
  have h4 := qWD a l l3 l.length 0 [] (by omega) (by omega) (by simp)
  rw [List.nil_append] at h3 h4
  refine ⟨(blks a l 0 l.length, true), ?_, Ev.bind h2 (Ev.pos rfl h3), Ev.bind h1 (Ev.pos rfl (Ev.bind (moves_ev g l l3) h4))⟩
  have := blks_len a l l.length 0
  show (blks a l 0 l.length).length ≤ 3
  omega
theorem FnExactBlockedDice : qP.Pure := by
 intro a l _ hl
 refine Ev.rounds (r := true) ?_
 unfold qP.f
 by_cases ha : a.size ≤ 1048576
 ·refine Ev.neg (by omega) (Ev.bindc (qxB l hl) ?_)
  by_cases hn : l.length ≤ 1048576
  ·rw [if_pos hn]
   have hc : l.length ≤ 2000000 := by omega
   have ht := qwB l hc
   obtain ⟨r, hr, hs, hi⟩ := both a (l.map convS) ha (by simp; omega)
   have h1 : r.1.length ≤ 140737488355328 := by omega
   have h3 : (l.map convS).length ≤ 140737488355328 := by simp; omega
   have h4 : (l.map convS).length ≤ 2000000 := by simp; omega
   have h2 : r.1.length ≤ 140737488355328 := by omega
   refine Ev.neg (by omega) (Ev.bind ht (Ev.bind hs (Ev.bind ht (Ev.bind hi (Ev.bind (qBD _ h1) (Ev.pos rfl ?_))))))
   refine Ev.step (f := fun k => _) (fun k => by rw [qP.j0]) (Ev.neg (by simp) ?_)
   refine Ev.bind ht (Ev.bind (qAB _ h3) (Ev.pos rfl (Ev.bind (qtB _ h4) (Ev.neg (by omega) (Ev.bind (qBD _ h1) (Ev.pos rfl ?_))))))
   refine Ev.step (f := fun k => _) (fun k => by rw [qP.j1]) (Ev.neg (by simp) ?_)
   refine Ev.bind (markIntS_ev _ h2) (Ev.bind (heldIntS_ev _ h2) (Ev.neg (by omega) (Ev.pos rfl (Ev.bind ht (Ev.bind hi (Ev.bind (qBD _ h1) (Ev.pos rfl ?_)))))))
   refine Ev.step (f := fun k => _) (fun k => by rw [qP.j2]) (Ev.neg (by simp) ?_)
   exact Ev.bind (heldIntS_ev _ h2) (Ev.neg (by omega) (Ev.pos rfl (Ev.now _)))
  ·rw [if_neg hn]
   exact Ev.pos (by decide) (Ev.now _)
 ·exact Ev.pos (by omega) (Ev.now _)
end Go.Proofs.YtgjdjnggkmojnaaDoor.Pure
