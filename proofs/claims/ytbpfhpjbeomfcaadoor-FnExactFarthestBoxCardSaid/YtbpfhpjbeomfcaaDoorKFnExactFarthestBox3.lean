/- The program's FarthestBox returns what the reference's returns, for all texts and boxes (the law lets longer texts by). No further condition. -/
import Derived.Test.YtbpfhpjbeomfcaaDoorKFnExactFarthestBox2
import Derived.Shelf.SlGeneric
import Derived.Shelf.Small.Strs
import Derived.Shelf.Strings.Search1
import Derived.Ground.NamesProg
import Derived.Shelf.Strings.Search2
import Derived.Shelf.Strings.Search3
import Derived.Shelf.Strings.Split
import Derived.Shelf.Strings.Count
import Derived.Shelf.Strings.SlTrimAscii
import Derived.Test.YtbpfhpjbeomfcaaDoorProg
import Derived.Laws.Append
import Derived.Laws.AppendOwn
import Derived.Maps.AppendAt

namespace Go.Proofs.YtbpfhpjbeomfcaaDoor.P
open Go.RowKit Go.Proofs.YtbpfhpjbeomfcaaDoorW.PrintWords Go.Proofs.YtbpfhpjbeomfcaaDoorW.PrintLast Go.Proofs.YtbpfhpjbeomfcaaDoorW.PrintMore
attribute [local go_sem] qz qx qJA qIA qp qo qy qw
set_option linter.unusedVariables false
set_option linter.unusedSimpArgs false
def qk.l0 : Nat → Int → List Int → Int → Int → List (S27) → List ByteArray → Int → Int → Int → Option (Int × Int × Int × Int × Bool)
 | 0, _, _, _, _, _, _, _, _, _ => none
 | k + 1, x11, x26, x27, x28, x775000, x775001, x776000, x776001, x776002 => if x28 < x27 then (if 0 ≤ x28 then (if x28 < (x26.length : Int) then (if 0 ≤ (rd x26 x28) then (if (rd x26 x28) < (x775001.length : Int) then (if ((rdOf ByteArray.empty x775001 (rd x26 x28)).size : Int) > x11 then (if (rd x26 x28) < (x775000.length : Int) then (qk.l0 k ((rdOf ByteArray.empty x775001 (rd x26 x28)).size : Int) x26 x27 (wrap64 (x28 + 1)) x775000 x775001 ((qJ x775000 (rd x26 x28)).f0) ((qJ x775000 (rd x26 x28)).f1) ((qJ x775000 (rd x26 x28)).f2)) else (none)) else (qk.l0 k x11 x26 x27 (wrap64 (x28 + 1)) x775000 x775001 x776000 x776001 x776002)) else (none)) else (none)) else (none)) else (none)) else (some (x776000, x776001, x776002, x11, true))
def qk.f (k : Nat) (a0 : ByteArray) (a1_0 : Int) (a1_1 : Int) (a1_2 : Int) : Option (Int × Int × Int × Int × Bool) := (qZA.f k a0 a1_0 a1_1 a1_2).bind fun bt761 => (if bt761.2.2.2.2.2 = true then ((qa.f k bt761.2.2.2.1 bt761.2.2.2.2.1).bind fun t776 => (qk.l0 k (-1) t776 (t776.length : Int) 0 bt761.2.2.2.1 bt761.2.2.2.2.1 a1_0 a1_1 a1_2)) else (some (0, 0, 0, 0, false)))
set_option maxHeartbeats 8000000 in
set_option maxRecDepth 100000 in
theorem qk.calls (k : Nat) (a0 : ByteArray) (a1_0 : Int) (a1_1 : Int) (a1_2 : Int) (r1 : Int) (r2 : Int) (r3 : Int) (r4 : Int) (r5 : Bool) (w : World) (h : qk.f k a0 a1_0 a1_1 a1_2 = some (r1, r2, r3, r4, r5)) :
  Calls Tryd.prog 41 #[.string a0, .agg #[.int .i64 a1_0, .int .i64 a1_1, .int .i64 a1_2]] w fun e w' => e = .returned (.tuple #[.agg #[.int .i64 r1, .int .i64 r2, .int .i64 r3], .int .i64 r4, .bool r5]) ∧ Below w.heap.size w w' := by
 have hu27 := Tryd.underlying27
 have hu57 := Tryd.underlying57
 have hu75 := Tryd.underlying75
 have HB := Aside0.mk (Below.refl w.heap.size w)
 have H : ((qZA.f k a0 a1_0 a1_1 a1_2).bind fun bt761 => (if bt761.2.2.2.2.2 = true then ((qa.f k bt761.2.2.2.1 bt761.2.2.2.2.1).bind fun t776 => (qk.l0 k (-1) t776 (t776.length : Int) 0 bt761.2.2.2.1 bt761.2.2.2.2.1 a1_0 a1_1 a1_2)) else (some (0, 0, 0, 0, false)))) = some (r1, r2, r3, r4, r5) := h
 clear h
 replace H := Option.bind_eq_some_iff.mp H
 obtain ⟨⟨t761, t762, t763, t766, t769, t772⟩, A30, H⟩ := H
 replace H : (if t772 = true then ((qa.f k t766 t769).bind fun t776 => (qk.l0 k (-1) t776 (t776.length : Int) 0 t766 t769 a1_0 a1_1 a1_2)) else (some (0, 0, 0, 0, false))) = some (r1, r2, r3, r4, r5) := H
 have A3 := Aside0.mk A30
 clear A30
 by_cases c4 : t772 = true
 ·subst c4
  have H1 : ((qa.f k t766 t769).bind fun t776 => (qk.l0 k (-1) t776 (t776.length : Int) 0 t766 t769 a1_0 a1_1 a1_2)) = some (r1, r2, r3, r4, r5) := by rw [if_pos rfl] at H; exact H
  clear H
  have H := H1
  clear H1
  replace H := Option.bind_eq_some_iff.mp H
  obtain ⟨t776, A50, H⟩ := H
  replace H : (qk.l0 k (-1) t776 (t776.length : Int) 0 t766 t769 a1_0 a1_1 a1_2) = some (r1, r2, r3, r4, r5) := H
  have A5 := Aside0.mk A50
  clear A50
  have H' := Aside0.mk H
  clear H
  go_enter Tryd.func41, Tryd.ntmps41
  go_wp2_with (first | ((with_reducible refine qV (N := 3) rfl ?_); refine qU ?hg (N := 3) ?hd (cs := #[.int .i64 a1_0, .int .i64 a1_1, .int .i64 a1_2]) (t := 27) ?hr ?_; (case hd => rfl); (case hg => rfl); (case hr => first | (go_simp; done) | (go_simp; rfl)); intro gb759 hg w6 hbox hb; have n0_ := Aside0.mk (qG bl hb); have n1_ := Aside0.mk (hbox); have n2_ := Aside0.mk ((gg hg)); have n3_ := Aside0.mk ((gg hg)); clear HB; have HB := n0_; have BK759 := n1_; have GW759 := n2_; have GE759 := n3_; clear n0_ n1_ n2_ n3_; clear hb hbox hg) | ((with_reducible refine qV (N := 4) rfl ?_); refine qU ?hg (N := 4) ?hd (cs := #[.int .i64 0, .int .i64 0, .int .i64 0]) (t := 27) ?hr ?_; (case hd => rfl); (case hg => rfl); (case hr => first | (go_simp; done) | (go_simp; rfl)); intro gb760 hg w7 hbox hb; have n0_ := Aside0.mk (bb BK759 hb); have n1_ := Aside0.mk (qG bl hb); have n2_ := Aside0.mk (hbox); have n3_ := Aside0.mk ((gg hg)); have n4_ := Aside0.mk ((gg hg)); have n5_ := Aside0.mk ((nl BK759 hg)); have n6_ := Aside0.mk ((nr BK759 hg)); clear BK759; clear HB; have BK759 := n0_; have HB := n1_; have BK760 := n2_; have GW760 := n3_; have GE760 := n4_; have NB759_760 := n5_; have NB760_759 := n6_; clear n0_ n1_ n2_ n3_ n4_ n5_ n6_; clear hb hbox hg; have hnb8 := NB759_760.out; have hnc8 := NB760_759.out; have hcz9_0 := bc BK759 0; have hcz9_1 := bc BK759 1; have hcz9_2 := bc BK759 2; have hfz9_0 := qD BK759.out 0; have hfz9_1 := qD BK759.out 1; have hfz9_2 := qD BK759.out 2) | ((with_reducible refine qS (f := 65) rfl ?_); refine qq (some 17) rfl rfl Tryd.func65 (by kernel_rfl) rfl #[.string a0, .agg #[.int .i64 a1_0, .int .i64 a1_1, .int .i64 a1_2]] rfl (by (try simp only [List.map_toArray, List.map_cons, List.map_nil]); first | done | rfl | (simp only [List.length_drop, List.length_take]; rfl)) ?_; (with_reducible refine (qZA.calls k a0 a1_0 a1_1 a1_2 t761 t762 t763 t766 t769 true _ A3.out).mono ?_); rintro e w10 ⟨v764, v767, v770, rfl, ho0, ho1, ho2, hb⟩; refine ⟨_, rfl, ?_⟩; have n0_ := Aside0.mk (Kd.qBA ho0 (qg bl)); have n1_ := Aside0.mk (Kd.qBA (Kd.qMB (Kd.qMB ho1 (g := gb759) (o := .cells #[.int .i64 a1_0, .int .i64 a1_1, .int .i64 a1_2] 27 (0, 0)) (by (with_reducible repeat (first | refine qB ?_ _ | refine qC ?_ | refine qA ?_ _)); exact BK759.out)) (g := gb760) (o := .cells #[.int .i64 0, .int .i64 0, .int .i64 0] 27 (0, 0)) (by (with_reducible repeat (first | refine qB ?_ _ | refine qC ?_ | refine qA ?_ _)); exact BK760.out)) (qg bl)); have n2_ := Aside0.mk (Kd.qBA ho2 (qg bl)); have n3_ := Aside0.mk (bb BK759 hb); have n4_ := Aside0.mk (bb BK760 hb); have n5_ := Aside0.mk (qG bl hb); clear BK759; clear BK760; clear HB; have HO765 := n0_; have HO768 := n1_; have HO771 := n2_; have BK759 := n3_; have BK760 := n4_; have HB := n5_; clear n0_ n1_ n2_ n3_ n4_ n5_; (try clear hb); (try clear hb2); (try clear hk); (try clear hi); (try clear ho0); (try clear ho1); (try clear ho2)) | ((with_reducible refine qV (N := 7) rfl ?_); refine qU ?hg (N := 7) ?hd (cs := #[.int .i64 0, .int .i64 0, .slice none 0 0]) (t := 57) ?hr ?_; (case hd => rfl); (case hg => rfl); (case hr => first | (go_simp; done) | (go_simp; rfl)); intro gb773 hg w11 hbox hb; have n0_ := Aside0.mk (Kd.qY (by (with_reducible repeat (first | apply Kd.qF | apply Kd.qE | apply Kd.qI)); exact HO765.out) hb); have n1_ := Aside0.mk (Kd.qY (by (with_reducible repeat (first | apply Kd.qF | apply Kd.qE | apply Kd.qI)); exact HO768.out) hb); have n2_ := Aside0.mk (Kd.qY (by (with_reducible repeat (first | apply Kd.qF | apply Kd.qE | apply Kd.qI)); exact HO771.out) hb); have n3_ := Aside0.mk (bb BK759 hb); have n4_ := Aside0.mk (bb BK760 hb); have n5_ := Aside0.mk (qG bl hb); have n6_ := Aside0.mk (hbox); have n7_ := Aside0.mk ((gg hg)); have n8_ := Aside0.mk ((gg hg)); have n9_ := Aside0.mk ((nl BK759 hg)); have n10_ := Aside0.mk ((nr BK759 hg)); have n11_ := Aside0.mk ((nl BK760 hg)); have n12_ := Aside0.mk ((nr BK760 hg)); clear HO765; clear HO768; clear HO771; clear BK759; clear BK760; clear HB; have HO765 := n0_; have HO768 := n1_; have HO771 := n2_; have BK759 := n3_; have BK760 := n4_; have HB := n5_; have BK773 := n6_; have GW773 := n7_; have GE773 := n8_; have NB759_773 := n9_; have NB773_759 := n10_; have NB760_773 := n11_; have NB773_760 := n12_; clear n0_ n1_ n2_ n3_ n4_ n5_ n6_ n7_ n8_ n9_ n10_ n11_ n12_; clear hb hbox hg) | ((with_reducible refine qV (N := 8) rfl ?_); refine qU ?hg (N := 8) ?hd (cs := #[.slice none 0 0, .slice none 0 0]) (t := 75) ?hr ?_; (case hd => rfl); (case hg => rfl); (case hr => first | (go_simp; done) | (go_simp; rfl)); intro gb774 hg w12 hbox hb; have n0_ := Aside0.mk (Kd.qY (by (with_reducible repeat (first | apply Kd.qF | apply Kd.qE | apply Kd.qI)); exact HO765.out) hb); have n1_ := Aside0.mk (Kd.qY (by (with_reducible repeat (first | apply Kd.qF | apply Kd.qE | apply Kd.qI)); exact HO768.out) hb); have n2_ := Aside0.mk (Kd.qY (by (with_reducible repeat (first | apply Kd.qF | apply Kd.qE | apply Kd.qI)); exact HO771.out) hb); have n3_ := Aside0.mk (bb BK759 hb); have n4_ := Aside0.mk (bb BK760 hb); have n5_ := Aside0.mk (bb BK773 hb); have n6_ := Aside0.mk (qG bl hb); have n7_ := Aside0.mk (hbox); have n8_ := Aside0.mk ((gg hg)); have n9_ := Aside0.mk ((gg hg)); have n10_ := Aside0.mk ((nl BK759 hg)); have n11_ := Aside0.mk ((nr BK759 hg)); have n12_ := Aside0.mk ((nl BK760 hg)); have n13_ := Aside0.mk ((nr BK760 hg)); have n14_ := Aside0.mk ((nl BK773 hg)); have n15_ := Aside0.mk ((nr BK773 hg)); clear HO765; clear HO768; clear HO771; clear BK759; clear BK760; clear BK773; clear HB; have HO765 := n0_; have HO768 := n1_; have HO771 := n2_; have BK759 := n3_; have BK760 := n4_; have BK773 := n5_; have HB := n6_; have BK774 := n7_; have GW774 := n8_; have GE774 := n9_; have NB759_774 := n10_; have NB774_759 := n11_; have NB760_774 := n12_; have NB774_760 := n13_; have NB773_774 := n14_; have NB774_773 := n15_; clear n0_ n1_ n2_ n3_ n4_ n5_ n6_ n7_ n8_ n9_ n10_ n11_ n12_ n13_ n14_ n15_; clear hb hbox hg; have hnb13 := NB773_759.out; have hnc13 := NB759_773.out; have hnb14 := NB773_760.out; have hnc14 := NB760_773.out; have hnb15 := NB773_774.out; have hnc15 := NB774_773.out; have hcz16_0 := bc BK773 0; have hcz16_1 := bc BK773 1; have hcz16_2 := bc BK773 2; have hfz16_0 := qD BK773.out 0; have hfz16_1 := qD BK773.out 1; have hfz16_2 := qD BK773.out 2; obtain ⟨Ao17, co17, eo17⟩ := Kd.qt HO765.out; subst eo17; obtain ⟨Ao18, co18, eo18⟩ := Kd.qt HO768.out; subst eo18; have hnb19 := NB774_759.out; have hnc19 := NB759_774.out; have hnb20 := NB774_760.out; have hnc20 := NB760_774.out; have hcz21_0 := bc BK774 0; have hcz21_1 := bc BK774 1; have hfz21_0 := qD BK774.out 0; have hfz21_1 := qD BK774.out 1; obtain ⟨Ao22, co22, eo22⟩ := Kd.qt HO771.out; subst eo22; have hcz23_0 := bc BK759 0; have hcz23_1 := bc BK759 1; have hcz23_2 := bc BK759 2; have hfz23_0 := qD BK759.out 0; have hfz23_1 := qD BK759.out 1; have hfz23_2 := qD BK759.out 2) | ((with_reducible refine qV (N := 10) rfl ?_); refine qU ?hg (N := 10) ?hd (cs := #[.int .i64 0, .int .i64 0, .int .i64 0]) (t := 27) ?hr ?_; (case hd => rfl); (case hg => rfl); (case hr => first | (go_simp; done) | (go_simp; rfl)); intro gb775 hg w24 hbox hb; have n0_ := Aside0.mk (Kd.qY (by (with_reducible repeat (first | apply Kd.qF | apply Kd.qE | apply Kd.qI)); exact (Kd.qh (Kd.qh (Kd.R_far (p := ⟨gb774, 1, none⟩) (Kd.R_far (p := ⟨gb774, 0, none⟩) (Kd.R_far (p := ⟨gb773, 2, none⟩) (Kd.R_far (p := ⟨gb773, 1, none⟩) (Kd.R_far (p := ⟨gb773, 0, none⟩) (Kd.qr (Kd.qr HO765.out BK773.out (by decide)) BK774.out (by decide)) (fun _ hk => hk.1.2) (.int .i64 t761)) (fun _ hk => hk.1.2) (.int .i64 t762)) (fun _ hk => hk.1.2) (.slice Ao17 t763.length co17)) (fun _ hk => hk.2) (.slice Ao18 t766.length co18)) (fun _ hk => hk.2) (.slice Ao22 t769.length co22)) (fun _ h_ => h_.1)) (fun _ h_ => h_.1))) hb); have n1_ := Aside0.mk (Kd.qY (Kd.qYA (by (with_reducible repeat (first | apply Kd.qF | apply Kd.qE | apply Kd.qI)); exact (Kd.qh (Kd.qh (Kd.R_far (p := ⟨gb774, 1, none⟩) (Kd.R_far (p := ⟨gb774, 0, none⟩) (Kd.R_far (p := ⟨gb773, 2, none⟩) (Kd.R_far (p := ⟨gb773, 1, none⟩) (Kd.R_far (p := ⟨gb773, 0, none⟩) (Kd.qr (Kd.qr HO768.out BK773.out (by decide)) BK774.out (by decide)) (fun _ hk => hk.1.2) (.int .i64 t761)) (fun _ hk => hk.1.2) (.int .i64 t762)) (fun _ hk => hk.1.2) (.slice Ao17 t763.length co17)) (fun _ hk => hk.2) (.slice Ao18 t766.length co18)) (fun _ hk => hk.2) (.slice Ao22 t769.length co22)) (fun _ h_ => h_.1)) (fun _ h_ => h_.1))) gb775 (Nat.le_of_eq hg.symm)) hb); have n2_ := Aside0.mk (Kd.qY (by (with_reducible repeat (first | apply Kd.qF | apply Kd.qE | apply Kd.qI)); exact (Kd.qh (Kd.qh (Kd.R_far (p := ⟨gb774, 1, none⟩) (Kd.R_far (p := ⟨gb774, 0, none⟩) (Kd.R_far (p := ⟨gb773, 2, none⟩) (Kd.R_far (p := ⟨gb773, 1, none⟩) (Kd.R_far (p := ⟨gb773, 0, none⟩) (Kd.qr (Kd.qr HO771.out BK773.out (by decide)) BK774.out (by decide)) (fun _ hk => hk.1.2) (.int .i64 t761)) (fun _ hk => hk.1.2) (.int .i64 t762)) (fun _ hk => hk.1.2) (.slice Ao17 t763.length co17)) (fun _ hk => hk.2) (.slice Ao18 t766.length co18)) (fun _ hk => hk.2) (.slice Ao22 t769.length co22)) (fun _ h_ => h_.1)) (fun _ h_ => h_.1))) hb); have n3_ := Aside0.mk (ql (g := gb759) (o := .cells #[.int .i64 a1_0, .int .i64 a1_1, .int .i64 a1_2] 27 (0, 0)) (by (with_reducible repeat (first | refine qB ?_ _ | refine qC ?_ | refine qA ?_ _)); refine qH ?_ NB759_774.out _; (with_reducible repeat (first | refine qB ?_ _ | refine qC ?_ | refine qA ?_ _)); refine qH ?_ NB759_774.out _; (with_reducible repeat (first | refine qB ?_ _ | refine qC ?_ | refine qA ?_ _)); refine qH ?_ NB759_773.out _; (with_reducible repeat (first | refine qB ?_ _ | refine qC ?_ | refine qA ?_ _)); refine qH ?_ NB759_773.out _; (with_reducible repeat (first | refine qB ?_ _ | refine qC ?_ | refine qA ?_ _)); refine qH ?_ NB759_773.out _; (with_reducible repeat (first | refine qB ?_ _ | refine qC ?_ | refine qA ?_ _)); exact BK759.out) hb); have n4_ := Aside0.mk (ql (g := gb760) (o := .cells #[.int .i64 0, .int .i64 0, .int .i64 0] 27 (0, 0)) (by (with_reducible repeat (first | refine qB ?_ _ | refine qC ?_ | refine qA ?_ _)); refine qH ?_ NB760_774.out _; (with_reducible repeat (first | refine qB ?_ _ | refine qC ?_ | refine qA ?_ _)); refine qH ?_ NB760_774.out _; (with_reducible repeat (first | refine qB ?_ _ | refine qC ?_ | refine qA ?_ _)); refine qH ?_ NB760_773.out _; (with_reducible repeat (first | refine qB ?_ _ | refine qC ?_ | refine qA ?_ _)); refine qH ?_ NB760_773.out _; (with_reducible repeat (first | refine qB ?_ _ | refine qC ?_ | refine qA ?_ _)); refine qH ?_ NB760_773.out _; (with_reducible repeat (first | refine qB ?_ _ | refine qC ?_ | refine qA ?_ _)); exact BK760.out) hb); have n5_ := Aside0.mk (ql (g := gb773) (o := .cells #[.int .i64 t761, .int .i64 t762, .slice Ao17 t763.length co17] 57 (0, 0)) (by (with_reducible repeat (first | refine qB ?_ _ | refine qC ?_ | refine qA ?_ _)); refine qH ?_ NB773_774.out _; (with_reducible repeat (first | refine qB ?_ _ | refine qC ?_ | refine qA ?_ _)); refine qH ?_ NB773_774.out _; (with_reducible repeat (first | refine qB ?_ _ | refine qC ?_ | refine qA ?_ _)); refine qO (cs := #[.int .i64 t761, .int .i64 t762, .slice none 0 0]) ?_ 2 _ rfl; (with_reducible repeat (first | refine qB ?_ _ | refine qC ?_ | refine qA ?_ _)); refine qO (cs := #[.int .i64 t761, .int .i64 0, .slice none 0 0]) ?_ 1 _ rfl; (with_reducible repeat (first | refine qB ?_ _ | refine qC ?_ | refine qA ?_ _)); refine qO (cs := #[.int .i64 0, .int .i64 0, .slice none 0 0]) ?_ 0 _ rfl; (with_reducible repeat (first | refine qB ?_ _ | refine qC ?_ | refine qA ?_ _)); exact BK773.out) hb); have n6_ := Aside0.mk (ql (g := gb774) (o := .cells #[.slice Ao18 t766.length co18, .slice Ao22 t769.length co22] 75 (0, 0)) (by (with_reducible repeat (first | refine qB ?_ _ | refine qC ?_ | refine qA ?_ _)); refine qO (cs := #[.slice Ao18 t766.length co18, .slice none 0 0]) ?_ 1 _ rfl; (with_reducible repeat (first | refine qB ?_ _ | refine qC ?_ | refine qA ?_ _)); refine qO (cs := #[.slice none 0 0, .slice none 0 0]) ?_ 0 _ rfl; (with_reducible repeat (first | refine qB ?_ _ | refine qC ?_ | refine qA ?_ _)); refine qH ?_ NB774_773.out _; (with_reducible repeat (first | refine qB ?_ _ | refine qC ?_ | refine qA ?_ _)); refine qH ?_ NB774_773.out _; (with_reducible repeat (first | refine qB ?_ _ | refine qC ?_ | refine qA ?_ _)); refine qH ?_ NB774_773.out _; (with_reducible repeat (first | refine qB ?_ _ | refine qC ?_ | refine qA ?_ _)); exact BK774.out) hb); have n7_ := Aside0.mk (qG bl hb); have n8_ := Aside0.mk (hbox); have n9_ := Aside0.mk ((gg hg)); have n10_ := Aside0.mk ((gg hg)); have n11_ := Aside0.mk ((by rw [hg]; exact Nat.ne_of_lt (qIB (g := gb759) (o := .cells #[.int .i64 a1_0, .int .i64 a1_1, .int .i64 a1_2] 27 (0, 0)) (by (with_reducible repeat (first | refine qB ?_ _ | refine qC ?_ | refine qA ?_ _)); refine qH ?_ NB759_774.out _; (with_reducible repeat (first | refine qB ?_ _ | refine qC ?_ | refine qA ?_ _)); refine qH ?_ NB759_774.out _; (with_reducible repeat (first | refine qB ?_ _ | refine qC ?_ | refine qA ?_ _)); refine qH ?_ NB759_773.out _; (with_reducible repeat (first | refine qB ?_ _ | refine qC ?_ | refine qA ?_ _)); refine qH ?_ NB759_773.out _; (with_reducible repeat (first | refine qB ?_ _ | refine qC ?_ | refine qA ?_ _)); refine qH ?_ NB759_773.out _; (with_reducible repeat (first | refine qB ?_ _ | refine qC ?_ | refine qA ?_ _)); exact BK759.out)) : gb759 ≠ gb775)); have n12_ := Aside0.mk ((by rw [hg]; exact Nat.ne_of_gt (qIB (g := gb759) (o := .cells #[.int .i64 a1_0, .int .i64 a1_1, .int .i64 a1_2] 27 (0, 0)) (by (with_reducible repeat (first | refine qB ?_ _ | refine qC ?_ | refine qA ?_ _)); refine qH ?_ NB759_774.out _; (with_reducible repeat (first | refine qB ?_ _ | refine qC ?_ | refine qA ?_ _)); refine qH ?_ NB759_774.out _; (with_reducible repeat (first | refine qB ?_ _ | refine qC ?_ | refine qA ?_ _)); refine qH ?_ NB759_773.out _; (with_reducible repeat (first | refine qB ?_ _ | refine qC ?_ | refine qA ?_ _)); refine qH ?_ NB759_773.out _; (with_reducible repeat (first | refine qB ?_ _ | refine qC ?_ | refine qA ?_ _)); refine qH ?_ NB759_773.out _; (with_reducible repeat (first | refine qB ?_ _ | refine qC ?_ | refine qA ?_ _)); exact BK759.out)) : gb775 ≠ gb759)); have n13_ := Aside0.mk ((by rw [hg]; exact Nat.ne_of_lt (qIB (g := gb760) (o := .cells #[.int .i64 0, .int .i64 0, .int .i64 0] 27 (0, 0)) (by (with_reducible repeat (first | refine qB ?_ _ | refine qC ?_ | refine qA ?_ _)); refine qH ?_ NB760_774.out _; (with_reducible repeat (first | refine qB ?_ _ | refine qC ?_ | refine qA ?_ _)); refine qH ?_ NB760_774.out _; (with_reducible repeat (first | refine qB ?_ _ | refine qC ?_ | refine qA ?_ _)); refine qH ?_ NB760_773.out _; (with_reducible repeat (first | refine qB ?_ _ | refine qC ?_ | refine qA ?_ _)); refine qH ?_ NB760_773.out _; (with_reducible repeat (first | refine qB ?_ _ | refine qC ?_ | refine qA ?_ _)); refine qH ?_ NB760_773.out _; (with_reducible repeat (first | refine qB ?_ _ | refine qC ?_ | refine qA ?_ _)); exact BK760.out)) : gb760 ≠ gb775)); have n14_ := Aside0.mk ((by rw [hg]; exact Nat.ne_of_gt (qIB (g := gb760) (o := .cells #[.int .i64 0, .int .i64 0, .int .i64 0] 27 (0, 0)) (by (with_reducible repeat (first | refine qB ?_ _ | refine qC ?_ | refine qA ?_ _)); refine qH ?_ NB760_774.out _; (with_reducible repeat (first | refine qB ?_ _ | refine qC ?_ | refine qA ?_ _)); refine qH ?_ NB760_774.out _; (with_reducible repeat (first | refine qB ?_ _ | refine qC ?_ | refine qA ?_ _)); refine qH ?_ NB760_773.out _; (with_reducible repeat (first | refine qB ?_ _ | refine qC ?_ | refine qA ?_ _)); refine qH ?_ NB760_773.out _; (with_reducible repeat (first | refine qB ?_ _ | refine qC ?_ | refine qA ?_ _)); refine qH ?_ NB760_773.out _; (with_reducible repeat (first | refine qB ?_ _ | refine qC ?_ | refine qA ?_ _)); exact BK760.out)) : gb775 ≠ gb760)); have n15_ := Aside0.mk ((by rw [hg]; exact Nat.ne_of_lt (qIB (g := gb773) (o := .cells #[.int .i64 t761, .int .i64 t762, .slice Ao17 t763.length co17] 57 (0, 0)) (by (with_reducible repeat (first | refine qB ?_ _ | refine qC ?_ | refine qA ?_ _)); refine qH ?_ NB773_774.out _; (with_reducible repeat (first | refine qB ?_ _ | refine qC ?_ | refine qA ?_ _)); refine qH ?_ NB773_774.out _; (with_reducible repeat (first | refine qB ?_ _ | refine qC ?_ | refine qA ?_ _)); refine qO (cs := #[.int .i64 t761, .int .i64 t762, .slice none 0 0]) ?_ 2 _ rfl; (with_reducible repeat (first | refine qB ?_ _ | refine qC ?_ | refine qA ?_ _)); refine qO (cs := #[.int .i64 t761, .int .i64 0, .slice none 0 0]) ?_ 1 _ rfl; (with_reducible repeat (first | refine qB ?_ _ | refine qC ?_ | refine qA ?_ _)); refine qO (cs := #[.int .i64 0, .int .i64 0, .slice none 0 0]) ?_ 0 _ rfl; (with_reducible repeat (first | refine qB ?_ _ | refine qC ?_ | refine qA ?_ _)); exact BK773.out)) : gb773 ≠ gb775)); have n16_ := Aside0.mk ((by rw [hg]; exact Nat.ne_of_gt (qIB (g := gb773) (o := .cells #[.int .i64 t761, .int .i64 t762, .slice Ao17 t763.length co17] 57 (0, 0)) (by (with_reducible repeat (first | refine qB ?_ _ | refine qC ?_ | refine qA ?_ _)); refine qH ?_ NB773_774.out _; (with_reducible repeat (first | refine qB ?_ _ | refine qC ?_ | refine qA ?_ _)); refine qH ?_ NB773_774.out _; (with_reducible repeat (first | refine qB ?_ _ | refine qC ?_ | refine qA ?_ _)); refine qO (cs := #[.int .i64 t761, .int .i64 t762, .slice none 0 0]) ?_ 2 _ rfl; (with_reducible repeat (first | refine qB ?_ _ | refine qC ?_ | refine qA ?_ _)); refine qO (cs := #[.int .i64 t761, .int .i64 0, .slice none 0 0]) ?_ 1 _ rfl; (with_reducible repeat (first | refine qB ?_ _ | refine qC ?_ | refine qA ?_ _)); refine qO (cs := #[.int .i64 0, .int .i64 0, .slice none 0 0]) ?_ 0 _ rfl; (with_reducible repeat (first | refine qB ?_ _ | refine qC ?_ | refine qA ?_ _)); exact BK773.out)) : gb775 ≠ gb773)); have n17_ := Aside0.mk ((by rw [hg]; exact Nat.ne_of_lt (qIB (g := gb774) (o := .cells #[.slice Ao18 t766.length co18, .slice Ao22 t769.length co22] 75 (0, 0)) (by (with_reducible repeat (first | refine qB ?_ _ | refine qC ?_ | refine qA ?_ _)); refine qO (cs := #[.slice Ao18 t766.length co18, .slice none 0 0]) ?_ 1 _ rfl; (with_reducible repeat (first | refine qB ?_ _ | refine qC ?_ | refine qA ?_ _)); refine qO (cs := #[.slice none 0 0, .slice none 0 0]) ?_ 0 _ rfl; (with_reducible repeat (first | refine qB ?_ _ | refine qC ?_ | refine qA ?_ _)); refine qH ?_ NB774_773.out _; (with_reducible repeat (first | refine qB ?_ _ | refine qC ?_ | refine qA ?_ _)); refine qH ?_ NB774_773.out _; (with_reducible repeat (first | refine qB ?_ _ | refine qC ?_ | refine qA ?_ _)); refine qH ?_ NB774_773.out _; (with_reducible repeat (first | refine qB ?_ _ | refine qC ?_ | refine qA ?_ _)); exact BK774.out)) : gb774 ≠ gb775)); have n18_ := Aside0.mk ((by rw [hg]; exact Nat.ne_of_gt (qIB (g := gb774) (o := .cells #[.slice Ao18 t766.length co18, .slice Ao22 t769.length co22] 75 (0, 0)) (by (with_reducible repeat (first | refine qB ?_ _ | refine qC ?_ | refine qA ?_ _)); refine qO (cs := #[.slice Ao18 t766.length co18, .slice none 0 0]) ?_ 1 _ rfl; (with_reducible repeat (first | refine qB ?_ _ | refine qC ?_ | refine qA ?_ _)); refine qO (cs := #[.slice none 0 0, .slice none 0 0]) ?_ 0 _ rfl; (with_reducible repeat (first | refine qB ?_ _ | refine qC ?_ | refine qA ?_ _)); refine qH ?_ NB774_773.out _; (with_reducible repeat (first | refine qB ?_ _ | refine qC ?_ | refine qA ?_ _)); refine qH ?_ NB774_773.out _; (with_reducible repeat (first | refine qB ?_ _ | refine qC ?_ | refine qA ?_ _)); refine qH ?_ NB774_773.out _; (with_reducible repeat (first | refine qB ?_ _ | refine qC ?_ | refine qA ?_ _)); exact BK774.out)) : gb775 ≠ gb774)); clear HO765; clear HO768; clear HO771; clear BK759; clear BK760; clear BK773; clear BK774; clear HB; have HO765 := n0_; have HO768 := n1_; have HO771 := n2_; have BK759 := n3_; have BK760 := n4_; have BK773 := n5_; have BK774 := n6_; have HB := n7_; have BK775 := n8_; have GW775 := n9_; have GE775 := n10_; have NB759_775 := n11_; have NB775_759 := n12_; have NB760_775 := n13_; have NB775_760 := n14_; have NB773_775 := n15_; have NB775_773 := n16_; have NB774_775 := n17_; have NB775_774 := n18_; clear n0_ n1_ n2_ n3_ n4_ n5_ n6_ n7_ n8_ n9_ n10_ n11_ n12_ n13_ n14_ n15_ n16_ n17_ n18_; clear hb hbox hg; have hnb25 := NB775_759.out; have hnc25 := NB759_775.out; have hnb26 := NB775_760.out; have hnc26 := NB760_775.out; have hnb27 := NB775_773.out; have hnc27 := NB773_775.out; have hnb28 := NB775_774.out; have hnc28 := NB774_775.out; have hcz29_0 := bc BK775 0; have hcz29_1 := bc BK775 1; have hcz29_2 := bc BK775 2; have hfz29_0 := qD BK775.out 0; have hfz29_1 := qD BK775.out 1; have hfz29_2 := qD BK775.out 2; have hcz30_0 := bc BK774 0; have hcz30_1 := bc BK774 1; have hfz30_0 := qD BK774.out 0; have hfz30_1 := qD BK774.out 1) | ((with_reducible refine qS (f := 73) rfl ?_); refine qq (some 26) rfl rfl Tryd.func73 (by kernel_rfl) rfl #[.agg #[.slice Ao18 t766.length co18, .slice Ao22 t769.length co22]] rfl (by (try simp only [List.map_toArray, List.map_cons, List.map_nil]); first | done | rfl | (simp only [List.length_drop, List.length_take]; rfl)) ?_; (with_reducible refine (qa.calls k _ _ t766 _ _ t769 t776 _ ?side1 ?side2 ?side3 ?side4 A5.out).mono ?_); (case side1 => refine (Kd.qf (e := 27) (base := w.heap.size) (ok := fun k_ => (((True ∧ k_ ≠ gb759) ∧ k_ ≠ gb760) ∧ k_ ≠ gb775)) (n := t766.length) (c := co18) ?_).2.2; exact (by (with_reducible repeat (first | apply Kd.qF | apply Kd.qE | apply Kd.qI)); exact (Kd.qh (Kd.R_far (p := ⟨gb775, 2, none⟩) (Kd.R_far (p := ⟨gb775, 1, none⟩) (Kd.R_far (p := ⟨gb775, 0, none⟩) (Kd.qh HO768.out (fun k_ hk => (⟨hk, hk.2⟩ : _ ∧ k_ ≠ gb775))) (fun _ hk => hk.2) (.int .i64 a1_0)) (fun _ hk => hk.2) (.int .i64 a1_1)) (fun _ hk => hk.2) (.int .i64 a1_2)) (fun _ h_ => h_.1)))); (case side2 => exact (Kd.qf HO768.out).2.1); (case side3 => refine (Kd.qf (e := 9) (base := w.heap.size) (ok := fun k_ => True) (n := t769.length) (c := co22) ?_).2.2; exact (by (with_reducible repeat (first | apply Kd.qF | apply Kd.qE | apply Kd.qI)); exact (Kd.qh (Kd.R_far (p := ⟨gb775, 2, none⟩) (Kd.R_far (p := ⟨gb775, 1, none⟩) (Kd.R_far (p := ⟨gb775, 0, none⟩) (Kd.qr HO771.out BK775.out (by decide)) (fun _ hk => hk.2) (.int .i64 a1_0)) (fun _ hk => hk.2) (.int .i64 a1_1)) (fun _ hk => hk.2) (.int .i64 a1_2)) (fun _ h_ => h_.1)))); (case side4 => exact (Kd.qf HO771.out).2.1); rintro e w31 ⟨v777, rfl, ho0, hb⟩; refine ⟨_, rfl, ?_⟩; have n0_ := Aside0.mk (Kd.qY (by (with_reducible repeat (first | apply Kd.qF | apply Kd.qE | apply Kd.qI)); exact (Kd.qh (Kd.R_far (p := ⟨gb775, 2, none⟩) (Kd.R_far (p := ⟨gb775, 1, none⟩) (Kd.R_far (p := ⟨gb775, 0, none⟩) (Kd.qr HO765.out BK775.out (by decide)) (fun _ hk => hk.2) (.int .i64 a1_0)) (fun _ hk => hk.2) (.int .i64 a1_1)) (fun _ hk => hk.2) (.int .i64 a1_2)) (fun _ h_ => h_.1))) hb); have n1_ := Aside0.mk (Kd.qY (by (with_reducible repeat (first | apply Kd.qF | apply Kd.qE | apply Kd.qI)); exact (Kd.qh (Kd.R_far (p := ⟨gb775, 2, none⟩) (Kd.R_far (p := ⟨gb775, 1, none⟩) (Kd.R_far (p := ⟨gb775, 0, none⟩) (Kd.qh HO768.out (fun k_ hk => (⟨hk, hk.2⟩ : _ ∧ k_ ≠ gb775))) (fun _ hk => hk.2) (.int .i64 a1_0)) (fun _ hk => hk.2) (.int .i64 a1_1)) (fun _ hk => hk.2) (.int .i64 a1_2)) (fun _ h_ => h_.1))) hb); have n2_ := Aside0.mk (Kd.qY (by (with_reducible repeat (first | apply Kd.qF | apply Kd.qE | apply Kd.qI)); exact (Kd.qh (Kd.R_far (p := ⟨gb775, 2, none⟩) (Kd.R_far (p := ⟨gb775, 1, none⟩) (Kd.R_far (p := ⟨gb775, 0, none⟩) (Kd.qr HO771.out BK775.out (by decide)) (fun _ hk => hk.2) (.int .i64 a1_0)) (fun _ hk => hk.2) (.int .i64 a1_1)) (fun _ hk => hk.2) (.int .i64 a1_2)) (fun _ h_ => h_.1))) hb); have n3_ := Aside0.mk (Kd.qBA ho0 (qg bl)); have n4_ := Aside0.mk (ql (g := gb759) (o := .cells #[.int .i64 a1_0, .int .i64 a1_1, .int .i64 a1_2] 27 (0, 0)) (by (with_reducible repeat (first | refine qB ?_ _ | refine qC ?_ | refine qA ?_ _)); refine qH ?_ NB759_775.out _; (with_reducible repeat (first | refine qB ?_ _ | refine qC ?_ | refine qA ?_ _)); refine qH ?_ NB759_775.out _; (with_reducible repeat (first | refine qB ?_ _ | refine qC ?_ | refine qA ?_ _)); refine qH ?_ NB759_775.out _; (with_reducible repeat (first | refine qB ?_ _ | refine qC ?_ | refine qA ?_ _)); exact BK759.out) hb); have n5_ := Aside0.mk (ql (g := gb760) (o := .cells #[.int .i64 0, .int .i64 0, .int .i64 0] 27 (0, 0)) (by (with_reducible repeat (first | refine qB ?_ _ | refine qC ?_ | refine qA ?_ _)); refine qH ?_ NB760_775.out _; (with_reducible repeat (first | refine qB ?_ _ | refine qC ?_ | refine qA ?_ _)); refine qH ?_ NB760_775.out _; (with_reducible repeat (first | refine qB ?_ _ | refine qC ?_ | refine qA ?_ _)); refine qH ?_ NB760_775.out _; (with_reducible repeat (first | refine qB ?_ _ | refine qC ?_ | refine qA ?_ _)); exact BK760.out) hb); have n6_ := Aside0.mk (ql (g := gb773) (o := .cells #[.int .i64 t761, .int .i64 t762, .slice Ao17 t763.length co17] 57 (0, 0)) (by (with_reducible repeat (first | refine qB ?_ _ | refine qC ?_ | refine qA ?_ _)); refine qH ?_ NB773_775.out _; (with_reducible repeat (first | refine qB ?_ _ | refine qC ?_ | refine qA ?_ _)); refine qH ?_ NB773_775.out _; (with_reducible repeat (first | refine qB ?_ _ | refine qC ?_ | refine qA ?_ _)); refine qH ?_ NB773_775.out _; (with_reducible repeat (first | refine qB ?_ _ | refine qC ?_ | refine qA ?_ _)); exact BK773.out) hb); have n7_ := Aside0.mk (ql (g := gb774) (o := .cells #[.slice Ao18 t766.length co18, .slice Ao22 t769.length co22] 75 (0, 0)) (by (with_reducible repeat (first | refine qB ?_ _ | refine qC ?_ | refine qA ?_ _)); refine qH ?_ NB774_775.out _; (with_reducible repeat (first | refine qB ?_ _ | refine qC ?_ | refine qA ?_ _)); refine qH ?_ NB774_775.out _; (with_reducible repeat (first | refine qB ?_ _ | refine qC ?_ | refine qA ?_ _)); refine qH ?_ NB774_775.out _; (with_reducible repeat (first | refine qB ?_ _ | refine qC ?_ | refine qA ?_ _)); exact BK774.out) hb); have n8_ := Aside0.mk (ql (g := gb775) (o := .cells #[.int .i64 a1_0, .int .i64 a1_1, .int .i64 a1_2] 27 (0, 0)) (by (with_reducible repeat (first | refine qB ?_ _ | refine qC ?_ | refine qA ?_ _)); refine qO (cs := #[.int .i64 a1_0, .int .i64 a1_1, .int .i64 0]) ?_ 2 _ rfl; (with_reducible repeat (first | refine qB ?_ _ | refine qC ?_ | refine qA ?_ _)); refine qO (cs := #[.int .i64 a1_0, .int .i64 0, .int .i64 0]) ?_ 1 _ rfl; (with_reducible repeat (first | refine qB ?_ _ | refine qC ?_ | refine qA ?_ _)); refine qO (cs := #[.int .i64 0, .int .i64 0, .int .i64 0]) ?_ 0 _ rfl; (with_reducible repeat (first | refine qB ?_ _ | refine qC ?_ | refine qA ?_ _)); exact BK775.out) hb); have n9_ := Aside0.mk (qG bl hb); clear HO765; clear HO768; clear HO771; clear BK759; clear BK760; clear BK773; clear BK774; clear BK775; clear HB; have HO765 := n0_; have HO768 := n1_; have HO771 := n2_; have HO778 := n3_; have BK759 := n4_; have BK760 := n5_; have BK773 := n6_; have BK774 := n7_; have BK775 := n8_; have HB := n9_; clear n0_ n1_ n2_ n3_ n4_ n5_ n6_ n7_ n8_ n9_; (try clear hb); (try clear hb2); (try clear hk); (try clear hi); (try clear ho0); obtain ⟨Ao32, co32, eo32⟩ := Kd.qt HO778.out; subst eo32))
  go_loopg [11, 28] k (fun kq v11 v28 w' => ∃ (x11_1 : Int) (x28_1 : Int) (x776000_1 : Int) (x776001_1 : Int) (x776002_1 : Int), v11 = .int .i64 x11_1 ∧ v28 = .int .i64 x28_1 ∧ Aside0 (qk.l0 kq x11_1 t776 (t776.length : Int) x28_1 t766 t769 x776000_1 x776001_1 x776002_1 = some (r1, r2, r3, r4, r5)) ∧ Aside0 (kq ≤ k) ∧ Aside0 (Kd.R (Kd.int .i64) 3 w' w.heap.size (fun _ => True) (.slice Ao32 t776.length co32) t776) ∧ Aside0 (Kd.R (Kd.int .u8) 5 w' w.heap.size (fun _ => True) (.slice Ao17 t763.length co17) t763) ∧ Aside0 (Kd.R k27 27 w' w.heap.size (fun k_ => k_ ≠ gb759 ∧ k_ ≠ gb760 ∧ k_ ≠ gb775) (.slice Ao18 t766.length co18) t766) ∧ Aside0 (Kd.R Kd.string 9 w' w.heap.size (fun _ => True) (.slice Ao22 t769.length co22) t769) ∧ Aside0 (w'.heap[gb759]? = some (.cells #[.int .i64 a1_0, .int .i64 a1_1, .int .i64 a1_2] 27 (0, 0))) ∧ Aside0 (w'.heap[gb760]? = some (.cells #[.int .i64 0, .int .i64 0, .int .i64 0] 27 (0, 0))) ∧ Aside0 (w'.heap[gb773]? = some (.cells #[.int .i64 t761, .int .i64 t762, (.slice Ao17 t763.length co17)] 57 (0, 0))) ∧ Aside0 (w'.heap[gb774]? = some (.cells #[(.slice Ao18 t766.length co18), (.slice Ao22 t769.length co22)] 75 (0, 0))) ∧ Aside0 (w'.heap[gb775]? = some (.cells #[.int .i64 x776000_1, .int .i64 x776001_1, .int .i64 x776002_1] 27 (0, 0))) ∧ Aside0 (Below w.heap.size w w'))
  case atStart => exact ⟨((-1)), (0), (a1_0), (a1_1), (a1_2), (by first | rfl | (simp; done) | (simp [*]; done)), (by first | rfl | (simp; done) | (simp [*]; done)), H', ⟨Nat.le_refl _⟩, ⟨by (with_reducible repeat (first | apply Kd.qF | apply Kd.qE | apply Kd.qI)); exact HO778.out⟩, ⟨by (with_reducible repeat (first | apply Kd.qF | apply Kd.qE | apply Kd.qI)); exact HO765.out⟩, ⟨by (with_reducible repeat (first | apply Kd.qF | apply Kd.qE | apply Kd.qI)); exact Kd.qh HO768.out (fun _ hk => ⟨hk.1.1.2, ⟨hk.1.2, hk.2⟩⟩)⟩, ⟨by (with_reducible repeat (first | apply Kd.qF | apply Kd.qE | apply Kd.qI)); exact HO771.out⟩, ⟨by (with_reducible repeat (first | refine qB ?_ _ | refine qC ?_ | refine qA ?_ _)); exact BK759.out⟩, ⟨by (with_reducible repeat (first | refine qB ?_ _ | refine qC ?_ | refine qA ?_ _)); exact BK760.out⟩, ⟨by (with_reducible repeat (first | refine qB ?_ _ | refine qC ?_ | refine qA ?_ _)); exact BK773.out⟩, ⟨by (with_reducible repeat (first | refine qB ?_ _ | refine qC ?_ | refine qA ?_ _)); exact BK774.out⟩, ⟨by (with_reducible repeat (first | refine qB ?_ _ | refine qC ?_ | refine qA ?_ _)); exact BK775.out⟩, ⟨bl⟩⟩
  case round =>
   clear H'
   try clear c1
   try clear c2
   try clear p2
   try clear c4
   try clear c6
   try clear c7
   try clear c8
   try clear c13
   try clear c14
   try clear c15
   try clear c19
   try clear c20
   try clear c25
   try clear c26
   try clear c27
   try clear c28
   try clear hcz16_0
   try clear hcz16_1
   try clear hcz16_2
   try clear hcz21_0
   try clear hcz21_1
   try clear hcz23_0
   try clear hcz23_1
   try clear hcz23_2
   try clear hcz29_0
   try clear hcz29_1
   try clear hcz29_2
   try clear hcz30_0
   try clear hcz30_1
   try clear hcz9_0
   try clear hcz9_1
   try clear hcz9_2
   try clear hfz16_0
   try clear hfz16_1
   try clear hfz16_2
   try clear hfz21_0
   try clear hfz21_1
   try clear hfz23_0
   try clear hfz23_1
   try clear hfz23_2
   try clear hfz29_0
   try clear hfz29_1
   try clear hfz29_2
   try clear hfz30_0
   try clear hfz30_1
   try clear hfz9_0
   try clear hfz9_1
   try clear hfz9_2
   obtain ⟨x11_1, x28_1, x776000_1, x776001_1, x776002_1, rfl, rfl, HA, HK1, HO_26, HO_774002, HO_775000, HO_775001, BK759, BK760, BK773, BK774, BK775, HB⟩ := hrel
   cases gk with
   | zero => exact absurd HA.out (by simp [qk.l0])
   | succ k1 =>
    have H := HA.out
    clear HA
    simp only [qk.l0] at H
    by_cases c33 : x28_1 < (t776.length : Int)
    ·rw [if_pos c33] at H
     have c33b0 : decide (x28_1 < (t776.length : Int)) = true := decide_eq_true c33
     clear c33
     by_cases c34 : 0 ≤ x28_1
     ·rw [if_pos c34] at H
      have c34b0 : decide (0 ≤ x28_1) = true := decide_eq_true c34
      clear c34
      by_cases c35 : x28_1 < (t776.length : Int)
      ·rw [if_pos c35] at H
       have c35b0 : decide (x28_1 < (t776.length : Int)) = true := decide_eq_true c35
       clear c35
       by_cases c36 : 0 ≤ (rd t776 x28_1)
       ·rw [if_pos c36] at H
        have c36b0 : decide (0 ≤ (rd t776 x28_1)) = true := decide_eq_true c36
        clear c36
        by_cases c37 : (rd t776 x28_1) < (t769.length : Int)
        ·rw [if_pos c37] at H
         have c37b0 : decide ((rd t776 x28_1) < (t769.length : Int)) = true := decide_eq_true c37
         clear c37
         by_cases c38 : ((rdOf ByteArray.empty t769 (rd t776 x28_1)).size : Int) > x11_1
         ·rw [if_pos c38] at H
          have c38b0 : decide (x11_1 < ((rdOf ByteArray.empty t769 (rd t776 x28_1)).size : Int)) = true := decide_eq_true c38
          clear c38
          by_cases c39 : (rd t776 x28_1) < (t766.length : Int)
          ·rw [if_pos c39] at H
           have c39b0 : decide ((rd t776 x28_1) < (t766.length : Int)) = true := decide_eq_true c39
           clear c39
           have H' := Aside0.mk H
           clear H
           have p779 : 0 ≤ (x28_1 : Int) := of_decide_eq_true (by first | (with_reducible assumption) | assumption)
           have q779 : x28_1 < (t776.length : Int) := of_decide_eq_true (by first | (with_reducible assumption) | assumption)
           obtain ⟨ad779, e779, hx779_0⟩ := Kd.qvA (Kd.qf HO_26.out).2.2 x28_1 p779 q779
           cases e779
           replace p779 := eq_true p779
           replace q779 := eq_true q779
           have hnb40 := NB774_759.out
           have hnc40 := NB759_774.out
           have hnb41 := NB774_760.out
           have hnc41 := NB760_774.out
           have hnb42 := NB774_773.out
           have hnc42 := NB773_774.out
           have hnb43 := NB774_775.out
           have hnc43 := NB775_774.out
           have hcz44_0 := bc BK774 0
           have hcz44_1 := bc BK774 1
           have hfz44_0 := qD BK774.out 0
           have hfz44_1 := qD BK774.out 1
           have p780 : 0 ≤ ((rd t776 x28_1) : Int) := of_decide_eq_true (by first | (with_reducible assumption) | assumption)
           have q780 : (rd t776 x28_1) < (t769.length : Int) := of_decide_eq_true (by first | (with_reducible assumption) | assumption)
           obtain ⟨ad780, e780, hx780_0⟩ := Kd.qdA (Kd.qf HO_775001.out).2.2 (rd t776 x28_1) p780 q780
           cases e780
           replace p780 := eq_true p780
           replace q780 := eq_true q780
           have p781 : 0 ≤ ((rd t776 x28_1) : Int) := of_decide_eq_true (by first | (with_reducible assumption) | assumption)
           have q781 : (rd t776 x28_1) < (t766.length : Int) := of_decide_eq_true (by first | (with_reducible assumption) | assumption)
           obtain ⟨ad781, e781, hx781_0, hx781_1, hx781_2⟩ := qFB (Kd.qf HO_775000.out).2.2 (rd t776 x28_1) p781 q781
           cases e781
           replace p781 := eq_true p781
           replace q781 := eq_true q781
           have hnb45 := NB775_759.out
           have hnc45 := NB759_775.out
           have hnb46 := NB775_760.out
           have hnc46 := NB760_775.out
           have hnb47 := NB775_773.out
           have hnc47 := NB773_775.out
           have hcz48_0 := bc BK775 0
           have hcz48_1 := bc BK775 1
           have hcz48_2 := bc BK775 2
           have hfz48_0 := qD BK775.out 0
           have hfz48_1 := qD BK775.out 1
           have hfz48_2 := qD BK775.out 2
           have p782 : 0 ≤ ((rd t776 x28_1) : Int) := of_decide_eq_true (by first | (with_reducible assumption) | assumption)
           have q782 : (rd t776 x28_1) < (t769.length : Int) := of_decide_eq_true (by first | (with_reducible assumption) | assumption)
           obtain ⟨ad782, e782, hx782_0⟩ := Kd.qdA (Kd.qf HO_775001.out).2.2 (rd t776 x28_1) p782 q782
           obtain rfl : ad780 = ad782 := (by injection e782)
           have hn782_0 : ad780.block ≠ gb775 := Kd.qN (Kd.R_ne HO_775001.out BK775.out (by decide))
           have hn782_1 : ad780.block ≠ gb775 := Kd.qN (Kd.R_ne HO_775001.out BK775.out (by decide))
           have hn782_2 : ad780.block ≠ gb775 := Kd.qN (Kd.R_ne HO_775001.out BK775.out (by decide))
           replace hx782_0 := (qQ (p := ⟨gb775, 0, none⟩) (by first | (rw [qP]; exact hn782_0) | (show (Addr.add _ _).block ≠ _; rw [qP]; exact hn782_0) | exact hn782_0) (.int .i64 ((qJ t766 (rd t776 x28_1)).f0))).trans hx782_0
           replace hx782_0 := (qQ (p := ⟨gb775, 1, none⟩) (by first | (rw [qP]; exact hn782_1) | (show (Addr.add _ _).block ≠ _; rw [qP]; exact hn782_1) | exact hn782_1) (.int .i64 ((qJ t766 (rd t776 x28_1)).f1))).trans hx782_0
           replace hx782_0 := (qQ (p := ⟨gb775, 2, none⟩) (by first | (rw [qP]; exact hn782_2) | (show (Addr.add _ _).block ≠ _; rw [qP]; exact hn782_2) | exact hn782_2) (.int .i64 ((qJ t766 (rd t776 x28_1)).f2))).trans hx782_0
           clear hn782_0
           clear hn782_1
           clear hn782_2
           replace p782 := eq_true p782
           replace q782 := eq_true q782
           go_wp2
           go_roundg k1
           case measure => have := HK1.out; omega
           case rel => exact ⟨(((rdOf ByteArray.empty t769 (rd t776 x28_1)).size : Int)), (wrap64 (x28_1 + 1)), ((qJ t766 (rd t776 x28_1)).f0), ((qJ t766 (rd t776 x28_1)).f1), ((qJ t766 (rd t776 x28_1)).f2), (by first | rfl | (simp; done) | (simp [*]; done)), (by first | rfl | (simp; done) | (simp [*]; done)), H', ⟨by have := HK1.out; omega⟩, ⟨by (with_reducible repeat (first | apply Kd.qF | apply Kd.qE | apply Kd.qI)); exact Kd.qh (Kd.R_far (p := ⟨gb775, 2, none⟩) (Kd.R_far (p := ⟨gb775, 1, none⟩) (Kd.R_far (p := ⟨gb775, 0, none⟩) (Kd.qr HO_26.out BK775.out (by decide)) (fun _ hk => hk.2) (.int .i64 ((qJ t766 (rd t776 x28_1)).f0))) (fun _ hk => hk.2) (.int .i64 ((qJ t766 (rd t776 x28_1)).f1))) (fun _ hk => hk.2) (.int .i64 ((qJ t766 (rd t776 x28_1)).f2))) (fun _ hk => trivial)⟩, ⟨by (with_reducible repeat (first | apply Kd.qF | apply Kd.qE | apply Kd.qI)); exact Kd.qh (Kd.R_far (p := ⟨gb775, 2, none⟩) (Kd.R_far (p := ⟨gb775, 1, none⟩) (Kd.R_far (p := ⟨gb775, 0, none⟩) (Kd.qr HO_774002.out BK775.out (by decide)) (fun _ hk => hk.2) (.int .i64 ((qJ t766 (rd t776 x28_1)).f0))) (fun _ hk => hk.2) (.int .i64 ((qJ t766 (rd t776 x28_1)).f1))) (fun _ hk => hk.2) (.int .i64 ((qJ t766 (rd t776 x28_1)).f2))) (fun _ hk => trivial)⟩, ⟨by (with_reducible repeat (first | apply Kd.qF | apply Kd.qE | apply Kd.qI)); exact Kd.qh (Kd.R_far (p := ⟨gb775, 2, none⟩) (Kd.R_far (p := ⟨gb775, 1, none⟩) (Kd.R_far (p := ⟨gb775, 0, none⟩) (Kd.qh HO_775000.out (fun k_ hk => (⟨hk, hk.2.2⟩ : _ ∧ k_ ≠ gb775))) (fun _ hk => hk.2) (.int .i64 ((qJ t766 (rd t776 x28_1)).f0))) (fun _ hk => hk.2) (.int .i64 ((qJ t766 (rd t776 x28_1)).f1))) (fun _ hk => hk.2) (.int .i64 ((qJ t766 (rd t776 x28_1)).f2))) (fun _ hk => ⟨hk.1.1, ⟨hk.1.2.1, hk.1.2.2⟩⟩)⟩, ⟨by (with_reducible repeat (first | apply Kd.qF | apply Kd.qE | apply Kd.qI)); exact Kd.qh (Kd.R_far (p := ⟨gb775, 2, none⟩) (Kd.R_far (p := ⟨gb775, 1, none⟩) (Kd.R_far (p := ⟨gb775, 0, none⟩) (Kd.qr HO_775001.out BK775.out (by decide)) (fun _ hk => hk.2) (.int .i64 ((qJ t766 (rd t776 x28_1)).f0))) (fun _ hk => hk.2) (.int .i64 ((qJ t766 (rd t776 x28_1)).f1))) (fun _ hk => hk.2) (.int .i64 ((qJ t766 (rd t776 x28_1)).f2))) (fun _ hk => trivial)⟩, ⟨by (with_reducible repeat (first | refine qB ?_ _ | refine qC ?_ | refine qA ?_ _)); refine qH ?_ NB759_775.out _; (with_reducible repeat (first | refine qB ?_ _ | refine qC ?_ | refine qA ?_ _)); refine qH ?_ NB759_775.out _; (with_reducible repeat (first | refine qB ?_ _ | refine qC ?_ | refine qA ?_ _)); refine qH ?_ NB759_775.out _; (with_reducible repeat (first | refine qB ?_ _ | refine qC ?_ | refine qA ?_ _)); exact BK759.out⟩, ⟨by (with_reducible repeat (first | refine qB ?_ _ | refine qC ?_ | refine qA ?_ _)); refine qH ?_ NB760_775.out _; (with_reducible repeat (first | refine qB ?_ _ | refine qC ?_ | refine qA ?_ _)); refine qH ?_ NB760_775.out _; (with_reducible repeat (first | refine qB ?_ _ | refine qC ?_ | refine qA ?_ _)); refine qH ?_ NB760_775.out _; (with_reducible repeat (first | refine qB ?_ _ | refine qC ?_ | refine qA ?_ _)); exact BK760.out⟩, ⟨by (with_reducible repeat (first | refine qB ?_ _ | refine qC ?_ | refine qA ?_ _)); refine qH ?_ NB773_775.out _; (with_reducible repeat (first | refine qB ?_ _ | refine qC ?_ | refine qA ?_ _)); refine qH ?_ NB773_775.out _; (with_reducible repeat (first | refine qB ?_ _ | refine qC ?_ | refine qA ?_ _)); refine qH ?_ NB773_775.out _; (with_reducible repeat (first | refine qB ?_ _ | refine qC ?_ | refine qA ?_ _)); exact BK773.out⟩, ⟨by (with_reducible repeat (first | refine qB ?_ _ | refine qC ?_ | refine qA ?_ _)); refine qH ?_ NB774_775.out _; (with_reducible repeat (first | refine qB ?_ _ | refine qC ?_ | refine qA ?_ _)); refine qH ?_ NB774_775.out _; (with_reducible repeat (first | refine qB ?_ _ | refine qC ?_ | refine qA ?_ _)); refine qH ?_ NB774_775.out _; (with_reducible repeat (first | refine qB ?_ _ | refine qC ?_ | refine qA ?_ _)); exact BK774.out⟩, ⟨by (with_reducible repeat (first | refine qB ?_ _ | refine qC ?_ | refine qA ?_ _)); refine qO (cs := #[.int .i64 ((qJ t766 (rd t776 x28_1)).f0), .int .i64 ((qJ t766 (rd t776 x28_1)).f1), .int .i64 x776002_1]) ?_ 2 _ rfl; (with_reducible repeat (first | refine qB ?_ _ | refine qC ?_ | refine qA ?_ _)); refine qO (cs := #[.int .i64 ((qJ t766 (rd t776 x28_1)).f0), .int .i64 x776001_1, .int .i64 x776002_1]) ?_ 1 _ rfl; (with_reducible repeat (first | refine qB ?_ _ | refine qC ?_ | refine qA ?_ _)); refine qO (cs := #[.int .i64 x776000_1, .int .i64 x776001_1, .int .i64 x776002_1]) ?_ 0 _ rfl; (with_reducible repeat (first | refine qB ?_ _ | refine qC ?_ | refine qA ?_ _)); exact BK775.out⟩, ⟨bl⟩⟩
          ·rw [if_neg c39] at H
           exact absurd H (by simp)
         ·rw [if_neg c38] at H
          have c38b0 : decide (x11_1 < ((rdOf ByteArray.empty t769 (rd t776 x28_1)).size : Int)) = false := decide_eq_false c38
          clear c38
          have H' := Aside0.mk H
          clear H
          have p779 : 0 ≤ (x28_1 : Int) := of_decide_eq_true (by first | (with_reducible assumption) | assumption)
          have q779 : x28_1 < (t776.length : Int) := of_decide_eq_true (by first | (with_reducible assumption) | assumption)
          obtain ⟨ad779, e779, hx779_0⟩ := Kd.qvA (Kd.qf HO_26.out).2.2 x28_1 p779 q779
          cases e779
          replace p779 := eq_true p779
          replace q779 := eq_true q779
          have hnb49 := NB774_759.out
          have hnc49 := NB759_774.out
          have hnb50 := NB774_760.out
          have hnc50 := NB760_774.out
          have hnb51 := NB774_773.out
          have hnc51 := NB773_774.out
          have hnb52 := NB774_775.out
          have hnc52 := NB775_774.out
          have hcz53_0 := bc BK774 0
          have hcz53_1 := bc BK774 1
          have hfz53_0 := qD BK774.out 0
          have hfz53_1 := qD BK774.out 1
          have p780 : 0 ≤ ((rd t776 x28_1) : Int) := of_decide_eq_true (by first | (with_reducible assumption) | assumption)
          have q780 : (rd t776 x28_1) < (t769.length : Int) := of_decide_eq_true (by first | (with_reducible assumption) | assumption)
          obtain ⟨ad780, e780, hx780_0⟩ := Kd.qdA (Kd.qf HO_775001.out).2.2 (rd t776 x28_1) p780 q780
          cases e780
          replace p780 := eq_true p780
          replace q780 := eq_true q780
          go_wp2
          go_roundg k1
          case measure => have := HK1.out; omega
          case rel => exact ⟨(x11_1), (wrap64 (x28_1 + 1)), (x776000_1), (x776001_1), (x776002_1), (by first | rfl | (simp; done) | (simp [*]; done)), (by first | rfl | (simp; done) | (simp [*]; done)), H', ⟨by have := HK1.out; omega⟩, ⟨by (with_reducible repeat (first | apply Kd.qF | apply Kd.qE | apply Kd.qI)); exact HO_26.out⟩, ⟨by (with_reducible repeat (first | apply Kd.qF | apply Kd.qE | apply Kd.qI)); exact HO_774002.out⟩, ⟨by (with_reducible repeat (first | apply Kd.qF | apply Kd.qE | apply Kd.qI)); exact HO_775000.out⟩, ⟨by (with_reducible repeat (first | apply Kd.qF | apply Kd.qE | apply Kd.qI)); exact HO_775001.out⟩, ⟨by (with_reducible repeat (first | refine qB ?_ _ | refine qC ?_ | refine qA ?_ _)); exact BK759.out⟩, ⟨by (with_reducible repeat (first | refine qB ?_ _ | refine qC ?_ | refine qA ?_ _)); exact BK760.out⟩, ⟨by (with_reducible repeat (first | refine qB ?_ _ | refine qC ?_ | refine qA ?_ _)); exact BK773.out⟩, ⟨by (with_reducible repeat (first | refine qB ?_ _ | refine qC ?_ | refine qA ?_ _)); exact BK774.out⟩, ⟨by (with_reducible repeat (first | refine qB ?_ _ | refine qC ?_ | refine qA ?_ _)); exact BK775.out⟩, ⟨bl⟩⟩
        ·rw [if_neg c37] at H
         exact absurd H (by simp)
       ·rw [if_neg c36] at H
        exact absurd H (by simp)
      ·rw [if_neg c35] at H
       exact absurd H (by simp)
     ·rw [if_neg c34] at H
      exact absurd H (by simp)
    ·rw [if_neg c33] at H
     have c33b0 : decide (x28_1 < (t776.length : Int)) = false := decide_eq_false c33
     clear c33
     simp only [Option.some.injEq, Prod.mk.injEq] at H
     obtain ⟨rfl, rfl, rfl, rfl, rfl⟩ := H
     have hnb54 := NB775_759.out
     have hnc54 := NB759_775.out
     have hnb55 := NB775_760.out
     have hnc55 := NB760_775.out
     have hnb56 := NB775_773.out
     have hnc56 := NB773_775.out
     have hnb57 := NB775_774.out
     have hnc57 := NB774_775.out
     have hcz58_0 := bc BK775 0
     have hcz58_1 := bc BK775 1
     have hcz58_2 := bc BK775 2
     have hfz58_0 := qD BK775.out 0
     have hfz58_1 := qD BK775.out 1
     have hfz58_2 := qD BK775.out 2
     have hnb59 := NB760_759.out
     have hnc59 := NB759_760.out
     have hnb60 := NB760_773.out
     have hnc60 := NB773_760.out
     have hnb61 := NB760_774.out
     have hnc61 := NB774_760.out
     have hcz62_0 := bc BK760 0
     have hcz62_1 := bc BK760 1
     have hcz62_2 := bc BK760 2
     have hfz62_0 := qD BK760.out 0
     have hfz62_1 := qD BK760.out 1
     have hfz62_2 := qD BK760.out 2
     go_wp2
     refine bodyPost_ret (qUB rfl _ _ gb760 27 #[.int .i64 x776000_1, .int .i64 x776001_1, .int .i64 x776002_1] (0, 0) _ rfl (by (with_reducible repeat (first | refine qB ?_ _ | refine qC ?_ | refine qA ?_ _)); refine qO (cs := #[.int .i64 x776000_1, .int .i64 x776001_1, .int .i64 0]) ?_ 2 _ rfl; (with_reducible repeat (first | refine qB ?_ _ | refine qC ?_ | refine qA ?_ _)); refine qO (cs := #[.int .i64 x776000_1, .int .i64 0, .int .i64 0]) ?_ 1 _ rfl; (with_reducible repeat (first | refine qB ?_ _ | refine qC ?_ | refine qA ?_ _)); refine qO (cs := #[.int .i64 0, .int .i64 0, .int .i64 0]) ?_ 0 _ rfl; (with_reducible repeat (first | refine qB ?_ _ | refine qC ?_ | refine qA ?_ _)); exact BK760.out) Tryd.underlying27 rfl (by kernel_rfl)) rfl ?_
     exact ⟨by first | rfl | (simp [qM, qL] <;> rfl) | (simp [*, qM, qL] <;> rfl), bl⟩
 ·replace c4 := Bool.eq_false_iff.mpr c4
  subst c4
  have H1 : (some (0, 0, 0, 0, false)) = some (r1, r2, r3, r4, r5) := by rw [if_neg (show ¬ (false = true) by decide)] at H; exact H
  clear H
  have H := H1
  clear H1
  simp only [Option.some.injEq, Prod.mk.injEq] at H
  obtain ⟨rfl, rfl, rfl, rfl, rfl⟩ := H
  go_enter Tryd.func41, Tryd.ntmps41
  go_wp2_with (first | ((with_reducible refine qV (N := 3) rfl ?_); refine qU ?hg (N := 3) ?hd (cs := #[.int .i64 a1_0, .int .i64 a1_1, .int .i64 a1_2]) (t := 27) ?hr ?_; (case hd => rfl); (case hg => rfl); (case hr => first | (go_simp; done) | (go_simp; rfl)); intro gb759 hg w63 hbox hb; have n0_ := Aside0.mk (qG bl hb); have n1_ := Aside0.mk (hbox); have n2_ := Aside0.mk ((gg hg)); have n3_ := Aside0.mk ((gg hg)); clear HB; have HB := n0_; have BK759 := n1_; have GW759 := n2_; have GE759 := n3_; clear n0_ n1_ n2_ n3_; clear hb hbox hg) | ((with_reducible refine qV (N := 4) rfl ?_); refine qU ?hg (N := 4) ?hd (cs := #[.int .i64 0, .int .i64 0, .int .i64 0]) (t := 27) ?hr ?_; (case hd => rfl); (case hg => rfl); (case hr => first | (go_simp; done) | (go_simp; rfl)); intro gb760 hg w64 hbox hb; have n0_ := Aside0.mk (bb BK759 hb); have n1_ := Aside0.mk (qG bl hb); have n2_ := Aside0.mk (hbox); have n3_ := Aside0.mk ((gg hg)); have n4_ := Aside0.mk ((gg hg)); have n5_ := Aside0.mk ((nl BK759 hg)); have n6_ := Aside0.mk ((nr BK759 hg)); clear BK759; clear HB; have BK759 := n0_; have HB := n1_; have BK760 := n2_; have GW760 := n3_; have GE760 := n4_; have NB759_760 := n5_; have NB760_759 := n6_; clear n0_ n1_ n2_ n3_ n4_ n5_ n6_; clear hb hbox hg; have hnb65 := NB759_760.out; have hnc65 := NB760_759.out; have hcz66_0 := bc BK759 0; have hcz66_1 := bc BK759 1; have hcz66_2 := bc BK759 2; have hfz66_0 := qD BK759.out 0; have hfz66_1 := qD BK759.out 1; have hfz66_2 := qD BK759.out 2) | ((with_reducible refine qS (f := 65) rfl ?_); refine qq (some 17) rfl rfl Tryd.func65 (by kernel_rfl) rfl #[.string a0, .agg #[.int .i64 a1_0, .int .i64 a1_1, .int .i64 a1_2]] rfl (by (try simp only [List.map_toArray, List.map_cons, List.map_nil]); first | done | rfl | (simp only [List.length_drop, List.length_take]; rfl)) ?_; (with_reducible refine (qZA.calls k a0 a1_0 a1_1 a1_2 t761 t762 t763 t766 t769 false _ A3.out).mono ?_); rintro e w67 ⟨v764, v767, v770, rfl, ho0, ho1, ho2, hb⟩; refine ⟨_, rfl, ?_⟩; have n0_ := Aside0.mk (Kd.qBA ho0 (qg bl)); have n1_ := Aside0.mk (Kd.qBA (Kd.qMB (Kd.qMB ho1 (g := gb759) (o := .cells #[.int .i64 a1_0, .int .i64 a1_1, .int .i64 a1_2] 27 (0, 0)) (by (with_reducible repeat (first | refine qB ?_ _ | refine qC ?_ | refine qA ?_ _)); exact BK759.out)) (g := gb760) (o := .cells #[.int .i64 0, .int .i64 0, .int .i64 0] 27 (0, 0)) (by (with_reducible repeat (first | refine qB ?_ _ | refine qC ?_ | refine qA ?_ _)); exact BK760.out)) (qg bl)); have n2_ := Aside0.mk (Kd.qBA ho2 (qg bl)); have n3_ := Aside0.mk (bb BK759 hb); have n4_ := Aside0.mk (bb BK760 hb); have n5_ := Aside0.mk (qG bl hb); clear BK759; clear BK760; clear HB; have HO765 := n0_; have HO768 := n1_; have HO771 := n2_; have BK759 := n3_; have BK760 := n4_; have HB := n5_; clear n0_ n1_ n2_ n3_ n4_ n5_; (try clear hb); (try clear hb2); (try clear hk); (try clear hi); (try clear ho0); (try clear ho1); (try clear ho2)) | ((with_reducible refine qV (N := 7) rfl ?_); refine qU ?hg (N := 7) ?hd (cs := #[.int .i64 0, .int .i64 0, .slice none 0 0]) (t := 57) ?hr ?_; (case hd => rfl); (case hg => rfl); (case hr => first | (go_simp; done) | (go_simp; rfl)); intro gb773 hg w68 hbox hb; have n0_ := Aside0.mk (Kd.qY (by (with_reducible repeat (first | apply Kd.qF | apply Kd.qE | apply Kd.qI)); exact HO765.out) hb); have n1_ := Aside0.mk (Kd.qY (by (with_reducible repeat (first | apply Kd.qF | apply Kd.qE | apply Kd.qI)); exact HO768.out) hb); have n2_ := Aside0.mk (Kd.qY (by (with_reducible repeat (first | apply Kd.qF | apply Kd.qE | apply Kd.qI)); exact HO771.out) hb); have n3_ := Aside0.mk (bb BK759 hb); have n4_ := Aside0.mk (bb BK760 hb); have n5_ := Aside0.mk (qG bl hb); have n6_ := Aside0.mk (hbox); have n7_ := Aside0.mk ((gg hg)); have n8_ := Aside0.mk ((gg hg)); have n9_ := Aside0.mk ((nl BK759 hg)); have n10_ := Aside0.mk ((nr BK759 hg)); have n11_ := Aside0.mk ((nl BK760 hg)); have n12_ := Aside0.mk ((nr BK760 hg)); clear HO765; clear HO768; clear HO771; clear BK759; clear BK760; clear HB; have HO765 := n0_; have HO768 := n1_; have HO771 := n2_; have BK759 := n3_; have BK760 := n4_; have HB := n5_; have BK773 := n6_; have GW773 := n7_; have GE773 := n8_; have NB759_773 := n9_; have NB773_759 := n10_; have NB760_773 := n11_; have NB773_760 := n12_; clear n0_ n1_ n2_ n3_ n4_ n5_ n6_ n7_ n8_ n9_ n10_ n11_ n12_; clear hb hbox hg) | ((with_reducible refine qV (N := 8) rfl ?_); refine qU ?hg (N := 8) ?hd (cs := #[.slice none 0 0, .slice none 0 0]) (t := 75) ?hr ?_; (case hd => rfl); (case hg => rfl); (case hr => first | (go_simp; done) | (go_simp; rfl)); intro gb774 hg w69 hbox hb; have n0_ := Aside0.mk (Kd.qY (by (with_reducible repeat (first | apply Kd.qF | apply Kd.qE | apply Kd.qI)); exact HO765.out) hb); have n1_ := Aside0.mk (Kd.qY (by (with_reducible repeat (first | apply Kd.qF | apply Kd.qE | apply Kd.qI)); exact HO768.out) hb); have n2_ := Aside0.mk (Kd.qY (by (with_reducible repeat (first | apply Kd.qF | apply Kd.qE | apply Kd.qI)); exact HO771.out) hb); have n3_ := Aside0.mk (bb BK759 hb); have n4_ := Aside0.mk (bb BK760 hb); have n5_ := Aside0.mk (bb BK773 hb); have n6_ := Aside0.mk (qG bl hb); have n7_ := Aside0.mk (hbox); have n8_ := Aside0.mk ((gg hg)); have n9_ := Aside0.mk ((gg hg)); have n10_ := Aside0.mk ((nl BK759 hg)); have n11_ := Aside0.mk ((nr BK759 hg)); have n12_ := Aside0.mk ((nl BK760 hg)); have n13_ := Aside0.mk ((nr BK760 hg)); have n14_ := Aside0.mk ((nl BK773 hg)); have n15_ := Aside0.mk ((nr BK773 hg)); clear HO765; clear HO768; clear HO771; clear BK759; clear BK760; clear BK773; clear HB; have HO765 := n0_; have HO768 := n1_; have HO771 := n2_; have BK759 := n3_; have BK760 := n4_; have BK773 := n5_; have HB := n6_; have BK774 := n7_; have GW774 := n8_; have GE774 := n9_; have NB759_774 := n10_; have NB774_759 := n11_; have NB760_774 := n12_; have NB774_760 := n13_; have NB773_774 := n14_; have NB774_773 := n15_; clear n0_ n1_ n2_ n3_ n4_ n5_ n6_ n7_ n8_ n9_ n10_ n11_ n12_ n13_ n14_ n15_; clear hb hbox hg; have hnb70 := NB773_759.out; have hnc70 := NB759_773.out; have hnb71 := NB773_760.out; have hnc71 := NB760_773.out; have hnb72 := NB773_774.out; have hnc72 := NB774_773.out; have hcz73_0 := bc BK773 0; have hcz73_1 := bc BK773 1; have hcz73_2 := bc BK773 2; have hfz73_0 := qD BK773.out 0; have hfz73_1 := qD BK773.out 1; have hfz73_2 := qD BK773.out 2; obtain ⟨Ao74, co74, eo74⟩ := Kd.qt HO765.out; subst eo74; obtain ⟨Ao75, co75, eo75⟩ := Kd.qt HO768.out; subst eo75; have hnb76 := NB774_759.out; have hnc76 := NB759_774.out; have hnb77 := NB774_760.out; have hnc77 := NB760_774.out; have hcz78_0 := bc BK774 0; have hcz78_1 := bc BK774 1; have hfz78_0 := qD BK774.out 0; have hfz78_1 := qD BK774.out 1; obtain ⟨Ao79, co79, eo79⟩ := Kd.qt HO771.out; subst eo79; have hcz80_0 := bc BK760 0; have hcz80_1 := bc BK760 1; have hcz80_2 := bc BK760 2; have hfz80_0 := qD BK760.out 0; have hfz80_1 := qD BK760.out 1; have hfz80_2 := qD BK760.out 2))
  refine bodyPost_ret (qUB rfl _ _ gb760 27 #[.int .i64 0, .int .i64 0, .int .i64 0] (0, 0) _ rfl (by (with_reducible repeat (first | refine qB ?_ _ | refine qC ?_ | refine qA ?_ _)); refine qO (cs := #[.int .i64 0, .int .i64 0, .int .i64 0]) ?_ 2 _ rfl; (with_reducible repeat (first | refine qB ?_ _ | refine qC ?_ | refine qA ?_ _)); refine qO (cs := #[.int .i64 0, .int .i64 0, .int .i64 0]) ?_ 1 _ rfl; (with_reducible repeat (first | refine qB ?_ _ | refine qC ?_ | refine qA ?_ _)); refine qO (cs := #[.int .i64 0, .int .i64 0, .int .i64 0]) ?_ 0 _ rfl; (with_reducible repeat (first | refine qB ?_ _ | refine qC ?_ | refine qA ?_ _)); refine qH ?_ NB760_774.out _; (with_reducible repeat (first | refine qB ?_ _ | refine qC ?_ | refine qA ?_ _)); refine qH ?_ NB760_774.out _; (with_reducible repeat (first | refine qB ?_ _ | refine qC ?_ | refine qA ?_ _)); refine qH ?_ NB760_773.out _; (with_reducible repeat (first | refine qB ?_ _ | refine qC ?_ | refine qA ?_ _)); refine qH ?_ NB760_773.out _; (with_reducible repeat (first | refine qB ?_ _ | refine qC ?_ | refine qA ?_ _)); refine qH ?_ NB760_773.out _; (with_reducible repeat (first | refine qB ?_ _ | refine qC ?_ | refine qA ?_ _)); exact BK760.out) Tryd.underlying27 rfl (by kernel_rfl)) rfl ?_
  exact ⟨by first | rfl | (simp [qM, qL] <;> rfl) | (simp [*, qM, qL] <;> rfl), bl⟩
def qSA.f (a0 : Int) (a1 : Int) (a2 : Int) : Option (Bool) := if a1 ≤ a0 then (some (decide (a0 ≤ a2))) else (some false)
set_option maxHeartbeats 8000000 in
set_option maxRecDepth 100000 in
theorem qSA.calls (a0 : Int) (a1 : Int) (a2 : Int) (r : Bool) (w : World) (h : qSA.f a0 a1 a2 = some r) :
  Calls Tryd.prog 82 #[.int .i64 a0, .int .i64 a1, .int .i64 a2] w fun e w' => e = .returned (.bool r) ∧ Drawn0 w w' := by
 have H : (if a1 ≤ a0 then (some (decide (a0 ≤ a2))) else (some false)) = some r := h
 clear h
 by_cases c4 : a1 ≤ a0
 ·rw [if_pos c4] at H
  have c4b0 : decide (a1 ≤ a0) = true := decide_eq_true c4
  clear c4
  obtain rfl := Option.some.inj H
  go_enter Tryd.func82, Tryd.ntmps82
  go_wp2
  go_ret
  exact ⟨by first | rfl | (simp; done) | (simp [*]; done), by repeat (first | exact Drawn0.refl _ | apply Drawn0.step)⟩
 ·rw [if_neg c4] at H
  have c4b0 : decide (a1 ≤ a0) = false := decide_eq_false c4
  clear c4
  obtain rfl := Option.some.inj H
  go_enter Tryd.func82, Tryd.ntmps82
  go_wp2
  go_ret
  exact ⟨by first | rfl | (simp; done) | (simp [*]; done), by repeat (first | exact Drawn0.refl _ | apply Drawn0.step)⟩
end Go.Proofs.YtbpfhpjbeomfcaaDoor.P
namespace Go.Proofs
open Go.Shelf
def Tryd.lays138_ren : Go.Shelf.Ren := ⟨fun | 138 => 78 | 195 => 103 | 218 => 104 | 143 => 105 | 219 => 139 | 217 => 154 | 225 => 155 | 224 => 156 | 267 => 157 | 266 => 163 | 314 => 164 | n => n, fun | 9 => 9 | 3 => 3 | 4 => 4 | 5 => 5 | 0 => 0 | 46 => 110 | 146 => 163 | 51 => 128 | n => n, fun | 1 => 0 | n => n⟩
theorem Tryd.lays138 : Go.Proofs.Lays.n138 Tryd.prog Tryd.lays138_ren := {
 mixed := by kernel_rfl
 f138 := Tryd.func78.trans (congrArg some (by kernel_rfl))
 f143 := Tryd.func105.trans (congrArg some (by kernel_rfl))
 f195 := Tryd.func103.trans (congrArg some (by kernel_rfl))
 f217 := Tryd.func154.trans (congrArg some (by kernel_rfl))
 f218 := Tryd.func104.trans (congrArg some (by kernel_rfl))
 f219 := Tryd.func139.trans (congrArg some (by kernel_rfl))
 f224 := Tryd.func156.trans (congrArg some (by kernel_rfl))
 f225 := Tryd.func155.trans (congrArg some (by kernel_rfl))
 f266 := Tryd.func163.trans (congrArg some (by kernel_rfl))
 f267 := Tryd.func157.trans (congrArg some (by kernel_rfl))
 f314 := Tryd.func164.trans (congrArg some (by kernel_rfl))
 t0 := Tryd.underlying0
 a0 := Tryd.isAgg0
 z0 := Tryd.sizeOf0
 v0 := Tryd.zeroValue0
 t3 := Tryd.underlying3
 a3 := Tryd.isAgg3
 z3 := Tryd.sizeOf3
 v3 := Tryd.zeroValue3
 t4 := Tryd.underlying4
 a4 := Tryd.isAgg4
 z4 := Tryd.sizeOf4
 v4 := Tryd.zeroValue4
 t5 := Tryd.underlying5
 a5 := Tryd.isAgg5
 z5 := Tryd.sizeOf5
 v5 := Tryd.zeroValue5
 t9 := Tryd.underlying9
 a9 := Tryd.isAgg9
 z9 := Tryd.sizeOf9
 v9 := Tryd.zeroValue9
 t46 := Tryd.underlying110
 a46 := Tryd.isAgg110
 z46 := Tryd.sizeOf110
 v46 := Tryd.zeroValue110
 t51 := Tryd.underlying128
 a51 := Tryd.isAgg128
 z51 := Tryd.sizeOf128
 v51 := Tryd.zeroValue128
 t146 := Tryd.underlying163
 a146 := Tryd.isAgg163
 z146 := Tryd.sizeOf163
 v146 := Tryd.zeroValue163
 g1 := by kernel_rfl }
open Go.RowKit Go.Lib in
theorem Tryd.strings_Count_one (s : ByteArray) (c : UInt8) (w : World) :
  Calls Tryd.prog 78 #[.string s, .string ⟨#[c]⟩] w fun e w' => e = .returned (.int .i64 (Lib.countByte s.data.toList c)) ∧ w' = w := Any.strings_Count_one Tryd.lays138 s c w
def Tryd.lays146_ren : Go.Shelf.Ren := ⟨fun | 146 => 101 | 221 => 131 | 268 => 149 | 138 => 78 | 143 => 105 | 195 => 103 | 197 => 151 | 218 => 104 | 219 => 139 | 260 => 160 | 217 => 154 | 225 => 155 | 224 => 156 | 267 => 157 | 266 => 163 | 314 => 164 | n => n, fun | 9 => 9 | 31 => 60 | 3 => 3 | 4 => 4 | 0 => 0 | 105 => 155 | 21 => 21 | 5 => 5 | 46 => 110 | 119 => 165 | 139 => 168 | 138 => 167 | 146 => 163 | 51 => 128 | n => n, fun | 1 => 0 | 3 => 1 | 4 => 2 | n => n⟩
theorem Tryd.lays146 : Go.Proofs.Lays.n146 Tryd.prog Tryd.lays146_ren := {
 mixed := by kernel_rfl
 f138 := Tryd.func78.trans (congrArg some (by kernel_rfl))
 f143 := Tryd.func105.trans (congrArg some (by kernel_rfl))
 f146 := Tryd.func101.trans (congrArg some (by kernel_rfl))
 f195 := Tryd.func103.trans (congrArg some (by kernel_rfl))
 f197 := Tryd.func151.trans (congrArg some (by kernel_rfl))
 f217 := Tryd.func154.trans (congrArg some (by kernel_rfl))
 f218 := Tryd.func104.trans (congrArg some (by kernel_rfl))
 f219 := Tryd.func139.trans (congrArg some (by kernel_rfl))
 f221 := Tryd.func131.trans (congrArg some (by kernel_rfl))
 f224 := Tryd.func156.trans (congrArg some (by kernel_rfl))
 f225 := Tryd.func155.trans (congrArg some (by kernel_rfl))
 f260 := Tryd.func160.trans (congrArg some (by kernel_rfl))
 f266 := Tryd.func163.trans (congrArg some (by kernel_rfl))
 f267 := Tryd.func157.trans (congrArg some (by kernel_rfl))
 f268 := Tryd.func149.trans (congrArg some (by kernel_rfl))
 f314 := Tryd.func164.trans (congrArg some (by kernel_rfl))
 t0 := Tryd.underlying0
 a0 := Tryd.isAgg0
 z0 := Tryd.sizeOf0
 v0 := Tryd.zeroValue0
 t3 := Tryd.underlying3
 a3 := Tryd.isAgg3
 z3 := Tryd.sizeOf3
 v3 := Tryd.zeroValue3
 t4 := Tryd.underlying4
 a4 := Tryd.isAgg4
 z4 := Tryd.sizeOf4
 v4 := Tryd.zeroValue4
 t5 := Tryd.underlying5
 a5 := Tryd.isAgg5
 z5 := Tryd.sizeOf5
 v5 := Tryd.zeroValue5
 t9 := Tryd.underlying9
 a9 := Tryd.isAgg9
 z9 := Tryd.sizeOf9
 v9 := Tryd.zeroValue9
 t21 := Tryd.underlying21
 a21 := Tryd.isAgg21
 z21 := Tryd.sizeOf21
 v21 := Tryd.zeroValue21
 t31 := Tryd.underlying60
 a31 := Tryd.isAgg60
 z31 := Tryd.sizeOf60
 v31 := Tryd.zeroValue60
 t46 := Tryd.underlying110
 a46 := Tryd.isAgg110
 z46 := Tryd.sizeOf110
 v46 := Tryd.zeroValue110
 t51 := Tryd.underlying128
 a51 := Tryd.isAgg128
 z51 := Tryd.sizeOf128
 v51 := Tryd.zeroValue128
 t105 := Tryd.underlying155
 a105 := Tryd.isAgg155
 z105 := Tryd.sizeOf155
 v105 := Tryd.zeroValue155
 t119 := Tryd.underlying165
 a119 := Tryd.isAgg165
 z119 := Tryd.sizeOf165
 t138 := Tryd.underlying167
 a138 := Tryd.isAgg167
 z138 := Tryd.sizeOf167
 v138 := Tryd.zeroValue167
 t139 := Tryd.underlying168
 a139 := Tryd.isAgg168
 z139 := Tryd.sizeOf168
 v139 := Tryd.zeroValue168
 t146 := Tryd.underlying163
 a146 := Tryd.isAgg163
 z146 := Tryd.sizeOf163
 v146 := Tryd.zeroValue163
 g1 := by kernel_rfl
 g3 := by kernel_rfl
 g4 := by kernel_rfl }
open Go.RowKit Go.Lib in
theorem Tryd.strings_Split (s sep : ByteArray) (m : Int) (w : World) (hs : s.size < 4294967281) (hm : w.cell? ⟨0, 0, none⟩ = some (.int .i64 m)) (h1 : 1 ≤ sep.size) :
  Calls Tryd.prog 101 #[.string s, .string sep] w fun e w' =>
   e = .returned (.slice (some ⟨w.heap.size, 0, none⟩) (Lib.countB s sep + 1) (Lib.countB s sep + 1)) ∧ w' = w.alloc (.cells ((Lib.splitB sep 0 (Lib.countB s sep) s).map Value.string).toArray 9) := Any.strings_Split Tryd.lays146 (by kernel_rfl) s sep m w hs hm h1
def Tryd.lays160_ren : Go.Shelf.Ren := ⟨fun | 160 => 102 | 232 => 133 | 231 => 132 | 227 => 134 | 234 => 136 | 233 => 135 | 236 => 138 | 235 => 137 | 228 => 150 | 271 => 153 | 151 => 152 | 197 => 151 | 120 => 162 | 152 => 161 | 260 => 160 | 137 => 165 | 119 => 166 | 224 => 156 | 225 => 155 | 217 => 154 | 266 => 163 | n => n, fun | 9 => 9 | 4 => 4 | 3 => 3 | 5 => 5 | 117 => 140 | 116 => 139 | 0 => 0 | 124 => 143 | 21 => 21 | 105 => 155 | 46 => 110 | 119 => 165 | 139 => 168 | 138 => 167 | n => n, fun | 3 => 1 | 4 => 2 | n => n⟩
theorem Tryd.lays160 : Go.Proofs.Lays.n160 Tryd.prog Tryd.lays160_ren := {
 mixed := by kernel_rfl
 f119 := Tryd.func166.trans (congrArg some (by kernel_rfl))
 f120 := Tryd.func162.trans (congrArg some (by kernel_rfl))
 f137 := Tryd.func165.trans (congrArg some (by kernel_rfl))
 f151 := Tryd.func152.trans (congrArg some (by kernel_rfl))
 f152 := Tryd.func161.trans (congrArg some (by kernel_rfl))
 f160 := Tryd.func102.trans (congrArg some (by kernel_rfl))
 f197 := Tryd.func151.trans (congrArg some (by kernel_rfl))
 f217 := Tryd.func154.trans (congrArg some (by kernel_rfl))
 f224 := Tryd.func156.trans (congrArg some (by kernel_rfl))
 f225 := Tryd.func155.trans (congrArg some (by kernel_rfl))
 f227 := Tryd.func134.trans (congrArg some (by kernel_rfl))
 f228 := Tryd.func150.trans (congrArg some (by kernel_rfl))
 f231 := Tryd.func132.trans (congrArg some (by kernel_rfl))
 f232 := Tryd.func133.trans (congrArg some (by kernel_rfl))
 f233 := Tryd.func135.trans (congrArg some (by kernel_rfl))
 f234 := Tryd.func136.trans (congrArg some (by kernel_rfl))
 f235 := Tryd.func137.trans (congrArg some (by kernel_rfl))
 f236 := Tryd.func138.trans (congrArg some (by kernel_rfl))
 f260 := Tryd.func160.trans (congrArg some (by kernel_rfl))
 f266 := Tryd.func163.trans (congrArg some (by kernel_rfl))
 f271 := Tryd.func153.trans (congrArg some (by kernel_rfl))
 t0 := Tryd.underlying0
 a0 := Tryd.isAgg0
 z0 := Tryd.sizeOf0
 v0 := Tryd.zeroValue0
 t3 := Tryd.underlying3
 a3 := Tryd.isAgg3
 z3 := Tryd.sizeOf3
 v3 := Tryd.zeroValue3
 t4 := Tryd.underlying4
 a4 := Tryd.isAgg4
 z4 := Tryd.sizeOf4
 v4 := Tryd.zeroValue4
 t5 := Tryd.underlying5
 a5 := Tryd.isAgg5
 z5 := Tryd.sizeOf5
 v5 := Tryd.zeroValue5
 t9 := Tryd.underlying9
 a9 := Tryd.isAgg9
 z9 := Tryd.sizeOf9
 v9 := Tryd.zeroValue9
 t21 := Tryd.underlying21
 a21 := Tryd.isAgg21
 z21 := Tryd.sizeOf21
 v21 := Tryd.zeroValue21
 t46 := Tryd.underlying110
 a46 := Tryd.isAgg110
 z46 := Tryd.sizeOf110
 v46 := Tryd.zeroValue110
 t105 := Tryd.underlying155
 a105 := Tryd.isAgg155
 z105 := Tryd.sizeOf155
 v105 := Tryd.zeroValue155
 t116 := Tryd.underlying139
 a116 := Tryd.isAgg139
 z116 := Tryd.sizeOf139
 t117 := Tryd.underlying140
 a117 := Tryd.isAgg140
 z117 := Tryd.sizeOf140
 v117 := Tryd.zeroValue140
 t119 := Tryd.underlying165
 a119 := Tryd.isAgg165
 z119 := Tryd.sizeOf165
 t124 := Tryd.underlying143
 a124 := Tryd.isAgg143
 z124 := Tryd.sizeOf143
 v124 := Tryd.zeroValue143
 t138 := Tryd.underlying167
 a138 := Tryd.isAgg167
 z138 := Tryd.sizeOf167
 v138 := Tryd.zeroValue167
 t139 := Tryd.underlying168
 a139 := Tryd.isAgg168
 z139 := Tryd.sizeOf168
 v139 := Tryd.zeroValue168
 g3 := by kernel_rfl
 g4 := by kernel_rfl }
end Go.Proofs
namespace Go.Proofs.YtbpfhpjbeomfcaaDoor
open Go.RowKit Go.Proofs.YtbpfhpjbeomfcaaDoorW.PrintWords Go.Proofs.YtbpfhpjbeomfcaaDoorW.PrintLast
set_option linter.unusedVariables false
set_option linter.unusedSimpArgs false
def strings_Split.f (a0 a1 : ByteArray) : Option (List ByteArray) := if a0.size < 4294967281 ∧ 1 ≤ a1.size then some (Lib.splitB a1 0 (Lib.countB a0 a1) a0) else none
theorem strings_Split.calls (a0 a1 : ByteArray) (r : List ByteArray) (w : World) (hL : Laid w) (h : strings_Split.f a0 a1 = some r) :
  Calls Tryd.prog 101 #[.string a0, .string a1] w fun e w' => ∃ v0_ : Value, e = .returned v0_ ∧ Kd.R Kd.string 9 w' w.heap.size (fun _ => True) v0_ r ∧ Below w.heap.size w w' := by
 unfold strings_Split.f at h
 split at h
 ·rename_i hs
  obtain rfl := Option.some.inj h
  obtain ⟨m, hm⟩ := hL
  have hlen := Lib.splitB_all a1 hs.2 0 _ a0 rfl
  have hle := Lib.countB_le a1 hs.2 a0.size a0 (Nat.le_refl _)
  refine (Tryd.strings_Split a0 a1 m w hs.1 hm hs.2).mono fun e w' ⟨h1, h2⟩ => ⟨_, h1, ?_, ?_⟩
  ·subst h2
   generalize Lib.splitB a1 0 (Lib.countB a0 a1) a0 = l at *
   rw [← hlen]
   refine Kd.R_of_own ⟨by rw [encs_length, Nat.mul_one], .inr ⟨w.heap.size, l.length, (l.map Value.string).toArray, rfl, Nat.le_refl _, ?_, Nat.le_refl _, ?_, ?_, ?_⟩⟩ (fun _ _ => trivial)
   ·exact qPC _ _
   ·unfold maxLen; omega
   ·simp
   ·simp only [encs, Nat.mul_one]
    rw [List.take_of_length_le (by simp)]
  ·subst h2
   exact qu (Below.refl _ _) _
 ·cases h
def qjA.f (a0 a1 : ByteArray) : Option ByteArray := if a0.size ≤ 9223372036854775807 ∧ a1.size < 4294967281 ∧ (a1.data.toList.all fun b => decide (b.toNat < 128)) = true then some ⟨(Lib.trimS a0.data.toList a1.data.toList).toArray⟩ else none
theorem qjA.calls (a0 a1 : ByteArray) (r : ByteArray) (w : World) (h : qjA.f a0 a1 = some r) :
  Calls Tryd.prog 102 #[.string a0, .string a1] w fun e w' => e = .returned (.string r) ∧ Below w.heap.size w w' := by
 unfold qjA.f at h
 split at h
 ·rename_i hs
  obtain rfl := Option.some.inj h
  exact Any.strings_Trim_laid Tryd.lays160 (by kernel_rfl) a0 a1 w hs.1 hs.2.1 (ascii_of_all hs.2.2)
 ·cases h
end Go.Proofs.YtbpfhpjbeomfcaaDoor
namespace Go.Proofs.YtbpfhpjbeomfcaaDoor.P
open Go.RowKit Go.Proofs.YtbpfhpjbeomfcaaDoorW.PrintWords Go.Proofs.YtbpfhpjbeomfcaaDoorW.PrintLast Go.Proofs.YtbpfhpjbeomfcaaDoorW.PrintMore
attribute [local go_sem] qz qx qJA qIA qp qo qy qw
set_option linter.unusedVariables false
set_option linter.unusedSimpArgs false
def qKA.l0 : Nat → ByteArray → Int → List ByteArray → Int → Int → Option (List ByteArray × Bool)
 | 0, _, _, _, _, _ => none
 | k + 1, x1, x7, x11, x17, x18 => if x18 < x17 then (if 0 ≤ x18 then (if x18 < (x11.length : Int) then (if ((rdOf ByteArray.empty x11 x18).size : Int) = x7 then ((qjA.f (rdOf ByteArray.empty x11 x18) x1).bind fun t125 => (if t125.toList = ([] : List UInt8) then (qKA.l0 k x1 x7 x11 x17 (wrap64 (x18 + 1))) else (some (([] : List ByteArray), false)))) else (some (([] : List ByteArray), false))) else (none)) else (none)) else ((qSA.f (x11.length : Int) 1 7).bind fun t126 => (if t126 = true then ((qSA.f x7 1 7).bind fun t127 => (if t127 = true then (some (x11, decide ((wrap64 (x7 * (x11.length : Int))) ≤ 36))) else (some (x11, false)))) else (some (x11, false))))
def qKA.f (k : Nat) (a0 : ByteArray) (a1 : ByteArray) : Option (List ByteArray × Bool) := (strings_Split.f a0 (⟨#[47]⟩ : ByteArray)).bind fun t120 => (if 0 < (t120.length : Int) then (qKA.l0 k a1 ((rdOf ByteArray.empty t120 0).size : Int) t120 (t120.length : Int) 0) else (none))
set_option maxHeartbeats 8000000 in
set_option maxRecDepth 100000 in
theorem qKA.calls (k : Nat) (a0 : ByteArray) (a1 : ByteArray) (r1 : List ByteArray) (r2 : Bool) (w : World) (hL : Laid w) (h : qKA.f k a0 a1 = some (r1, r2)) :
  Calls Tryd.prog 77 #[.string a0, .string a1] w fun e w' => ∃ v0_ : Value, e = .returned (.tuple #[v0_, .bool r2]) ∧ Kd.R Kd.string 9 w' w.heap.size (fun _ => True) v0_ r1 ∧ Below w.heap.size w w' := by
 have HLD := Aside0.mk hL
 clear hL
 have HB := Aside0.mk (Below.refl w.heap.size w)
 have H : ((strings_Split.f a0 (⟨#[47]⟩ : ByteArray)).bind fun t120 => (if 0 < (t120.length : Int) then (qKA.l0 k a1 ((rdOf ByteArray.empty t120 0).size : Int) t120 (t120.length : Int) 0) else (none))) = some (r1, r2) := h
 clear h
 replace H := Option.bind_eq_some_iff.mp H
 obtain ⟨t120, A30, H⟩ := H
 replace H : (if 0 < (t120.length : Int) then (qKA.l0 k a1 ((rdOf ByteArray.empty t120 0).size : Int) t120 (t120.length : Int) 0) else (none)) = some (r1, r2) := H
 have A3 := Aside0.mk A30
 clear A30
 by_cases c4 : 0 < (t120.length : Int)
 ·rw [if_pos c4] at H
  have c4b0 : decide (0 < (t120.length : Int)) = true := decide_eq_true c4
  have c4b1 : decide (0 < t120.length) = true := decide_eq_true (by omega)
  clear c4
  have H' := Aside0.mk H
  clear H
  go_enter Tryd.func77, Tryd.ntmps77
  go_wp2_with (first | ((with_reducible refine qS (f := 101) rfl ?_); refine qq (some 11) rfl rfl Tryd.func101 (by kernel_rfl) rfl #[.string a0, .string (⟨#[47]⟩ : ByteArray)] rfl (by (try simp only [List.map_toArray, List.map_cons, List.map_nil]); first | done | rfl | (simp only [List.length_drop, List.length_take]; rfl)) ?_; (with_reducible refine (strings_Split.calls a0 (⟨#[47]⟩ : ByteArray) t120 _ ?side1 A3.out).mono ?_); (case side1 => first | exact HLD.out | exact Laid.below HLD.out (by repeat (first | (with_reducible first | exact HB.out | apply qu | apply qv | apply qn | refine qcA ?_ (Aside0.out (by with_reducible assumption))) | exact HB.out))); rintro e w5 ⟨v121, rfl, ho0, hb⟩; refine ⟨_, rfl, ?_⟩; have n0_ := Aside0.mk (Kd.qBA ho0 (qg bl)); have n1_ := Aside0.mk (qG bl hb); clear HB; have HO122 := n0_; have HB := n1_; clear n0_ n1_; (try clear hb); (try clear hb2); (try clear hk); (try clear hi); (try clear ho0); obtain ⟨Ao6, co6, eo6⟩ := Kd.qt HO122.out; subst eo6; have p123 : 0 ≤ (0 : Int) := (by omega); have q123 : 0 < (t120.length : Int) := of_decide_eq_true (by first | (with_reducible assumption) | assumption); obtain ⟨ad123, e123, hx123_0⟩ := Kd.qdA (Kd.qf HO122.out).2.2 0 p123 q123; cases e123; have qi123 : (0 < t120.length) = True := eq_true (by omega); (try rw [show ((0 : Int)).toNat = 0 from rfl] at hx123_0); (try rw [Addr.add_zero'] at hx123_0); replace p123 := eq_true p123; replace q123 := eq_true q123))
  go_loopg [18] k (fun kq v18 w' => ∃ (x18_1 : Int), v18 = .int .i64 x18_1 ∧ Aside0 (qKA.l0 kq a1 ((rdOf ByteArray.empty t120 0).size : Int) t120 (t120.length : Int) x18_1 = some (r1, r2)) ∧ Aside0 (kq ≤ k) ∧ Aside0 (Kd.R Kd.string 9 w' w.heap.size (fun _ => True) (.slice (some ad123) t120.length co6) t120) ∧ Aside0 (Below w.heap.size w w'))
  case atStart => exact ⟨(0), (by first | rfl | (simp; done) | (simp [*]; done)), H', ⟨Nat.le_refl _⟩, ⟨by (with_reducible repeat (first | apply Kd.qF | apply Kd.qE | apply Kd.qI)); exact HO122.out⟩, ⟨bl⟩⟩
  case round =>
   clear H'
   try clear c1
   try clear p1
   try clear q1
   try clear hx1
   try clear qi1
   try clear p2
   try clear c4
   try clear c4b0
   try clear c4b1
   try clear hx123_0
   try clear p123
   try clear q123
   obtain ⟨x18_1, rfl, HA, HK1, HO_11, HB⟩ := hrel
   cases gk with
   | zero => exact absurd HA.out (by simp [qKA.l0])
   | succ k1 =>
    have H := HA.out
    clear HA
    simp only [qKA.l0] at H
    by_cases c7 : x18_1 < (t120.length : Int)
    ·rw [if_pos c7] at H
     have c7b0 : decide (x18_1 < (t120.length : Int)) = true := decide_eq_true c7
     clear c7
     by_cases c8 : 0 ≤ x18_1
     ·rw [if_pos c8] at H
      have c8b0 : decide (0 ≤ x18_1) = true := decide_eq_true c8
      clear c8
      by_cases c9 : x18_1 < (t120.length : Int)
      ·rw [if_pos c9] at H
       have c9b0 : decide (x18_1 < (t120.length : Int)) = true := decide_eq_true c9
       clear c9
       by_cases c10 : ((rdOf ByteArray.empty t120 x18_1).size : Int) = ((rdOf ByteArray.empty t120 0).size : Int)
       ·rw [if_pos c10] at H
        have c10b0 : (((rdOf ByteArray.empty t120 x18_1).size : Int) == ((rdOf ByteArray.empty t120 0).size : Int)) = true := beq_iff_eq.mpr c10
        have c10b1 : (((rdOf ByteArray.empty t120 x18_1).size : Int) != ((rdOf ByteArray.empty t120 0).size : Int)) = false := bne_eq_false_iff_eq.mpr c10
        have c10b2 : ((rdOf ByteArray.empty t120 x18_1).size == (rdOf ByteArray.empty t120 0).size) = true := by first | simpa using c10 | (simp at c10 ⊢; omega)
        clear c10
        replace H := Option.bind_eq_some_iff.mp H
        obtain ⟨t125, A110, H⟩ := H
        replace H : (if t125.toList = ([] : List UInt8) then (qKA.l0 k1 a1 ((rdOf ByteArray.empty t120 0).size : Int) t120 (t120.length : Int) (wrap64 (x18_1 + 1))) else (some (([] : List ByteArray), false))) = some (r1, r2) := H
        have A11 := Aside0.mk A110
        clear A110
        by_cases c12 : t125.toList = ([] : List UInt8)
        ·rw [if_pos c12] at H
         have c12b0 : (t125.toList == ([] : List UInt8)) = true := beq_iff_eq.mpr c12
         have c12b1 : (t125.toList != ([] : List UInt8)) = false := bne_eq_false_iff_eq.mpr c12
         clear c12
         have H' := Aside0.mk H
         clear H
         have p124 : 0 ≤ (x18_1 : Int) := of_decide_eq_true (by first | (with_reducible assumption) | assumption)
         have q124 : x18_1 < (t120.length : Int) := of_decide_eq_true (by first | (with_reducible assumption) | assumption)
         obtain ⟨ad124, e124, hx124_0⟩ := Kd.qdA (Kd.qf HO_11.out).2.2 x18_1 p124 q124
         obtain rfl : ad123 = ad124 := (by injection e124)
         replace p124 := eq_true p124
         replace q124 := eq_true q124
         go_wp2_with (first | (go_at_call 102; (with_reducible refine (qjA.calls (rdOf ByteArray.empty t120 x18_1) a1 t125 _ A11.out).mono ?_); rintro e w13 ⟨rfl, hb⟩; have n0_ := Aside0.mk (Kd.qY (by (with_reducible repeat (first | apply Kd.qF | apply Kd.qE | apply Kd.qI)); exact HO_11.out) hb); have n1_ := Aside0.mk (qG bl hb); clear HO_11; clear HB; have HO_11 := n0_; have HB := n1_; clear n0_ n1_; (try clear hb); (try clear hb2); (try clear hk); (try clear hi)))
         go_roundg k1
         case measure => have := HK1.out; omega
         case rel => exact ⟨(wrap64 (x18_1 + 1)), (by first | rfl | (simp; done) | (simp [*]; done)), H', ⟨by have := HK1.out; omega⟩, ⟨by (with_reducible repeat (first | apply Kd.qF | apply Kd.qE | apply Kd.qI)); exact HO_11.out⟩, ⟨bl⟩⟩
        ·rw [if_neg c12] at H
         have c12b0 : (t125.toList == ([] : List UInt8)) = false := beq_eq_false_iff_ne.mpr c12
         have c12b1 : (t125.toList != ([] : List UInt8)) = true := bne_iff_ne.mpr c12
         simp only [Option.some.injEq, Prod.mk.injEq] at H
         obtain ⟨rfl, rfl⟩ := H
         have p124 : 0 ≤ (x18_1 : Int) := of_decide_eq_true (by first | (with_reducible assumption) | assumption)
         have q124 : x18_1 < (t120.length : Int) := of_decide_eq_true (by first | (with_reducible assumption) | assumption)
         obtain ⟨ad124, e124, hx124_0⟩ := Kd.qdA (Kd.qf HO_11.out).2.2 x18_1 p124 q124
         obtain rfl : ad123 = ad124 := (by injection e124)
         replace p124 := eq_true p124
         replace q124 := eq_true q124
         go_wp2_with (first | (go_at_call 102; (with_reducible refine (qjA.calls (rdOf ByteArray.empty t120 x18_1) a1 t125 _ A11.out).mono ?_); rintro e w14 ⟨rfl, hb⟩; have n0_ := Aside0.mk (Kd.qY (by (with_reducible repeat (first | apply Kd.qF | apply Kd.qE | apply Kd.qI)); exact HO_11.out) hb); have n1_ := Aside0.mk (qG bl hb); clear HO_11; clear HB; have HO_11 := n0_; have HB := n1_; clear n0_ n1_; (try clear hb); (try clear hb2); (try clear hk); (try clear hi)))
         go_ret2
         exact ⟨_, by first | rfl | (simp [qM, qL] <;> rfl) | (simp [*, qM, qL] <;> rfl), by first | exact Kd.R_nil _ _ _ _ _ | exact Kd.N_nil _ _ _ _ _ | exact Kd.V_nil _ _ _ _ _ | exact Kd.Q_nil _ _ _ _ _ | exact Kd.S_nil _ _ _ _ _, bl⟩
       ·rw [if_neg c10] at H
        have c10b0 : (((rdOf ByteArray.empty t120 x18_1).size : Int) == ((rdOf ByteArray.empty t120 0).size : Int)) = false := beq_eq_false_iff_ne.mpr c10
        have c10b1 : (((rdOf ByteArray.empty t120 x18_1).size : Int) != ((rdOf ByteArray.empty t120 0).size : Int)) = true := bne_iff_ne.mpr c10
        have c10b2 : ((rdOf ByteArray.empty t120 x18_1).size == (rdOf ByteArray.empty t120 0).size) = false := by first | simpa using c10 | (simp at c10 ⊢; omega)
        simp only [Option.some.injEq, Prod.mk.injEq] at H
        obtain ⟨rfl, rfl⟩ := H
        have p124 : 0 ≤ (x18_1 : Int) := of_decide_eq_true (by first | (with_reducible assumption) | assumption)
        have q124 : x18_1 < (t120.length : Int) := of_decide_eq_true (by first | (with_reducible assumption) | assumption)
        obtain ⟨ad124, e124, hx124_0⟩ := Kd.qdA (Kd.qf HO_11.out).2.2 x18_1 p124 q124
        obtain rfl : ad123 = ad124 := (by injection e124)
        replace p124 := eq_true p124
        replace q124 := eq_true q124
        go_wp2
        go_ret2
        exact ⟨_, by first | rfl | (simp [qM, qL] <;> rfl) | (simp [*, qM, qL] <;> rfl), by first | exact Kd.R_nil _ _ _ _ _ | exact Kd.N_nil _ _ _ _ _ | exact Kd.V_nil _ _ _ _ _ | exact Kd.Q_nil _ _ _ _ _ | exact Kd.S_nil _ _ _ _ _, bl⟩
      ·rw [if_neg c9] at H
       exact absurd H (by simp)
     ·rw [if_neg c8] at H
      exact absurd H (by simp)
    ·rw [if_neg c7] at H
     have c7b0 : decide (x18_1 < (t120.length : Int)) = false := decide_eq_false c7
     clear c7
     replace H := Option.bind_eq_some_iff.mp H
     obtain ⟨t126, A150, H⟩ := H
     replace H : (if t126 = true then ((qSA.f ((rdOf ByteArray.empty t120 0).size : Int) 1 7).bind fun t127 => (if t127 = true then (some (t120, decide ((wrap64 (((rdOf ByteArray.empty t120 0).size : Int) * (t120.length : Int))) ≤ 36))) else (some (t120, false)))) else (some (t120, false))) = some (r1, r2) := H
     have A15 := Aside0.mk A150
     clear A150
     by_cases c16 : t126 = true
     ·subst c16
      have H1 : ((qSA.f ((rdOf ByteArray.empty t120 0).size : Int) 1 7).bind fun t127 => (if t127 = true then (some (t120, decide ((wrap64 (((rdOf ByteArray.empty t120 0).size : Int) * (t120.length : Int))) ≤ 36))) else (some (t120, false)))) = some (r1, r2) := by rw [if_pos rfl] at H; exact H
      clear H
      have H := H1
      clear H1
      replace H := Option.bind_eq_some_iff.mp H
      obtain ⟨t127, A170, H⟩ := H
      replace H : (if t127 = true then (some (t120, decide ((wrap64 (((rdOf ByteArray.empty t120 0).size : Int) * (t120.length : Int))) ≤ 36))) else (some (t120, false))) = some (r1, r2) := H
      have A17 := Aside0.mk A170
      clear A170
      by_cases c18 : t127 = true
      ·subst c18
       have H1 : (some (t120, decide ((wrap64 (((rdOf ByteArray.empty t120 0).size : Int) * (t120.length : Int))) ≤ 36))) = some (r1, r2) := by rw [if_pos rfl] at H; exact H
       clear H
       have H := H1
       clear H1
       simp only [Option.some.injEq, Prod.mk.injEq] at H
       obtain ⟨rfl, rfl⟩ := H
       go_wp2_with (first | ((with_reducible refine qS (f := 82) rfl ?_); refine qq (some 36) rfl rfl Tryd.func82 (by kernel_rfl) rfl #[.int .i64 (t120.length : Int), .int .i64 1, .int .i64 7] rfl (by (try simp only [List.map_toArray, List.map_cons, List.map_nil]); first | done | rfl | (simp only [List.length_drop, List.length_take]; rfl)) ?_; (with_reducible refine (qSA.calls (t120.length : Int) 1 7 true _ A15.out).mono ?_); rintro e w' ⟨rfl, ⟨nd, rfl⟩⟩; refine ⟨_, rfl, ?_⟩) | (go_at_call 82; (with_reducible refine (qSA.calls ((rdOf ByteArray.empty t120 0).size : Int) 1 7 true _ A17.out).mono ?_); rintro e w' ⟨rfl, ⟨nd, rfl⟩⟩))
       go_ret2
       exact ⟨_, by first | rfl | (simp [qM, qL] <;> rfl) | (simp [*, qM, qL] <;> rfl), by (with_reducible repeat (first | apply Kd.qF | apply Kd.qE | apply Kd.qI)); exact HO_11.out, bl⟩
      ·replace c18 := Bool.eq_false_iff.mpr c18
       subst c18
       have H1 : (some (t120, false)) = some (r1, r2) := by rw [if_neg (show ¬ (false = true) by decide)] at H; exact H
       clear H
       have H := H1
       clear H1
       simp only [Option.some.injEq, Prod.mk.injEq] at H
       obtain ⟨rfl, rfl⟩ := H
       go_wp2_with (first | ((with_reducible refine qS (f := 82) rfl ?_); refine qq (some 36) rfl rfl Tryd.func82 (by kernel_rfl) rfl #[.int .i64 (t120.length : Int), .int .i64 1, .int .i64 7] rfl (by (try simp only [List.map_toArray, List.map_cons, List.map_nil]); first | done | rfl | (simp only [List.length_drop, List.length_take]; rfl)) ?_; (with_reducible refine (qSA.calls (t120.length : Int) 1 7 true _ A15.out).mono ?_); rintro e w' ⟨rfl, ⟨nd, rfl⟩⟩; refine ⟨_, rfl, ?_⟩) | (go_at_call 82; (with_reducible refine (qSA.calls ((rdOf ByteArray.empty t120 0).size : Int) 1 7 false _ A17.out).mono ?_); rintro e w' ⟨rfl, ⟨nd, rfl⟩⟩))
       go_ret2
       exact ⟨_, by first | rfl | (simp [qM, qL] <;> rfl) | (simp [*, qM, qL] <;> rfl), by (with_reducible repeat (first | apply Kd.qF | apply Kd.qE | apply Kd.qI)); exact HO_11.out, bl⟩
     ·replace c16 := Bool.eq_false_iff.mpr c16
      subst c16
      have H1 : (some (t120, false)) = some (r1, r2) := by rw [if_neg (show ¬ (false = true) by decide)] at H; exact H
      clear H
      have H := H1
      clear H1
      simp only [Option.some.injEq, Prod.mk.injEq] at H
      obtain ⟨rfl, rfl⟩ := H
      go_wp2_with (first | ((with_reducible refine qS (f := 82) rfl ?_); refine qq (some 36) rfl rfl Tryd.func82 (by kernel_rfl) rfl #[.int .i64 (t120.length : Int), .int .i64 1, .int .i64 7] rfl (by (try simp only [List.map_toArray, List.map_cons, List.map_nil]); first | done | rfl | (simp only [List.length_drop, List.length_take]; rfl)) ?_; (with_reducible refine (qSA.calls (t120.length : Int) 1 7 false _ A15.out).mono ?_); rintro e w' ⟨rfl, ⟨nd, rfl⟩⟩; refine ⟨_, rfl, ?_⟩))
      go_ret2
      exact ⟨_, by first | rfl | (simp [qM, qL] <;> rfl) | (simp [*, qM, qL] <;> rfl), by (with_reducible repeat (first | apply Kd.qF | apply Kd.qE | apply Kd.qI)); exact HO_11.out, bl⟩
 ·rw [if_neg c4] at H
  exact absurd H (by simp)
end Go.Proofs.YtbpfhpjbeomfcaaDoor.P
namespace Go.Proofs.YtbpfhpjbeomfcaaDoor
open Go.RowKit Go.Proofs.YtbpfhpjbeomfcaaDoorW.PrintWords Go.Proofs.YtbpfhpjbeomfcaaDoorW.PrintLast
set_option linter.unusedVariables false
set_option linter.unusedSimpArgs false
def qXA.f (a0 a1 : ByteArray) : Option Int := match a1.data.toList with | [c] => some (Lib.countByte a0.data.toList c) | _ => none
theorem qXA.calls (a0 a1 : ByteArray) (r : Int) (w : World) (h : qXA.f a0 a1 = some r) :
  Calls Tryd.prog 78 #[.string a0, .string a1] w fun e w' => e = .returned (.int .i64 r) ∧ Drawn0 w w' := by
 unfold qXA.f at h
 split at h
 ·rename_i c hc
  obtain rfl := Option.some.inj h
  obtain ⟨⟨l⟩⟩ := a1
  obtain rfl : l = [c] := hc
  exact (Tryd.strings_Count_one a0 c w).mono fun e w' ⟨h1, h2⟩ => ⟨h1, by rw [h2]; exact Drawn0.refl w⟩
 ·cases h
end Go.Proofs.YtbpfhpjbeomfcaaDoor
namespace Go.Proofs.YtbpfhpjbeomfcaaDoor.P
open Go.RowKit Go.Proofs.YtbpfhpjbeomfcaaDoorW.PrintWords Go.Proofs.YtbpfhpjbeomfcaaDoorW.PrintLast Go.Proofs.YtbpfhpjbeomfcaaDoorW.PrintMore
attribute [local go_sem] qz qx qJA qIA qp qo qy qw
set_option linter.unusedVariables false
set_option linter.unusedSimpArgs false
def qtA.f (k : Nat) (a0 : ByteArray) : Option (List ByteArray × Bool) := (qKA.f k a0 (⟨#[46, 35, 45, 111]⟩ : ByteArray)).bind fun bt128 => (if bt128.2 = true then ((qXA.f a0 (⟨#[111]⟩ : ByteArray)).bind fun t132 => (some (bt128.1, decide (t132 ≤ 1)))) else (some (bt128.1, false)))
set_option maxHeartbeats 8000000 in
set_option maxRecDepth 100000 in
theorem qtA.calls (k : Nat) (a0 : ByteArray) (r1 : List ByteArray) (r2 : Bool) (w : World) (hL : Laid w) (h : qtA.f k a0 = some (r1, r2)) :
  Calls Tryd.prog 54 #[.string a0] w fun e w' => ∃ v0_ : Value, e = .returned (.tuple #[v0_, .bool r2]) ∧ Kd.R Kd.string 9 w' w.heap.size (fun _ => True) v0_ r1 ∧ Below w.heap.size w w' := by
 have HLD := Aside0.mk hL
 clear hL
 have HB := Aside0.mk (Below.refl w.heap.size w)
 have H : ((qKA.f k a0 (⟨#[46, 35, 45, 111]⟩ : ByteArray)).bind fun bt128 => (if bt128.2 = true then ((qXA.f a0 (⟨#[111]⟩ : ByteArray)).bind fun t132 => (some (bt128.1, decide (t132 ≤ 1)))) else (some (bt128.1, false)))) = some (r1, r2) := h
 clear h
 replace H := Option.bind_eq_some_iff.mp H
 obtain ⟨⟨t128, t129⟩, A20, H⟩ := H
 replace H : (if t129 = true then ((qXA.f a0 (⟨#[111]⟩ : ByteArray)).bind fun t132 => (some (t128, decide (t132 ≤ 1)))) else (some (t128, false))) = some (r1, r2) := H
 have A2 := Aside0.mk A20
 clear A20
 by_cases c3 : t129 = true
 ·subst c3
  have H1 : ((qXA.f a0 (⟨#[111]⟩ : ByteArray)).bind fun t132 => (some (t128, decide (t132 ≤ 1)))) = some (r1, r2) := by rw [if_pos rfl] at H; exact H
  clear H
  have H := H1
  clear H1
  replace H := Option.bind_eq_some_iff.mp H
  obtain ⟨t132, A40, H⟩ := H
  replace H : (some (t128, decide (t132 ≤ 1))) = some (r1, r2) := H
  have A4 := Aside0.mk A40
  clear A40
  simp only [Option.some.injEq, Prod.mk.injEq] at H
  obtain ⟨rfl, rfl⟩ := H
  go_enter Tryd.func54, Tryd.ntmps54
  go_wp2_with (first | ((with_reducible refine qS (f := 77) rfl ?_); refine qq (some 8) rfl rfl Tryd.func77 (by kernel_rfl) rfl #[.string a0, .string (⟨#[46, 35, 45, 111]⟩ : ByteArray)] rfl (by (try simp only [List.map_toArray, List.map_cons, List.map_nil]); first | done | rfl | (simp only [List.length_drop, List.length_take]; rfl)) ?_; (with_reducible refine (qKA.calls k a0 (⟨#[46, 35, 45, 111]⟩ : ByteArray) t128 true _ ?side1 A2.out).mono ?_); (case side1 => first | exact HLD.out | exact Laid.below HLD.out (by repeat (first | (with_reducible first | exact HB.out | apply qu | apply qv | apply qn | refine qcA ?_ (Aside0.out (by with_reducible assumption))) | exact HB.out))); rintro e w5 ⟨v130, rfl, ho0, hb⟩; refine ⟨_, rfl, ?_⟩; have n0_ := Aside0.mk (Kd.qBA ho0 (qg bl)); have n1_ := Aside0.mk (qG bl hb); clear HB; have HO131 := n0_; have HB := n1_; clear n0_ n1_; (try clear hb); (try clear hb2); (try clear hk); (try clear hi); (try clear ho0)) | (go_at_call 78; (with_reducible refine (qXA.calls a0 (⟨#[111]⟩ : ByteArray) t132 _ A4.out).mono ?_); rintro e w' ⟨rfl, ⟨nd, rfl⟩⟩))
  go_ret2
  exact ⟨_, by first | rfl | (simp [qM, qL] <;> rfl) | (simp [*, qM, qL] <;> rfl), by (with_reducible repeat (first | apply Kd.qF | apply Kd.qE | apply Kd.qI)); exact HO131.out, bl⟩
 ·replace c3 := Bool.eq_false_iff.mpr c3
  subst c3
  have H1 : (some (t128, false)) = some (r1, r2) := by rw [if_neg (show ¬ (false = true) by decide)] at H; exact H
  clear H
  have H := H1
  clear H1
  simp only [Option.some.injEq, Prod.mk.injEq] at H
  obtain ⟨rfl, rfl⟩ := H
  go_enter Tryd.func54, Tryd.ntmps54
  go_wp2_with (first | ((with_reducible refine qS (f := 77) rfl ?_); refine qq (some 8) rfl rfl Tryd.func77 (by kernel_rfl) rfl #[.string a0, .string (⟨#[46, 35, 45, 111]⟩ : ByteArray)] rfl (by (try simp only [List.map_toArray, List.map_cons, List.map_nil]); first | done | rfl | (simp only [List.length_drop, List.length_take]; rfl)) ?_; (with_reducible refine (qKA.calls k a0 (⟨#[46, 35, 45, 111]⟩ : ByteArray) t128 false _ ?side1 A2.out).mono ?_); (case side1 => first | exact HLD.out | exact Laid.below HLD.out (by repeat (first | (with_reducible first | exact HB.out | apply qu | apply qv | apply qn | refine qcA ?_ (Aside0.out (by with_reducible assumption))) | exact HB.out))); rintro e w6 ⟨v130, rfl, ho0, hb⟩; refine ⟨_, rfl, ?_⟩; have n0_ := Aside0.mk (Kd.qBA ho0 (qg bl)); have n1_ := Aside0.mk (qG bl hb); clear HB; have HO131 := n0_; have HB := n1_; clear n0_ n1_; (try clear hb); (try clear hb2); (try clear hk); (try clear hi); (try clear ho0)))
  go_ret2
  exact ⟨_, by first | rfl | (simp [qM, qL] <;> rfl) | (simp [*, qM, qL] <;> rfl), by (with_reducible repeat (first | apply Kd.qF | apply Kd.qE | apply Kd.qI)); exact HO131.out, bl⟩
def qFA.f (l0 : List ByteArray) (a1 : Int) (a2 : Int) : Option (Bool) := (qSA.f a2 0 (wrap64 ((l0.length : Int) - 1))).bind fun t187 => (if t187 = true then (if 0 < (l0.length : Int) then ((qSA.f a1 0 (wrap64 (((rdOf ByteArray.empty l0 0).size : Int) - 1))).bind fun t189 => (some t189)) else (none)) else (some false))
set_option maxHeartbeats 8000000 in
set_option maxRecDepth 100000 in
theorem qFA.calls (A0 : Option Addr) (c0 : Nat) (l0 : List ByteArray) (a1 : Int) (a2 : Int) (r : Bool) (w : World) (hr0 : Kd.C Kd.string w A0 l0.length l0) (hc0 : l0.length ≤ c0) (h : qFA.f l0 a1 a2 = some r) :
  Calls Tryd.prog 83 #[.slice A0 l0.length c0, .int .i64 a1, .int .i64 a2] w fun e w' => e = .returned (.bool r) ∧ Drawn0 w w' := by
 have HR0 := Aside0.mk hr0
 have HC0 := Aside0.mk hc0
 clear hr0 hc0
 have H : ((qSA.f a2 0 (wrap64 ((l0.length : Int) - 1))).bind fun t187 => (if t187 = true then (if 0 < (l0.length : Int) then ((qSA.f a1 0 (wrap64 (((rdOf ByteArray.empty l0 0).size : Int) - 1))).bind fun t189 => (some t189)) else (none)) else (some false))) = some r := h
 clear h
 replace H := Option.bind_eq_some_iff.mp H
 obtain ⟨t187, A40, H⟩ := H
 replace H : (if t187 = true then (if 0 < (l0.length : Int) then ((qSA.f a1 0 (wrap64 (((rdOf ByteArray.empty l0 0).size : Int) - 1))).bind fun t189 => (some t189)) else (none)) else (some false)) = some r := H
 have A4 := Aside0.mk A40
 clear A40
 by_cases c5 : t187 = true
 ·subst c5
  have H1 : (if 0 < (l0.length : Int) then ((qSA.f a1 0 (wrap64 (((rdOf ByteArray.empty l0 0).size : Int) - 1))).bind fun t189 => (some t189)) else (none)) = some r := by rw [if_pos rfl] at H; exact H
  clear H
  have H := H1
  clear H1
  by_cases c6 : 0 < (l0.length : Int)
  ·rw [if_pos c6] at H
   have c6b0 : decide (0 < (l0.length : Int)) = true := decide_eq_true c6
   have c6b1 : decide (0 < l0.length) = true := decide_eq_true (by omega)
   clear c6
   replace H := Option.bind_eq_some_iff.mp H
   obtain ⟨t189, A70, H⟩ := H
   replace H : (some t189) = some r := H
   have A7 := Aside0.mk A70
   clear A70
   obtain rfl := Option.some.inj H
   go_enter Tryd.func83, Tryd.ntmps83
   go_wp2_with (first | ((with_reducible refine qS (f := 82) rfl ?_); refine qq (some 11) rfl rfl Tryd.func82 (by kernel_rfl) rfl #[.int .i64 a2, .int .i64 0, .int .i64 (wrap64 ((l0.length : Int) - 1))] rfl (by (try simp only [List.map_toArray, List.map_cons, List.map_nil]); first | done | rfl | (simp only [List.length_drop, List.length_take]; rfl)) ?_; (with_reducible refine (qSA.calls a2 0 (wrap64 ((l0.length : Int) - 1)) true _ A4.out).mono ?_); rintro e w' ⟨rfl, ⟨nd, rfl⟩⟩; refine ⟨_, rfl, ?_⟩; have p188 : 0 ≤ (0 : Int) := (by omega); have q188 : 0 < (l0.length : Int) := of_decide_eq_true (by first | (with_reducible assumption) | assumption); obtain ⟨ad188, e188, hx188_0⟩ := Kd.qdA HR0.out 0 p188 q188; cases e188; have qi188 : (0 < l0.length) = True := eq_true (by omega); (try rw [show ((0 : Int)).toNat = 0 from rfl] at hx188_0); (try rw [Addr.add_zero'] at hx188_0); replace p188 := eq_true p188; replace q188 := eq_true q188) | (go_at_call 82; (with_reducible refine (qSA.calls a1 0 (wrap64 (((rdOf ByteArray.empty l0 0).size : Int) - 1)) t189 _ A7.out).mono ?_); rintro e w' ⟨rfl, ⟨nd, rfl⟩⟩))
   go_ret
   exact ⟨by first | rfl | (simp; done) | (simp [*]; done), by repeat (first | exact Drawn0.refl _ | apply Drawn0.step)⟩
  ·rw [if_neg c6] at H
   exact absurd H (by simp)
 ·replace c5 := Bool.eq_false_iff.mpr c5
  subst c5
  have H1 : (some false) = some r := by rw [if_neg (show ¬ (false = true) by decide)] at H; exact H
  clear H
  have H := H1
  clear H1
  obtain rfl := Option.some.inj H
  go_enter Tryd.func83, Tryd.ntmps83
  go_wp2_with (first | ((with_reducible refine qS (f := 82) rfl ?_); refine qq (some 11) rfl rfl Tryd.func82 (by kernel_rfl) rfl #[.int .i64 a2, .int .i64 0, .int .i64 (wrap64 ((l0.length : Int) - 1))] rfl (by (try simp only [List.map_toArray, List.map_cons, List.map_nil]); first | done | rfl | (simp only [List.length_drop, List.length_take]; rfl)) ?_; (with_reducible refine (qSA.calls a2 0 (wrap64 ((l0.length : Int) - 1)) false _ A4.out).mono ?_); rintro e w' ⟨rfl, ⟨nd, rfl⟩⟩; refine ⟨_, rfl, ?_⟩))
  go_ret
  exact ⟨by first | rfl | (simp; done) | (simp [*]; done), by repeat (first | exact Drawn0.refl _ | apply Drawn0.step)⟩
def qRA.f (l0 : List ByteArray) (a1 : Int) (a2 : Int) : Option (Int) := (qFA.f l0 a1 a2).bind fun t190 => (if t190 = true then (if 0 ≤ a2 then (if a2 < (l0.length : Int) then (if 0 ≤ a1 then (if a1 < ((rdOf ByteArray.empty l0 a2).size : Int) then (some (bt (rdOf ByteArray.empty l0 a2) a1)) else (none)) else (none)) else (none)) else (none)) else (some 0))
set_option maxHeartbeats 8000000 in
set_option maxRecDepth 100000 in
theorem qRA.calls (A0 : Option Addr) (c0 : Nat) (l0 : List ByteArray) (a1 : Int) (a2 : Int) (r : Int) (w : World) (hr0 : Kd.C Kd.string w A0 l0.length l0) (hc0 : l0.length ≤ c0) (h : qRA.f l0 a1 a2 = some r) :
  Calls Tryd.prog 71 #[.slice A0 l0.length c0, .int .i64 a1, .int .i64 a2] w fun e w' => e = .returned (.int .u8 r) ∧ Drawn0 w w' := by
 have HR0 := Aside0.mk hr0
 have HC0 := Aside0.mk hc0
 clear hr0 hc0
 have H : ((qFA.f l0 a1 a2).bind fun t190 => (if t190 = true then (if 0 ≤ a2 then (if a2 < (l0.length : Int) then (if 0 ≤ a1 then (if a1 < ((rdOf ByteArray.empty l0 a2).size : Int) then (some (bt (rdOf ByteArray.empty l0 a2) a1)) else (none)) else (none)) else (none)) else (none)) else (some 0))) = some r := h
 clear h
 replace H := Option.bind_eq_some_iff.mp H
 obtain ⟨t190, A40, H⟩ := H
 replace H : (if t190 = true then (if 0 ≤ a2 then (if a2 < (l0.length : Int) then (if 0 ≤ a1 then (if a1 < ((rdOf ByteArray.empty l0 a2).size : Int) then (some (bt (rdOf ByteArray.empty l0 a2) a1)) else (none)) else (none)) else (none)) else (none)) else (some 0)) = some r := H
 have A4 := Aside0.mk A40
 clear A40
 by_cases c5 : t190 = true
 ·subst c5
  have H1 : (if 0 ≤ a2 then (if a2 < (l0.length : Int) then (if 0 ≤ a1 then (if a1 < ((rdOf ByteArray.empty l0 a2).size : Int) then (some (bt (rdOf ByteArray.empty l0 a2) a1)) else (none)) else (none)) else (none)) else (none)) = some r := by rw [if_pos rfl] at H; exact H
  clear H
  have H := H1
  clear H1
  by_cases c6 : 0 ≤ a2
  ·rw [if_pos c6] at H
   have c6b0 : decide (0 ≤ a2) = true := decide_eq_true c6
   clear c6
   by_cases c7 : a2 < (l0.length : Int)
   ·rw [if_pos c7] at H
    have c7b0 : decide (a2 < (l0.length : Int)) = true := decide_eq_true c7
    clear c7
    by_cases c8 : 0 ≤ a1
    ·rw [if_pos c8] at H
     have c8b0 : decide (0 ≤ a1) = true := decide_eq_true c8
     clear c8
     by_cases c9 : a1 < ((rdOf ByteArray.empty l0 a2).size : Int)
     ·rw [if_pos c9] at H
      have c9b0 : decide (a1 < ((rdOf ByteArray.empty l0 a2).size : Int)) = true := decide_eq_true c9
      clear c9
      obtain rfl := Option.some.inj H
      go_enter Tryd.func71, Tryd.ntmps71
      go_wp2_with (first | ((with_reducible refine qS (f := 83) rfl ?_); refine qq (some 10) rfl rfl Tryd.func83 (by kernel_rfl) rfl #[.slice A0 l0.length c0, .int .i64 a1, .int .i64 a2] rfl (by (try simp only [List.map_toArray, List.map_cons, List.map_nil]); first | done | rfl | (simp only [List.length_drop, List.length_take]; rfl)) ?_; (with_reducible refine (qFA.calls _ _ l0 a1 a2 true _ ?side1 ?side2 A4.out).mono ?_); (case side1 => repeat (first | exact HR0.out | (with_reducible refine Kd.qHA ?_ _) | (with_reducible refine Kd.qGA ?_ _) | (with_reducible refine Kd.qNA ?_))); (case side2 => exact HC0.out); rintro e w' ⟨rfl, ⟨nd, rfl⟩⟩; refine ⟨_, rfl, ?_⟩; have p191 : 0 ≤ (a2 : Int) := of_decide_eq_true (by first | (with_reducible assumption) | assumption); have q191 : a2 < (l0.length : Int) := of_decide_eq_true (by first | (with_reducible assumption) | assumption); obtain ⟨ad191, e191, hx191_0⟩ := Kd.qdA HR0.out a2 p191 q191; cases e191; replace p191 := eq_true p191; replace q191 := eq_true q191; have p10 : 0 ≤ (a1 : Int) := of_decide_eq_true (by first | (with_reducible assumption) | assumption); have q10 : a1 < ((rdOf ByteArray.empty l0 a2).size : Int) := of_decide_eq_true (by first | (with_reducible assumption) | assumption); have hx10 := bt_at (rdOf ByteArray.empty l0 a2) a1; replace p10 := eq_true p10; replace q10 := eq_true q10))
      go_ret
      exact ⟨by first | rfl | (simp; done) | (simp [*]; done), by repeat (first | exact Drawn0.refl _ | apply Drawn0.step)⟩
     ·rw [if_neg c9] at H
      exact absurd H (by simp)
    ·rw [if_neg c8] at H
     exact absurd H (by simp)
   ·rw [if_neg c7] at H
    exact absurd H (by simp)
  ·rw [if_neg c6] at H
   exact absurd H (by simp)
 ·replace c5 := Bool.eq_false_iff.mpr c5
  subst c5
  have H1 : (some 0) = some r := by rw [if_neg (show ¬ (false = true) by decide)] at H; exact H
  clear H
  have H := H1
  clear H1
  obtain rfl := Option.some.inj H
  go_enter Tryd.func71, Tryd.ntmps71
  go_wp2_with (first | ((with_reducible refine qS (f := 83) rfl ?_); refine qq (some 10) rfl rfl Tryd.func83 (by kernel_rfl) rfl #[.slice A0 l0.length c0, .int .i64 a1, .int .i64 a2] rfl (by (try simp only [List.map_toArray, List.map_cons, List.map_nil]); first | done | rfl | (simp only [List.length_drop, List.length_take]; rfl)) ?_; (with_reducible refine (qFA.calls _ _ l0 a1 a2 false _ ?side1 ?side2 A4.out).mono ?_); (case side1 => repeat (first | exact HR0.out | (with_reducible refine Kd.qHA ?_ _) | (with_reducible refine Kd.qGA ?_ _) | (with_reducible refine Kd.qNA ?_))); (case side2 => exact HC0.out); rintro e w' ⟨rfl, ⟨nd, rfl⟩⟩; refine ⟨_, rfl, ?_⟩))
  go_ret
  exact ⟨by first | rfl | (simp; done) | (simp [*]; done), by repeat (first | exact Drawn0.refl _ | apply Drawn0.step)⟩
def qoA.f (a0_0 : Int) (a0_1 : Int) (a0_2 : Int) : Option ((List (S96))) := if a0_2 = 1 then (some (([(⟨a0_0, a0_1⟩ : S96), (⟨wrap64 (a0_0 + 1), a0_1⟩ : S96)] : List (S96)))) else (if a0_2 = 2 then (some (([(⟨a0_0, a0_1⟩ : S96), (⟨a0_0, wrap64 (a0_1 + 1)⟩ : S96)] : List (S96)))) else (some (([(⟨a0_0, a0_1⟩ : S96)] : List (S96)))))
set_option maxHeartbeats 8000000 in
set_option maxRecDepth 100000 in
theorem qoA.calls (a0_0 : Int) (a0_1 : Int) (a0_2 : Int) (r : List (S96)) (w : World) (h : qoA.f a0_0 a0_1 a0_2 = some r) :
  Calls Tryd.prog 85 #[.agg #[.int .i64 a0_0, .int .i64 a0_1, .int .i64 a0_2]] w fun e w' => ∃ v0_ : Value, e = .returned (v0_) ∧ Kd.R k96 96 w' w.heap.size (fun _ => True) v0_ r ∧ Below w.heap.size w w' := by
 have hu27 := Tryd.underlying27
 have hu96 := Tryd.underlying96
 have HB := Aside0.mk (Below.refl w.heap.size w)
 have H : (if a0_2 = 1 then (some (([(⟨a0_0, a0_1⟩ : S96), (⟨wrap64 (a0_0 + 1), a0_1⟩ : S96)] : List (S96)))) else (if a0_2 = 2 then (some (([(⟨a0_0, a0_1⟩ : S96), (⟨a0_0, wrap64 (a0_1 + 1)⟩ : S96)] : List (S96)))) else (some (([(⟨a0_0, a0_1⟩ : S96)] : List (S96)))))) = some r := h
 clear h
 by_cases c2 : a0_2 = 1
 ·rw [if_pos c2] at H
  have c2b0 : (a0_2 == 1) = true := beq_iff_eq.mpr c2
  have c2b1 : (a0_2 != 1) = false := bne_eq_false_iff_eq.mpr c2
  clear c2
  obtain ⟨y193, hy193⟩ : ∃ y_ : List (S96), y_ = (([(⟨a0_0, a0_1⟩ : S96), (⟨wrap64 (a0_0 + 1), a0_1⟩ : S96)] : List (S96))) := ⟨_, rfl⟩
  replace H : (some y193) = some r := by first | (rw [hy193]; with_reducible exact H) | (have H2_ := (Option.bind_some _ _).symm.trans H; rw [hy193]; with_reducible exact H2_) | (have H2_ := (Option.bind_some _ _).symm.trans H; with_reducible exact H2_) | with_reducible exact H | (rw [hy193]; exact H) | exact H
  have Ny193 := Aside0.mk hy193
  clear hy193
  obtain rfl := Option.some.inj H
  go_enter Tryd.func85, Tryd.ntmps85
  go_wp2_with (first | ((with_reducible refine qV (N := 1) rfl ?_); refine qU ?hg (N := 1) ?hd (cs := #[.int .i64 a0_0, .int .i64 a0_1, .int .i64 a0_2]) (t := 27) ?hr ?_; (case hd => rfl); (case hg => rfl); (case hr => first | (go_simp; done) | (go_simp; rfl)); intro gb192 hg w3 hbox hb; have n0_ := Aside0.mk (qG bl hb); have n1_ := Aside0.mk (hbox); have n2_ := Aside0.mk ((gg hg)); have n3_ := Aside0.mk ((gg hg)); clear HB; have HB := n0_; have BK192 := n1_; have GW192 := n2_; have GE192 := n3_; clear n0_ n1_ n2_ n3_; clear hb hbox hg; have hcz4_0 := bc BK192 0; have hcz4_1 := bc BK192 1; have hcz4_2 := bc BK192 2; have hfz4_0 := qD BK192.out 0; have hfz4_1 := qD BK192.out 1; have hfz4_2 := qD BK192.out 2) | ((with_reducible refine qV (N := 18) rfl ?_); refine Kd.R_lit k96 _ 96 ?hg (N := 18) ?hd (xs := ([(⟨a0_0, a0_1⟩ : S96), (⟨wrap64 (a0_0 + 1), a0_1⟩ : S96)] : List (S96))) (inner := [.int .i64 a0_0, .int .i64 a0_1, .int .i64 (wrap64 (a0_0 + 1)), .int .i64 a0_1]) (ok := fun _ => True) (okp := fun _ => True) ?hr ?hp (fun _ hk => hk) trivial (Below.refl _ _) (Nat.le_refl _) (by simp) ?_; (case hd => rfl); (case hg => rfl); (case hr => first | (go_simp; done) | (go_simp; rfl)); (case hp => exact (Reps.c2 (show Kd.M k96 _ _ _ (⟨a0_0, a0_1⟩ : S96) [.int .i64 a0_0, .int .i64 a0_1] from (qzB _ _ _ (⟨a0_0, a0_1⟩ : S96) )) (Reps.c2 (show Kd.M k96 _ _ _ (⟨wrap64 (a0_0 + 1), a0_1⟩ : S96) [.int .i64 (wrap64 (a0_0 + 1)), .int .i64 a0_1] from (qzB _ _ _ (⟨wrap64 (a0_0 + 1), a0_1⟩ : S96) )) (Reps.none _ _)))); intro v194 w5 ho6 hb hg_ hnew_; clear hg_ hnew_; (first | rw [← Ny193.out] at ho6 | (simp only [Int.reduceToNat] at ho6; rw [← Ny193.out] at ho6)); have n0_ := Aside0.mk (Kd.qBA ho6 (qg bl)); have n1_ := Aside0.mk (bb BK192 hb); have n2_ := Aside0.mk (qG bl hb); clear BK192; clear HB; have HO195 := n0_; have BK192 := n1_; have HB := n2_; clear n0_ n1_ n2_; clear hb ho6))
  go_ret
  exact ⟨_, by first | rfl | (simp [qM, qL] <;> rfl) | (simp [*, qM, qL] <;> rfl), by (with_reducible repeat (first | apply Kd.qF | apply Kd.qE | apply Kd.qI)); exact HO195.out, bl⟩
 ·rw [if_neg c2] at H
  have c2b0 : (a0_2 == 1) = false := beq_eq_false_iff_ne.mpr c2
  have c2b1 : (a0_2 != 1) = true := bne_iff_ne.mpr c2
  by_cases c7 : a0_2 = 2
  ·rw [if_pos c7] at H
   have c7b0 : (a0_2 == 2) = true := beq_iff_eq.mpr c7
   have c7b1 : (a0_2 != 2) = false := bne_eq_false_iff_eq.mpr c7
   clear c7
   obtain ⟨y196, hy196⟩ : ∃ y_ : List (S96), y_ = (([(⟨a0_0, a0_1⟩ : S96), (⟨a0_0, wrap64 (a0_1 + 1)⟩ : S96)] : List (S96))) := ⟨_, rfl⟩
   replace H : (some y196) = some r := by first | (rw [hy196]; with_reducible exact H) | (have H2_ := (Option.bind_some _ _).symm.trans H; rw [hy196]; with_reducible exact H2_) | (have H2_ := (Option.bind_some _ _).symm.trans H; with_reducible exact H2_) | with_reducible exact H | (rw [hy196]; exact H) | exact H
   have Ny196 := Aside0.mk hy196
   clear hy196
   obtain rfl := Option.some.inj H
   go_enter Tryd.func85, Tryd.ntmps85
   go_wp2_with (first | ((with_reducible refine qV (N := 1) rfl ?_); refine qU ?hg (N := 1) ?hd (cs := #[.int .i64 a0_0, .int .i64 a0_1, .int .i64 a0_2]) (t := 27) ?hr ?_; (case hd => rfl); (case hg => rfl); (case hr => first | (go_simp; done) | (go_simp; rfl)); intro gb192 hg w8 hbox hb; have n0_ := Aside0.mk (qG bl hb); have n1_ := Aside0.mk (hbox); have n2_ := Aside0.mk ((gg hg)); have n3_ := Aside0.mk ((gg hg)); clear HB; have HB := n0_; have BK192 := n1_; have GW192 := n2_; have GE192 := n3_; clear n0_ n1_ n2_ n3_; clear hb hbox hg; have hcz9_0 := bc BK192 0; have hcz9_1 := bc BK192 1; have hcz9_2 := bc BK192 2; have hfz9_0 := qD BK192.out 0; have hfz9_1 := qD BK192.out 1; have hfz9_2 := qD BK192.out 2) | ((with_reducible refine qV (N := 32) rfl ?_); refine Kd.R_lit k96 _ 96 ?hg (N := 32) ?hd (xs := ([(⟨a0_0, a0_1⟩ : S96), (⟨a0_0, wrap64 (a0_1 + 1)⟩ : S96)] : List (S96))) (inner := [.int .i64 a0_0, .int .i64 a0_1, .int .i64 a0_0, .int .i64 (wrap64 (a0_1 + 1))]) (ok := fun _ => True) (okp := fun _ => True) ?hr ?hp (fun _ hk => hk) trivial (Below.refl _ _) (Nat.le_refl _) (by simp) ?_; (case hd => rfl); (case hg => rfl); (case hr => first | (go_simp; done) | (go_simp; rfl)); (case hp => exact (Reps.c2 (show Kd.M k96 _ _ _ (⟨a0_0, a0_1⟩ : S96) [.int .i64 a0_0, .int .i64 a0_1] from (qzB _ _ _ (⟨a0_0, a0_1⟩ : S96) )) (Reps.c2 (show Kd.M k96 _ _ _ (⟨a0_0, wrap64 (a0_1 + 1)⟩ : S96) [.int .i64 a0_0, .int .i64 (wrap64 (a0_1 + 1))] from (qzB _ _ _ (⟨a0_0, wrap64 (a0_1 + 1)⟩ : S96) )) (Reps.none _ _)))); intro v197 w10 ho11 hb hg_ hnew_; clear hg_ hnew_; (first | rw [← Ny196.out] at ho11 | (simp only [Int.reduceToNat] at ho11; rw [← Ny196.out] at ho11)); have n0_ := Aside0.mk (Kd.qBA ho11 (qg bl)); have n1_ := Aside0.mk (bb BK192 hb); have n2_ := Aside0.mk (qG bl hb); clear BK192; clear HB; have HO198 := n0_; have BK192 := n1_; have HB := n2_; clear n0_ n1_ n2_; clear hb ho11))
   go_ret
   exact ⟨_, by first | rfl | (simp [qM, qL] <;> rfl) | (simp [*, qM, qL] <;> rfl), by (with_reducible repeat (first | apply Kd.qF | apply Kd.qE | apply Kd.qI)); exact HO198.out, bl⟩
  ·rw [if_neg c7] at H
   have c7b0 : (a0_2 == 2) = false := beq_eq_false_iff_ne.mpr c7
   have c7b1 : (a0_2 != 2) = true := bne_iff_ne.mpr c7
   obtain ⟨y199, hy199⟩ : ∃ y_ : List (S96), y_ = (([(⟨a0_0, a0_1⟩ : S96)] : List (S96))) := ⟨_, rfl⟩
   replace H : (some y199) = some r := by first | (rw [hy199]; with_reducible exact H) | (have H2_ := (Option.bind_some _ _).symm.trans H; rw [hy199]; with_reducible exact H2_) | (have H2_ := (Option.bind_some _ _).symm.trans H; with_reducible exact H2_) | with_reducible exact H | (rw [hy199]; exact H) | exact H
   have Ny199 := Aside0.mk hy199
   clear hy199
   obtain rfl := Option.some.inj H
   go_enter Tryd.func85, Tryd.ntmps85
   go_wp2_with (first | ((with_reducible refine qV (N := 1) rfl ?_); refine qU ?hg (N := 1) ?hd (cs := #[.int .i64 a0_0, .int .i64 a0_1, .int .i64 a0_2]) (t := 27) ?hr ?_; (case hd => rfl); (case hg => rfl); (case hr => first | (go_simp; done) | (go_simp; rfl)); intro gb192 hg w12 hbox hb; have n0_ := Aside0.mk (qG bl hb); have n1_ := Aside0.mk (hbox); have n2_ := Aside0.mk ((gg hg)); have n3_ := Aside0.mk ((gg hg)); clear HB; have HB := n0_; have BK192 := n1_; have GW192 := n2_; have GE192 := n3_; clear n0_ n1_ n2_ n3_; clear hb hbox hg; have hcz13_0 := bc BK192 0; have hcz13_1 := bc BK192 1; have hcz13_2 := bc BK192 2; have hfz13_0 := qD BK192.out 0; have hfz13_1 := qD BK192.out 1; have hfz13_2 := qD BK192.out 2) | ((with_reducible refine qV (N := 38) rfl ?_); refine Kd.R_lit k96 _ 96 ?hg (N := 38) ?hd (xs := ([(⟨a0_0, a0_1⟩ : S96)] : List (S96))) (inner := [.int .i64 a0_0, .int .i64 a0_1]) (ok := fun _ => True) (okp := fun _ => True) ?hr ?hp (fun _ hk => hk) trivial (Below.refl _ _) (Nat.le_refl _) (by simp) ?_; (case hd => rfl); (case hg => rfl); (case hr => first | (go_simp; done) | (go_simp; rfl)); (case hp => exact (Reps.c2 (show Kd.M k96 _ _ _ (⟨a0_0, a0_1⟩ : S96) [.int .i64 a0_0, .int .i64 a0_1] from (qzB _ _ _ (⟨a0_0, a0_1⟩ : S96) )) (Reps.none _ _))); intro v200 w14 ho15 hb hg_ hnew_; clear hg_ hnew_; (first | rw [← Ny199.out] at ho15 | (simp only [Int.reduceToNat] at ho15; rw [← Ny199.out] at ho15)); have n0_ := Aside0.mk (Kd.qBA ho15 (qg bl)); have n1_ := Aside0.mk (bb BK192 hb); have n2_ := Aside0.mk (qG bl hb); clear BK192; clear HB; have HO201 := n0_; have BK192 := n1_; have HB := n2_; clear n0_ n1_ n2_; clear hb ho15))
   go_ret
   exact ⟨_, by first | rfl | (simp [qM, qL] <;> rfl) | (simp [*, qM, qL] <;> rfl), by (with_reducible repeat (first | apply Kd.qF | apply Kd.qE | apply Kd.qI)); exact HO201.out, bl⟩
end Go.Proofs.YtbpfhpjbeomfcaaDoor.P
namespace Go.Proofs.YtbpfhpjbeomfcaaDoor
open Go.RowKit Go.Proofs.YtbpfhpjbeomfcaaDoor.P Go.Proofs.YtbpfhpjbeomfcaaDoorW.PrintWords Go.Proofs.YtbpfhpjbeomfcaaDoorW.PrintLast
set_option linter.unusedVariables false
set_option linter.unusedSimpArgs false
def PredOn {α : Type} (g : Nat) (lb : Array Value) (enc : α → Value) (p : α → Bool) (l : List α) (w : World) : Prop :=
 ∀ (W : World) (x : α), x ∈ l → Below w.heap.size w W → Calls Tryd.prog g (#[enc x] ++ lb) W fun e w' => e = .returned (.bool (p x)) ∧ Below W.heap.size W w'
theorem PredOn.later {α : Type} {g : Nat} {lb : Array Value} {enc : α → Value} {p : α → Bool} {l : List α} {w w1 : World} (h : PredOn g lb enc p l w) (hb : Below w.heap.size w w1) : PredOn g lb enc p l w1 :=
 fun W x hx hW => h W x hx (qeB hb hb.size hW)
def idxP {α : Type} (p : α → Bool) (l : List α) : Int := match l.findIdx? p with | some i => (i : Int) | none => -1
theorem idxP_hit {α : Type} (p : α → Bool) (l : List α) (k : Nat) (hk : k < l.length) (h0 : ∀ j, (h : j < k) → p (l[j]'(by omega)) = false) (h1 : p l[k] = true) : idxP p l = (k : Int) := by
 unfold idxP
 have : l.findIdx? p = some k := by
  rw [List.findIdx?_eq_some_iff_getElem]
  exact ⟨hk, h1, fun j hj => by rw [h0 j hj]; decide⟩
 rw [this]
theorem idxP_miss {α : Type} (p : α → Bool) (l : List α) (h0 : ∀ j, (h : j < l.length) → p l[j] = false) : idxP p l = -1 := by
 unfold idxP
 have : l.findIdx? p = none := by
  rw [List.findIdx?_eq_none_iff]
  intro x hx
  obtain ⟨j, hj, rfl⟩ := List.getElem_of_mem hx
  exact h0 j hj
 rw [this]
theorem idxP_any {α : Type} (p : α → Bool) (l : List α) : decide (idxP p l ≥ 0) = l.any p := by
 unfold idxP
 cases h : l.findIdx? p with
 | none =>
  rw [List.findIdx?_eq_none_iff] at h
  have : l.any p = false := by rw [List.any_eq_false]; intro x hx; simp [h x hx]
  rw [this]; decide
 | some i =>
  rw [List.findIdx?_eq_some_iff_getElem] at h
  obtain ⟨hi, hp, _⟩ := h
  have : l.any p = true := List.any_eq_true.2 ⟨l[i], List.getElem_mem hi, hp⟩
  rw [this]
  exact decide_eq_true (Int.natCast_nonneg i)
def encCell (x : S96) : Value := .agg #[.int .i64 x.f0, .int .i64 x.f1]
theorem rd_getCell (l : List S96) (j : Nat) (h : j < l.length) : qSC l (j : Int) = l[j] := by
 unfold qSC
 rw [Int.toNat_natCast, List.getD_eq_getElem?_getD, List.getElem?_eq_getElem h]; rfl
set_option maxHeartbeats 1000000 in
theorem indexFunc_Cell (p : S96 → Bool) (g : Nat) (lb : Array Value) (eg : ∀ args w, (callFunc g args).run Tryd.prog w = .ok (.enter g args) w) (A0 : Option Addr) (c0 : Nat) (l : List S96) (w : World)
  (hr : Kd.C k96 w A0 l.length l) (hp : PredOn g lb encCell p l w) :
  Calls Tryd.prog 107 #[.slice A0 l.length c0, .func (.func g) #[] lb] w fun e w' => e = .returned (.int .i64 (idxP p l)) ∧ Below w.heap.size w w' := by
 have HR := Lib.hid hr
 have hn : l.length ≤ 9223372036854775807 := hr.2.1
 clear hr
 have hu := Tryd.underlying96
 go_enter Tryd.func107, Tryd.ntmps107
 go_wp2
 go_loopg [5, 8] l.length (fun gg _ s8 wr => ∃ kk : Nat, kk ≤ l.length ∧ l.length - kk ≤ gg ∧ s8 = .int .i64 kk ∧ Aside0 (Below w.heap.size w wr) ∧ Aside0 (∀ j, (h : j < l.length) → j < kk → p l[j] = false))
 case atStart => exact ⟨0, Nat.zero_le _, by omega, rfl, ⟨Below.refl _ w⟩, ⟨fun j _ hj => absurd hj (Nat.not_lt_zero _)⟩⟩
 case round =>
  obtain ⟨kk, hkk, hg, rfl, BW, A⟩ := hrel
  rename World => wr
  by_cases hlt : kk < l.length
  ·have hltz : (kk : Int) < (l.length : Int) := by omega
   obtain ⟨ad, e, h0, h1⟩ := at_T96 (Kd.qUA HR.out BW.out) (kk : Int) (by omega) hltz
   cases e
   simp only [rd_getCell l kk hlt, Int.toNat_natCast] at h0 h1
   have hcall := hp wr l[kk] (List.getElem_mem hlt) BW.out
   have B := Lib.hid (rfl : l[kk] = l[kk])
   generalize hy : l[kk] = y at h0 h1 hcall
   have HY := Lib.hid hy
   clear hy B
   cases hq : p y with
   | true =>
    rw [hq] at hcall
    have HQ := Lib.hid hq
    have HC := Lib.hid hcall
    clear hq hp hcall
    go_wp2
    refine HC.out.mono ?_
    rintro e w' ⟨rfl, hb'⟩
    clear HC h0 h1 eg
    go_wp2
    go_ret
    exact ⟨ret_i64 (idxP_hit p l kk hlt (fun j hj => A.out j _ hj) (by rw [HY.out]; exact HQ.out)).symm, qeB BW.out BW.out.size hb'⟩
   | false =>
    rw [hq] at hcall
    have HQ := Lib.hid hq
    have HC := Lib.hid hcall
    clear hq hp hcall
    go_wp2
    refine HC.out.mono ?_
    rintro e w' ⟨rfl, hb'⟩
    clear HC h0 h1 eg
    go_wp2
    go_roundg (l.length - (kk + 1))
    case measure => omega
    case rel =>
     refine ⟨kk + 1, by omega, by omega, by go_num, ⟨qeB BW.out BW.out.size hb'⟩, ⟨fun j h hj => ?_⟩⟩
     by_cases e : j = kk
     ·subst e
      rw [HY.out]; exact HQ.out
     ·exact A.out j h (by omega)
  ·have hltz : ¬ (kk : Int) < (l.length : Int) := by omega
   have hke : kk = l.length := by omega
   subst hke
   clear hp
   go_wp2
   go_ret
   exact ⟨ret_i64 (idxP_miss p l (fun j h => A.out j h h)).symm, BW.out⟩
theorem containsFunc_Cell (p : S96 → Bool) (g : Nat) (lb : Array Value) (eg : ∀ args w, (callFunc g args).run Tryd.prog w = .ok (.enter g args) w) (A0 : Option Addr) (c0 : Nat) (l : List S96) (w : World)
  (hr : Kd.C k96 w A0 l.length l) (hp : PredOn g lb encCell p l w) :
  Calls Tryd.prog 84 #[.slice A0 l.length c0, .func (.func g) #[] lb] w fun e w' => e = .returned (.bool (l.any p)) ∧ Below w.heap.size w w' := by
 have hcall := fun c => indexFunc_Cell p g lb eg A0 c l w hr hp
 have HA := Lib.hid (idxP_any p l)
 clear hr hp
 go_enter Tryd.func84, Tryd.ntmps84
 go_wp2_with (go_at_call 107; refine (hcall _).mono ?_; rintro e w' ⟨rfl, hb'⟩)
 go_ret
 exact ⟨ret_bool HA.out, hb'⟩
def qkB.f (rows : List ByteArray) (x y : Int) : Option Bool := (qFA.f rows x y).bind fun b => if b = true then (qRA.f rows x y).bind fun c => some (c == 35) else some true
def quA.f (l : List S96) (rows : List ByteArray) : Option Bool := if (l.all fun c => (qkB.f rows c.f0 c.f1).isSome) = true then some (l.any fun c => (qkB.f rows c.f0 c.f1).getD false) else none
set_option maxHeartbeats 1000000 in
set_option maxRecDepth 100000 in
theorem isBox1_calls (x : S96) (b : Nat) (A1 : Option Addr) (c1 : Nat) (rows : List ByteArray) (r : Bool) (w : World) (hr1 : Kd.C Kd.string w A1 rows.length rows) (hc1 : rows.length ≤ c1) (hp : w.cell? ⟨b, 0, none⟩ = some (.slice A1 rows.length c1))
  (h : qkB.f rows x.f0 x.f1 = some r) :
  Calls Tryd.prog 86 (#[encCell x] ++ #[.pointer (some ⟨b, 0, none⟩)]) w fun e w' => e = .returned (.bool r) ∧ Below w.heap.size w w' := by
 have hu := Tryd.underlying96
 have g7 := World.block_lt_of_cell? w _ hp
 have HR := Lib.hid hr1
 clear hr1
 unfold qkB.f at h
 replace h := Option.bind_eq_some_iff.mp h
 obtain ⟨b1, hb1, h⟩ := h
 have HH := fun (W : World) (hw : Below w.heap.size w W) => Lib.hid (qFA.calls A1 c1 rows x.f0 x.f1 b1 W (Kd.qUA HR.out hw) hc1 hb1)
 show Calls Tryd.prog 86 #[encCell x, .pointer (some ⟨b, 0, none⟩)] w _
 unfold encCell
 have H := Lib.hid h
 clear h hb1
 cases b1 with
 | false =>
  have H1 := H.out
  rw [if_neg (by decide)] at H1
  obtain rfl := Option.some.inj H1
  clear H H1
  go_enter Tryd.func86, Tryd.ntmps86
  go_wp2_with (first | (go_at_call 83; refine (HH _ (qu (Below.refl _ _) _)).out.mono ?_; rintro e w1 ⟨rfl, ⟨nd, rfl⟩⟩))
  go_ret
  exact ⟨rfl, qv (qu (Below.refl _ _) _) nd⟩
 | true =>
  have H1 := H.out
  rw [if_pos rfl] at H1
  replace H1 := Option.bind_eq_some_iff.mp H1
  obtain ⟨c, hc, H1⟩ := H1
  obtain rfl := Option.some.inj H1
  clear H H1
  have HA := fun (W : World) (hw : Below w.heap.size w W) => Lib.hid (qRA.calls A1 c1 rows x.f0 x.f1 c W (Kd.qUA HR.out hw) hc1 hc)
  clear hc
  go_enter Tryd.func86, Tryd.ntmps86
  go_wp2_with (first | (go_at_call 83; refine (HH _ (qu (Below.refl _ _) _)).out.mono ?_; rintro e w1 ⟨rfl, ⟨nd, rfl⟩⟩) | (go_at_call 71; refine (HA _ (qv (qu (Below.refl _ _) _) _)).out.mono ?_; rintro e w2 ⟨rfl, ⟨nd2, rfl⟩⟩))
  go_ret
  exact ⟨rfl, qv (qu (Below.refl _ _) _) (nd + nd2)⟩
theorem quA.calls (A0 : Option Addr) (c0 : Nat) (l0 : List S96) (b : Nat) (A1 : Option Addr) (c1 : Nat) (l1 : List ByteArray) (r : Bool) (w : World) (hr0 : Kd.C k96 w A0 l0.length l0) (hc0 : l0.length ≤ c0) (hr1 : Kd.C Kd.string w A1 l1.length l1) (hc1 : l1.length ≤ c1) (hp : w.cell? ⟨b, 0, none⟩ = some (.slice A1 l1.length c1))
  (h : quA.f l0 l1 = some r) :
  Calls Tryd.prog 84 #[.slice A0 l0.length c0, .func (.func 86) #[] #[.pointer (some ⟨b, 0, none⟩)]] w fun e w' => e = .returned (.bool r) ∧ Below w.heap.size w w' := by
 unfold quA.f at h
 split at h
 ·rename_i hall
  obtain rfl := Option.some.inj h
  have eg := Go.Proofs.enters_of Tryd.func86 (by kernel_rfl) rfl
  refine containsFunc_Cell (fun c => (qkB.f l1 c.f0 c.f1).getD false) 86 _ eg A0 c0 l0 w hr0 fun W x hx hb => ?_
  have hs := List.all_eq_true.1 hall x hx
  obtain ⟨v, hv⟩ := Option.isSome_iff_exists.1 hs
  have e : (qkB.f l1 x.f0 x.f1).getD false = v := by rw [hv]; rfl
  show Calls _ _ _ _ fun e w' => e = .returned (.bool ((qkB.f l1 x.f0 x.f1).getD false)) ∧ _
  rw [e]
  exact isBox1_calls x b A1 c1 l1 v W (Kd.qUA hr1 hb) hc1 (qJB hb hp) hv
 ·cases h
end Go.Proofs.YtbpfhpjbeomfcaaDoor
namespace Go.Proofs.YtbpfhpjbeomfcaaDoor.P
open Go.RowKit Go.Proofs.YtbpfhpjbeomfcaaDoorW.PrintWords Go.Proofs.YtbpfhpjbeomfcaaDoorW.PrintLast Go.Proofs.YtbpfhpjbeomfcaaDoorW.PrintMore
attribute [local go_sem] qz qx qJA qIA qp qo qy qw
set_option linter.unusedVariables false
set_option linter.unusedSimpArgs false
def qd.j0 : Nat → Bool → List ByteArray → Int → Int → Int → Option (Bool)
 | 0, _, _, _, _, _ => none
 | k + 1, x31, x203000, x204000, x204001, x204002 => if x31 = true then (some false) else ((qoA.f x204000 x204001 x204002).bind fun t207 => ((quA.f t207 x203000).bind fun t210 => (some (!t210))))
def qd.f (k : Nat) (l0 : List ByteArray) (a1_0 : Int) (a1_1 : Int) (a1_2 : Int) : Option (Bool) := (qSA.f a1_2 0 2).bind fun t204 => (if t204 = true then ((qFA.f l0 a1_0 a1_1).bind fun t205 => (if t205 = true then (if a1_2 = 0 then ((qRA.f l0 a1_0 a1_1).bind fun t206 => (qd.j0 k (t206 == 45) l0 a1_0 a1_1 a1_2)) else (qd.j0 k false l0 a1_0 a1_1 a1_2)) else (qd.j0 k true l0 a1_0 a1_1 a1_2))) else (qd.j0 k true l0 a1_0 a1_1 a1_2))
set_option maxHeartbeats 8000000 in
set_option maxRecDepth 100000 in
theorem qd.calls (k : Nat) (A0 : Option Addr) (c0 : Nat) (l0 : List ByteArray) (a1_0 : Int) (a1_1 : Int) (a1_2 : Int) (r : Bool) (w : World) (hr0 : Kd.C Kd.string w A0 l0.length l0) (hc0 : l0.length ≤ c0) (h : qd.f k l0 a1_0 a1_1 a1_2 = some r) :
  Calls Tryd.prog 56 #[.slice A0 l0.length c0, .agg #[.int .i64 a1_0, .int .i64 a1_1, .int .i64 a1_2]] w fun e w' => e = .returned (.bool r) ∧ Below w.heap.size w w' := by
 have hu27 := Tryd.underlying27
 have HR0 := Aside0.mk hr0
 have HC0 := Aside0.mk hc0
 clear hr0 hc0
 have HB := Aside0.mk (Below.refl w.heap.size w)
 have H : ((qSA.f a1_2 0 2).bind fun t204 => (if t204 = true then ((qFA.f l0 a1_0 a1_1).bind fun t205 => (if t205 = true then (if a1_2 = 0 then ((qRA.f l0 a1_0 a1_1).bind fun t206 => (qd.j0 k (t206 == 45) l0 a1_0 a1_1 a1_2)) else (qd.j0 k false l0 a1_0 a1_1 a1_2)) else (qd.j0 k true l0 a1_0 a1_1 a1_2))) else (qd.j0 k true l0 a1_0 a1_1 a1_2))) = some r := h
 clear h
 have HC3 := Aside0.mk H
 clear H
 go_enter Tryd.func56, Tryd.ntmps56
 go_upto_region 1 with (first | ((with_reducible refine qV (N := 2) rfl ?_); refine qU ?hg (N := 2) ?hd (cs := #[.slice A0 l0.length c0]) (t := 61) ?hr ?_; (case hd => rfl); (case hg => rfl); (case hr => first | (go_simp; done) | (go_simp; rfl)); intro gb202 hg w4 hbox hb; have n0_ := Aside0.mk (qG bl hb); have n1_ := Aside0.mk (hbox); have n2_ := Aside0.mk ((gg hg)); have n3_ := Aside0.mk ((gg hg)); clear HB; have HB := n0_; have BK202 := n1_; have GW202 := n2_; have GE202 := n3_; clear n0_ n1_ n2_ n3_; clear hb hbox hg) | ((with_reducible refine qV (N := 3) rfl ?_); refine qU ?hg (N := 3) ?hd (cs := #[.int .i64 a1_0, .int .i64 a1_1, .int .i64 a1_2]) (t := 27) ?hr ?_; (case hd => rfl); (case hg => rfl); (case hr => first | (go_simp; done) | (go_simp; rfl)); intro gb203 hg w5 hbox hb; have n0_ := Aside0.mk (bb BK202 hb); have n1_ := Aside0.mk (qG bl hb); have n2_ := Aside0.mk (hbox); have n3_ := Aside0.mk ((gg hg)); have n4_ := Aside0.mk ((gg hg)); have n5_ := Aside0.mk ((nl BK202 hg)); have n6_ := Aside0.mk ((nr BK202 hg)); clear BK202; clear HB; have BK202 := n0_; have HB := n1_; have BK203 := n2_; have GW203 := n3_; have GE203 := n4_; have NB202_203 := n5_; have NB203_202 := n6_; clear n0_ n1_ n2_ n3_ n4_ n5_ n6_; clear hb hbox hg))
 (try simp only [Act.put, List.setIfInBounds_toArray, List.set_cons_zero, List.set_cons_succ])
 go_cut [31] (fun v31 wc => ∃ (kq : Nat) (x31_2 : Bool), v31 = .bool x31_2 ∧ Aside0 (qd.j0 kq x31_2 l0 a1_0 a1_1 a1_2 = some r) ∧ Aside0 (kq ≤ k) ∧ Aside0 (wc.heap[gb202]? = some (.cells #[(.slice A0 l0.length c0)] 61 (0, 0))) ∧ Aside0 (wc.heap[gb203]? = some (.cells #[.int .i64 a1_0, .int .i64 a1_1, .int .i64 a1_2] 27 (0, 0))) ∧ Aside0 (Below w.heap.size w wc))
 case first =>
  have H := HC3.out
  clear HC3
  replace H := Option.bind_eq_some_iff.mp H
  obtain ⟨t204, A60, H⟩ := H
  replace H : (if t204 = true then ((qFA.f l0 a1_0 a1_1).bind fun t205 => (if t205 = true then (if a1_2 = 0 then ((qRA.f l0 a1_0 a1_1).bind fun t206 => (qd.j0 k (t206 == 45) l0 a1_0 a1_1 a1_2)) else (qd.j0 k false l0 a1_0 a1_1 a1_2)) else (qd.j0 k true l0 a1_0 a1_1 a1_2))) else (qd.j0 k true l0 a1_0 a1_1 a1_2)) = some r := H
  have A6 := Aside0.mk A60
  clear A60
  by_cases c7 : t204 = true
  ·subst c7
   have H1 : ((qFA.f l0 a1_0 a1_1).bind fun t205 => (if t205 = true then (if a1_2 = 0 then ((qRA.f l0 a1_0 a1_1).bind fun t206 => (qd.j0 k (t206 == 45) l0 a1_0 a1_1 a1_2)) else (qd.j0 k false l0 a1_0 a1_1 a1_2)) else (qd.j0 k true l0 a1_0 a1_1 a1_2))) = some r := by rw [if_pos rfl] at H; exact H
   clear H
   have H := H1
   clear H1
   replace H := Option.bind_eq_some_iff.mp H
   obtain ⟨t205, A80, H⟩ := H
   replace H : (if t205 = true then (if a1_2 = 0 then ((qRA.f l0 a1_0 a1_1).bind fun t206 => (qd.j0 k (t206 == 45) l0 a1_0 a1_1 a1_2)) else (qd.j0 k false l0 a1_0 a1_1 a1_2)) else (qd.j0 k true l0 a1_0 a1_1 a1_2)) = some r := H
   have A8 := Aside0.mk A80
   clear A80
   by_cases c9 : t205 = true
   ·subst c9
    have H1 : (if a1_2 = 0 then ((qRA.f l0 a1_0 a1_1).bind fun t206 => (qd.j0 k (t206 == 45) l0 a1_0 a1_1 a1_2)) else (qd.j0 k false l0 a1_0 a1_1 a1_2)) = some r := by rw [if_pos rfl] at H; exact H
    clear H
    have H := H1
    clear H1
    by_cases c10 : a1_2 = 0
    ·rw [if_pos c10] at H
     have c10b0 : (a1_2 == 0) = true := beq_iff_eq.mpr c10
     have c10b1 : (a1_2 != 0) = false := bne_eq_false_iff_eq.mpr c10
     clear c10
     (first | rw [c10b0] | (simp only [i64_w, i32_w]; rw [c10b0]) | skip)
     replace H := Option.bind_eq_some_iff.mp H
     obtain ⟨t206, A110, H⟩ := H
     replace H : (qd.j0 k (t206 == 45) l0 a1_0 a1_1 a1_2) = some r := H
     have A11 := Aside0.mk A110
     clear A110
     have H' := Aside0.mk H
     clear H
     have hnb12 := NB203_202.out
     have hnc12 := NB202_203.out
     have hcz13_0 := bc BK203 0
     have hcz13_1 := bc BK203 1
     have hcz13_2 := bc BK203 2
     have hfz13_0 := qD BK203.out 0
     have hfz13_1 := qD BK203.out 1
     have hfz13_2 := qD BK203.out 2
     go_wp2_with (first | ((with_reducible refine qS (f := 82) rfl ?_); refine qq (some 7) rfl rfl Tryd.func82 (by kernel_rfl) rfl #[.int .i64 a1_2, .int .i64 0, .int .i64 2] rfl (by (try simp only [List.map_toArray, List.map_cons, List.map_nil]); first | done | rfl | (simp only [List.length_drop, List.length_take]; rfl)) ?_; (with_reducible refine (qSA.calls a1_2 0 2 true _ A6.out).mono ?_); rintro e w' ⟨rfl, ⟨nd, rfl⟩⟩; refine ⟨_, rfl, ?_⟩; have hcz14_0 := bc BK202 0; have hfz14_0 := qD BK202.out 0) | (go_at_call 83; (with_reducible refine (qFA.calls _ _ l0 a1_0 a1_1 true _ ?side1 ?side2 A8.out).mono ?_); (case side1 => repeat (first | exact (Kd.qUA HR0.out bl) | (with_reducible refine Kd.qHA ?_ _) | (with_reducible refine Kd.qGA ?_ _) | (with_reducible refine Kd.qNA ?_))); (case side2 => exact HC0.out); rintro e w' ⟨rfl, ⟨nd, rfl⟩⟩) | (go_at_call 71; (with_reducible refine (qRA.calls _ _ l0 a1_0 a1_1 t206 _ ?side1 ?side2 A11.out).mono ?_); (case side1 => repeat (first | exact (Kd.qUA HR0.out bl) | (with_reducible refine Kd.qHA ?_ _) | (with_reducible refine Kd.qGA ?_ _) | (with_reducible refine Kd.qNA ?_))); (case side2 => exact HC0.out); rintro e w' ⟨rfl, ⟨nd, rfl⟩⟩))
     go_meet
     case rel => exact ⟨_, ((t206 == 45)), (by first | rfl | (simp; done) | (simp [*]; done)), H', ⟨by first | omega | exact Nat.le_refl _⟩, ⟨by (with_reducible repeat (first | refine qB ?_ _ | refine qC ?_ | refine qA ?_ _)); exact BK202.out⟩, ⟨by (with_reducible repeat (first | refine qB ?_ _ | refine qC ?_ | refine qA ?_ _)); exact BK203.out⟩, ⟨bl⟩⟩
    ·rw [if_neg c10] at H
     have c10b0 : (a1_2 == 0) = false := beq_eq_false_iff_ne.mpr c10
     have c10b1 : (a1_2 != 0) = true := bne_iff_ne.mpr c10
     (first | rw [c10b0] | (simp only [i64_w, i32_w]; rw [c10b0]) | skip)
     have H' := Aside0.mk H
     clear H
     have hnb15 := NB203_202.out
     have hnc15 := NB202_203.out
     have hcz16_0 := bc BK203 0
     have hcz16_1 := bc BK203 1
     have hcz16_2 := bc BK203 2
     have hfz16_0 := qD BK203.out 0
     have hfz16_1 := qD BK203.out 1
     have hfz16_2 := qD BK203.out 2
     go_wp2_with (first | ((with_reducible refine qS (f := 82) rfl ?_); refine qq (some 7) rfl rfl Tryd.func82 (by kernel_rfl) rfl #[.int .i64 a1_2, .int .i64 0, .int .i64 2] rfl (by (try simp only [List.map_toArray, List.map_cons, List.map_nil]); first | done | rfl | (simp only [List.length_drop, List.length_take]; rfl)) ?_; (with_reducible refine (qSA.calls a1_2 0 2 true _ A6.out).mono ?_); rintro e w' ⟨rfl, ⟨nd, rfl⟩⟩; refine ⟨_, rfl, ?_⟩; have hcz17_0 := bc BK202 0; have hfz17_0 := qD BK202.out 0) | (go_at_call 83; (with_reducible refine (qFA.calls _ _ l0 a1_0 a1_1 true _ ?side1 ?side2 A8.out).mono ?_); (case side1 => repeat (first | exact (Kd.qUA HR0.out bl) | (with_reducible refine Kd.qHA ?_ _) | (with_reducible refine Kd.qGA ?_ _) | (with_reducible refine Kd.qNA ?_))); (case side2 => exact HC0.out); rintro e w' ⟨rfl, ⟨nd, rfl⟩⟩))
     go_meet
     case rel => exact ⟨_, (false), (by first | rfl | (simp; done) | (simp [*]; done)), H', ⟨by first | omega | exact Nat.le_refl _⟩, ⟨by (with_reducible repeat (first | refine qB ?_ _ | refine qC ?_ | refine qA ?_ _)); exact BK202.out⟩, ⟨by (with_reducible repeat (first | refine qB ?_ _ | refine qC ?_ | refine qA ?_ _)); exact BK203.out⟩, ⟨bl⟩⟩
   ·replace c9 := Bool.eq_false_iff.mpr c9
    subst c9
    have H1 : (qd.j0 k true l0 a1_0 a1_1 a1_2) = some r := by rw [if_neg (show ¬ (false = true) by decide)] at H; exact H
    clear H
    have H := H1
    clear H1
    have H' := Aside0.mk H
    clear H
    have hnb18 := NB203_202.out
    have hnc18 := NB202_203.out
    have hcz19_0 := bc BK203 0
    have hcz19_1 := bc BK203 1
    have hcz19_2 := bc BK203 2
    have hfz19_0 := qD BK203.out 0
    have hfz19_1 := qD BK203.out 1
    have hfz19_2 := qD BK203.out 2
    go_wp2_with (first | ((with_reducible refine qS (f := 82) rfl ?_); refine qq (some 7) rfl rfl Tryd.func82 (by kernel_rfl) rfl #[.int .i64 a1_2, .int .i64 0, .int .i64 2] rfl (by (try simp only [List.map_toArray, List.map_cons, List.map_nil]); first | done | rfl | (simp only [List.length_drop, List.length_take]; rfl)) ?_; (with_reducible refine (qSA.calls a1_2 0 2 true _ A6.out).mono ?_); rintro e w' ⟨rfl, ⟨nd, rfl⟩⟩; refine ⟨_, rfl, ?_⟩; have hcz20_0 := bc BK202 0; have hfz20_0 := qD BK202.out 0) | (go_at_call 83; (with_reducible refine (qFA.calls _ _ l0 a1_0 a1_1 false _ ?side1 ?side2 A8.out).mono ?_); (case side1 => repeat (first | exact (Kd.qUA HR0.out bl) | (with_reducible refine Kd.qHA ?_ _) | (with_reducible refine Kd.qGA ?_ _) | (with_reducible refine Kd.qNA ?_))); (case side2 => exact HC0.out); rintro e w' ⟨rfl, ⟨nd, rfl⟩⟩))
    go_meet
    case rel => exact ⟨_, (true), (by first | rfl | (simp; done) | (simp [*]; done)), H', ⟨by first | omega | exact Nat.le_refl _⟩, ⟨by (with_reducible repeat (first | refine qB ?_ _ | refine qC ?_ | refine qA ?_ _)); exact BK202.out⟩, ⟨by (with_reducible repeat (first | refine qB ?_ _ | refine qC ?_ | refine qA ?_ _)); exact BK203.out⟩, ⟨bl⟩⟩
  ·replace c7 := Bool.eq_false_iff.mpr c7
   subst c7
   have H1 : (qd.j0 k true l0 a1_0 a1_1 a1_2) = some r := by rw [if_neg (show ¬ (false = true) by decide)] at H; exact H
   clear H
   have H := H1
   clear H1
   have H' := Aside0.mk H
   clear H
   have hnb21 := NB203_202.out
   have hnc21 := NB202_203.out
   have hcz22_0 := bc BK203 0
   have hcz22_1 := bc BK203 1
   have hcz22_2 := bc BK203 2
   have hfz22_0 := qD BK203.out 0
   have hfz22_1 := qD BK203.out 1
   have hfz22_2 := qD BK203.out 2
   go_wp2_with (first | ((with_reducible refine qS (f := 82) rfl ?_); refine qq (some 7) rfl rfl Tryd.func82 (by kernel_rfl) rfl #[.int .i64 a1_2, .int .i64 0, .int .i64 2] rfl (by (try simp only [List.map_toArray, List.map_cons, List.map_nil]); first | done | rfl | (simp only [List.length_drop, List.length_take]; rfl)) ?_; (with_reducible refine (qSA.calls a1_2 0 2 false _ A6.out).mono ?_); rintro e w' ⟨rfl, ⟨nd, rfl⟩⟩; refine ⟨_, rfl, ?_⟩))
   go_meet
   case rel => exact ⟨_, (true), (by first | rfl | (simp; done) | (simp [*]; done)), H', ⟨by first | omega | exact Nat.le_refl _⟩, ⟨by (with_reducible repeat (first | refine qB ?_ _ | refine qC ?_ | refine qA ?_ _)); exact BK202.out⟩, ⟨by (with_reducible repeat (first | refine qB ?_ _ | refine qC ?_ | refine qA ?_ _)); exact BK203.out⟩, ⟨bl⟩⟩
 case rest =>
  clear HC3
  try clear c1
  try clear c2
  try clear p2
  try clear c5
  try clear c7
  try clear c8
  try clear c9
  try clear c10
  try clear c10b0
  try clear c10b1
  try clear c12
  try clear c15
  try clear c18
  try clear c21
  try clear hcz13_0
  try clear hcz13_1
  try clear hcz13_2
  try clear hcz14_0
  try clear hcz16_0
  try clear hcz16_1
  try clear hcz16_2
  try clear hcz17_0
  try clear hcz19_0
  try clear hcz19_1
  try clear hcz19_2
  try clear hcz20_0
  try clear hcz22_0
  try clear hcz22_1
  try clear hcz22_2
  try clear hfz13_0
  try clear hfz13_1
  try clear hfz13_2
  try clear hfz14_0
  try clear hfz16_0
  try clear hfz16_1
  try clear hfz16_2
  try clear hfz17_0
  try clear hfz19_0
  try clear hfz19_1
  try clear hfz19_2
  try clear hfz20_0
  try clear hfz22_0
  try clear hfz22_1
  try clear hfz22_2
  obtain ⟨kq, x31_2, rfl, HA, HJ2, BK202, BK203, HB⟩ := hcut
  cases kq with
  | zero => exact absurd HA.out (by simp [qd.j0])
  | succ kj2 =>
   have H := HA.out
   clear HA
   simp only [qd.j0] at H
   by_cases c23 : x31_2 = true
   ·subst c23
    have H1 : (some false) = some r := by rw [if_pos rfl] at H; exact H
    clear H
    have H := H1
    clear H1
    obtain rfl := Option.some.inj H
    go_wp2
    go_ret
    exact ⟨by first | rfl | (simp [qM, qL] <;> rfl) | (simp [*, qM, qL] <;> rfl), bl⟩
   ·replace c23 := Bool.eq_false_iff.mpr c23
    subst c23
    have H1 : ((qoA.f a1_0 a1_1 a1_2).bind fun t207 => ((quA.f t207 l0).bind fun t210 => (some (!t210)))) = some r := by rw [if_neg (show ¬ (false = true) by decide)] at H; exact H
    clear H
    have H := H1
    clear H1
    replace H := Option.bind_eq_some_iff.mp H
    obtain ⟨t207, A240, H⟩ := H
    replace H : ((quA.f t207 l0).bind fun t210 => (some (!t210))) = some r := H
    have A24 := Aside0.mk A240
    clear A240
    replace H := Option.bind_eq_some_iff.mp H
    obtain ⟨t210, A250, H⟩ := H
    replace H : (some (!t210)) = some r := H
    have A25 := Aside0.mk A250
    clear A250
    obtain rfl := Option.some.inj H
    have hnb26 := NB203_202.out
    have hnc26 := NB202_203.out
    have hcz27_0 := bc BK203 0
    have hcz27_1 := bc BK203 1
    have hcz27_2 := bc BK203 2
    have hfz27_0 := qD BK203.out 0
    have hfz27_1 := qD BK203.out 1
    have hfz27_2 := qD BK203.out 2
    go_wp2_with (first | ((with_reducible refine qS (f := 85) rfl ?_); refine qq (some 33) rfl rfl Tryd.func85 (by kernel_rfl) rfl #[.agg #[.int .i64 a1_0, .int .i64 a1_1, .int .i64 a1_2]] rfl (by (try simp only [List.map_toArray, List.map_cons, List.map_nil]); first | done | rfl | (simp only [List.length_drop, List.length_take]; rfl)) ?_; (with_reducible refine (qoA.calls a1_0 a1_1 a1_2 t207 _ A24.out).mono ?_); rintro e w28 ⟨v208, rfl, ho0, hb⟩; refine ⟨_, rfl, ?_⟩; have n0_ := Aside0.mk (Kd.qBA ho0 (qg bl)); have n1_ := Aside0.mk (bb BK202 hb); have n2_ := Aside0.mk (bb BK203 hb); have n3_ := Aside0.mk (qG bl hb); clear BK202; clear BK203; clear HB; have HO209 := n0_; have BK202 := n1_; have BK203 := n2_; have HB := n3_; clear n0_ n1_ n2_ n3_; (try clear hb); (try clear hb2); (try clear hk); (try clear hi); (try clear ho0); obtain ⟨Ao29, co29, eo29⟩ := Kd.qt HO209.out; subst eo29) | ((with_reducible refine qS (f := 84) rfl ?_); refine qq (some 35) rfl rfl Tryd.func84 (by kernel_rfl) rfl #[.slice Ao29 t207.length co29, .func (.func 86) #[] #[.pointer (some ⟨gb202, 0, none⟩)]] rfl (by (try simp only [List.map_toArray, List.map_cons, List.map_nil]); first | done | rfl | (simp only [List.length_drop, List.length_take]; rfl)) ?_; (with_reducible refine (quA.calls _ _ t207 gb202 A0 c0 l0 t210 _ ?side1 ?side2 ?side3 ?side4 ?side5 A25.out).mono ?_); (case side1 => repeat (first | exact (Kd.qf HO209.out).2.2 | (with_reducible refine Kd.qHA ?_ _) | (with_reducible refine Kd.qGA ?_ _) | (with_reducible refine Kd.qNA ?_))); (case side2 => exact (Kd.qf HO209.out).2.1); (case side3 => repeat (first | exact (Kd.qUA HR0.out HB.out) | (with_reducible refine Kd.qHA ?_ _) | (with_reducible refine Kd.qGA ?_ _) | (with_reducible refine Kd.qNA ?_))); (case side4 => exact HC0.out); (case side5 => exact (cell_of_row _ gb202 0 _ 61 (0, 0) (by (with_reducible repeat (first | refine qB ?_ _ | refine qC ?_ | refine qA ?_ _)); exact BK202.out)).trans rfl); rintro e w30 ⟨rfl, hb⟩; refine ⟨_, rfl, ?_⟩; have n0_ := Aside0.mk (Kd.qY (by (with_reducible repeat (first | apply Kd.qF | apply Kd.qE | apply Kd.qI)); exact HO209.out) hb); have n1_ := Aside0.mk (bb BK202 hb); have n2_ := Aside0.mk (bb BK203 hb); have n3_ := Aside0.mk (qG bl hb); clear HO209; clear BK202; clear BK203; clear HB; have HO209 := n0_; have BK202 := n1_; have BK203 := n2_; have HB := n3_; clear n0_ n1_ n2_ n3_; (try clear hb); (try clear hb2); (try clear hk); (try clear hi)))
    go_ret
    exact ⟨by first | rfl | (simp [qM, qL] <;> rfl) | (simp [*, qM, qL] <;> rfl), bl⟩
def qgA.f (k : Nat) (a0 : ByteArray) (a1_0 : Int) (a1_1 : Int) (a1_2 : Int) : Option (List ByteArray × Bool) := (qtA.f k a0).bind fun bt267 => (if bt267.2 = true then ((qd.f k bt267.1 a1_0 a1_1 a1_2).bind fun t271 => (some (bt267.1, t271))) else (some (bt267.1, false)))
set_option maxHeartbeats 8000000 in
set_option maxRecDepth 100000 in
theorem qgA.calls (k : Nat) (a0 : ByteArray) (a1_0 : Int) (a1_1 : Int) (a1_2 : Int) (r1 : List ByteArray) (r2 : Bool) (w : World) (hL : Laid w) (h : qgA.f k a0 a1_0 a1_1 a1_2 = some (r1, r2)) :
  Calls Tryd.prog 58 #[.string a0, .agg #[.int .i64 a1_0, .int .i64 a1_1, .int .i64 a1_2]] w fun e w' => ∃ v0_ : Value, e = .returned (.tuple #[v0_, .bool r2]) ∧ Kd.R Kd.string 9 w' w.heap.size (fun _ => True) v0_ r1 ∧ Below w.heap.size w w' := by
 have hu27 := Tryd.underlying27
 have HLD := Aside0.mk hL
 clear hL
 have HB := Aside0.mk (Below.refl w.heap.size w)
 have H : ((qtA.f k a0).bind fun bt267 => (if bt267.2 = true then ((qd.f k bt267.1 a1_0 a1_1 a1_2).bind fun t271 => (some (bt267.1, t271))) else (some (bt267.1, false)))) = some (r1, r2) := h
 clear h
 replace H := Option.bind_eq_some_iff.mp H
 obtain ⟨⟨t267, t268⟩, A30, H⟩ := H
 replace H : (if t268 = true then ((qd.f k t267 a1_0 a1_1 a1_2).bind fun t271 => (some (t267, t271))) else (some (t267, false))) = some (r1, r2) := H
 have A3 := Aside0.mk A30
 clear A30
 by_cases c4 : t268 = true
 ·subst c4
  have H1 : ((qd.f k t267 a1_0 a1_1 a1_2).bind fun t271 => (some (t267, t271))) = some (r1, r2) := by rw [if_pos rfl] at H; exact H
  clear H
  have H := H1
  clear H1
  replace H := Option.bind_eq_some_iff.mp H
  obtain ⟨t271, A50, H⟩ := H
  replace H : (some (t267, t271)) = some (r1, r2) := H
  have A5 := Aside0.mk A50
  clear A50
  simp only [Option.some.injEq, Prod.mk.injEq] at H
  obtain ⟨rfl, rfl⟩ := H
  go_enter Tryd.func58, Tryd.ntmps58
  go_wp2_with (first | ((with_reducible refine qV (N := 3) rfl ?_); refine qU ?hg (N := 3) ?hd (cs := #[.int .i64 a1_0, .int .i64 a1_1, .int .i64 a1_2]) (t := 27) ?hr ?_; (case hd => rfl); (case hg => rfl); (case hr => first | (go_simp; done) | (go_simp; rfl)); intro gb266 hg w6 hbox hb; have n0_ := Aside0.mk (qG bl hb); have n1_ := Aside0.mk (hbox); have n2_ := Aside0.mk ((gg hg)); have n3_ := Aside0.mk ((gg hg)); clear HB; have HB := n0_; have BK266 := n1_; have GW266 := n2_; have GE266 := n3_; clear n0_ n1_ n2_ n3_; clear hb hbox hg) | ((with_reducible refine qS (f := 54) rfl ?_); refine qq (some 10) rfl rfl Tryd.func54 (by kernel_rfl) rfl #[.string a0] rfl (by (try simp only [List.map_toArray, List.map_cons, List.map_nil]); first | done | rfl | (simp only [List.length_drop, List.length_take]; rfl)) ?_; (with_reducible refine (qtA.calls k a0 t267 true _ ?side1 A3.out).mono ?_); (case side1 => first | exact HLD.out | exact Laid.below HLD.out (by repeat (first | (with_reducible first | exact HB.out | apply qu | apply qv | apply qn | refine qcA ?_ (Aside0.out (by with_reducible assumption))) | exact HB.out))); rintro e w7 ⟨v269, rfl, ho0, hb⟩; refine ⟨_, rfl, ?_⟩; have n0_ := Aside0.mk (Kd.qBA ho0 (qg bl)); have n1_ := Aside0.mk (bb BK266 hb); have n2_ := Aside0.mk (qG bl hb); clear BK266; clear HB; have HO270 := n0_; have BK266 := n1_; have HB := n2_; clear n0_ n1_ n2_; (try clear hb); (try clear hb2); (try clear hk); (try clear hi); (try clear ho0); have hcz8_0 := bc BK266 0; have hcz8_1 := bc BK266 1; have hcz8_2 := bc BK266 2; have hfz8_0 := qD BK266.out 0; have hfz8_1 := qD BK266.out 1; have hfz8_2 := qD BK266.out 2; obtain ⟨Ao9, co9, eo9⟩ := Kd.qt HO270.out; subst eo9) | (go_at_call 56; (with_reducible refine (qd.calls k _ _ t267 a1_0 a1_1 a1_2 t271 _ ?side1 ?side2 A5.out).mono ?_); (case side1 => repeat (first | exact (Kd.qf HO270.out).2.2 | (with_reducible refine Kd.qHA ?_ _) | (with_reducible refine Kd.qGA ?_ _) | (with_reducible refine Kd.qNA ?_))); (case side2 => exact (Kd.qf HO270.out).2.1); rintro e w10 ⟨rfl, hb⟩; have n0_ := Aside0.mk (Kd.qY (by (with_reducible repeat (first | apply Kd.qF | apply Kd.qE | apply Kd.qI)); exact HO270.out) hb); have n1_ := Aside0.mk (bb BK266 hb); have n2_ := Aside0.mk (qG bl hb); clear HO270; clear BK266; clear HB; have HO270 := n0_; have BK266 := n1_; have HB := n2_; clear n0_ n1_ n2_; (try clear hb); (try clear hb2); (try clear hk); (try clear hi)))
  go_ret2
  exact ⟨_, by first | rfl | (simp [qM, qL] <;> rfl) | (simp [*, qM, qL] <;> rfl), by (with_reducible repeat (first | apply Kd.qF | apply Kd.qE | apply Kd.qI)); exact HO270.out, bl⟩
 ·replace c4 := Bool.eq_false_iff.mpr c4
  subst c4
  have H1 : (some (t267, false)) = some (r1, r2) := by rw [if_neg (show ¬ (false = true) by decide)] at H; exact H
  clear H
  have H := H1
  clear H1
  simp only [Option.some.injEq, Prod.mk.injEq] at H
  obtain ⟨rfl, rfl⟩ := H
  go_enter Tryd.func58, Tryd.ntmps58
  go_wp2_with (first | ((with_reducible refine qV (N := 3) rfl ?_); refine qU ?hg (N := 3) ?hd (cs := #[.int .i64 a1_0, .int .i64 a1_1, .int .i64 a1_2]) (t := 27) ?hr ?_; (case hd => rfl); (case hg => rfl); (case hr => first | (go_simp; done) | (go_simp; rfl)); intro gb266 hg w11 hbox hb; have n0_ := Aside0.mk (qG bl hb); have n1_ := Aside0.mk (hbox); have n2_ := Aside0.mk ((gg hg)); have n3_ := Aside0.mk ((gg hg)); clear HB; have HB := n0_; have BK266 := n1_; have GW266 := n2_; have GE266 := n3_; clear n0_ n1_ n2_ n3_; clear hb hbox hg) | ((with_reducible refine qS (f := 54) rfl ?_); refine qq (some 10) rfl rfl Tryd.func54 (by kernel_rfl) rfl #[.string a0] rfl (by (try simp only [List.map_toArray, List.map_cons, List.map_nil]); first | done | rfl | (simp only [List.length_drop, List.length_take]; rfl)) ?_; (with_reducible refine (qtA.calls k a0 t267 false _ ?side1 A3.out).mono ?_); (case side1 => first | exact HLD.out | exact Laid.below HLD.out (by repeat (first | (with_reducible first | exact HB.out | apply qu | apply qv | apply qn | refine qcA ?_ (Aside0.out (by with_reducible assumption))) | exact HB.out))); rintro e w12 ⟨v269, rfl, ho0, hb⟩; refine ⟨_, rfl, ?_⟩; have n0_ := Aside0.mk (Kd.qBA ho0 (qg bl)); have n1_ := Aside0.mk (bb BK266 hb); have n2_ := Aside0.mk (qG bl hb); clear BK266; clear HB; have HO270 := n0_; have BK266 := n1_; have HB := n2_; clear n0_ n1_ n2_; (try clear hb); (try clear hb2); (try clear hk); (try clear hi); (try clear ho0)))
  go_ret2
  exact ⟨_, by first | rfl | (simp [qM, qL] <;> rfl) | (simp [*, qM, qL] <;> rfl), by (with_reducible repeat (first | apply Kd.qF | apply Kd.qE | apply Kd.qI)); exact HO270.out, bl⟩
def qDB.f (a0 : Int) (a1 : Int) (a2 : Int) : Option (Int × Int) := if a2 = 110 then (some (a0, wrap64 (a1 - 1))) else (if a2 = 101 then (some (wrap64 (a0 + 1), a1)) else (if a2 = 115 then (some (a0, wrap64 (a1 + 1))) else (some (wrap64 (a0 - 1), a1))))
set_option maxHeartbeats 8000000 in
set_option maxRecDepth 100000 in
theorem qDB.calls (a0 : Int) (a1 : Int) (a2 : Int) (r1 : Int) (r2 : Int) (w : World) (h : qDB.f a0 a1 a2 = some (r1, r2)) :
  Calls Tryd.prog 109 #[.int .i64 a0, .int .i64 a1, .int .u8 a2] w fun e w' => e = .returned (.tuple #[.int .i64 r1, .int .i64 r2]) ∧ Drawn0 w w' := by
 have H : (if a2 = 110 then (some (a0, wrap64 (a1 - 1))) else (if a2 = 101 then (some (wrap64 (a0 + 1), a1)) else (if a2 = 115 then (some (a0, wrap64 (a1 + 1))) else (some (wrap64 (a0 - 1), a1))))) = some (r1, r2) := h
 clear h
 by_cases c4 : a2 = 110
 ·rw [if_pos c4] at H
  have c4b0 : (a2 == 110) = true := beq_iff_eq.mpr c4
  have c4b1 : (a2 != 110) = false := bne_eq_false_iff_eq.mpr c4
  clear c4
  simp only [Option.some.injEq, Prod.mk.injEq] at H
  obtain ⟨rfl, rfl⟩ := H
  go_enter Tryd.func109, Tryd.ntmps109
  go_wp2
  go_ret2
  exact ⟨by first | rfl | (simp; done) | (simp [*]; done), by repeat (first | exact Drawn0.refl _ | apply Drawn0.step)⟩
 ·rw [if_neg c4] at H
  have c4b0 : (a2 == 110) = false := beq_eq_false_iff_ne.mpr c4
  have c4b1 : (a2 != 110) = true := bne_iff_ne.mpr c4
  by_cases c5 : a2 = 101
  ·rw [if_pos c5] at H
   have c5b0 : (a2 == 101) = true := beq_iff_eq.mpr c5
   have c5b1 : (a2 != 101) = false := bne_eq_false_iff_eq.mpr c5
   clear c5
   simp only [Option.some.injEq, Prod.mk.injEq] at H
   obtain ⟨rfl, rfl⟩ := H
   go_enter Tryd.func109, Tryd.ntmps109
   go_wp2
   go_ret2
   exact ⟨by first | rfl | (simp; done) | (simp [*]; done), by repeat (first | exact Drawn0.refl _ | apply Drawn0.step)⟩
  ·rw [if_neg c5] at H
   have c5b0 : (a2 == 101) = false := beq_eq_false_iff_ne.mpr c5
   have c5b1 : (a2 != 101) = true := bne_iff_ne.mpr c5
   by_cases c6 : a2 = 115
   ·rw [if_pos c6] at H
    have c6b0 : (a2 == 115) = true := beq_iff_eq.mpr c6
    have c6b1 : (a2 != 115) = false := bne_eq_false_iff_eq.mpr c6
    clear c6
    simp only [Option.some.injEq, Prod.mk.injEq] at H
    obtain ⟨rfl, rfl⟩ := H
    go_enter Tryd.func109, Tryd.ntmps109
    go_wp2
    go_ret2
    exact ⟨by first | rfl | (simp; done) | (simp [*]; done), by repeat (first | exact Drawn0.refl _ | apply Drawn0.step)⟩
   ·rw [if_neg c6] at H
    have c6b0 : (a2 == 115) = false := beq_eq_false_iff_ne.mpr c6
    have c6b1 : (a2 != 115) = true := bne_iff_ne.mpr c6
    simp only [Option.some.injEq, Prod.mk.injEq] at H
    obtain ⟨rfl, rfl⟩ := H
    go_enter Tryd.func109, Tryd.ntmps109
    go_wp2
    go_ret2
    exact ⟨by first | rfl | (simp; done) | (simp [*]; done), by repeat (first | exact Drawn0.refl _ | apply Drawn0.step)⟩
mutual
def qX.j0 : Nat → Int → Bool → Int → Int → Int → Option (Int × Int × Int)
 | 0, _, _, _, _, _ => none
 | k + 1, x1, x5, x330000, x330001, x330002 => if x330002 = 0 then (if x1 = 110 then (some (x330000, wrap64 (x330001 - 2), 2)) else (if x1 = 101 then (some (wrap64 (x330000 + 1), x330001, 1)) else (if x1 = 115 then (some (x330000, wrap64 (x330001 + 1), 2)) else (some (wrap64 (x330000 - 2), x330001, 1))))) else (if x5 = true then (qX.j1 k x1 x5 (x1 == 101) x330000 x330001 x330002) else (qX.j1 k x1 x5 false x330000 x330001 x330002))
def qX.j1 : Nat → Int → Bool → Bool → Int → Int → Int → Option (Int × Int × Int)
 | 0, _, _, _, _, _, _ => none
 | k + 1, x1, x5, x67, x330000, x330001, x330002 => if x67 = true then (some (wrap64 (x330000 + 2), x330001, 0)) else (if x5 = true then (qX.j2 k x1 x5 (x1 == 115) x330000 x330001 x330002) else (qX.j2 k x1 x5 false x330000 x330001 x330002))
def qX.j2 : Nat → Int → Bool → Bool → Int → Int → Int → Option (Int × Int × Int)
 | 0, _, _, _, _, _, _ => none
 | k + 1, x1, x5, x79, x330000, x330001, x330002 => if x79 = true then (some (x330000, wrap64 (x330001 + 2), 0)) else ((qDB.f x330000 x330001 x1).bind fun bt331 => (if x5 = true then (some (bt331.1, bt331.2, 0)) else (some (bt331.1, bt331.2, x330002))))
end
def qX.f (k : Nat) (a0_0 : Int) (a0_1 : Int) (a0_2 : Int) (a1 : Int) : Option (Int × Int × Int) := if a0_2 = 2 then (if a1 = 110 then (qX.j0 k a1 true a0_0 a0_1 a0_2) else (if a1 = 115 then (qX.j0 k a1 true a0_0 a0_1 a0_2) else (if a0_2 = 1 then (if a1 = 101 then (qX.j0 k a1 true a0_0 a0_1 a0_2) else (qX.j0 k a1 (a1 == 119) a0_0 a0_1 a0_2)) else (qX.j0 k a1 false a0_0 a0_1 a0_2)))) else (if a0_2 = 1 then (if a1 = 101 then (qX.j0 k a1 true a0_0 a0_1 a0_2) else (qX.j0 k a1 (a1 == 119) a0_0 a0_1 a0_2)) else (qX.j0 k a1 false a0_0 a0_1 a0_2))
set_option maxHeartbeats 8000000 in
set_option maxRecDepth 100000 in
theorem qX.calls (k : Nat) (a0_0 : Int) (a0_1 : Int) (a0_2 : Int) (a1 : Int) (r1 : Int) (r2 : Int) (r3 : Int) (w : World) (h : qX.f k a0_0 a0_1 a0_2 a1 = some (r1, r2, r3)) :
  Calls Tryd.prog 88 #[.agg #[.int .i64 a0_0, .int .i64 a0_1, .int .i64 a0_2], .int .u8 a1] w fun e w' => e = .returned (.agg #[.int .i64 r1, .int .i64 r2, .int .i64 r3]) ∧ Below w.heap.size w w' := by
 have hu27 := Tryd.underlying27
 have HB := Aside0.mk (Below.refl w.heap.size w)
 have H : (if a0_2 = 2 then (if a1 = 110 then (qX.j0 k a1 true a0_0 a0_1 a0_2) else (if a1 = 115 then (qX.j0 k a1 true a0_0 a0_1 a0_2) else (if a0_2 = 1 then (if a1 = 101 then (qX.j0 k a1 true a0_0 a0_1 a0_2) else (qX.j0 k a1 (a1 == 119) a0_0 a0_1 a0_2)) else (qX.j0 k a1 false a0_0 a0_1 a0_2)))) else (if a0_2 = 1 then (if a1 = 101 then (qX.j0 k a1 true a0_0 a0_1 a0_2) else (qX.j0 k a1 (a1 == 119) a0_0 a0_1 a0_2)) else (qX.j0 k a1 false a0_0 a0_1 a0_2))) = some (r1, r2, r3) := h
 clear h
 have HC3 := Aside0.mk H
 clear H
 go_enter Tryd.func88, Tryd.ntmps88
 go_upto_region 1 with (first | ((with_reducible refine qV (N := 2) rfl ?_); refine qU ?hg (N := 2) ?hd (cs := #[.int .i64 a0_0, .int .i64 a0_1, .int .i64 a0_2]) (t := 27) ?hr ?_; (case hd => rfl); (case hg => rfl); (case hr => first | (go_simp; done) | (go_simp; rfl)); intro gb329 hg w4 hbox hb; have n0_ := Aside0.mk (qG bl hb); have n1_ := Aside0.mk (hbox); have n2_ := Aside0.mk ((gg hg)); have n3_ := Aside0.mk ((gg hg)); clear HB; have HB := n0_; have BK329 := n1_; have GW329 := n2_; have GE329 := n3_; clear n0_ n1_ n2_ n3_; clear hb hbox hg) | ((with_reducible refine qV (N := 4) rfl ?_); refine qU ?hg (N := 4) ?hd (cs := #[.int .i64 0, .int .i64 0, .int .i64 0]) (t := 27) ?hr ?_; (case hd => rfl); (case hg => rfl); (case hr => first | (go_simp; done) | (go_simp; rfl)); intro gb330 hg w5 hbox hb; have n0_ := Aside0.mk (bb BK329 hb); have n1_ := Aside0.mk (qG bl hb); have n2_ := Aside0.mk (hbox); have n3_ := Aside0.mk ((gg hg)); have n4_ := Aside0.mk ((gg hg)); have n5_ := Aside0.mk ((nl BK329 hg)); have n6_ := Aside0.mk ((nr BK329 hg)); clear BK329; clear HB; have BK329 := n0_; have HB := n1_; have BK330 := n2_; have GW330 := n3_; have GE330 := n4_; have NB329_330 := n5_; have NB330_329 := n6_; clear n0_ n1_ n2_ n3_ n4_ n5_ n6_; clear hb hbox hg))
 (try simp only [Act.put, List.setIfInBounds_toArray, List.set_cons_zero, List.set_cons_succ])
 go_cut [5] (fun v5 wc => ∃ (kq : Nat) (x5_2 : Bool), v5 = .bool x5_2 ∧ Aside0 (qX.j0 kq a1 x5_2 a0_0 a0_1 a0_2 = some (r1, r2, r3)) ∧ Aside0 (kq ≤ k) ∧ Aside0 (wc.heap[gb329]? = some (.cells #[.int .i64 a0_0, .int .i64 a0_1, .int .i64 a0_2] 27 (0, 0))) ∧ Aside0 (wc.heap[gb330]? = some (.cells #[.int .i64 0, .int .i64 0, .int .i64 0] 27 (0, 0))) ∧ Aside0 (Below w.heap.size w wc))
 case first =>
  have H := HC3.out
  clear HC3
  by_cases c6 : a0_2 = 2
  ·rw [if_pos c6] at H
   have c6b0 : (a0_2 == 2) = true := beq_iff_eq.mpr c6
   have c6b1 : (a0_2 != 2) = false := bne_eq_false_iff_eq.mpr c6
   clear c6
   (first | rw [c6b0] | (simp only [i64_w, i32_w]; rw [c6b0]) | skip)
   by_cases c7 : a1 = 110
   ·rw [if_pos c7] at H
    have c7b0 : (a1 == 110) = true := beq_iff_eq.mpr c7
    have c7b1 : (a1 != 110) = false := bne_eq_false_iff_eq.mpr c7
    clear c7
    have H' := Aside0.mk H
    clear H
    have hnb8 := NB329_330.out
    have hnc8 := NB330_329.out
    have hcz9_0 := bc BK329 0
    have hcz9_1 := bc BK329 1
    have hcz9_2 := bc BK329 2
    have hfz9_0 := qD BK329.out 0
    have hfz9_1 := qD BK329.out 1
    have hfz9_2 := qD BK329.out 2
    go_wp2
    go_meet
    case rel => exact ⟨_, (true), (by first | rfl | (simp; done) | (simp [*]; done)), H', ⟨by first | omega | exact Nat.le_refl _⟩, ⟨by (with_reducible repeat (first | refine qB ?_ _ | refine qC ?_ | refine qA ?_ _)); exact BK329.out⟩, ⟨by (with_reducible repeat (first | refine qB ?_ _ | refine qC ?_ | refine qA ?_ _)); exact BK330.out⟩, ⟨bl⟩⟩
   ·rw [if_neg c7] at H
    have c7b0 : (a1 == 110) = false := beq_eq_false_iff_ne.mpr c7
    have c7b1 : (a1 != 110) = true := bne_iff_ne.mpr c7
    by_cases c10 : a1 = 115
    ·rw [if_pos c10] at H
     have c10b0 : (a1 == 115) = true := beq_iff_eq.mpr c10
     have c10b1 : (a1 != 115) = false := bne_eq_false_iff_eq.mpr c10
     clear c10
     have H' := Aside0.mk H
     clear H
     have hnb11 := NB329_330.out
     have hnc11 := NB330_329.out
     have hcz12_0 := bc BK329 0
     have hcz12_1 := bc BK329 1
     have hcz12_2 := bc BK329 2
     have hfz12_0 := qD BK329.out 0
     have hfz12_1 := qD BK329.out 1
     have hfz12_2 := qD BK329.out 2
     go_wp2
     go_meet
     case rel => exact ⟨_, (true), (by first | rfl | (simp; done) | (simp [*]; done)), H', ⟨by first | omega | exact Nat.le_refl _⟩, ⟨by (with_reducible repeat (first | refine qB ?_ _ | refine qC ?_ | refine qA ?_ _)); exact BK329.out⟩, ⟨by (with_reducible repeat (first | refine qB ?_ _ | refine qC ?_ | refine qA ?_ _)); exact BK330.out⟩, ⟨bl⟩⟩
    ·rw [if_neg c10] at H
     have c10b0 : (a1 == 115) = false := beq_eq_false_iff_ne.mpr c10
     have c10b1 : (a1 != 115) = true := bne_iff_ne.mpr c10
     by_cases c13 : a0_2 = 1
     ·rw [if_pos c13] at H
      have c13b0 : (a0_2 == 1) = true := beq_iff_eq.mpr c13
      have c13b1 : (a0_2 != 1) = false := bne_eq_false_iff_eq.mpr c13
      clear c13
      by_cases c14 : a1 = 101
      ·rw [if_pos c14] at H
       have c14b0 : (a1 == 101) = true := beq_iff_eq.mpr c14
       have c14b1 : (a1 != 101) = false := bne_eq_false_iff_eq.mpr c14
       clear c14
       have H' := Aside0.mk H
       clear H
       have hnb15 := NB329_330.out
       have hnc15 := NB330_329.out
       have hcz16_0 := bc BK329 0
       have hcz16_1 := bc BK329 1
       have hcz16_2 := bc BK329 2
       have hfz16_0 := qD BK329.out 0
       have hfz16_1 := qD BK329.out 1
       have hfz16_2 := qD BK329.out 2
       go_wp2
       go_meet
       case rel => exact ⟨_, (true), (by first | rfl | (simp; done) | (simp [*]; done)), H', ⟨by first | omega | exact Nat.le_refl _⟩, ⟨by (with_reducible repeat (first | refine qB ?_ _ | refine qC ?_ | refine qA ?_ _)); exact BK329.out⟩, ⟨by (with_reducible repeat (first | refine qB ?_ _ | refine qC ?_ | refine qA ?_ _)); exact BK330.out⟩, ⟨bl⟩⟩
      ·rw [if_neg c14] at H
       have c14b0 : (a1 == 101) = false := beq_eq_false_iff_ne.mpr c14
       have c14b1 : (a1 != 101) = true := bne_iff_ne.mpr c14
       have H' := Aside0.mk H
       clear H
       have hnb17 := NB329_330.out
       have hnc17 := NB330_329.out
       have hcz18_0 := bc BK329 0
       have hcz18_1 := bc BK329 1
       have hcz18_2 := bc BK329 2
       have hfz18_0 := qD BK329.out 0
       have hfz18_1 := qD BK329.out 1
       have hfz18_2 := qD BK329.out 2
       go_wp2
       go_meet
       case rel => exact ⟨_, ((a1 == 119)), (by first | rfl | (simp; done) | (simp [*]; done)), H', ⟨by first | omega | exact Nat.le_refl _⟩, ⟨by (with_reducible repeat (first | refine qB ?_ _ | refine qC ?_ | refine qA ?_ _)); exact BK329.out⟩, ⟨by (with_reducible repeat (first | refine qB ?_ _ | refine qC ?_ | refine qA ?_ _)); exact BK330.out⟩, ⟨bl⟩⟩
     ·rw [if_neg c13] at H
      have c13b0 : (a0_2 == 1) = false := beq_eq_false_iff_ne.mpr c13
      have c13b1 : (a0_2 != 1) = true := bne_iff_ne.mpr c13
      have H' := Aside0.mk H
      clear H
      have hnb19 := NB329_330.out
      have hnc19 := NB330_329.out
      have hcz20_0 := bc BK329 0
      have hcz20_1 := bc BK329 1
      have hcz20_2 := bc BK329 2
      have hfz20_0 := qD BK329.out 0
      have hfz20_1 := qD BK329.out 1
      have hfz20_2 := qD BK329.out 2
      go_wp2
      go_meet
      case rel => exact ⟨_, (false), (by first | rfl | (simp; done) | (simp [*]; done)), H', ⟨by first | omega | exact Nat.le_refl _⟩, ⟨by (with_reducible repeat (first | refine qB ?_ _ | refine qC ?_ | refine qA ?_ _)); exact BK329.out⟩, ⟨by (with_reducible repeat (first | refine qB ?_ _ | refine qC ?_ | refine qA ?_ _)); exact BK330.out⟩, ⟨bl⟩⟩
  ·rw [if_neg c6] at H
   have c6b0 : (a0_2 == 2) = false := beq_eq_false_iff_ne.mpr c6
   have c6b1 : (a0_2 != 2) = true := bne_iff_ne.mpr c6
   (first | rw [c6b0] | (simp only [i64_w, i32_w]; rw [c6b0]) | skip)
   by_cases c21 : a0_2 = 1
   ·rw [if_pos c21] at H
    have c21b0 : (a0_2 == 1) = true := beq_iff_eq.mpr c21
    have c21b1 : (a0_2 != 1) = false := bne_eq_false_iff_eq.mpr c21
    clear c21
    by_cases c22 : a1 = 101
    ·rw [if_pos c22] at H
     have c22b0 : (a1 == 101) = true := beq_iff_eq.mpr c22
     have c22b1 : (a1 != 101) = false := bne_eq_false_iff_eq.mpr c22
     clear c22
     have H' := Aside0.mk H
     clear H
     have hnb23 := NB329_330.out
     have hnc23 := NB330_329.out
     have hcz24_0 := bc BK329 0
     have hcz24_1 := bc BK329 1
     have hcz24_2 := bc BK329 2
     have hfz24_0 := qD BK329.out 0
     have hfz24_1 := qD BK329.out 1
     have hfz24_2 := qD BK329.out 2
     go_wp2
     go_meet
     case rel => exact ⟨_, (true), (by first | rfl | (simp; done) | (simp [*]; done)), H', ⟨by first | omega | exact Nat.le_refl _⟩, ⟨by (with_reducible repeat (first | refine qB ?_ _ | refine qC ?_ | refine qA ?_ _)); exact BK329.out⟩, ⟨by (with_reducible repeat (first | refine qB ?_ _ | refine qC ?_ | refine qA ?_ _)); exact BK330.out⟩, ⟨bl⟩⟩
    ·rw [if_neg c22] at H
     have c22b0 : (a1 == 101) = false := beq_eq_false_iff_ne.mpr c22
     have c22b1 : (a1 != 101) = true := bne_iff_ne.mpr c22
     have H' := Aside0.mk H
     clear H
     have hnb25 := NB329_330.out
     have hnc25 := NB330_329.out
     have hcz26_0 := bc BK329 0
     have hcz26_1 := bc BK329 1
     have hcz26_2 := bc BK329 2
     have hfz26_0 := qD BK329.out 0
     have hfz26_1 := qD BK329.out 1
     have hfz26_2 := qD BK329.out 2
     go_wp2
     go_meet
     case rel => exact ⟨_, ((a1 == 119)), (by first | rfl | (simp; done) | (simp [*]; done)), H', ⟨by first | omega | exact Nat.le_refl _⟩, ⟨by (with_reducible repeat (first | refine qB ?_ _ | refine qC ?_ | refine qA ?_ _)); exact BK329.out⟩, ⟨by (with_reducible repeat (first | refine qB ?_ _ | refine qC ?_ | refine qA ?_ _)); exact BK330.out⟩, ⟨bl⟩⟩
   ·rw [if_neg c21] at H
    have c21b0 : (a0_2 == 1) = false := beq_eq_false_iff_ne.mpr c21
    have c21b1 : (a0_2 != 1) = true := bne_iff_ne.mpr c21
    have H' := Aside0.mk H
    clear H
    have hnb27 := NB329_330.out
    have hnc27 := NB330_329.out
    have hcz28_0 := bc BK329 0
    have hcz28_1 := bc BK329 1
    have hcz28_2 := bc BK329 2
    have hfz28_0 := qD BK329.out 0
    have hfz28_1 := qD BK329.out 1
    have hfz28_2 := qD BK329.out 2
    go_wp2
    go_meet
    case rel => exact ⟨_, (false), (by first | rfl | (simp; done) | (simp [*]; done)), H', ⟨by first | omega | exact Nat.le_refl _⟩, ⟨by (with_reducible repeat (first | refine qB ?_ _ | refine qC ?_ | refine qA ?_ _)); exact BK329.out⟩, ⟨by (with_reducible repeat (first | refine qB ?_ _ | refine qC ?_ | refine qA ?_ _)); exact BK330.out⟩, ⟨bl⟩⟩
 case rest =>
  clear HC3
  try clear c1
  try clear c2
  try clear p2
  try clear c6
  try clear c6b0
  try clear c6b1
  try clear c7
  try clear c7b0
  try clear c7b1
  try clear c8
  try clear c10
  try clear c10b0
  try clear c10b1
  try clear c11
  try clear c13
  try clear c13b0
  try clear c13b1
  try clear c14
  try clear c14b0
  try clear c14b1
  try clear c15
  try clear c17
  try clear c19
  try clear c21
  try clear c21b0
  try clear c21b1
  try clear c22
  try clear c22b0
  try clear c22b1
  try clear c23
  try clear c25
  try clear c27
  try clear hcz12_0
  try clear hcz12_1
  try clear hcz12_2
  try clear hcz16_0
  try clear hcz16_1
  try clear hcz16_2
  try clear hcz18_0
  try clear hcz18_1
  try clear hcz18_2
  try clear hcz20_0
  try clear hcz20_1
  try clear hcz20_2
  try clear hcz24_0
  try clear hcz24_1
  try clear hcz24_2
  try clear hcz26_0
  try clear hcz26_1
  try clear hcz26_2
  try clear hcz28_0
  try clear hcz28_1
  try clear hcz28_2
  try clear hcz9_0
  try clear hcz9_1
  try clear hcz9_2
  try clear hfz12_0
  try clear hfz12_1
  try clear hfz12_2
  try clear hfz16_0
  try clear hfz16_1
  try clear hfz16_2
  try clear hfz18_0
  try clear hfz18_1
  try clear hfz18_2
  try clear hfz20_0
  try clear hfz20_1
  try clear hfz20_2
  try clear hfz24_0
  try clear hfz24_1
  try clear hfz24_2
  try clear hfz26_0
  try clear hfz26_1
  try clear hfz26_2
  try clear hfz28_0
  try clear hfz28_1
  try clear hfz28_2
  try clear hfz9_0
  try clear hfz9_1
  try clear hfz9_2
  obtain ⟨kq, x5_2, rfl, HA, HJ2, BK329, BK330, HB⟩ := hcut
  cases kq with
  | zero => exact absurd HA.out (by simp [qX.j0])
  | succ kj2 =>
   have H := HA.out
   clear HA
   simp only [qX.j0] at H
   by_cases c29 : a0_2 = 0
   ·rw [if_pos c29] at H
    have c29b0 : (a0_2 == 0) = true := beq_iff_eq.mpr c29
    have c29b1 : (a0_2 != 0) = false := bne_eq_false_iff_eq.mpr c29
    clear c29
    by_cases c30 : a1 = 110
    ·rw [if_pos c30] at H
     have c30b0 : (a1 == 110) = true := beq_iff_eq.mpr c30
     have c30b1 : (a1 != 110) = false := bne_eq_false_iff_eq.mpr c30
     clear c30
     simp only [Option.some.injEq, Prod.mk.injEq] at H
     obtain ⟨rfl, rfl, rfl⟩ := H
     have hnb31 := NB329_330.out
     have hnc31 := NB330_329.out
     have hcz32_0 := bc BK329 0
     have hcz32_1 := bc BK329 1
     have hcz32_2 := bc BK329 2
     have hfz32_0 := qD BK329.out 0
     have hfz32_1 := qD BK329.out 1
     have hfz32_2 := qD BK329.out 2
     have hcz33_0 := bc BK330 0
     have hcz33_1 := bc BK330 1
     have hcz33_2 := bc BK330 2
     have hfz33_0 := qD BK330.out 0
     have hfz33_1 := qD BK330.out 1
     have hfz33_2 := qD BK330.out 2
     go_wp2
     refine bodyPost_ret (results_cell_row rfl _ _ gb330 27 #[.int .i64 a0_0, .int .i64 (wrap64 (a0_1 - 2)), .int .i64 2] (0, 0) _ rfl (by (with_reducible repeat (first | refine qB ?_ _ | refine qC ?_ | refine qA ?_ _)); refine qO (cs := #[.int .i64 a0_0, .int .i64 (wrap64 (a0_1 - 2)), .int .i64 0]) ?_ 2 _ rfl; (with_reducible repeat (first | refine qB ?_ _ | refine qC ?_ | refine qA ?_ _)); refine qO (cs := #[.int .i64 a0_0, .int .i64 0, .int .i64 0]) ?_ 1 _ rfl; (with_reducible repeat (first | refine qB ?_ _ | refine qC ?_ | refine qA ?_ _)); refine qO (cs := #[.int .i64 0, .int .i64 0, .int .i64 0]) ?_ 0 _ rfl; (with_reducible repeat (first | refine qB ?_ _ | refine qC ?_ | refine qA ?_ _)); exact BK330.out) Tryd.underlying27 rfl (by kernel_rfl)) rfl ?_
     exact ⟨by first | rfl | (simp [qM, qL] <;> rfl) | (simp [*, qM, qL] <;> rfl), bl⟩
    ·rw [if_neg c30] at H
     have c30b0 : (a1 == 110) = false := beq_eq_false_iff_ne.mpr c30
     have c30b1 : (a1 != 110) = true := bne_iff_ne.mpr c30
     by_cases c34 : a1 = 101
     ·rw [if_pos c34] at H
      have c34b0 : (a1 == 101) = true := beq_iff_eq.mpr c34
      have c34b1 : (a1 != 101) = false := bne_eq_false_iff_eq.mpr c34
      clear c34
      simp only [Option.some.injEq, Prod.mk.injEq] at H
      obtain ⟨rfl, rfl, rfl⟩ := H
      have hnb35 := NB329_330.out
      have hnc35 := NB330_329.out
      have hcz36_0 := bc BK329 0
      have hcz36_1 := bc BK329 1
      have hcz36_2 := bc BK329 2
      have hfz36_0 := qD BK329.out 0
      have hfz36_1 := qD BK329.out 1
      have hfz36_2 := qD BK329.out 2
      have hcz37_0 := bc BK330 0
      have hcz37_1 := bc BK330 1
      have hcz37_2 := bc BK330 2
      have hfz37_0 := qD BK330.out 0
      have hfz37_1 := qD BK330.out 1
      have hfz37_2 := qD BK330.out 2
      go_wp2
      refine bodyPost_ret (results_cell_row rfl _ _ gb330 27 #[.int .i64 (wrap64 (a0_0 + 1)), .int .i64 a0_1, .int .i64 1] (0, 0) _ rfl (by (with_reducible repeat (first | refine qB ?_ _ | refine qC ?_ | refine qA ?_ _)); refine qO (cs := #[.int .i64 (wrap64 (a0_0 + 1)), .int .i64 a0_1, .int .i64 0]) ?_ 2 _ rfl; (with_reducible repeat (first | refine qB ?_ _ | refine qC ?_ | refine qA ?_ _)); refine qO (cs := #[.int .i64 (wrap64 (a0_0 + 1)), .int .i64 0, .int .i64 0]) ?_ 1 _ rfl; (with_reducible repeat (first | refine qB ?_ _ | refine qC ?_ | refine qA ?_ _)); refine qO (cs := #[.int .i64 0, .int .i64 0, .int .i64 0]) ?_ 0 _ rfl; (with_reducible repeat (first | refine qB ?_ _ | refine qC ?_ | refine qA ?_ _)); exact BK330.out) Tryd.underlying27 rfl (by kernel_rfl)) rfl ?_
      exact ⟨by first | rfl | (simp [qM, qL] <;> rfl) | (simp [*, qM, qL] <;> rfl), bl⟩
     ·rw [if_neg c34] at H
      have c34b0 : (a1 == 101) = false := beq_eq_false_iff_ne.mpr c34
      have c34b1 : (a1 != 101) = true := bne_iff_ne.mpr c34
      by_cases c38 : a1 = 115
      ·rw [if_pos c38] at H
       have c38b0 : (a1 == 115) = true := beq_iff_eq.mpr c38
       have c38b1 : (a1 != 115) = false := bne_eq_false_iff_eq.mpr c38
       clear c38
       simp only [Option.some.injEq, Prod.mk.injEq] at H
       obtain ⟨rfl, rfl, rfl⟩ := H
       have hnb39 := NB329_330.out
       have hnc39 := NB330_329.out
       have hcz40_0 := bc BK329 0
       have hcz40_1 := bc BK329 1
       have hcz40_2 := bc BK329 2
       have hfz40_0 := qD BK329.out 0
       have hfz40_1 := qD BK329.out 1
       have hfz40_2 := qD BK329.out 2
       have hcz41_0 := bc BK330 0
       have hcz41_1 := bc BK330 1
       have hcz41_2 := bc BK330 2
       have hfz41_0 := qD BK330.out 0
       have hfz41_1 := qD BK330.out 1
       have hfz41_2 := qD BK330.out 2
       go_wp2
       refine bodyPost_ret (results_cell_row rfl _ _ gb330 27 #[.int .i64 a0_0, .int .i64 (wrap64 (a0_1 + 1)), .int .i64 2] (0, 0) _ rfl (by (with_reducible repeat (first | refine qB ?_ _ | refine qC ?_ | refine qA ?_ _)); refine qO (cs := #[.int .i64 a0_0, .int .i64 (wrap64 (a0_1 + 1)), .int .i64 0]) ?_ 2 _ rfl; (with_reducible repeat (first | refine qB ?_ _ | refine qC ?_ | refine qA ?_ _)); refine qO (cs := #[.int .i64 a0_0, .int .i64 0, .int .i64 0]) ?_ 1 _ rfl; (with_reducible repeat (first | refine qB ?_ _ | refine qC ?_ | refine qA ?_ _)); refine qO (cs := #[.int .i64 0, .int .i64 0, .int .i64 0]) ?_ 0 _ rfl; (with_reducible repeat (first | refine qB ?_ _ | refine qC ?_ | refine qA ?_ _)); exact BK330.out) Tryd.underlying27 rfl (by kernel_rfl)) rfl ?_
       exact ⟨by first | rfl | (simp [qM, qL] <;> rfl) | (simp [*, qM, qL] <;> rfl), bl⟩
      ·rw [if_neg c38] at H
       have c38b0 : (a1 == 115) = false := beq_eq_false_iff_ne.mpr c38
       have c38b1 : (a1 != 115) = true := bne_iff_ne.mpr c38
       simp only [Option.some.injEq, Prod.mk.injEq] at H
       obtain ⟨rfl, rfl, rfl⟩ := H
       have hnb42 := NB329_330.out
       have hnc42 := NB330_329.out
       have hcz43_0 := bc BK329 0
       have hcz43_1 := bc BK329 1
       have hcz43_2 := bc BK329 2
       have hfz43_0 := qD BK329.out 0
       have hfz43_1 := qD BK329.out 1
       have hfz43_2 := qD BK329.out 2
       have hcz44_0 := bc BK330 0
       have hcz44_1 := bc BK330 1
       have hcz44_2 := bc BK330 2
       have hfz44_0 := qD BK330.out 0
       have hfz44_1 := qD BK330.out 1
       have hfz44_2 := qD BK330.out 2
       go_wp2
       refine bodyPost_ret (results_cell_row rfl _ _ gb330 27 #[.int .i64 (wrap64 (a0_0 - 2)), .int .i64 a0_1, .int .i64 1] (0, 0) _ rfl (by (with_reducible repeat (first | refine qB ?_ _ | refine qC ?_ | refine qA ?_ _)); refine qO (cs := #[.int .i64 (wrap64 (a0_0 - 2)), .int .i64 a0_1, .int .i64 0]) ?_ 2 _ rfl; (with_reducible repeat (first | refine qB ?_ _ | refine qC ?_ | refine qA ?_ _)); refine qO (cs := #[.int .i64 (wrap64 (a0_0 - 2)), .int .i64 0, .int .i64 0]) ?_ 1 _ rfl; (with_reducible repeat (first | refine qB ?_ _ | refine qC ?_ | refine qA ?_ _)); refine qO (cs := #[.int .i64 0, .int .i64 0, .int .i64 0]) ?_ 0 _ rfl; (with_reducible repeat (first | refine qB ?_ _ | refine qC ?_ | refine qA ?_ _)); exact BK330.out) Tryd.underlying27 rfl (by kernel_rfl)) rfl ?_
       exact ⟨by first | rfl | (simp [qM, qL] <;> rfl) | (simp [*, qM, qL] <;> rfl), bl⟩
   ·rw [if_neg c29] at H
    have c29b0 : (a0_2 == 0) = false := beq_eq_false_iff_ne.mpr c29
    have c29b1 : (a0_2 != 0) = true := bne_iff_ne.mpr c29
    have HC45 := Aside0.mk H
    clear H
    have hnb46 := NB329_330.out
    have hnc46 := NB330_329.out
    have hcz47_0 := bc BK329 0
    have hcz47_1 := bc BK329 1
    have hcz47_2 := bc BK329 2
    have hfz47_0 := qD BK329.out 0
    have hfz47_1 := qD BK329.out 1
    have hfz47_2 := qD BK329.out 2
    go_upto_region 11 with (fail)
    go_cut [67] (fun v67 wc => ∃ (kq : Nat) (x67_44 : Bool), v67 = .bool x67_44 ∧ Aside0 (qX.j1 kq a1 x5_2 x67_44 a0_0 a0_1 a0_2 = some (r1, r2, r3)) ∧ Aside0 (kq ≤ kj2) ∧ Aside0 (wc.heap[gb329]? = some (.cells #[.int .i64 a0_0, .int .i64 a0_1, .int .i64 a0_2] 27 (0, 0))) ∧ Aside0 (wc.heap[gb330]? = some (.cells #[.int .i64 0, .int .i64 0, .int .i64 0] 27 (0, 0))) ∧ Aside0 (Below w.heap.size w wc))
    case first =>
     have H := HC45.out
     clear HC45
     by_cases c48 : x5_2 = true
     ·subst c48
      have H1 : (qX.j1 kj2 a1 true (a1 == 101) a0_0 a0_1 a0_2) = some (r1, r2, r3) := by rw [if_pos rfl] at H; exact H
      clear H
      have H := H1
      clear H1
      have H' := Aside0.mk H
      clear H
      go_wp2
      go_meet
      case rel => exact ⟨_, ((a1 == 101)), (by first | rfl | (simp; done) | (simp [*]; done)), H', ⟨by have := HJ2.out; first | omega | exact Nat.le_refl _⟩, ⟨by (with_reducible repeat (first | refine qB ?_ _ | refine qC ?_ | refine qA ?_ _)); exact BK329.out⟩, ⟨by (with_reducible repeat (first | refine qB ?_ _ | refine qC ?_ | refine qA ?_ _)); exact BK330.out⟩, ⟨bl⟩⟩
     ·replace c48 := Bool.eq_false_iff.mpr c48
      subst c48
      have H1 : (qX.j1 kj2 a1 false false a0_0 a0_1 a0_2) = some (r1, r2, r3) := by rw [if_neg (show ¬ (false = true) by decide)] at H; exact H
      clear H
      have H := H1
      clear H1
      have H' := Aside0.mk H
      clear H
      go_wp2
      go_meet
      case rel => exact ⟨_, (false), (by first | rfl | (simp; done) | (simp [*]; done)), H', ⟨by have := HJ2.out; first | omega | exact Nat.le_refl _⟩, ⟨by (with_reducible repeat (first | refine qB ?_ _ | refine qC ?_ | refine qA ?_ _)); exact BK329.out⟩, ⟨by (with_reducible repeat (first | refine qB ?_ _ | refine qC ?_ | refine qA ?_ _)); exact BK330.out⟩, ⟨bl⟩⟩
    case rest =>
     clear HC45
     try clear c1
     try clear c2
     try clear p2
     try clear c3
     try clear c4
     try clear c6
     try clear c6b0
     try clear c6b1
     try clear p6
     try clear c7
     try clear c7b0
     try clear c7b1
     try clear c8
     try clear c10
     try clear c10b0
     try clear c10b1
     try clear c11
     try clear c13
     try clear c13b0
     try clear c13b1
     try clear c14
     try clear c14b0
     try clear c14b1
     try clear c15
     try clear c17
     try clear c19
     try clear c21
     try clear c21b0
     try clear c21b1
     try clear c22
     try clear c22b0
     try clear c22b1
     try clear c23
     try clear c25
     try clear c27
     try clear c29
     try clear c29b0
     try clear c29b1
     try clear c30
     try clear c30b0
     try clear c30b1
     try clear c31
     try clear c34
     try clear c34b0
     try clear c34b1
     try clear c35
     try clear c38
     try clear c38b0
     try clear c38b1
     try clear c39
     try clear c42
     try clear c46
     try clear c48
     try clear hcz12_0
     try clear hcz12_1
     try clear hcz12_2
     try clear hcz16_0
     try clear hcz16_1
     try clear hcz16_2
     try clear hcz18_0
     try clear hcz18_1
     try clear hcz18_2
     try clear hcz20_0
     try clear hcz20_1
     try clear hcz20_2
     try clear hcz24_0
     try clear hcz24_1
     try clear hcz24_2
     try clear hcz26_0
     try clear hcz26_1
     try clear hcz26_2
     try clear hcz28_0
     try clear hcz28_1
     try clear hcz28_2
     try clear hcz32_0
     try clear hcz32_1
     try clear hcz32_2
     try clear hcz33_0
     try clear hcz33_1
     try clear hcz33_2
     try clear hcz36_0
     try clear hcz36_1
     try clear hcz36_2
     try clear hcz37_0
     try clear hcz37_1
     try clear hcz37_2
     try clear hcz40_0
     try clear hcz40_1
     try clear hcz40_2
     try clear hcz41_0
     try clear hcz41_1
     try clear hcz41_2
     try clear hcz43_0
     try clear hcz43_1
     try clear hcz43_2
     try clear hcz44_0
     try clear hcz44_1
     try clear hcz44_2
     try clear hcz47_0
     try clear hcz47_1
     try clear hcz47_2
     try clear hcz9_0
     try clear hcz9_1
     try clear hcz9_2
     try clear hfz12_0
     try clear hfz12_1
     try clear hfz12_2
     try clear hfz16_0
     try clear hfz16_1
     try clear hfz16_2
     try clear hfz18_0
     try clear hfz18_1
     try clear hfz18_2
     try clear hfz20_0
     try clear hfz20_1
     try clear hfz20_2
     try clear hfz24_0
     try clear hfz24_1
     try clear hfz24_2
     try clear hfz26_0
     try clear hfz26_1
     try clear hfz26_2
     try clear hfz28_0
     try clear hfz28_1
     try clear hfz28_2
     try clear hfz32_0
     try clear hfz32_1
     try clear hfz32_2
     try clear hfz33_0
     try clear hfz33_1
     try clear hfz33_2
     try clear hfz36_0
     try clear hfz36_1
     try clear hfz36_2
     try clear hfz37_0
     try clear hfz37_1
     try clear hfz37_2
     try clear hfz40_0
     try clear hfz40_1
     try clear hfz40_2
     try clear hfz41_0
     try clear hfz41_1
     try clear hfz41_2
     try clear hfz43_0
     try clear hfz43_1
     try clear hfz43_2
     try clear hfz44_0
     try clear hfz44_1
     try clear hfz44_2
     try clear hfz47_0
     try clear hfz47_1
     try clear hfz47_2
     try clear hfz9_0
     try clear hfz9_1
     try clear hfz9_2
     try clear p2
     obtain ⟨kq, x67_44, rfl, HA, HJ44, BK329, BK330, HB⟩ := hcut
     cases kq with
     | zero => exact absurd HA.out (by simp [qX.j1])
     | succ kj44 =>
      have H := HA.out
      clear HA
      simp only [qX.j1] at H
      by_cases c49 : x67_44 = true
      ·subst c49
       have H1 : (some (wrap64 (a0_0 + 2), a0_1, 0)) = some (r1, r2, r3) := by rw [if_pos rfl] at H; exact H
       clear H
       have H := H1
       clear H1
       simp only [Option.some.injEq, Prod.mk.injEq] at H
       obtain ⟨rfl, rfl, rfl⟩ := H
       have hnb50 := NB329_330.out
       have hnc50 := NB330_329.out
       have hcz51_0 := bc BK329 0
       have hcz51_1 := bc BK329 1
       have hcz51_2 := bc BK329 2
       have hfz51_0 := qD BK329.out 0
       have hfz51_1 := qD BK329.out 1
       have hfz51_2 := qD BK329.out 2
       have hcz52_0 := bc BK330 0
       have hcz52_1 := bc BK330 1
       have hcz52_2 := bc BK330 2
       have hfz52_0 := qD BK330.out 0
       have hfz52_1 := qD BK330.out 1
       have hfz52_2 := qD BK330.out 2
       go_wp2
       refine bodyPost_ret (results_cell_row rfl _ _ gb330 27 #[.int .i64 (wrap64 (a0_0 + 2)), .int .i64 a0_1, .int .i64 0] (0, 0) _ rfl (by (with_reducible repeat (first | refine qB ?_ _ | refine qC ?_ | refine qA ?_ _)); refine qO (cs := #[.int .i64 (wrap64 (a0_0 + 2)), .int .i64 a0_1, .int .i64 0]) ?_ 2 _ rfl; (with_reducible repeat (first | refine qB ?_ _ | refine qC ?_ | refine qA ?_ _)); refine qO (cs := #[.int .i64 (wrap64 (a0_0 + 2)), .int .i64 0, .int .i64 0]) ?_ 1 _ rfl; (with_reducible repeat (first | refine qB ?_ _ | refine qC ?_ | refine qA ?_ _)); refine qO (cs := #[.int .i64 0, .int .i64 0, .int .i64 0]) ?_ 0 _ rfl; (with_reducible repeat (first | refine qB ?_ _ | refine qC ?_ | refine qA ?_ _)); exact BK330.out) Tryd.underlying27 rfl (by kernel_rfl)) rfl ?_
       exact ⟨by first | rfl | (simp [qM, qL] <;> rfl) | (simp [*, qM, qL] <;> rfl), bl⟩
      ·replace c49 := Bool.eq_false_iff.mpr c49
       subst c49
       have H1 : (if x5_2 = true then (qX.j2 kj44 a1 x5_2 (a1 == 115) a0_0 a0_1 a0_2) else (qX.j2 kj44 a1 x5_2 false a0_0 a0_1 a0_2)) = some (r1, r2, r3) := by rw [if_neg (show ¬ (false = true) by decide)] at H; exact H
       clear H
       have H := H1
       clear H1
       have HC53 := Aside0.mk H
       clear H
       go_upto_region 13 with (fail)
       go_cut [79] (fun v79 wc => ∃ (kq : Nat) (x79_52 : Bool), v79 = .bool x79_52 ∧ Aside0 (qX.j2 kq a1 x5_2 x79_52 a0_0 a0_1 a0_2 = some (r1, r2, r3)) ∧ Aside0 (kq ≤ kj44) ∧ Aside0 (wc.heap[gb329]? = some (.cells #[.int .i64 a0_0, .int .i64 a0_1, .int .i64 a0_2] 27 (0, 0))) ∧ Aside0 (wc.heap[gb330]? = some (.cells #[.int .i64 0, .int .i64 0, .int .i64 0] 27 (0, 0))) ∧ Aside0 (Below w.heap.size w wc))
       case first =>
        have H := HC53.out
        clear HC53
        by_cases c54 : x5_2 = true
        ·subst c54
         have H1 : (qX.j2 kj44 a1 true (a1 == 115) a0_0 a0_1 a0_2) = some (r1, r2, r3) := by rw [if_pos rfl] at H; exact H
         clear H
         have H := H1
         clear H1
         have H' := Aside0.mk H
         clear H
         go_wp2
         go_meet
         case rel => exact ⟨_, ((a1 == 115)), (by first | rfl | (simp; done) | (simp [*]; done)), H', ⟨by have := HJ2.out; have := HJ44.out; first | omega | exact Nat.le_refl _⟩, ⟨by (with_reducible repeat (first | refine qB ?_ _ | refine qC ?_ | refine qA ?_ _)); exact BK329.out⟩, ⟨by (with_reducible repeat (first | refine qB ?_ _ | refine qC ?_ | refine qA ?_ _)); exact BK330.out⟩, ⟨bl⟩⟩
        ·replace c54 := Bool.eq_false_iff.mpr c54
         subst c54
         have H1 : (qX.j2 kj44 a1 false false a0_0 a0_1 a0_2) = some (r1, r2, r3) := by rw [if_neg (show ¬ (false = true) by decide)] at H; exact H
         clear H
         have H := H1
         clear H1
         have H' := Aside0.mk H
         clear H
         go_wp2
         go_meet
         case rel => exact ⟨_, (false), (by first | rfl | (simp; done) | (simp [*]; done)), H', ⟨by have := HJ2.out; have := HJ44.out; first | omega | exact Nat.le_refl _⟩, ⟨by (with_reducible repeat (first | refine qB ?_ _ | refine qC ?_ | refine qA ?_ _)); exact BK329.out⟩, ⟨by (with_reducible repeat (first | refine qB ?_ _ | refine qC ?_ | refine qA ?_ _)); exact BK330.out⟩, ⟨bl⟩⟩
       case rest =>
        clear HC53
        try clear c1
        try clear c2
        try clear p2
        try clear c3
        try clear c4
        try clear c5
        try clear c6
        try clear c6b0
        try clear c6b1
        try clear p6
        try clear c7
        try clear c7b0
        try clear c7b1
        try clear c8
        try clear c10
        try clear c10b0
        try clear c10b1
        try clear c11
        try clear c13
        try clear c13b0
        try clear c13b1
        try clear c14
        try clear c14b0
        try clear c14b1
        try clear c15
        try clear c17
        try clear c19
        try clear c21
        try clear c21b0
        try clear c21b1
        try clear c22
        try clear c22b0
        try clear c22b1
        try clear c23
        try clear c25
        try clear c27
        try clear c29
        try clear c29b0
        try clear c29b1
        try clear c30
        try clear c30b0
        try clear c30b1
        try clear c31
        try clear c34
        try clear c34b0
        try clear c34b1
        try clear c35
        try clear c38
        try clear c38b0
        try clear c38b1
        try clear c39
        try clear c42
        try clear c46
        try clear c48
        try clear c49
        try clear c50
        try clear c54
        try clear hcz12_0
        try clear hcz12_1
        try clear hcz12_2
        try clear hcz16_0
        try clear hcz16_1
        try clear hcz16_2
        try clear hcz18_0
        try clear hcz18_1
        try clear hcz18_2
        try clear hcz20_0
        try clear hcz20_1
        try clear hcz20_2
        try clear hcz24_0
        try clear hcz24_1
        try clear hcz24_2
        try clear hcz26_0
        try clear hcz26_1
        try clear hcz26_2
        try clear hcz28_0
        try clear hcz28_1
        try clear hcz28_2
        try clear hcz32_0
        try clear hcz32_1
        try clear hcz32_2
        try clear hcz33_0
        try clear hcz33_1
        try clear hcz33_2
        try clear hcz36_0
        try clear hcz36_1
        try clear hcz36_2
        try clear hcz37_0
        try clear hcz37_1
        try clear hcz37_2
        try clear hcz40_0
        try clear hcz40_1
        try clear hcz40_2
        try clear hcz41_0
        try clear hcz41_1
        try clear hcz41_2
        try clear hcz43_0
        try clear hcz43_1
        try clear hcz43_2
        try clear hcz44_0
        try clear hcz44_1
        try clear hcz44_2
        try clear hcz47_0
        try clear hcz47_1
        try clear hcz47_2
        try clear hcz51_0
        try clear hcz51_1
        try clear hcz51_2
        try clear hcz52_0
        try clear hcz52_1
        try clear hcz52_2
        try clear hcz9_0
        try clear hcz9_1
        try clear hcz9_2
        try clear hfz12_0
        try clear hfz12_1
        try clear hfz12_2
        try clear hfz16_0
        try clear hfz16_1
        try clear hfz16_2
        try clear hfz18_0
        try clear hfz18_1
        try clear hfz18_2
        try clear hfz20_0
        try clear hfz20_1
        try clear hfz20_2
        try clear hfz24_0
        try clear hfz24_1
        try clear hfz24_2
        try clear hfz26_0
        try clear hfz26_1
        try clear hfz26_2
        try clear hfz28_0
        try clear hfz28_1
        try clear hfz28_2
        try clear hfz32_0
        try clear hfz32_1
        try clear hfz32_2
        try clear hfz33_0
        try clear hfz33_1
        try clear hfz33_2
        try clear hfz36_0
        try clear hfz36_1
        try clear hfz36_2
        try clear hfz37_0
        try clear hfz37_1
        try clear hfz37_2
        try clear hfz40_0
        try clear hfz40_1
        try clear hfz40_2
        try clear hfz41_0
        try clear hfz41_1
        try clear hfz41_2
        try clear hfz43_0
        try clear hfz43_1
        try clear hfz43_2
        try clear hfz44_0
        try clear hfz44_1
        try clear hfz44_2
        try clear hfz47_0
        try clear hfz47_1
        try clear hfz47_2
        try clear hfz51_0
        try clear hfz51_1
        try clear hfz51_2
        try clear hfz52_0
        try clear hfz52_1
        try clear hfz52_2
        try clear hfz9_0
        try clear hfz9_1
        try clear hfz9_2
        try clear p2
        try clear p6
        obtain ⟨kq, x79_52, rfl, HA, HJ52, BK329, BK330, HB⟩ := hcut
        cases kq with
        | zero => exact absurd HA.out (by simp [qX.j2])
        | succ kj52 =>
         have H := HA.out
         clear HA
         simp only [qX.j2] at H
         by_cases c55 : x79_52 = true
         ·subst c55
          have H1 : (some (a0_0, wrap64 (a0_1 + 2), 0)) = some (r1, r2, r3) := by rw [if_pos rfl] at H; exact H
          clear H
          have H := H1
          clear H1
          simp only [Option.some.injEq, Prod.mk.injEq] at H
          obtain ⟨rfl, rfl, rfl⟩ := H
          have hnb56 := NB329_330.out
          have hnc56 := NB330_329.out
          have hcz57_0 := bc BK329 0
          have hcz57_1 := bc BK329 1
          have hcz57_2 := bc BK329 2
          have hfz57_0 := qD BK329.out 0
          have hfz57_1 := qD BK329.out 1
          have hfz57_2 := qD BK329.out 2
          have hcz58_0 := bc BK330 0
          have hcz58_1 := bc BK330 1
          have hcz58_2 := bc BK330 2
          have hfz58_0 := qD BK330.out 0
          have hfz58_1 := qD BK330.out 1
          have hfz58_2 := qD BK330.out 2
          go_wp2
          refine bodyPost_ret (results_cell_row rfl _ _ gb330 27 #[.int .i64 a0_0, .int .i64 (wrap64 (a0_1 + 2)), .int .i64 0] (0, 0) _ rfl (by (with_reducible repeat (first | refine qB ?_ _ | refine qC ?_ | refine qA ?_ _)); refine qO (cs := #[.int .i64 a0_0, .int .i64 (wrap64 (a0_1 + 2)), .int .i64 0]) ?_ 2 _ rfl; (with_reducible repeat (first | refine qB ?_ _ | refine qC ?_ | refine qA ?_ _)); refine qO (cs := #[.int .i64 a0_0, .int .i64 0, .int .i64 0]) ?_ 1 _ rfl; (with_reducible repeat (first | refine qB ?_ _ | refine qC ?_ | refine qA ?_ _)); refine qO (cs := #[.int .i64 0, .int .i64 0, .int .i64 0]) ?_ 0 _ rfl; (with_reducible repeat (first | refine qB ?_ _ | refine qC ?_ | refine qA ?_ _)); exact BK330.out) Tryd.underlying27 rfl (by kernel_rfl)) rfl ?_
          exact ⟨by first | rfl | (simp [qM, qL] <;> rfl) | (simp [*, qM, qL] <;> rfl), bl⟩
         ·replace c55 := Bool.eq_false_iff.mpr c55
          subst c55
          have H1 : ((qDB.f a0_0 a0_1 a1).bind fun bt331 => (if x5_2 = true then (some (bt331.1, bt331.2, 0)) else (some (bt331.1, bt331.2, a0_2)))) = some (r1, r2, r3) := by rw [if_neg (show ¬ (false = true) by decide)] at H; exact H
          clear H
          have H := H1
          clear H1
          replace H := Option.bind_eq_some_iff.mp H
          obtain ⟨⟨t331, t332⟩, A590, H⟩ := H
          replace H : (if x5_2 = true then (some (t331, t332, 0)) else (some (t331, t332, a0_2))) = some (r1, r2, r3) := H
          have A59 := Aside0.mk A590
          clear A590
          by_cases c60 : x5_2 = true
          ·subst c60
           have H1 : (some (t331, t332, 0)) = some (r1, r2, r3) := by rw [if_pos rfl] at H; exact H
           clear H
           have H := H1
           clear H1
           simp only [Option.some.injEq, Prod.mk.injEq] at H
           obtain ⟨rfl, rfl, rfl⟩ := H
           have hnb61 := NB329_330.out
           have hnc61 := NB330_329.out
           have hcz62_0 := bc BK329 0
           have hcz62_1 := bc BK329 1
           have hcz62_2 := bc BK329 2
           have hfz62_0 := qD BK329.out 0
           have hfz62_1 := qD BK329.out 1
           have hfz62_2 := qD BK329.out 2
           go_wp2_with (first | ((with_reducible refine qS (f := 109) rfl ?_); refine qq (some 97) rfl rfl Tryd.func109 (by kernel_rfl) rfl #[.int .i64 a0_0, .int .i64 a0_1, .int .u8 a1] rfl (by (try simp only [List.map_toArray, List.map_cons, List.map_nil]); first | done | rfl | (simp only [List.length_drop, List.length_take]; rfl)) ?_; (with_reducible refine (qDB.calls a0_0 a0_1 a1 t331 t332 _ A59.out).mono ?_); rintro e w' ⟨rfl, ⟨nd, rfl⟩⟩; refine ⟨_, rfl, ?_⟩; (try (rw [qdB wc]; generalize hq_ : World.drewN wc _ = wc; have n0_ : Aside0 (wc.heap[gb329]? = some (.cells #[.int .i64 a0_0, .int .i64 a0_1, .int .i64 a0_2] 27 (0, 0))) := ⟨by rw [← hq_]; exact (by (with_reducible repeat (first | refine qB ?_ _ | refine qC ?_ | refine qA ?_ _)); exact BK329.out)⟩; have n1_ : Aside0 (wc.heap[gb330]? = some (.cells #[.int .i64 0, .int .i64 0, .int .i64 0] 27 (0, 0))) := ⟨by rw [← hq_]; exact (by (with_reducible repeat (first | refine qB ?_ _ | refine qC ?_ | refine qA ?_ _)); exact BK330.out)⟩; have n2_ : Aside0 (Below w.heap.size w wc) := ⟨by rw [← hq_]; exact bl⟩; clear BK329 BK330 HB hq_; have BK329 := n0_; have BK330 := n1_; have HB := n2_; clear n0_ n1_ n2_)); have hcz63_0 := bc BK330 0; have hcz63_1 := bc BK330 1; have hcz63_2 := bc BK330 2; have hfz63_0 := qD BK330.out 0; have hfz63_1 := qD BK330.out 1; have hfz63_2 := qD BK330.out 2))
           refine bodyPost_ret (results_cell_row rfl _ _ gb330 27 #[.int .i64 t331, .int .i64 t332, .int .i64 0] (0, 0) _ rfl (by (with_reducible repeat (first | refine qB ?_ _ | refine qC ?_ | refine qA ?_ _)); refine qO (cs := #[.int .i64 t331, .int .i64 t332, .int .i64 0]) ?_ 2 _ rfl; (with_reducible repeat (first | refine qB ?_ _ | refine qC ?_ | refine qA ?_ _)); refine qO (cs := #[.int .i64 t331, .int .i64 0, .int .i64 0]) ?_ 1 _ rfl; (with_reducible repeat (first | refine qB ?_ _ | refine qC ?_ | refine qA ?_ _)); refine qO (cs := #[.int .i64 0, .int .i64 0, .int .i64 0]) ?_ 0 _ rfl; (with_reducible repeat (first | refine qB ?_ _ | refine qC ?_ | refine qA ?_ _)); exact BK330.out) Tryd.underlying27 rfl (by kernel_rfl)) rfl ?_
           exact ⟨by first | rfl | (simp [qM, qL] <;> rfl) | (simp [*, qM, qL] <;> rfl), bl⟩
          ·replace c60 := Bool.eq_false_iff.mpr c60
           subst c60
           have H1 : (some (t331, t332, a0_2)) = some (r1, r2, r3) := by rw [if_neg (show ¬ (false = true) by decide)] at H; exact H
           clear H
           have H := H1
           clear H1
           simp only [Option.some.injEq, Prod.mk.injEq] at H
           obtain ⟨rfl, rfl, rfl⟩ := H
           have hnb64 := NB329_330.out
           have hnc64 := NB330_329.out
           have hcz65_0 := bc BK329 0
           have hcz65_1 := bc BK329 1
           have hcz65_2 := bc BK329 2
           have hfz65_0 := qD BK329.out 0
           have hfz65_1 := qD BK329.out 1
           have hfz65_2 := qD BK329.out 2
           go_wp2_with (first | ((with_reducible refine qS (f := 109) rfl ?_); refine qq (some 97) rfl rfl Tryd.func109 (by kernel_rfl) rfl #[.int .i64 a0_0, .int .i64 a0_1, .int .u8 a1] rfl (by (try simp only [List.map_toArray, List.map_cons, List.map_nil]); first | done | rfl | (simp only [List.length_drop, List.length_take]; rfl)) ?_; (with_reducible refine (qDB.calls a0_0 a0_1 a1 t331 t332 _ A59.out).mono ?_); rintro e w' ⟨rfl, ⟨nd, rfl⟩⟩; refine ⟨_, rfl, ?_⟩; (try (rw [qdB wc]; generalize hq_ : World.drewN wc _ = wc; have n0_ : Aside0 (wc.heap[gb329]? = some (.cells #[.int .i64 a0_0, .int .i64 a0_1, .int .i64 a0_2] 27 (0, 0))) := ⟨by rw [← hq_]; exact (by (with_reducible repeat (first | refine qB ?_ _ | refine qC ?_ | refine qA ?_ _)); exact BK329.out)⟩; have n1_ : Aside0 (wc.heap[gb330]? = some (.cells #[.int .i64 0, .int .i64 0, .int .i64 0] 27 (0, 0))) := ⟨by rw [← hq_]; exact (by (with_reducible repeat (first | refine qB ?_ _ | refine qC ?_ | refine qA ?_ _)); exact BK330.out)⟩; have n2_ : Aside0 (Below w.heap.size w wc) := ⟨by rw [← hq_]; exact bl⟩; clear BK329 BK330 HB hq_; have BK329 := n0_; have BK330 := n1_; have HB := n2_; clear n0_ n1_ n2_)); have hcz66_0 := bc BK329 0; have hcz66_1 := bc BK329 1; have hcz66_2 := bc BK329 2; have hfz66_0 := qD BK329.out 0; have hfz66_1 := qD BK329.out 1; have hfz66_2 := qD BK329.out 2; have hcz67_0 := bc BK330 0; have hcz67_1 := bc BK330 1; have hcz67_2 := bc BK330 2; have hfz67_0 := qD BK330.out 0; have hfz67_1 := qD BK330.out 1; have hfz67_2 := qD BK330.out 2))
           refine bodyPost_ret (results_cell_row rfl _ _ gb330 27 #[.int .i64 t331, .int .i64 t332, .int .i64 a0_2] (0, 0) _ rfl (by (with_reducible repeat (first | refine qB ?_ _ | refine qC ?_ | refine qA ?_ _)); refine qO (cs := #[.int .i64 t331, .int .i64 t332, .int .i64 0]) ?_ 2 _ rfl; (with_reducible repeat (first | refine qB ?_ _ | refine qC ?_ | refine qA ?_ _)); refine qO (cs := #[.int .i64 t331, .int .i64 0, .int .i64 0]) ?_ 1 _ rfl; (with_reducible repeat (first | refine qB ?_ _ | refine qC ?_ | refine qA ?_ _)); refine qO (cs := #[.int .i64 0, .int .i64 0, .int .i64 0]) ?_ 0 _ rfl; (with_reducible repeat (first | refine qB ?_ _ | refine qC ?_ | refine qA ?_ _)); exact BK330.out) Tryd.underlying27 rfl (by kernel_rfl)) rfl ?_
           exact ⟨by first | rfl | (simp [qM, qL] <;> rfl) | (simp [*, qM, qL] <;> rfl), bl⟩
def qLA.f (k : Nat) (l0 : List ByteArray) (a1_0 : Int) (a1_1 : Int) (a1_2 : Int) (a2 : Int) : Option (Int × Int × Int × Bool) := (qX.f k a1_0 a1_1 a1_2 a2).bind fun bt335 => ((qd.f k l0 bt335.1 bt335.2.1 bt335.2.2).bind fun t339 => (some (bt335.1, bt335.2.1, bt335.2.2, t339)))
set_option maxHeartbeats 8000000 in
set_option maxRecDepth 100000 in
theorem qLA.calls (k : Nat) (A0 : Option Addr) (c0 : Nat) (l0 : List ByteArray) (a1_0 : Int) (a1_1 : Int) (a1_2 : Int) (a2 : Int) (r1 : Int) (r2 : Int) (r3 : Int) (r4 : Bool) (w : World) (hr0 : Kd.C Kd.string w A0 l0.length l0) (hc0 : l0.length ≤ c0) (h : qLA.f k l0 a1_0 a1_1 a1_2 a2 = some (r1, r2, r3, r4)) :
  Calls Tryd.prog 62 #[.slice A0 l0.length c0, .agg #[.int .i64 a1_0, .int .i64 a1_1, .int .i64 a1_2], .int .u8 a2] w fun e w' => e = .returned (.tuple #[.agg #[.int .i64 r1, .int .i64 r2, .int .i64 r3], .bool r4]) ∧ Below w.heap.size w w' := by
 have hu27 := Tryd.underlying27
 have HR0 := Aside0.mk hr0
 have HC0 := Aside0.mk hc0
 clear hr0 hc0
 have HB := Aside0.mk (Below.refl w.heap.size w)
 have H : ((qX.f k a1_0 a1_1 a1_2 a2).bind fun bt335 => ((qd.f k l0 bt335.1 bt335.2.1 bt335.2.2).bind fun t339 => (some (bt335.1, bt335.2.1, bt335.2.2, t339)))) = some (r1, r2, r3, r4) := h
 clear h
 replace H := Option.bind_eq_some_iff.mp H
 obtain ⟨⟨t335, t336, t337⟩, A40, H⟩ := H
 replace H : ((qd.f k l0 t335 t336 t337).bind fun t339 => (some (t335, t336, t337, t339))) = some (r1, r2, r3, r4) := H
 have A4 := Aside0.mk A40
 clear A40
 replace H := Option.bind_eq_some_iff.mp H
 obtain ⟨t339, A50, H⟩ := H
 replace H : (some (t335, t336, t337, t339)) = some (r1, r2, r3, r4) := H
 have A5 := Aside0.mk A50
 clear A50
 simp only [Option.some.injEq, Prod.mk.injEq] at H
 obtain ⟨rfl, rfl, rfl, rfl⟩ := H
 go_enter Tryd.func62, Tryd.ntmps62
 try go_wp2_with (first | ((with_reducible refine qV (N := 4) rfl ?_); refine qU ?hg (N := 4) ?hd (cs := #[.int .i64 a1_0, .int .i64 a1_1, .int .i64 a1_2]) (t := 27) ?hr ?_; (case hd => rfl); (case hg => rfl); (case hr => first | (go_simp; done) | (go_simp; rfl)); intro gb333 hg w6 hbox hb; have n0_ := Aside0.mk (qG bl hb); have n1_ := Aside0.mk (hbox); have n2_ := Aside0.mk ((gg hg)); have n3_ := Aside0.mk ((gg hg)); clear HB; have HB := n0_; have BK333 := n1_; have GW333 := n2_; have GE333 := n3_; clear n0_ n1_ n2_ n3_; clear hb hbox hg) | ((with_reducible refine qV (N := 6) rfl ?_); refine qU ?hg (N := 6) ?hd (cs := #[.int .i64 0, .int .i64 0, .int .i64 0]) (t := 27) ?hr ?_; (case hd => rfl); (case hg => rfl); (case hr => first | (go_simp; done) | (go_simp; rfl)); intro gb334 hg w7 hbox hb; have n0_ := Aside0.mk (bb BK333 hb); have n1_ := Aside0.mk (qG bl hb); have n2_ := Aside0.mk (hbox); have n3_ := Aside0.mk ((gg hg)); have n4_ := Aside0.mk ((gg hg)); have n5_ := Aside0.mk ((nl BK333 hg)); have n6_ := Aside0.mk ((nr BK333 hg)); clear BK333; clear HB; have BK333 := n0_; have HB := n1_; have BK334 := n2_; have GW334 := n3_; have GE334 := n4_; have NB333_334 := n5_; have NB334_333 := n6_; clear n0_ n1_ n2_ n3_ n4_ n5_ n6_; clear hb hbox hg; have hnb8 := NB333_334.out; have hnc8 := NB334_333.out; have hcz9_0 := bc BK333 0; have hcz9_1 := bc BK333 1; have hcz9_2 := bc BK333 2; have hfz9_0 := qD BK333.out 0; have hfz9_1 := qD BK333.out 1; have hfz9_2 := qD BK333.out 2) | ((with_reducible refine qS (f := 88) rfl ?_); refine qq (some 11) rfl rfl Tryd.func88 (by kernel_rfl) rfl #[.agg #[.int .i64 a1_0, .int .i64 a1_1, .int .i64 a1_2], .int .u8 a2] rfl (by (try simp only [List.map_toArray, List.map_cons, List.map_nil]); first | done | rfl | (simp only [List.length_drop, List.length_take]; rfl)) ?_; (with_reducible refine (qX.calls k a1_0 a1_1 a1_2 a2 t335 t336 t337 _ A4.out).mono ?_); rintro e w10 ⟨rfl, hb⟩; refine ⟨_, rfl, ?_⟩; have n0_ := Aside0.mk (bb BK333 hb); have n1_ := Aside0.mk (bb BK334 hb); have n2_ := Aside0.mk (qG bl hb); clear BK333; clear BK334; clear HB; have BK333 := n0_; have BK334 := n1_; have HB := n2_; clear n0_ n1_ n2_; (try clear hb); (try clear hb2); (try clear hk); (try clear hi)) | ((with_reducible refine qV (N := 8) rfl ?_); refine qU ?hg (N := 8) ?hd (cs := #[.int .i64 0, .int .i64 0, .int .i64 0]) (t := 27) ?hr ?_; (case hd => rfl); (case hg => rfl); (case hr => first | (go_simp; done) | (go_simp; rfl)); intro gb338 hg w11 hbox hb; have n0_ := Aside0.mk (bb BK333 hb); have n1_ := Aside0.mk (bb BK334 hb); have n2_ := Aside0.mk (qG bl hb); have n3_ := Aside0.mk (hbox); have n4_ := Aside0.mk ((gg hg)); have n5_ := Aside0.mk ((gg hg)); have n6_ := Aside0.mk ((nl BK333 hg)); have n7_ := Aside0.mk ((nr BK333 hg)); have n8_ := Aside0.mk ((nl BK334 hg)); have n9_ := Aside0.mk ((nr BK334 hg)); clear BK333; clear BK334; clear HB; have BK333 := n0_; have BK334 := n1_; have HB := n2_; have BK338 := n3_; have GW338 := n4_; have GE338 := n5_; have NB333_338 := n6_; have NB338_333 := n7_; have NB334_338 := n8_; have NB338_334 := n9_; clear n0_ n1_ n2_ n3_ n4_ n5_ n6_ n7_ n8_ n9_; clear hb hbox hg; have hnb12 := NB338_333.out; have hnc12 := NB333_338.out; have hnb13 := NB338_334.out; have hnc13 := NB334_338.out; have hcz14_0 := bc BK338 0; have hcz14_1 := bc BK338 1; have hcz14_2 := bc BK338 2; have hfz14_0 := qD BK338.out 0; have hfz14_1 := qD BK338.out 1; have hfz14_2 := qD BK338.out 2))
 have n0_ : Aside0 ((((w11.setCell ⟨gb338, 0, none⟩ (.int .i64 t335)).setCell ⟨gb338, 1, none⟩ (.int .i64 t336)).setCell ⟨gb338, 2, none⟩ (.int .i64 t337)).heap[gb333]? = some (.cells #[.int .i64 a1_0, .int .i64 a1_1, .int .i64 a1_2] 27 (0, 0))) := ⟨by (with_reducible repeat (first | refine qB ?_ _ | refine qC ?_ | refine qA ?_ _)); refine qH ?_ NB333_338.out _; (with_reducible repeat (first | refine qB ?_ _ | refine qC ?_ | refine qA ?_ _)); refine qH ?_ NB333_338.out _; (with_reducible repeat (first | refine qB ?_ _ | refine qC ?_ | refine qA ?_ _)); refine qH ?_ NB333_338.out _; (with_reducible repeat (first | refine qB ?_ _ | refine qC ?_ | refine qA ?_ _)); exact BK333.out⟩
 have n1_ : Aside0 ((((w11.setCell ⟨gb338, 0, none⟩ (.int .i64 t335)).setCell ⟨gb338, 1, none⟩ (.int .i64 t336)).setCell ⟨gb338, 2, none⟩ (.int .i64 t337)).heap[gb334]? = some (.cells #[.int .i64 0, .int .i64 0, .int .i64 0] 27 (0, 0))) := ⟨by (with_reducible repeat (first | refine qB ?_ _ | refine qC ?_ | refine qA ?_ _)); refine qH ?_ NB334_338.out _; (with_reducible repeat (first | refine qB ?_ _ | refine qC ?_ | refine qA ?_ _)); refine qH ?_ NB334_338.out _; (with_reducible repeat (first | refine qB ?_ _ | refine qC ?_ | refine qA ?_ _)); refine qH ?_ NB334_338.out _; (with_reducible repeat (first | refine qB ?_ _ | refine qC ?_ | refine qA ?_ _)); exact BK334.out⟩
 have n2_ : Aside0 ((((w11.setCell ⟨gb338, 0, none⟩ (.int .i64 t335)).setCell ⟨gb338, 1, none⟩ (.int .i64 t336)).setCell ⟨gb338, 2, none⟩ (.int .i64 t337)).heap[gb338]? = some (.cells #[.int .i64 t335, .int .i64 t336, .int .i64 t337] 27 (0, 0))) := ⟨by (with_reducible repeat (first | refine qB ?_ _ | refine qC ?_ | refine qA ?_ _)); refine qO (cs := #[.int .i64 t335, .int .i64 t336, .int .i64 0]) ?_ 2 _ rfl; (with_reducible repeat (first | refine qB ?_ _ | refine qC ?_ | refine qA ?_ _)); refine qO (cs := #[.int .i64 t335, .int .i64 0, .int .i64 0]) ?_ 1 _ rfl; (with_reducible repeat (first | refine qB ?_ _ | refine qC ?_ | refine qA ?_ _)); refine qO (cs := #[.int .i64 0, .int .i64 0, .int .i64 0]) ?_ 0 _ rfl; (with_reducible repeat (first | refine qB ?_ _ | refine qC ?_ | refine qA ?_ _)); exact BK338.out⟩
 have n3_ : Aside0 (Below w.heap.size w (((w11.setCell ⟨gb338, 0, none⟩ (.int .i64 t335)).setCell ⟨gb338, 1, none⟩ (.int .i64 t336)).setCell ⟨gb338, 2, none⟩ (.int .i64 t337))) := ⟨bl⟩
 (try clear BK333)
 (try clear BK334)
 (try clear BK338)
 (try clear HB)
 generalize (((w11.setCell ⟨gb338, 0, none⟩ (.int .i64 t335)).setCell ⟨gb338, 1, none⟩ (.int .i64 t336)).setCell ⟨gb338, 2, none⟩ (.int .i64 t337)) = w15 at n0_ n1_ n2_ n3_ ⊢
 have BK333 := n0_
 have BK334 := n1_
 have BK338 := n2_
 have HB := n3_
 clear n0_ n1_ n2_ n3_
 have n0_ := Aside0.mk (qC BK333.out)
 have n1_ := Aside0.mk (qC BK334.out)
 have n2_ := Aside0.mk (qC BK338.out)
 have n3_ := Aside0.mk (qn HB.out)
 clear BK333
 clear BK334
 clear BK338
 clear HB
 have BK333 := n0_
 have BK334 := n1_
 have BK338 := n2_
 have HB := n3_
 clear n0_ n1_ n2_ n3_
 refine qxA (n := 6) (S := fun w' => w'.cell? ⟨gb338, 0, none⟩ = some (.int .i64 t335) ∧ w'.cell? ⟨gb338, 1, none⟩ = some (.int .i64 t336) ∧ w'.cell? ⟨gb338, 2, none⟩ = some (.int .i64 t337)) (ds := []) #[false, false, false, false, false, false] (by kernel_rfl) rfl rfl ⟨(qK BK338.out 0).trans rfl, (qK BK338.out 1).trans rfl, (qK BK338.out 2).trans rfl⟩ (fun hHeld => ?_)
 generalize w15.drew = w16 at BK333 BK334 BK338 HB hHeld ⊢
 refine pure_ (i := 1) (N := some 13) (v := ?_) (a' := ?_) #[false, true, false, false, false, false] rfl rfl (by kernel_rfl) (fun _ _ _ h => h) (Or.inl ⟨by rfl, ?_⟩) ?_ ?_
 rotate_left
 ·intro w'
  go_simp
  first | (with_reducible rfl) | (rw [if_neg (by simp only [ByteArray.size_extract, ByteArray.size_append] at * <;> omega)]; try with_reducible rfl)
 rotate_left
 ·simp only [Act.put, List.setIfInBounds_toArray, List.set_cons_zero, List.set_cons_succ, i64_w, i32_w]
  rfl
 refine take_ (i := 0) (N := some 12) (v := ?_) (a' := ?_) #[true, true, false, false, false, false] rfl rfl (by kernel_rfl) (fun _ _ _ h => h) (Or.inl ⟨by rfl, ?_⟩) hHeld ?_ ?_
 rotate_left
 ·rintro w' ⟨s0, s1, s2⟩
  go_simp
  first | (with_reducible rfl) | (rw [if_neg (by simp only [ByteArray.size_extract, ByteArray.size_append] at * <;> omega)]; try with_reducible rfl)
 rotate_left
 ·simp only [Act.put, List.setIfInBounds_toArray, List.set_cons_zero, List.set_cons_succ, i64_w, i32_w]
  rfl
 refine take_ (i := 2) (N := some 14) (v := ?_) (a' := ?_) #[true, true, true, false, false, false] rfl rfl (by kernel_rfl) (fun _ _ _ h => h) (Or.inl ⟨by rfl, ?_⟩) hHeld ?_ ?_
 rotate_left
 ·rintro w' ⟨s0, s1, s2⟩
  go_simp
  first | (with_reducible rfl) | (rw [if_neg (by simp only [ByteArray.size_extract, ByteArray.size_append] at * <;> omega)]; try with_reducible rfl)
 rotate_left
 ·simp only [Act.put, List.setIfInBounds_toArray, List.set_cons_zero, List.set_cons_succ, i64_w, i32_w]
  rfl
 refine one_ (i := 3) (N := some 15) #[true, true, true, true, false, false] rfl rfl (by kernel_rfl) (by decide) (fun K hK => ?_)
 refine goes_ Tryd.func56 (by kernel_rfl) rfl #[.slice A0 l0.length c0, .agg #[.int .i64 t335, .int .i64 t336, .int .i64 t337]] (by rfl) rfl rfl (by (try simp only [List.map_toArray, List.map_cons, List.map_nil]); first | done | rfl | (simp only [List.length_drop, List.length_take]; rfl)) ?_
 with_reducible refine (qd.calls k _ _ l0 t335 t336 t337 t339 _ ?side1 ?side2 A5.out).mono ?_
 (case side1 => repeat (first | exact (Kd.qUA HR0.out HB.out) | (with_reducible refine Kd.qHA ?_ _) | (with_reducible refine Kd.qGA ?_ _) | (with_reducible refine Kd.qNA ?_)))
 (case side2 => exact HC0.out)
 rintro e w17 ⟨rfl, hb⟩
 refine ⟨_, rfl, ?_⟩
 have n0_ := Aside0.mk (bb BK333 hb)
 have n1_ := Aside0.mk (bb BK334 hb)
 have n2_ := Aside0.mk (bb BK338 hb)
 have n3_ := Aside0.mk (qG bl hb)
 clear BK333
 clear BK334
 clear BK338
 clear HB
 have BK333 := n0_
 have BK334 := n1_
 have BK338 := n2_
 have HB := n3_
 clear n0_ n1_ n2_ n3_
 (try clear hb)
 (try clear hb2)
 (try clear hk)
 (try clear hi)
 refine hK.out _ _ ⟨(qK BK338.out 0).trans rfl, (qK BK338.out 1).trans rfl, (qK BK338.out 2).trans rfl⟩ (fun hHeld => ?_)
 clear hK K
 refine norm_ (a' := ?_) ?_ ?_
 rotate_left
 ·show Act.put _ (some 15) _ = _
  simp only [Act.put, List.setIfInBounds_toArray, List.set_cons_zero, List.set_cons_succ, i64_w, i32_w]
  rfl
 refine one_ (i := 4) (N := none) #[true, true, true, true, true, false] rfl rfl (by kernel_rfl) (by decide) (fun K hK => ?_)
 have hs18 : w17.cell? ⟨gb334, 0, none⟩ = some (.int .i64 0) := (qK BK334.out 0).trans rfl
 have hfs18 := qD BK334.out 0
 have hns18_0 := NB333_334.out
 have hns18_2 := NB338_334.out
 have hms18_0 := NB334_333.out
 have hms18_2 := NB334_338.out
 have hs19 : w17.cell? ⟨gb334, 1, none⟩ = some (.int .i64 0) := (qK BK334.out 1).trans rfl
 have hfs19 := qD BK334.out 1
 have hns19_0 := NB333_334.out
 have hns19_2 := NB338_334.out
 have hms19_0 := NB334_333.out
 have hms19_2 := NB334_338.out
 have hs20 : w17.cell? ⟨gb334, 2, none⟩ = some (.int .i64 0) := (qK BK334.out 2).trans rfl
 have hfs20 := qD BK334.out 2
 have hns20_0 := NB333_334.out
 have hns20_2 := NB338_334.out
 have hms20_0 := NB334_333.out
 have hms20_2 := NB334_338.out
 refine skip_ (w1 := ?_) (by rfl) rfl ?_ ?_
 rotate_left
 ·go_simp
  rfl
 refine hK.out _ _ ⟨((qQ (p := ⟨gb334, _, none⟩) NB338_334.out _).trans (((qQ (p := ⟨gb334, _, none⟩) NB338_334.out _).trans (((qQ (p := ⟨gb334, _, none⟩) NB338_334.out _).trans (hHeld.1)))))), ((qQ (p := ⟨gb334, _, none⟩) NB338_334.out _).trans (((qQ (p := ⟨gb334, _, none⟩) NB338_334.out _).trans (((qQ (p := ⟨gb334, _, none⟩) NB338_334.out _).trans (hHeld.2.1)))))), ((qQ (p := ⟨gb334, _, none⟩) NB338_334.out _).trans (((qQ (p := ⟨gb334, _, none⟩) NB338_334.out _).trans (((qQ (p := ⟨gb334, _, none⟩) NB338_334.out _).trans (hHeld.2.2))))))⟩ (fun hHeld => ?_)
 clear hK K
 refine pure_ (i := 5) (N := some 7) (v := ?_) (a' := ?_) #[true, true, true, true, true, true] rfl rfl (by kernel_rfl) (fun _ _ _ h => h) (Or.inl ⟨by rfl, ?_⟩) ?_ ?_
 rotate_left
 ·intro w'
  go_simp
  first | (with_reducible rfl) | (rw [if_neg (by simp only [ByteArray.size_extract, ByteArray.size_append] at * <;> omega)]; try with_reducible rfl)
 rotate_left
 ·simp only [Act.put, List.setIfInBounds_toArray, List.set_cons_zero, List.set_cons_succ, i64_w, i32_w]
  rfl
 refine done_ (by kernel_rfl) ?_
 try go_wp2
 refine bodyPost_ret (qQA rfl _ _ gb334 27 #[.int .i64 t335, .int .i64 t336, .int .i64 t337] (0, 0) _ rfl (by (with_reducible repeat (first | refine qB ?_ _ | refine qC ?_ | refine qA ?_ _)); refine qO (cs := #[.int .i64 t335, .int .i64 t336, .int .i64 0]) ?_ 2 _ rfl; (with_reducible repeat (first | refine qB ?_ _ | refine qC ?_ | refine qA ?_ _)); refine qO (cs := #[.int .i64 t335, .int .i64 0, .int .i64 0]) ?_ 1 _ rfl; (with_reducible repeat (first | refine qB ?_ _ | refine qC ?_ | refine qA ?_ _)); refine qO (cs := #[.int .i64 0, .int .i64 0, .int .i64 0]) ?_ 0 _ rfl; (with_reducible repeat (first | refine qB ?_ _ | refine qC ?_ | refine qA ?_ _)); exact BK334.out) Tryd.underlying27 rfl (by kernel_rfl)) rfl ?_
 exact ⟨by first | rfl | (simp [qM, qL] <;> rfl) | (simp [*, qM, qL] <;> rfl), bl⟩
end Go.Proofs.YtbpfhpjbeomfcaaDoor.P
namespace Go.Proofs.YtbpfhpjbeomfcaaDoor.P
open Go.RowKit Go.Proofs.YtbpfhpjbeomfcaaDoorW.PrintWords Go.Proofs.YtbpfhpjbeomfcaaDoorW.PrintLast Go.Proofs.YtbpfhpjbeomfcaaDoorW.PrintMore
attribute [local go_sem] qz qx qJA qIA qp qo qy qw
set_option linter.unusedVariables false
set_option linter.unusedSimpArgs false
attribute [local go_sem high] eqA27
def qe.l0 : Nat → List (S27) → Int → Int → Int → Int → Int → Option (Int)
 | 0, _, _, _, _, _, _ => none
 | k + 1, x0, x7, x8, x468000, x468001, x468002 => if x8 < x7 then (if 0 ≤ x8 then (if x8 < (x0.length : Int) then (if (x468000 == ((qJ x0 x8).f0) && (x468001 == ((qJ x0 x8).f1) && (x468002 == ((qJ x0 x8).f2)))) = true then (some x8) else (qe.l0 k x0 x7 (wrap64 (x8 + 1)) x468000 x468001 x468002)) else (none)) else (none)) else (some (-1))
def qe.f (k : Nat) (l0 : List (S27)) (a1_0 : Int) (a1_1 : Int) (a1_2 : Int) : Option (Int) := qe.l0 k l0 (l0.length : Int) 0 a1_0 a1_1 a1_2
set_option maxHeartbeats 8000000 in
set_option maxRecDepth 100000 in
theorem qe.calls (k : Nat) (A0 : Option Addr) (c0 : Nat) (l0 : List (S27)) (a1_0 : Int) (a1_1 : Int) (a1_2 : Int) (r : Int) (w : World) (hr0 : Kd.C k27 w A0 l0.length l0) (hc0 : l0.length ≤ c0) (h : qe.f k l0 a1_0 a1_1 a1_2 = some r) :
  Calls Tryd.prog 110 #[.slice A0 l0.length c0, .agg #[.int .i64 a1_0, .int .i64 a1_1, .int .i64 a1_2]] w fun e w' => e = .returned (.int .i64 r) ∧ Below w.heap.size w w' := by
 have hu27 := Tryd.underlying27
 have HR0 := Aside0.mk hr0
 have HC0 := Aside0.mk hc0
 clear hr0 hc0
 have HB := Aside0.mk (Below.refl w.heap.size w)
 have H : (qe.l0 k l0 (l0.length : Int) 0 a1_0 a1_1 a1_2) = some r := h
 clear h
 have H' := Aside0.mk H
 clear H
 go_enter Tryd.func110, Tryd.ntmps110
 go_wp2_with (first | ((with_reducible refine qV (N := 3) rfl ?_); refine qU ?hg (N := 3) ?hd (cs := #[.int .i64 a1_0, .int .i64 a1_1, .int .i64 a1_2]) (t := 27) ?hr ?_; (case hd => rfl); (case hg => rfl); (case hr => first | (go_simp; done) | (go_simp; rfl)); intro gb467 hg w3 hbox hb; have n0_ := Aside0.mk (qG bl hb); have n1_ := Aside0.mk (hbox); have n2_ := Aside0.mk ((gg hg)); have n3_ := Aside0.mk ((gg hg)); clear HB; have HB := n0_; have BK467 := n1_; have GW467 := n2_; have GE467 := n3_; clear n0_ n1_ n2_ n3_; clear hb hbox hg))
 repeat (go_quiet (first | ((with_reducible refine qV (N := 3) rfl ?_); refine qU ?hg (N := 3) ?hd (cs := #[.int .i64 a1_0, .int .i64 a1_1, .int .i64 a1_2]) (t := 27) ?hr ?_; (case hd => rfl); (case hg => rfl); (case hr => first | (go_simp; done) | (go_simp; rfl)); intro gb467 hg w3 hbox hb; have n0_ := Aside0.mk (qG bl hb); have n1_ := Aside0.mk (hbox); have n2_ := Aside0.mk ((gg hg)); have n3_ := Aside0.mk ((gg hg)); clear HB; have HB := n0_; have BK467 := n1_; have GW467 := n2_; have GE467 := n3_; clear n0_ n1_ n2_ n3_; clear hb hbox hg)); try go_wp2_with (first | ((with_reducible refine qV (N := 3) rfl ?_); refine qU ?hg (N := 3) ?hd (cs := #[.int .i64 a1_0, .int .i64 a1_1, .int .i64 a1_2]) (t := 27) ?hr ?_; (case hd => rfl); (case hg => rfl); (case hr => first | (go_simp; done) | (go_simp; rfl)); intro gb467 hg w3 hbox hb; have n0_ := Aside0.mk (qG bl hb); have n1_ := Aside0.mk (hbox); have n2_ := Aside0.mk ((gg hg)); have n3_ := Aside0.mk ((gg hg)); clear HB; have HB := n0_; have BK467 := n1_; have GW467 := n2_; have GE467 := n3_; clear n0_ n1_ n2_ n3_; clear hb hbox hg)))
 go_loopg [8] k (fun kq v8 w' => ∃ (x8_1 : Int), v8 = .int .i64 x8_1 ∧ Aside0 (qe.l0 kq l0 (l0.length : Int) x8_1 a1_0 a1_1 a1_2 = some r) ∧ Aside0 (kq ≤ k) ∧ Aside0 (w'.heap[gb467]? = some (.cells #[.int .i64 a1_0, .int .i64 a1_1, .int .i64 a1_2] 27 (0, 0))) ∧ Aside0 (Below w.heap.size w w'))
 case atStart => exact ⟨(0), (by first | rfl | (simp; done) | (simp [*]; done)), H', ⟨Nat.le_refl _⟩, ⟨by (with_reducible repeat (first | refine qB ?_ _ | refine qC ?_ | refine qA ?_ _)); exact BK467.out⟩, ⟨bl⟩⟩
 case round =>
  clear H'
  try clear c1
  try clear p2
  obtain ⟨x8_1, rfl, HA, HK1, BK467, HB⟩ := hrel
  cases gk with
  | zero => exact absurd HA.out (by simp [qe.l0])
  | succ k1 =>
   have H := HA.out
   clear HA
   simp only [qe.l0] at H
   by_cases c4 : x8_1 < (l0.length : Int)
   ·rw [if_pos c4] at H
    have c4b0 : decide (x8_1 < (l0.length : Int)) = true := decide_eq_true c4
    clear c4
    by_cases c5 : 0 ≤ x8_1
    ·rw [if_pos c5] at H
     have c5b0 : decide (0 ≤ x8_1) = true := decide_eq_true c5
     clear c5
     by_cases c6 : x8_1 < (l0.length : Int)
     ·rw [if_pos c6] at H
      have c6b0 : decide (x8_1 < (l0.length : Int)) = true := decide_eq_true c6
      clear c6
      by_cases c7 : (a1_0 == ((qJ l0 x8_1).f0) && (a1_1 == ((qJ l0 x8_1).f1) && (a1_2 == ((qJ l0 x8_1).f2)))) = true
      ·rw [if_pos c7] at H
       have c7b0 : (a1_0 == ((qJ l0 x8_1).f0) && (a1_1 == ((qJ l0 x8_1).f1) && (a1_2 == ((qJ l0 x8_1).f2)))) = true := c7
       (try (have c7b1 : decide (a1_0 = ((qJ l0 x8_1).f0) && (a1_1 == ((qJ l0 x8_1).f1) && (a1_2 == ((qJ l0 x8_1).f2)))) = true := by simpa using c7))
       (try (have c7b2 : (a1_0 == ((qJ l0 x8_1).f0) && (a1_1 == ((qJ l0 x8_1).f1) && (a1_2 == ((qJ l0 x8_1).f2)))) = true := by simpa using c7))
       clear c7
       obtain rfl := Option.some.inj H
       have hcz8_0 := bc BK467 0
       have hcz8_1 := bc BK467 1
       have hcz8_2 := bc BK467 2
       have hfz8_0 := qD BK467.out 0
       have hfz8_1 := qD BK467.out 1
       have hfz8_2 := qD BK467.out 2
       have p468 : 0 ≤ (x8_1 : Int) := of_decide_eq_true (by first | (with_reducible assumption) | assumption)
       have q468 : x8_1 < (l0.length : Int) := of_decide_eq_true (by first | (with_reducible assumption) | assumption)
       obtain ⟨ad468, e468, hx468_0, hx468_1, hx468_2⟩ := qFB HR0.out x8_1 p468 q468
       cases e468
       replace hx468_0 := (HB.out.cell (World.block_lt_of_cell? w _ hx468_0)).trans hx468_0
       replace hx468_1 := (HB.out.cell (World.block_lt_of_cell? w _ hx468_1)).trans hx468_1
       replace hx468_2 := (HB.out.cell (World.block_lt_of_cell? w _ hx468_2)).trans hx468_2
       replace p468 := eq_true p468
       replace q468 := eq_true q468
       go_wp2
       repeat (go_quiet (fail); try go_wp2)
       go_ret
       exact ⟨by first | rfl | (simp [qM, qL] <;> rfl) | (simp [*, qM, qL] <;> rfl), bl⟩
      ·rw [if_neg c7] at H
       have c7b0 : (a1_0 == ((qJ l0 x8_1).f0) && (a1_1 == ((qJ l0 x8_1).f1) && (a1_2 == ((qJ l0 x8_1).f2)))) = false := by simpa using c7
       (try (have c7b1 : decide (a1_0 = ((qJ l0 x8_1).f0) && (a1_1 == ((qJ l0 x8_1).f1) && (a1_2 == ((qJ l0 x8_1).f2)))) = false := by simpa using c7))
       (try (have c7b2 : (a1_0 == ((qJ l0 x8_1).f0) && (a1_1 == ((qJ l0 x8_1).f1) && (a1_2 == ((qJ l0 x8_1).f2)))) = false := by simpa using c7))
       (try (have c7b3 : ¬ (a1_0 = ((qJ l0 x8_1).f0) && (a1_1 == ((qJ l0 x8_1).f1) && (a1_2 == ((qJ l0 x8_1).f2)))) := by simpa using c7))
       clear c7
       have H' := Aside0.mk H
       clear H
       have hcz9_0 := bc BK467 0
       have hcz9_1 := bc BK467 1
       have hcz9_2 := bc BK467 2
       have hfz9_0 := qD BK467.out 0
       have hfz9_1 := qD BK467.out 1
       have hfz9_2 := qD BK467.out 2
       have p468 : 0 ≤ (x8_1 : Int) := of_decide_eq_true (by first | (with_reducible assumption) | assumption)
       have q468 : x8_1 < (l0.length : Int) := of_decide_eq_true (by first | (with_reducible assumption) | assumption)
       obtain ⟨ad468, e468, hx468_0, hx468_1, hx468_2⟩ := qFB HR0.out x8_1 p468 q468
       cases e468
       replace hx468_0 := (HB.out.cell (World.block_lt_of_cell? w _ hx468_0)).trans hx468_0
       replace hx468_1 := (HB.out.cell (World.block_lt_of_cell? w _ hx468_1)).trans hx468_1
       replace hx468_2 := (HB.out.cell (World.block_lt_of_cell? w _ hx468_2)).trans hx468_2
       replace p468 := eq_true p468
       replace q468 := eq_true q468
       go_wp2
       repeat (go_quiet (fail); try go_wp2)
       go_roundg k1
       case measure => have := HK1.out; omega
       case rel => exact ⟨(wrap64 (x8_1 + 1)), (by first | rfl | (simp; done) | (simp [*]; done)), H', ⟨by have := HK1.out; omega⟩, ⟨by (with_reducible repeat (first | refine qB ?_ _ | refine qC ?_ | refine qA ?_ _)); exact BK467.out⟩, ⟨bl⟩⟩
     ·rw [if_neg c6] at H
      exact absurd H (by simp)
    ·rw [if_neg c5] at H
     exact absurd H (by simp)
   ·rw [if_neg c4] at H
    have c4b0 : decide (x8_1 < (l0.length : Int)) = false := decide_eq_false c4
    clear c4
    obtain rfl := Option.some.inj H
    go_wp2
    repeat (go_quiet (fail); try go_wp2)
    go_ret
    exact ⟨by first | rfl | (simp [qM, qL] <;> rfl) | (simp [*, qM, qL] <;> rfl), bl⟩
end Go.Proofs.YtbpfhpjbeomfcaaDoor.P
namespace Go.Proofs.YtbpfhpjbeomfcaaDoor.P
open Go.RowKit Go.Proofs.YtbpfhpjbeomfcaaDoorW.PrintWords Go.Proofs.YtbpfhpjbeomfcaaDoorW.PrintLast Go.Proofs.YtbpfhpjbeomfcaaDoorW.PrintMore
attribute [local go_sem] qz qx qJA qIA qp qo qy qw
set_option linter.unusedVariables false
set_option linter.unusedSimpArgs false
def qm.f (k : Nat) (l0 : List (S27)) (a1_0 : Int) (a1_1 : Int) (a1_2 : Int) : Option (Bool) := (qe.f k l0 a1_0 a1_1 a1_2).bind fun t470 => (some (decide (t470 ≥ 0)))
set_option maxHeartbeats 8000000 in
set_option maxRecDepth 100000 in
theorem qm.calls (k : Nat) (A0 : Option Addr) (c0 : Nat) (l0 : List (S27)) (a1_0 : Int) (a1_1 : Int) (a1_2 : Int) (r : Bool) (w : World) (hr0 : Kd.C k27 w A0 l0.length l0) (hc0 : l0.length ≤ c0) (h : qm.f k l0 a1_0 a1_1 a1_2 = some r) :
  Calls Tryd.prog 91 #[.slice A0 l0.length c0, .agg #[.int .i64 a1_0, .int .i64 a1_1, .int .i64 a1_2]] w fun e w' => e = .returned (.bool r) ∧ Below w.heap.size w w' := by
 have hu27 := Tryd.underlying27
 have HR0 := Aside0.mk hr0
 have HC0 := Aside0.mk hc0
 clear hr0 hc0
 have HB := Aside0.mk (Below.refl w.heap.size w)
 have H : ((qe.f k l0 a1_0 a1_1 a1_2).bind fun t470 => (some (decide (t470 ≥ 0)))) = some r := h
 clear h
 replace H := Option.bind_eq_some_iff.mp H
 obtain ⟨t470, A30, H⟩ := H
 replace H : (some (decide (t470 ≥ 0))) = some r := H
 have A3 := Aside0.mk A30
 clear A30
 obtain rfl := Option.some.inj H
 go_enter Tryd.func91, Tryd.ntmps91
 go_wp2_with (first | ((with_reducible refine qV (N := 3) rfl ?_); refine qU ?hg (N := 3) ?hd (cs := #[.int .i64 a1_0, .int .i64 a1_1, .int .i64 a1_2]) (t := 27) ?hr ?_; (case hd => rfl); (case hg => rfl); (case hr => first | (go_simp; done) | (go_simp; rfl)); intro gb469 hg w4 hbox hb; have n0_ := Aside0.mk (qG bl hb); have n1_ := Aside0.mk (hbox); have n2_ := Aside0.mk ((gg hg)); have n3_ := Aside0.mk ((gg hg)); clear HB; have HB := n0_; have BK469 := n1_; have GW469 := n2_; have GE469 := n3_; clear n0_ n1_ n2_ n3_; clear hb hbox hg; have hcz5_0 := bc BK469 0; have hcz5_1 := bc BK469 1; have hcz5_2 := bc BK469 2; have hfz5_0 := qD BK469.out 0; have hfz5_1 := qD BK469.out 1; have hfz5_2 := qD BK469.out 2) | ((with_reducible refine qS (f := 110) rfl ?_); refine qq (some 7) rfl rfl Tryd.func110 (by kernel_rfl) rfl #[.slice A0 l0.length c0, .agg #[.int .i64 a1_0, .int .i64 a1_1, .int .i64 a1_2]] rfl (by (try simp only [List.map_toArray, List.map_cons, List.map_nil]); first | done | rfl | (simp only [List.length_drop, List.length_take]; rfl)) ?_; (with_reducible refine (qe.calls k _ _ l0 a1_0 a1_1 a1_2 t470 _ ?side1 ?side2 A3.out).mono ?_); (case side1 => repeat (first | exact (Kd.qUA HR0.out HB.out) | (with_reducible refine Kd.qHA ?_ _) | (with_reducible refine Kd.qGA ?_ _) | (with_reducible refine Kd.qNA ?_))); (case side2 => exact HC0.out); rintro e w6 ⟨rfl, hb⟩; refine ⟨_, rfl, ?_⟩; have n0_ := Aside0.mk (bb BK469 hb); have n1_ := Aside0.mk (qG bl hb); clear BK469; clear HB; have BK469 := n0_; have HB := n1_; clear n0_ n1_; (try clear hb); (try clear hb2); (try clear hk); (try clear hi)))
 go_ret
 exact ⟨by first | rfl | (simp [qM, qL] <;> rfl) | (simp [*, qM, qL] <;> rfl), bl⟩
end Go.Proofs.YtbpfhpjbeomfcaaDoor.P
namespace Go.Proofs.YtbpfhpjbeomfcaaDoor
open Go.RowKit Go.Proofs.YtbpfhpjbeomfcaaDoorW.PrintWords Go.Proofs.YtbpfhpjbeomfcaaDoorW.PrintLast
set_option linter.unusedVariables false
set_option linter.unusedSimpArgs false
def KeptUp (w w' : World) (v : Value) (n : Nat) : Prop := ∀ (p : Addr) (u : Value), w.cell? p = some u → (some p.block = v.ownBlock → p.off < n) → w'.cell? p = some u
theorem cell_of_block {w w' : World} {p : Addr} (h : w'.heap[p.block]? = w.heap[p.block]?) : w'.cell? p = w.cell? p := by unfold World.cell?; rw [h]
section
variable {P : Program} (w : World)
theorem append_kept (base : Nat) (t ty e : TypeId) (i : TypeInfo) (z : Value) (size bytes : Nat) (ht : P.underlying t = some (.slice e)) (hi : P.info? e = some i) (hz : i.zero = some z)
  (hsize : i.size = size) (hby : i.bytes = bytes) (hzs : z.cells.size = size) (hsz : 0 < size)
  (v : Value) (n : Nat) (xs : List Value) (hown : w.ownsRow base e size v n xs)
  (a : Addr) (m c : Nat) (news : List Value) (hl : news.length = m * size) (hnews : ∀ j u, news[j]? = some u → w.cell? (a.add j) = some u) (h1 : ∀ u ∈ news, u.oneCell' = true)
  (h63 : n + m ≤ maxLen) (hbytes : (n + m) * bytes ≤ 140737488355328) (hbase : base ≤ w.heap.size) {v' : Value} {w' : World}
  (hr : (Builtin.append_ #[t, t] ty #[v, .slice (some a) m c]).run P w = .ok v' w') : KeptUp w w' v (n * size) := by
 obtain ⟨v2, w2, hr2, hown2, hg2, _, _⟩ := run_append_own_at (P := P) w base t ty e i z size bytes ht hi hz hsize hby hzs hsz v n xs hown a m c news hl hnews h1 h63 hbytes hbase
 rw [hr] at hr2
 injection hr2 with e1 e2
 subst e1
 subst e2
 intro p u hp hb
 have hlt := World.block_lt_of_cell? w p hp
 by_cases hpb : some p.block = v.ownBlock
 ·have hoff := hb hpb
  rcases hown.2 with ⟨rfl, _⟩ | ⟨g, cap, cur, rfl, hbg, hg, hnc, hcm, hcs, htake⟩
  ·cases hpb
  ·obtain rfl : p.block = g := Option.some.inj hpb
   subst hsize
   have hsmall : n + m ≤ 9223372036854775807 := by simp only [maxLen] at h63; omega
   by_cases hroom : n + m ≤ cap
   ·have hfit : n * i.size + news.length ≤ cur.size := by rw [hl, hcs, ← Nat.add_mul]; exact Nat.mul_le_mul_right _ hroom
    have hr3 := run_append_room (P := P) w t ty e i ht hi p.block n cap cur hg a m c news hl hnews h1 hroom hfit
    rw [hr] at hr3
    injection hr3 with e1 e2
    subst e1
    rcases hown2.2 with ⟨h3, _⟩ | ⟨g', cap', cur', he, _, hg', _, _, _, htake'⟩
    ·cases h3
    ·injection he with he1 he2 he3
     injection he1 with he1
     injection he1 with he1
     subst he1
     unfold World.cell? at hp ⊢
     rw [hg] at hp
     rw [hg']
     simp only at hp ⊢
     split at hp
     ·cases hp
     ·rename_i hs
      rw [if_neg hs]
      have q1 : xs[p.off]? = some u := by
       rw [← htake, List.getElem?_take, if_pos hoff, Array.getElem?_toList]; exact hp
      have q2 : (cur'.toList.take ((n + m) * i.size))[p.off]? = some u := by
       rw [htake', List.getElem?_append_left (by have := (List.getElem?_eq_some_iff.1 q1).1; exact this)]; exact q1
      rw [List.getElem?_take] at q2
      split at q2
      ·rwa [Array.getElem?_toList] at q2
      ·cases q2
   ·have holds : ∀ j u, xs[j]? = some u → w.cell? ((⟨p.block, 0, none⟩ : Addr).add j) = some u := hown.cells (g := p.block) rfl
    subst hby
    have hr3 := run_append_grow (P := P) w t ty e i z ht hi hz ⟨p.block, 0, none⟩ n cap xs hown.1 holds a m c news hl hnews (by omega) (by omega) (growslice_fits (by omega) hbytes)
    rw [hr] at hr3
    injection hr3 with e1 e2
    subst e2
    refine (cell_of_block ?_).trans hp
    exact heap_alloc_old w.drew _ hlt
 ·exact (cell_of_block (hg2.block p.block hlt hpb)).trans hp
end
section
variable {P : Program} {ops : Array Oper} {o : Oper} {a : Act} {Q : Exit → Act → World → Prop} {Kc : Act → World → Prop} {α : Type}
theorem qrA (d : Kd α) {Rr : α → List Value → Prop} {w0 W : World} (base : Nat) (hw : Region.wanted o (yielded ops a.tmps) = true) (s x : Operand) (t e : TypeId) (z : Value) (bytes : Nat)
  (ho : o.op = .call { callee := .builtin .append, args := #[s, x], argTypes := #[t, t] })
  (ht : P.underlying t = some (.slice e)) (hinfo : (P.info? e).map (fun i => (i.zero, i.size, i.bytes)) = some (some z, d.sz, bytes)) (hz : z.cells.size = d.sz) (hs0 : 0 < d.sz) (hb0 : 0 < bytes)
  (v : Value) (xs ys : List α) (A : Option Addr) (m c : Nat) (ok okp : Nat → Prop) (hs : a.eval s = v) (hx : a.eval x = .slice A m c)
  (HO : d.R e W base ok v xs) (HR : ReadsRow Rr d.sz W A m ys) (hKM : ∀ x cs, Rr x cs → d.M W base okp x cs) (hokp : ∀ k, okp k → ok k ∧ some k ≠ v.ownBlock) (hfresh : ∀ k, W.heap.size ≤ k → ok k)
  (HB : Below base w0 W) (hbase : base ≤ W.heap.size) (hl : (xs.length + m) * bytes ≤ 140737488355328)
  (h : ∀ v1 w1, d.R e w1 base ok v1 (xs ++ ys) → Below base w0 w1 → W.grownBy w1 v.ownBlock → (v1.ownBlock = v.ownBlock ∨ ∃ b, v1.ownBlock = some b ∧ W.heap.size ≤ b) → KeptUp W w1 v (xs.length * d.sz) → Kc (a.put o.dst v1) w1) :
  if Region.wanted o (yielded ops a.tmps) = true then Oper.wp P o a W Kc Q else Kc (a.put o.dst undef) W := by
 have main := Kd.R_append_rows_step (Q := Q) (Kc := fun a' w1 => ∃ v1, a' = a.put o.dst v1 ∧ (KeptUp W w1 v (xs.length * d.sz) → Kc (a.put o.dst v1) w1)) d base hw s x t e z bytes ho ht hinfo hz hs0 hb0 v xs ys A m c ok okp hs hx HO HR hKM hokp hfresh HB hbase hl
  (fun v1 w1 g1 g2 g3 g4 => ⟨v1, rfl, fun hk => h v1 w1 g1 g2 g3 g4 hk⟩)
 rw [if_pos hw] at main ⊢
 obtain ⟨i0, hi, hzz⟩ := Option.map_eq_some_iff.1 hinfo
 simp only [Prod.mk.injEq] at hzz
 obtain ⟨hz0, hz1, hz2⟩ := hzz
 have hm : ys.length = m := HR.1
 have hlen : xs.length + m ≤ 140737488355328 := Nat.le_trans (Nat.le_mul_of_pos_right _ hb0) hl
 obtain ⟨hok, inner, hown, hr⟩ := HO
 have hkeep : ∀ v1 w1, (Builtin.append_ #[t, t] o.type #[v, .slice A m c]).run P W = .ok v1 w1 → KeptUp W w1 v (xs.length * d.sz) := by
  intro v1 w1 hrun
  rcases A with _ | ad
  ·have h0 : m = 0 := by
    rcases Nat.eq_zero_or_pos m with h0 | h0
    ·exact h0
    ·obtain ⟨ad, h, _⟩ := HR.2.2 h0
     cases h
   subst h0
   have e0 : (Builtin.append_ #[t, t] o.type #[v, .slice none 0 c]).run P W = .ok v W := by
    rcases hown.2 with ⟨rfl, hn⟩ | ⟨g, cap, cur, rfl, _, _, hnc, _⟩
    ·simp [Builtin.append_, run_underlying ht, sizeOf, typeInfo, hi, Builtin.lenOf, Builtin.firstCells]
    ·simp [Builtin.append_, run_underlying ht, sizeOf, typeInfo, hi, Builtin.lenOf, Builtin.firstCells, hnc, storeCells]
   rw [hrun] at e0
   injection e0 with _ e2
   subst e2
   exact fun p u hp _ => hp
  ·obtain ⟨news, hnr, hnc⟩ := ReadsRow.qZC HR
   have hnM : Reps (d.M W base okp) d.sz ys news := hnr.imp_ (fun p c hp => hKM p c hp)
   have hone : ∀ u ∈ news, u.oneCell' = true := by
    intro u hu
    obtain ⟨q, hq, rfl⟩ := List.mem_iff_getElem.1 hu
    have hql : q / d.sz < ys.length := by
     rw [Nat.div_lt_iff_lt_mul hs0]
     rw [← hnM.1]
     exact hq
    have hc := hnM.2 (q / d.sz) _ (List.getElem?_eq_getElem hql)
    refine d.K_one (d.K_of_M hc) _ ?_
    rw [List.mem_iff_getElem?]
    refine ⟨q % d.sz, ?_⟩
    rw [List.getElem?_take, if_pos (Nat.mod_lt _ hs0), List.getElem?_drop, Nat.mul_comm, Nat.div_add_mod, List.getElem?_eq_getElem hq]
   exact append_kept (P := P) W base t o.type e i0 z d.sz bytes ht hi hz0 hz1 hz2 hz hs0 v xs.length inner hown ad m c news (by rw [hnM.1, hm]) hnc hone (by simp only [maxLen]; omega) hl hbase hrun
 clear hr
 unfold Oper.wp execOp at main ⊢
 cases hrun : (Builtin.append_ #[t, t] o.type #[v, .slice A m c]).run P W with
 | ok v1 w1 =>
  have hk := hkeep v1 w1 hrun
  simp only [ho, resolve, invoke, builtin, Sem.run_bind, Sem.run_pure, Result.andThen_ok, List.map_toArray, List.map_cons, List.map_nil, hs, hx, hrun] at main ⊢
  obtain ⟨v2, e2, h2⟩ := main
  have h3 := h2 hk
  rw [← e2] at h3
  exact h3
 | halt e w1 =>
  simp only [ho, resolve, invoke, builtin, Sem.run_bind, Sem.run_pure, Result.andThen_ok, List.map_toArray, List.map_cons, List.map_nil, hs, hx, hrun, Result.andThen] at main ⊢
  unfold Oper.upon at main ⊢
  cases e <;> exact main
theorem R_off1 (d : Kd α) {e : Nat} {W : World} {base : Nat} {ok : Nat → Prop} {ad : Addr} {n c : Nat} {xs : List α} (h : d.R e W base ok (.slice (some ad) n c) xs) (hs : d.sz = 1) (i : Int) (h0 : 0 ≤ i) (h1 : i < (xs.length : Int)) : (ad.add i.toNat).off < xs.length * d.sz := by
 obtain ⟨_, inner, hown, _⟩ := h
 rcases hown.2 with ⟨h3, _⟩ | ⟨g, cap, cur, he, _⟩
 ·cases h3
 ·injection he with he1
  injection he1 with he1
  subst he1
  rw [hs, Nat.mul_one]
  show ((⟨g, 0, none⟩ : Addr).add i.toNat).off < _
  rw [add_plain]
  show i.toNat < xs.length
  omega
theorem R_apart1 {β : Type} (d : Kd α) (d' : Kd β) {e e' : Nat} {W : World} {base base' : Nat} {ok ok' : Nat → Prop} {ad : Addr} {n c : Nat} {v : Value} {xs : List α} {ys : List β} (h : d.R e W base ok (.slice (some ad) n c) xs) (h' : d'.R e' W base' ok' v ys) (hne : e ≠ e') (i : Nat) :
  some (ad.add i).block ≠ v.ownBlock := by
 obtain ⟨in1, ho1⟩ := Kd.R_own h
 obtain ⟨in2, ho2⟩ := Kd.R_own h'
 rw [qP]
 rcases own_type_ne ho1 ho2 hne with h3 | h3
 ·cases h3
 ·exact h3
end
end Go.Proofs.YtbpfhpjbeomfcaaDoor
