/- The program's CountBoxes returns what the reference's returns, for all texts and boxes (the law lets longer texts by). No further condition. -/
import Derived.Test.YtbpfhpjbeomfcaaDoorKFnExactCountBoxes2
import Derived.Laws.Append
import Derived.Laws.AppendOwn
import Derived.Maps.AppendAt

namespace Go.Proofs.YtbpfhpjbeomfcaaDoor.P
open Go.RowKit Go.Proofs.YtbpfhpjbeomfcaaDoorW.PrintWords Go.Proofs.YtbpfhpjbeomfcaaDoorW.PrintLast Go.Proofs.YtbpfhpjbeomfcaaDoorW.PrintMore
attribute [local go_sem] qy qw qFA qEA qn qm qx qv
set_option linter.unusedVariables false
set_option linter.unusedSimpArgs false
def qW.j0 : Nat → Bool → List ByteArray → Int → Int → Int → Option (Bool)
 | 0, _, _, _, _, _ => none
 | k + 1, x31, x203000, x204000, x204001, x204002 => if x31 = true then (some false) else ((qbA.f x204000 x204001 x204002).bind fun t207 => ((qgA.f t207 x203000).bind fun t210 => (some (!t210))))
def qW.f (k : Nat) (l0 : List ByteArray) (a1_0 : Int) (a1_1 : Int) (a1_2 : Int) : Option (Bool) := (qMA.f a1_2 0 2).bind fun t204 => (if t204 = true then ((qq.f l0 a1_0 a1_1).bind fun t205 => (if t205 = true then (if a1_2 = 0 then ((qKA.f l0 a1_0 a1_1).bind fun t206 => (qW.j0 k (t206 == 45) l0 a1_0 a1_1 a1_2)) else (qW.j0 k false l0 a1_0 a1_1 a1_2)) else (qW.j0 k true l0 a1_0 a1_1 a1_2))) else (qW.j0 k true l0 a1_0 a1_1 a1_2))
set_option maxHeartbeats 8000000 in
set_option maxRecDepth 100000 in
theorem qW.calls (k : Nat) (A0 : Option Addr) (c0 : Nat) (l0 : List ByteArray) (a1_0 : Int) (a1_1 : Int) (a1_2 : Int) (r : Bool) (w : World) (hr0 : Kd.C Kd.string w A0 l0.length l0) (hc0 : l0.length ≤ c0) (h : qW.f k l0 a1_0 a1_1 a1_2 = some r) :
  Calls Tryd.prog 56 #[.slice A0 l0.length c0, .agg #[.int .i64 a1_0, .int .i64 a1_1, .int .i64 a1_2]] w fun e w' => e = .returned (.bool r) ∧ Below w.heap.size w w' := by
 have hu27 := Tryd.underlying27
 have HR0 := Aside0.mk hr0
 have HC0 := Aside0.mk hc0
 clear hr0 hc0
 have HB := Aside0.mk (Below.refl w.heap.size w)
 have H : ((qMA.f a1_2 0 2).bind fun t204 => (if t204 = true then ((qq.f l0 a1_0 a1_1).bind fun t205 => (if t205 = true then (if a1_2 = 0 then ((qKA.f l0 a1_0 a1_1).bind fun t206 => (qW.j0 k (t206 == 45) l0 a1_0 a1_1 a1_2)) else (qW.j0 k false l0 a1_0 a1_1 a1_2)) else (qW.j0 k true l0 a1_0 a1_1 a1_2))) else (qW.j0 k true l0 a1_0 a1_1 a1_2))) = some r := h
 clear h
 have HC3 := Aside0.mk H
 clear H
 go_enter Tryd.func56, Tryd.ntmps56
 go_upto_region 1 with (first | ((with_reducible refine qb (N := 2) rfl ?_); refine qZ ?hg (N := 2) ?hd (cs := #[.slice A0 l0.length c0]) (t := 61) ?hr ?_; (case hd => rfl); (case hg => rfl); (case hr => first | (go_simp; done) | (go_simp; rfl)); intro gb202 hg w4 hbox hb; have n0_ := Aside0.mk (qG bl hb); have n1_ := Aside0.mk (hbox); have n2_ := Aside0.mk ((gg hg)); have n3_ := Aside0.mk ((gg hg)); clear HB; have HB := n0_; have BK202 := n1_; have GW202 := n2_; have GE202 := n3_; clear n0_ n1_ n2_ n3_; clear hb hbox hg) | ((with_reducible refine qb (N := 3) rfl ?_); refine qZ ?hg (N := 3) ?hd (cs := #[.int .i64 a1_0, .int .i64 a1_1, .int .i64 a1_2]) (t := 27) ?hr ?_; (case hd => rfl); (case hg => rfl); (case hr => first | (go_simp; done) | (go_simp; rfl)); intro gb203 hg w5 hbox hb; have n0_ := Aside0.mk (bb BK202 hb); have n1_ := Aside0.mk (qG bl hb); have n2_ := Aside0.mk (hbox); have n3_ := Aside0.mk ((gg hg)); have n4_ := Aside0.mk ((gg hg)); have n5_ := Aside0.mk ((nl BK202 hg)); have n6_ := Aside0.mk ((nr BK202 hg)); clear BK202; clear HB; have BK202 := n0_; have HB := n1_; have BK203 := n2_; have GW203 := n3_; have GE203 := n4_; have NB202_203 := n5_; have NB203_202 := n6_; clear n0_ n1_ n2_ n3_ n4_ n5_ n6_; clear hb hbox hg))
 (try simp only [Act.put, List.setIfInBounds_toArray, List.set_cons_zero, List.set_cons_succ])
 go_cut [31] (fun v31 wc => ∃ (kq : Nat) (x31_2 : Bool), v31 = .bool x31_2 ∧ Aside0 (qW.j0 kq x31_2 l0 a1_0 a1_1 a1_2 = some r) ∧ Aside0 (kq ≤ k) ∧ Aside0 (wc.heap[gb202]? = some (.cells #[(.slice A0 l0.length c0)] 61 (0, 0))) ∧ Aside0 (wc.heap[gb203]? = some (.cells #[.int .i64 a1_0, .int .i64 a1_1, .int .i64 a1_2] 27 (0, 0))) ∧ Aside0 (Below w.heap.size w wc))
 case first =>
  have H := HC3.out
  clear HC3
  replace H := Option.bind_eq_some_iff.mp H
  obtain ⟨t204, A60, H⟩ := H
  replace H : (if t204 = true then ((qq.f l0 a1_0 a1_1).bind fun t205 => (if t205 = true then (if a1_2 = 0 then ((qKA.f l0 a1_0 a1_1).bind fun t206 => (qW.j0 k (t206 == 45) l0 a1_0 a1_1 a1_2)) else (qW.j0 k false l0 a1_0 a1_1 a1_2)) else (qW.j0 k true l0 a1_0 a1_1 a1_2))) else (qW.j0 k true l0 a1_0 a1_1 a1_2)) = some r := H
  have A6 := Aside0.mk A60
  clear A60
  by_cases c7 : t204 = true
  ·subst c7
   have H1 : ((qq.f l0 a1_0 a1_1).bind fun t205 => (if t205 = true then (if a1_2 = 0 then ((qKA.f l0 a1_0 a1_1).bind fun t206 => (qW.j0 k (t206 == 45) l0 a1_0 a1_1 a1_2)) else (qW.j0 k false l0 a1_0 a1_1 a1_2)) else (qW.j0 k true l0 a1_0 a1_1 a1_2))) = some r := by rw [if_pos rfl] at H; exact H
   clear H
   have H := H1
   clear H1
   replace H := Option.bind_eq_some_iff.mp H
   obtain ⟨t205, A80, H⟩ := H
   replace H : (if t205 = true then (if a1_2 = 0 then ((qKA.f l0 a1_0 a1_1).bind fun t206 => (qW.j0 k (t206 == 45) l0 a1_0 a1_1 a1_2)) else (qW.j0 k false l0 a1_0 a1_1 a1_2)) else (qW.j0 k true l0 a1_0 a1_1 a1_2)) = some r := H
   have A8 := Aside0.mk A80
   clear A80
   by_cases c9 : t205 = true
   ·subst c9
    have H1 : (if a1_2 = 0 then ((qKA.f l0 a1_0 a1_1).bind fun t206 => (qW.j0 k (t206 == 45) l0 a1_0 a1_1 a1_2)) else (qW.j0 k false l0 a1_0 a1_1 a1_2)) = some r := by rw [if_pos rfl] at H; exact H
    clear H
    have H := H1
    clear H1
    by_cases c10 : a1_2 = 0
    ·rw [if_pos c10] at H
     have c10b0 : (a1_2 == 0) = true := beq_iff_eq.mpr c10
     have c10b1 : (a1_2 != 0) = false := bne_eq_false_iff_eq.mpr c10
     clear c10
     (first | rw [c10b0] | (simp only [i64_w, i32_w]; rw [c10b0]) | skip)
     replace H := Option.bind_eq_some_iff.mp H
     obtain ⟨t206, A110, H⟩ := H
     replace H : (qW.j0 k (t206 == 45) l0 a1_0 a1_1 a1_2) = some r := H
     have A11 := Aside0.mk A110
     clear A110
     have H' := Aside0.mk H
     clear H
     have hnb12 := NB203_202.out
     have hnc12 := NB202_203.out
     have hcz13_0 := bc BK203 0
     have hcz13_1 := bc BK203 1
     have hcz13_2 := bc BK203 2
     have hfz13_0 := qC BK203.out 0
     have hfz13_1 := qC BK203.out 1
     have hfz13_2 := qC BK203.out 2
     go_wp2_with (first | ((with_reducible refine qa (f := 82) rfl ?_); refine qr (some 7) rfl rfl Tryd.func82 (by kernel_rfl) rfl #[.int .i64 a1_2, .int .i64 0, .int .i64 2] rfl (by (try simp only [List.map_toArray, List.map_cons, List.map_nil]); first | done | rfl | (simp only [List.length_drop, List.length_take]; rfl)) ?_; (with_reducible refine (qMA.calls a1_2 0 2 true _ A6.out).mono ?_); rintro e w' ⟨rfl, ⟨nd, rfl⟩⟩; refine ⟨_, rfl, ?_⟩; have hcz14_0 := bc BK202 0; have hfz14_0 := qC BK202.out 0) | (go_at_call 83; (with_reducible refine (qq.calls _ _ l0 a1_0 a1_1 true _ ?side1 ?side2 A8.out).mono ?_); (case side1 => repeat (first | exact (Kd.qQA HR0.out bl) | (with_reducible refine Kd.qIA ?_ _) | (with_reducible refine Kd.qHA ?_ _) | (with_reducible refine Kd.qSA ?_))); (case side2 => exact HC0.out); rintro e w' ⟨rfl, ⟨nd, rfl⟩⟩) | (go_at_call 71; (with_reducible refine (qKA.calls _ _ l0 a1_0 a1_1 t206 _ ?side1 ?side2 A11.out).mono ?_); (case side1 => repeat (first | exact (Kd.qQA HR0.out bl) | (with_reducible refine Kd.qIA ?_ _) | (with_reducible refine Kd.qHA ?_ _) | (with_reducible refine Kd.qSA ?_))); (case side2 => exact HC0.out); rintro e w' ⟨rfl, ⟨nd, rfl⟩⟩))
     go_meet
     case rel => exact ⟨_, ((t206 == 45)), (by first | rfl | (simp; done) | (simp [*]; done)), H', ⟨by first | omega | exact Nat.le_refl _⟩, ⟨by (with_reducible repeat (first | refine qB ?_ _ | refine qD ?_ | refine qA ?_ _)); exact BK202.out⟩, ⟨by (with_reducible repeat (first | refine qB ?_ _ | refine qD ?_ | refine qA ?_ _)); exact BK203.out⟩, ⟨bl⟩⟩
    ·rw [if_neg c10] at H
     have c10b0 : (a1_2 == 0) = false := beq_eq_false_iff_ne.mpr c10
     have c10b1 : (a1_2 != 0) = true := bne_iff_ne.mpr c10
     (first | rw [c10b0] | (simp only [i64_w, i32_w]; rw [c10b0]) | skip)
     have H' := Aside0.mk H
     clear H
     have hnb15 := NB203_202.out
     have hnc15 := NB202_203.out
     have hcz16_0 := bc BK203 0
     have hcz16_1 := bc BK203 1
     have hcz16_2 := bc BK203 2
     have hfz16_0 := qC BK203.out 0
     have hfz16_1 := qC BK203.out 1
     have hfz16_2 := qC BK203.out 2
     go_wp2_with (first | ((with_reducible refine qa (f := 82) rfl ?_); refine qr (some 7) rfl rfl Tryd.func82 (by kernel_rfl) rfl #[.int .i64 a1_2, .int .i64 0, .int .i64 2] rfl (by (try simp only [List.map_toArray, List.map_cons, List.map_nil]); first | done | rfl | (simp only [List.length_drop, List.length_take]; rfl)) ?_; (with_reducible refine (qMA.calls a1_2 0 2 true _ A6.out).mono ?_); rintro e w' ⟨rfl, ⟨nd, rfl⟩⟩; refine ⟨_, rfl, ?_⟩; have hcz17_0 := bc BK202 0; have hfz17_0 := qC BK202.out 0) | (go_at_call 83; (with_reducible refine (qq.calls _ _ l0 a1_0 a1_1 true _ ?side1 ?side2 A8.out).mono ?_); (case side1 => repeat (first | exact (Kd.qQA HR0.out bl) | (with_reducible refine Kd.qIA ?_ _) | (with_reducible refine Kd.qHA ?_ _) | (with_reducible refine Kd.qSA ?_))); (case side2 => exact HC0.out); rintro e w' ⟨rfl, ⟨nd, rfl⟩⟩))
     go_meet
     case rel => exact ⟨_, (false), (by first | rfl | (simp; done) | (simp [*]; done)), H', ⟨by first | omega | exact Nat.le_refl _⟩, ⟨by (with_reducible repeat (first | refine qB ?_ _ | refine qD ?_ | refine qA ?_ _)); exact BK202.out⟩, ⟨by (with_reducible repeat (first | refine qB ?_ _ | refine qD ?_ | refine qA ?_ _)); exact BK203.out⟩, ⟨bl⟩⟩
   ·replace c9 := Bool.eq_false_iff.mpr c9
    subst c9
    have H1 : (qW.j0 k true l0 a1_0 a1_1 a1_2) = some r := by rw [if_neg (show ¬ (false = true) by decide)] at H; exact H
    clear H
    have H := H1
    clear H1
    have H' := Aside0.mk H
    clear H
    have hnb18 := NB203_202.out
    have hnc18 := NB202_203.out
    have hcz19_0 := bc BK203 0
    have hcz19_1 := bc BK203 1
    have hcz19_2 := bc BK203 2
    have hfz19_0 := qC BK203.out 0
    have hfz19_1 := qC BK203.out 1
    have hfz19_2 := qC BK203.out 2
    go_wp2_with (first | ((with_reducible refine qa (f := 82) rfl ?_); refine qr (some 7) rfl rfl Tryd.func82 (by kernel_rfl) rfl #[.int .i64 a1_2, .int .i64 0, .int .i64 2] rfl (by (try simp only [List.map_toArray, List.map_cons, List.map_nil]); first | done | rfl | (simp only [List.length_drop, List.length_take]; rfl)) ?_; (with_reducible refine (qMA.calls a1_2 0 2 true _ A6.out).mono ?_); rintro e w' ⟨rfl, ⟨nd, rfl⟩⟩; refine ⟨_, rfl, ?_⟩; have hcz20_0 := bc BK202 0; have hfz20_0 := qC BK202.out 0) | (go_at_call 83; (with_reducible refine (qq.calls _ _ l0 a1_0 a1_1 false _ ?side1 ?side2 A8.out).mono ?_); (case side1 => repeat (first | exact (Kd.qQA HR0.out bl) | (with_reducible refine Kd.qIA ?_ _) | (with_reducible refine Kd.qHA ?_ _) | (with_reducible refine Kd.qSA ?_))); (case side2 => exact HC0.out); rintro e w' ⟨rfl, ⟨nd, rfl⟩⟩))
    go_meet
    case rel => exact ⟨_, (true), (by first | rfl | (simp; done) | (simp [*]; done)), H', ⟨by first | omega | exact Nat.le_refl _⟩, ⟨by (with_reducible repeat (first | refine qB ?_ _ | refine qD ?_ | refine qA ?_ _)); exact BK202.out⟩, ⟨by (with_reducible repeat (first | refine qB ?_ _ | refine qD ?_ | refine qA ?_ _)); exact BK203.out⟩, ⟨bl⟩⟩
  ·replace c7 := Bool.eq_false_iff.mpr c7
   subst c7
   have H1 : (qW.j0 k true l0 a1_0 a1_1 a1_2) = some r := by rw [if_neg (show ¬ (false = true) by decide)] at H; exact H
   clear H
   have H := H1
   clear H1
   have H' := Aside0.mk H
   clear H
   have hnb21 := NB203_202.out
   have hnc21 := NB202_203.out
   have hcz22_0 := bc BK203 0
   have hcz22_1 := bc BK203 1
   have hcz22_2 := bc BK203 2
   have hfz22_0 := qC BK203.out 0
   have hfz22_1 := qC BK203.out 1
   have hfz22_2 := qC BK203.out 2
   go_wp2_with (first | ((with_reducible refine qa (f := 82) rfl ?_); refine qr (some 7) rfl rfl Tryd.func82 (by kernel_rfl) rfl #[.int .i64 a1_2, .int .i64 0, .int .i64 2] rfl (by (try simp only [List.map_toArray, List.map_cons, List.map_nil]); first | done | rfl | (simp only [List.length_drop, List.length_take]; rfl)) ?_; (with_reducible refine (qMA.calls a1_2 0 2 false _ A6.out).mono ?_); rintro e w' ⟨rfl, ⟨nd, rfl⟩⟩; refine ⟨_, rfl, ?_⟩))
   go_meet
   case rel => exact ⟨_, (true), (by first | rfl | (simp; done) | (simp [*]; done)), H', ⟨by first | omega | exact Nat.le_refl _⟩, ⟨by (with_reducible repeat (first | refine qB ?_ _ | refine qD ?_ | refine qA ?_ _)); exact BK202.out⟩, ⟨by (with_reducible repeat (first | refine qB ?_ _ | refine qD ?_ | refine qA ?_ _)); exact BK203.out⟩, ⟨bl⟩⟩
 case rest =>
  clear HC3
  try clear c1
  try clear c2
  try clear p2
  try clear c5
  try clear c7
  try clear c8
  try clear c9
  try clear c10
  try clear c10b0
  try clear c10b1
  try clear c12
  try clear c15
  try clear c18
  try clear c21
  try clear hcz13_0
  try clear hcz13_1
  try clear hcz13_2
  try clear hcz14_0
  try clear hcz16_0
  try clear hcz16_1
  try clear hcz16_2
  try clear hcz17_0
  try clear hcz19_0
  try clear hcz19_1
  try clear hcz19_2
  try clear hcz20_0
  try clear hcz22_0
  try clear hcz22_1
  try clear hcz22_2
  try clear hfz13_0
  try clear hfz13_1
  try clear hfz13_2
  try clear hfz14_0
  try clear hfz16_0
  try clear hfz16_1
  try clear hfz16_2
  try clear hfz17_0
  try clear hfz19_0
  try clear hfz19_1
  try clear hfz19_2
  try clear hfz20_0
  try clear hfz22_0
  try clear hfz22_1
  try clear hfz22_2
  obtain ⟨kq, x31_2, rfl, HA, HJ2, BK202, BK203, HB⟩ := hcut
  cases kq with
  | zero => exact absurd HA.out (by simp [qW.j0])
  | succ kj2 =>
   have H := HA.out
   clear HA
   simp only [qW.j0] at H
   by_cases c23 : x31_2 = true
   ·subst c23
    have H1 : (some false) = some r := by rw [if_pos rfl] at H; exact H
    clear H
    have H := H1
    clear H1
    obtain rfl := Option.some.inj H
    go_wp2
    go_ret
    exact ⟨by first | rfl | (simp [qJ, qI] <;> rfl) | (simp [*, qJ, qI] <;> rfl), bl⟩
   ·replace c23 := Bool.eq_false_iff.mpr c23
    subst c23
    have H1 : ((qbA.f a1_0 a1_1 a1_2).bind fun t207 => ((qgA.f t207 l0).bind fun t210 => (some (!t210)))) = some r := by rw [if_neg (show ¬ (false = true) by decide)] at H; exact H
    clear H
    have H := H1
    clear H1
    replace H := Option.bind_eq_some_iff.mp H
    obtain ⟨t207, A240, H⟩ := H
    replace H : ((qgA.f t207 l0).bind fun t210 => (some (!t210))) = some r := H
    have A24 := Aside0.mk A240
    clear A240
    replace H := Option.bind_eq_some_iff.mp H
    obtain ⟨t210, A250, H⟩ := H
    replace H : (some (!t210)) = some r := H
    have A25 := Aside0.mk A250
    clear A250
    obtain rfl := Option.some.inj H
    have hnb26 := NB203_202.out
    have hnc26 := NB202_203.out
    have hcz27_0 := bc BK203 0
    have hcz27_1 := bc BK203 1
    have hcz27_2 := bc BK203 2
    have hfz27_0 := qC BK203.out 0
    have hfz27_1 := qC BK203.out 1
    have hfz27_2 := qC BK203.out 2
    go_wp2_with (first | ((with_reducible refine qa (f := 85) rfl ?_); refine qr (some 33) rfl rfl Tryd.func85 (by kernel_rfl) rfl #[.agg #[.int .i64 a1_0, .int .i64 a1_1, .int .i64 a1_2]] rfl (by (try simp only [List.map_toArray, List.map_cons, List.map_nil]); first | done | rfl | (simp only [List.length_drop, List.length_take]; rfl)) ?_; (with_reducible refine (qbA.calls a1_0 a1_1 a1_2 t207 _ A24.out).mono ?_); rintro e w28 ⟨v208, rfl, ho0, hb⟩; refine ⟨_, rfl, ?_⟩; have n0_ := Aside0.mk (Kd.qu ho0 (qe bl)); have n1_ := Aside0.mk (bb BK202 hb); have n2_ := Aside0.mk (bb BK203 hb); have n3_ := Aside0.mk (qG bl hb); clear BK202; clear BK203; clear HB; have HO209 := n0_; have BK202 := n1_; have BK203 := n2_; have HB := n3_; clear n0_ n1_ n2_ n3_; (try clear hb); (try clear hb2); (try clear hk); (try clear hi); (try clear ho0); obtain ⟨Ao29, co29, eo29⟩ := Kd.ql HO209.out; subst eo29) | ((with_reducible refine qa (f := 84) rfl ?_); refine qr (some 35) rfl rfl Tryd.func84 (by kernel_rfl) rfl #[.slice Ao29 t207.length co29, .func (.func 86) #[] #[.pointer (some ⟨gb202, 0, none⟩)]] rfl (by (try simp only [List.map_toArray, List.map_cons, List.map_nil]); first | done | rfl | (simp only [List.length_drop, List.length_take]; rfl)) ?_; (with_reducible refine (qgA.calls _ _ t207 gb202 A0 c0 l0 t210 _ ?side1 ?side2 ?side3 ?side4 ?side5 A25.out).mono ?_); (case side1 => repeat (first | exact (Kd.qh HO209.out).2.2 | (with_reducible refine Kd.qIA ?_ _) | (with_reducible refine Kd.qHA ?_ _) | (with_reducible refine Kd.qSA ?_))); (case side2 => exact (Kd.qh HO209.out).2.1); (case side3 => repeat (first | exact (Kd.qQA HR0.out HB.out) | (with_reducible refine Kd.qIA ?_ _) | (with_reducible refine Kd.qHA ?_ _) | (with_reducible refine Kd.qSA ?_))); (case side4 => exact HC0.out); (case side5 => exact (cell_of_row _ gb202 0 _ 61 (0, 0) (by (with_reducible repeat (first | refine qB ?_ _ | refine qD ?_ | refine qA ?_ _)); exact BK202.out)).trans rfl); rintro e w30 ⟨rfl, hb⟩; refine ⟨_, rfl, ?_⟩; have n0_ := Aside0.mk (Kd.qc (by (with_reducible repeat (first | apply Kd.qF | apply Kd.qE | apply Kd.qH)); exact HO209.out) hb); have n1_ := Aside0.mk (bb BK202 hb); have n2_ := Aside0.mk (bb BK203 hb); have n3_ := Aside0.mk (qG bl hb); clear HO209; clear BK202; clear BK203; clear HB; have HO209 := n0_; have BK202 := n1_; have BK203 := n2_; have HB := n3_; clear n0_ n1_ n2_ n3_; (try clear hb); (try clear hb2); (try clear hk); (try clear hi)))
    go_ret
    exact ⟨by first | rfl | (simp [qJ, qI] <;> rfl) | (simp [*, qJ, qI] <;> rfl), bl⟩
def qVA.f (k : Nat) (a0 : ByteArray) (a1_0 : Int) (a1_1 : Int) (a1_2 : Int) : Option (List ByteArray × Bool) := (qfA.f k a0).bind fun bt267 => (if bt267.2 = true then ((qW.f k bt267.1 a1_0 a1_1 a1_2).bind fun t271 => (some (bt267.1, t271))) else (some (bt267.1, false)))
set_option maxHeartbeats 8000000 in
set_option maxRecDepth 100000 in
theorem qVA.calls (k : Nat) (a0 : ByteArray) (a1_0 : Int) (a1_1 : Int) (a1_2 : Int) (r1 : List ByteArray) (r2 : Bool) (w : World) (hL : Laid w) (h : qVA.f k a0 a1_0 a1_1 a1_2 = some (r1, r2)) :
  Calls Tryd.prog 58 #[.string a0, .agg #[.int .i64 a1_0, .int .i64 a1_1, .int .i64 a1_2]] w fun e w' => ∃ v0_ : Value, e = .returned (.tuple #[v0_, .bool r2]) ∧ Kd.R Kd.string 9 w' w.heap.size (fun _ => True) v0_ r1 ∧ Below w.heap.size w w' := by
 have hu27 := Tryd.underlying27
 have HLD := Aside0.mk hL
 clear hL
 have HB := Aside0.mk (Below.refl w.heap.size w)
 have H : ((qfA.f k a0).bind fun bt267 => (if bt267.2 = true then ((qW.f k bt267.1 a1_0 a1_1 a1_2).bind fun t271 => (some (bt267.1, t271))) else (some (bt267.1, false)))) = some (r1, r2) := h
 clear h
 replace H := Option.bind_eq_some_iff.mp H
 obtain ⟨⟨t267, t268⟩, A30, H⟩ := H
 replace H : (if t268 = true then ((qW.f k t267 a1_0 a1_1 a1_2).bind fun t271 => (some (t267, t271))) else (some (t267, false))) = some (r1, r2) := H
 have A3 := Aside0.mk A30
 clear A30
 by_cases c4 : t268 = true
 ·subst c4
  have H1 : ((qW.f k t267 a1_0 a1_1 a1_2).bind fun t271 => (some (t267, t271))) = some (r1, r2) := by rw [if_pos rfl] at H; exact H
  clear H
  have H := H1
  clear H1
  replace H := Option.bind_eq_some_iff.mp H
  obtain ⟨t271, A50, H⟩ := H
  replace H : (some (t267, t271)) = some (r1, r2) := H
  have A5 := Aside0.mk A50
  clear A50
  simp only [Option.some.injEq, Prod.mk.injEq] at H
  obtain ⟨rfl, rfl⟩ := H
  go_enter Tryd.func58, Tryd.ntmps58
  go_wp2_with (first | ((with_reducible refine qb (N := 3) rfl ?_); refine qZ ?hg (N := 3) ?hd (cs := #[.int .i64 a1_0, .int .i64 a1_1, .int .i64 a1_2]) (t := 27) ?hr ?_; (case hd => rfl); (case hg => rfl); (case hr => first | (go_simp; done) | (go_simp; rfl)); intro gb266 hg w6 hbox hb; have n0_ := Aside0.mk (qG bl hb); have n1_ := Aside0.mk (hbox); have n2_ := Aside0.mk ((gg hg)); have n3_ := Aside0.mk ((gg hg)); clear HB; have HB := n0_; have BK266 := n1_; have GW266 := n2_; have GE266 := n3_; clear n0_ n1_ n2_ n3_; clear hb hbox hg) | ((with_reducible refine qa (f := 54) rfl ?_); refine qr (some 10) rfl rfl Tryd.func54 (by kernel_rfl) rfl #[.string a0] rfl (by (try simp only [List.map_toArray, List.map_cons, List.map_nil]); first | done | rfl | (simp only [List.length_drop, List.length_take]; rfl)) ?_; (with_reducible refine (qfA.calls k a0 t267 true _ ?side1 A3.out).mono ?_); (case side1 => first | exact HLD.out | exact Laid.below HLD.out (by repeat (first | (with_reducible first | exact HB.out | apply qj | apply qk | apply qi | refine qWA ?_ (Aside0.out (by with_reducible assumption))) | exact HB.out))); rintro e w7 ⟨v269, rfl, ho0, hb⟩; refine ⟨_, rfl, ?_⟩; have n0_ := Aside0.mk (Kd.qu ho0 (qe bl)); have n1_ := Aside0.mk (bb BK266 hb); have n2_ := Aside0.mk (qG bl hb); clear BK266; clear HB; have HO270 := n0_; have BK266 := n1_; have HB := n2_; clear n0_ n1_ n2_; (try clear hb); (try clear hb2); (try clear hk); (try clear hi); (try clear ho0); have hcz8_0 := bc BK266 0; have hcz8_1 := bc BK266 1; have hcz8_2 := bc BK266 2; have hfz8_0 := qC BK266.out 0; have hfz8_1 := qC BK266.out 1; have hfz8_2 := qC BK266.out 2; obtain ⟨Ao9, co9, eo9⟩ := Kd.ql HO270.out; subst eo9) | (go_at_call 56; (with_reducible refine (qW.calls k _ _ t267 a1_0 a1_1 a1_2 t271 _ ?side1 ?side2 A5.out).mono ?_); (case side1 => repeat (first | exact (Kd.qh HO270.out).2.2 | (with_reducible refine Kd.qIA ?_ _) | (with_reducible refine Kd.qHA ?_ _) | (with_reducible refine Kd.qSA ?_))); (case side2 => exact (Kd.qh HO270.out).2.1); rintro e w10 ⟨rfl, hb⟩; have n0_ := Aside0.mk (Kd.qc (by (with_reducible repeat (first | apply Kd.qF | apply Kd.qE | apply Kd.qH)); exact HO270.out) hb); have n1_ := Aside0.mk (bb BK266 hb); have n2_ := Aside0.mk (qG bl hb); clear HO270; clear BK266; clear HB; have HO270 := n0_; have BK266 := n1_; have HB := n2_; clear n0_ n1_ n2_; (try clear hb); (try clear hb2); (try clear hk); (try clear hi)))
  go_ret2
  exact ⟨_, by first | rfl | (simp [qJ, qI] <;> rfl) | (simp [*, qJ, qI] <;> rfl), by (with_reducible repeat (first | apply Kd.qF | apply Kd.qE | apply Kd.qH)); exact HO270.out, bl⟩
 ·replace c4 := Bool.eq_false_iff.mpr c4
  subst c4
  have H1 : (some (t267, false)) = some (r1, r2) := by rw [if_neg (show ¬ (false = true) by decide)] at H; exact H
  clear H
  have H := H1
  clear H1
  simp only [Option.some.injEq, Prod.mk.injEq] at H
  obtain ⟨rfl, rfl⟩ := H
  go_enter Tryd.func58, Tryd.ntmps58
  go_wp2_with (first | ((with_reducible refine qb (N := 3) rfl ?_); refine qZ ?hg (N := 3) ?hd (cs := #[.int .i64 a1_0, .int .i64 a1_1, .int .i64 a1_2]) (t := 27) ?hr ?_; (case hd => rfl); (case hg => rfl); (case hr => first | (go_simp; done) | (go_simp; rfl)); intro gb266 hg w11 hbox hb; have n0_ := Aside0.mk (qG bl hb); have n1_ := Aside0.mk (hbox); have n2_ := Aside0.mk ((gg hg)); have n3_ := Aside0.mk ((gg hg)); clear HB; have HB := n0_; have BK266 := n1_; have GW266 := n2_; have GE266 := n3_; clear n0_ n1_ n2_ n3_; clear hb hbox hg) | ((with_reducible refine qa (f := 54) rfl ?_); refine qr (some 10) rfl rfl Tryd.func54 (by kernel_rfl) rfl #[.string a0] rfl (by (try simp only [List.map_toArray, List.map_cons, List.map_nil]); first | done | rfl | (simp only [List.length_drop, List.length_take]; rfl)) ?_; (with_reducible refine (qfA.calls k a0 t267 false _ ?side1 A3.out).mono ?_); (case side1 => first | exact HLD.out | exact Laid.below HLD.out (by repeat (first | (with_reducible first | exact HB.out | apply qj | apply qk | apply qi | refine qWA ?_ (Aside0.out (by with_reducible assumption))) | exact HB.out))); rintro e w12 ⟨v269, rfl, ho0, hb⟩; refine ⟨_, rfl, ?_⟩; have n0_ := Aside0.mk (Kd.qu ho0 (qe bl)); have n1_ := Aside0.mk (bb BK266 hb); have n2_ := Aside0.mk (qG bl hb); clear BK266; clear HB; have HO270 := n0_; have BK266 := n1_; have HB := n2_; clear n0_ n1_ n2_; (try clear hb); (try clear hb2); (try clear hk); (try clear hi); (try clear ho0)))
  go_ret2
  exact ⟨_, by first | rfl | (simp [qJ, qI] <;> rfl) | (simp [*, qJ, qI] <;> rfl), by (with_reducible repeat (first | apply Kd.qF | apply Kd.qE | apply Kd.qH)); exact HO270.out, bl⟩
def qoA.f (a0 : Int) (a1 : Int) (a2 : Int) : Option (Int × Int) := if a2 = 110 then (some (a0, wrap64 (a1 - 1))) else (if a2 = 101 then (some (wrap64 (a0 + 1), a1)) else (if a2 = 115 then (some (a0, wrap64 (a1 + 1))) else (some (wrap64 (a0 - 1), a1))))
set_option maxHeartbeats 8000000 in
set_option maxRecDepth 100000 in
theorem qoA.calls (a0 : Int) (a1 : Int) (a2 : Int) (r1 : Int) (r2 : Int) (w : World) (h : qoA.f a0 a1 a2 = some (r1, r2)) :
  Calls Tryd.prog 109 #[.int .i64 a0, .int .i64 a1, .int .u8 a2] w fun e w' => e = .returned (.tuple #[.int .i64 r1, .int .i64 r2]) ∧ Drawn0 w w' := by
 have H : (if a2 = 110 then (some (a0, wrap64 (a1 - 1))) else (if a2 = 101 then (some (wrap64 (a0 + 1), a1)) else (if a2 = 115 then (some (a0, wrap64 (a1 + 1))) else (some (wrap64 (a0 - 1), a1))))) = some (r1, r2) := h
 clear h
 by_cases c4 : a2 = 110
 ·rw [if_pos c4] at H
  have c4b0 : (a2 == 110) = true := beq_iff_eq.mpr c4
  have c4b1 : (a2 != 110) = false := bne_eq_false_iff_eq.mpr c4
  clear c4
  simp only [Option.some.injEq, Prod.mk.injEq] at H
  obtain ⟨rfl, rfl⟩ := H
  go_enter Tryd.func109, Tryd.ntmps109
  go_wp2
  go_ret2
  exact ⟨by first | rfl | (simp; done) | (simp [*]; done), by repeat (first | exact Drawn0.refl _ | apply Drawn0.step)⟩
 ·rw [if_neg c4] at H
  have c4b0 : (a2 == 110) = false := beq_eq_false_iff_ne.mpr c4
  have c4b1 : (a2 != 110) = true := bne_iff_ne.mpr c4
  by_cases c5 : a2 = 101
  ·rw [if_pos c5] at H
   have c5b0 : (a2 == 101) = true := beq_iff_eq.mpr c5
   have c5b1 : (a2 != 101) = false := bne_eq_false_iff_eq.mpr c5
   clear c5
   simp only [Option.some.injEq, Prod.mk.injEq] at H
   obtain ⟨rfl, rfl⟩ := H
   go_enter Tryd.func109, Tryd.ntmps109
   go_wp2
   go_ret2
   exact ⟨by first | rfl | (simp; done) | (simp [*]; done), by repeat (first | exact Drawn0.refl _ | apply Drawn0.step)⟩
  ·rw [if_neg c5] at H
   have c5b0 : (a2 == 101) = false := beq_eq_false_iff_ne.mpr c5
   have c5b1 : (a2 != 101) = true := bne_iff_ne.mpr c5
   by_cases c6 : a2 = 115
   ·rw [if_pos c6] at H
    have c6b0 : (a2 == 115) = true := beq_iff_eq.mpr c6
    have c6b1 : (a2 != 115) = false := bne_eq_false_iff_eq.mpr c6
    clear c6
    simp only [Option.some.injEq, Prod.mk.injEq] at H
    obtain ⟨rfl, rfl⟩ := H
    go_enter Tryd.func109, Tryd.ntmps109
    go_wp2
    go_ret2
    exact ⟨by first | rfl | (simp; done) | (simp [*]; done), by repeat (first | exact Drawn0.refl _ | apply Drawn0.step)⟩
   ·rw [if_neg c6] at H
    have c6b0 : (a2 == 115) = false := beq_eq_false_iff_ne.mpr c6
    have c6b1 : (a2 != 115) = true := bne_iff_ne.mpr c6
    simp only [Option.some.injEq, Prod.mk.injEq] at H
    obtain ⟨rfl, rfl⟩ := H
    go_enter Tryd.func109, Tryd.ntmps109
    go_wp2
    go_ret2
    exact ⟨by first | rfl | (simp; done) | (simp [*]; done), by repeat (first | exact Drawn0.refl _ | apply Drawn0.step)⟩
mutual
def qT.j0 : Nat → Int → Bool → Int → Int → Int → Option (Int × Int × Int)
 | 0, _, _, _, _, _ => none
 | k + 1, x1, x5, x330000, x330001, x330002 => if x330002 = 0 then (if x1 = 110 then (some (x330000, wrap64 (x330001 - 2), 2)) else (if x1 = 101 then (some (wrap64 (x330000 + 1), x330001, 1)) else (if x1 = 115 then (some (x330000, wrap64 (x330001 + 1), 2)) else (some (wrap64 (x330000 - 2), x330001, 1))))) else (if x5 = true then (qT.j1 k x1 x5 (x1 == 101) x330000 x330001 x330002) else (qT.j1 k x1 x5 false x330000 x330001 x330002))
def qT.j1 : Nat → Int → Bool → Bool → Int → Int → Int → Option (Int × Int × Int)
 | 0, _, _, _, _, _, _ => none
 | k + 1, x1, x5, x67, x330000, x330001, x330002 => if x67 = true then (some (wrap64 (x330000 + 2), x330001, 0)) else (if x5 = true then (qT.j2 k x1 x5 (x1 == 115) x330000 x330001 x330002) else (qT.j2 k x1 x5 false x330000 x330001 x330002))
def qT.j2 : Nat → Int → Bool → Bool → Int → Int → Int → Option (Int × Int × Int)
 | 0, _, _, _, _, _, _ => none
 | k + 1, x1, x5, x79, x330000, x330001, x330002 => if x79 = true then (some (x330000, wrap64 (x330001 + 2), 0)) else ((qoA.f x330000 x330001 x1).bind fun bt331 => (if x5 = true then (some (bt331.1, bt331.2, 0)) else (some (bt331.1, bt331.2, x330002))))
end
def qT.f (k : Nat) (a0_0 : Int) (a0_1 : Int) (a0_2 : Int) (a1 : Int) : Option (Int × Int × Int) := if a0_2 = 2 then (if a1 = 110 then (qT.j0 k a1 true a0_0 a0_1 a0_2) else (if a1 = 115 then (qT.j0 k a1 true a0_0 a0_1 a0_2) else (if a0_2 = 1 then (if a1 = 101 then (qT.j0 k a1 true a0_0 a0_1 a0_2) else (qT.j0 k a1 (a1 == 119) a0_0 a0_1 a0_2)) else (qT.j0 k a1 false a0_0 a0_1 a0_2)))) else (if a0_2 = 1 then (if a1 = 101 then (qT.j0 k a1 true a0_0 a0_1 a0_2) else (qT.j0 k a1 (a1 == 119) a0_0 a0_1 a0_2)) else (qT.j0 k a1 false a0_0 a0_1 a0_2))
set_option maxHeartbeats 8000000 in
set_option maxRecDepth 100000 in
theorem qT.calls (k : Nat) (a0_0 : Int) (a0_1 : Int) (a0_2 : Int) (a1 : Int) (r1 : Int) (r2 : Int) (r3 : Int) (w : World) (h : qT.f k a0_0 a0_1 a0_2 a1 = some (r1, r2, r3)) :
  Calls Tryd.prog 88 #[.agg #[.int .i64 a0_0, .int .i64 a0_1, .int .i64 a0_2], .int .u8 a1] w fun e w' => e = .returned (.agg #[.int .i64 r1, .int .i64 r2, .int .i64 r3]) ∧ Below w.heap.size w w' := by
 have hu27 := Tryd.underlying27
 have HB := Aside0.mk (Below.refl w.heap.size w)
 have H : (if a0_2 = 2 then (if a1 = 110 then (qT.j0 k a1 true a0_0 a0_1 a0_2) else (if a1 = 115 then (qT.j0 k a1 true a0_0 a0_1 a0_2) else (if a0_2 = 1 then (if a1 = 101 then (qT.j0 k a1 true a0_0 a0_1 a0_2) else (qT.j0 k a1 (a1 == 119) a0_0 a0_1 a0_2)) else (qT.j0 k a1 false a0_0 a0_1 a0_2)))) else (if a0_2 = 1 then (if a1 = 101 then (qT.j0 k a1 true a0_0 a0_1 a0_2) else (qT.j0 k a1 (a1 == 119) a0_0 a0_1 a0_2)) else (qT.j0 k a1 false a0_0 a0_1 a0_2))) = some (r1, r2, r3) := h
 clear h
 have HC3 := Aside0.mk H
 clear H
 go_enter Tryd.func88, Tryd.ntmps88
 go_upto_region 1 with (first | ((with_reducible refine qb (N := 2) rfl ?_); refine qZ ?hg (N := 2) ?hd (cs := #[.int .i64 a0_0, .int .i64 a0_1, .int .i64 a0_2]) (t := 27) ?hr ?_; (case hd => rfl); (case hg => rfl); (case hr => first | (go_simp; done) | (go_simp; rfl)); intro gb329 hg w4 hbox hb; have n0_ := Aside0.mk (qG bl hb); have n1_ := Aside0.mk (hbox); have n2_ := Aside0.mk ((gg hg)); have n3_ := Aside0.mk ((gg hg)); clear HB; have HB := n0_; have BK329 := n1_; have GW329 := n2_; have GE329 := n3_; clear n0_ n1_ n2_ n3_; clear hb hbox hg) | ((with_reducible refine qb (N := 4) rfl ?_); refine qZ ?hg (N := 4) ?hd (cs := #[.int .i64 0, .int .i64 0, .int .i64 0]) (t := 27) ?hr ?_; (case hd => rfl); (case hg => rfl); (case hr => first | (go_simp; done) | (go_simp; rfl)); intro gb330 hg w5 hbox hb; have n0_ := Aside0.mk (bb BK329 hb); have n1_ := Aside0.mk (qG bl hb); have n2_ := Aside0.mk (hbox); have n3_ := Aside0.mk ((gg hg)); have n4_ := Aside0.mk ((gg hg)); have n5_ := Aside0.mk ((nl BK329 hg)); have n6_ := Aside0.mk ((nr BK329 hg)); clear BK329; clear HB; have BK329 := n0_; have HB := n1_; have BK330 := n2_; have GW330 := n3_; have GE330 := n4_; have NB329_330 := n5_; have NB330_329 := n6_; clear n0_ n1_ n2_ n3_ n4_ n5_ n6_; clear hb hbox hg))
 (try simp only [Act.put, List.setIfInBounds_toArray, List.set_cons_zero, List.set_cons_succ])
 go_cut [5] (fun v5 wc => ∃ (kq : Nat) (x5_2 : Bool), v5 = .bool x5_2 ∧ Aside0 (qT.j0 kq a1 x5_2 a0_0 a0_1 a0_2 = some (r1, r2, r3)) ∧ Aside0 (kq ≤ k) ∧ Aside0 (wc.heap[gb329]? = some (.cells #[.int .i64 a0_0, .int .i64 a0_1, .int .i64 a0_2] 27 (0, 0))) ∧ Aside0 (wc.heap[gb330]? = some (.cells #[.int .i64 0, .int .i64 0, .int .i64 0] 27 (0, 0))) ∧ Aside0 (Below w.heap.size w wc))
 case first =>
  have H := HC3.out
  clear HC3
  by_cases c6 : a0_2 = 2
  ·rw [if_pos c6] at H
   have c6b0 : (a0_2 == 2) = true := beq_iff_eq.mpr c6
   have c6b1 : (a0_2 != 2) = false := bne_eq_false_iff_eq.mpr c6
   clear c6
   (first | rw [c6b0] | (simp only [i64_w, i32_w]; rw [c6b0]) | skip)
   by_cases c7 : a1 = 110
   ·rw [if_pos c7] at H
    have c7b0 : (a1 == 110) = true := beq_iff_eq.mpr c7
    have c7b1 : (a1 != 110) = false := bne_eq_false_iff_eq.mpr c7
    clear c7
    have H' := Aside0.mk H
    clear H
    have hnb8 := NB329_330.out
    have hnc8 := NB330_329.out
    have hcz9_0 := bc BK329 0
    have hcz9_1 := bc BK329 1
    have hcz9_2 := bc BK329 2
    have hfz9_0 := qC BK329.out 0
    have hfz9_1 := qC BK329.out 1
    have hfz9_2 := qC BK329.out 2
    go_wp2
    go_meet
    case rel => exact ⟨_, (true), (by first | rfl | (simp; done) | (simp [*]; done)), H', ⟨by first | omega | exact Nat.le_refl _⟩, ⟨by (with_reducible repeat (first | refine qB ?_ _ | refine qD ?_ | refine qA ?_ _)); exact BK329.out⟩, ⟨by (with_reducible repeat (first | refine qB ?_ _ | refine qD ?_ | refine qA ?_ _)); exact BK330.out⟩, ⟨bl⟩⟩
   ·rw [if_neg c7] at H
    have c7b0 : (a1 == 110) = false := beq_eq_false_iff_ne.mpr c7
    have c7b1 : (a1 != 110) = true := bne_iff_ne.mpr c7
    by_cases c10 : a1 = 115
    ·rw [if_pos c10] at H
     have c10b0 : (a1 == 115) = true := beq_iff_eq.mpr c10
     have c10b1 : (a1 != 115) = false := bne_eq_false_iff_eq.mpr c10
     clear c10
     have H' := Aside0.mk H
     clear H
     have hnb11 := NB329_330.out
     have hnc11 := NB330_329.out
     have hcz12_0 := bc BK329 0
     have hcz12_1 := bc BK329 1
     have hcz12_2 := bc BK329 2
     have hfz12_0 := qC BK329.out 0
     have hfz12_1 := qC BK329.out 1
     have hfz12_2 := qC BK329.out 2
     go_wp2
     go_meet
     case rel => exact ⟨_, (true), (by first | rfl | (simp; done) | (simp [*]; done)), H', ⟨by first | omega | exact Nat.le_refl _⟩, ⟨by (with_reducible repeat (first | refine qB ?_ _ | refine qD ?_ | refine qA ?_ _)); exact BK329.out⟩, ⟨by (with_reducible repeat (first | refine qB ?_ _ | refine qD ?_ | refine qA ?_ _)); exact BK330.out⟩, ⟨bl⟩⟩
    ·rw [if_neg c10] at H
     have c10b0 : (a1 == 115) = false := beq_eq_false_iff_ne.mpr c10
     have c10b1 : (a1 != 115) = true := bne_iff_ne.mpr c10
     by_cases c13 : a0_2 = 1
     ·rw [if_pos c13] at H
      have c13b0 : (a0_2 == 1) = true := beq_iff_eq.mpr c13
      have c13b1 : (a0_2 != 1) = false := bne_eq_false_iff_eq.mpr c13
      clear c13
      by_cases c14 : a1 = 101
      ·rw [if_pos c14] at H
       have c14b0 : (a1 == 101) = true := beq_iff_eq.mpr c14
       have c14b1 : (a1 != 101) = false := bne_eq_false_iff_eq.mpr c14
       clear c14
       have H' := Aside0.mk H
       clear H
       have hnb15 := NB329_330.out
       have hnc15 := NB330_329.out
       have hcz16_0 := bc BK329 0
       have hcz16_1 := bc BK329 1
       have hcz16_2 := bc BK329 2
       have hfz16_0 := qC BK329.out 0
       have hfz16_1 := qC BK329.out 1
       have hfz16_2 := qC BK329.out 2
       go_wp2
       go_meet
       case rel => exact ⟨_, (true), (by first | rfl | (simp; done) | (simp [*]; done)), H', ⟨by first | omega | exact Nat.le_refl _⟩, ⟨by (with_reducible repeat (first | refine qB ?_ _ | refine qD ?_ | refine qA ?_ _)); exact BK329.out⟩, ⟨by (with_reducible repeat (first | refine qB ?_ _ | refine qD ?_ | refine qA ?_ _)); exact BK330.out⟩, ⟨bl⟩⟩
      ·rw [if_neg c14] at H
       have c14b0 : (a1 == 101) = false := beq_eq_false_iff_ne.mpr c14
       have c14b1 : (a1 != 101) = true := bne_iff_ne.mpr c14
       have H' := Aside0.mk H
       clear H
       have hnb17 := NB329_330.out
       have hnc17 := NB330_329.out
       have hcz18_0 := bc BK329 0
       have hcz18_1 := bc BK329 1
       have hcz18_2 := bc BK329 2
       have hfz18_0 := qC BK329.out 0
       have hfz18_1 := qC BK329.out 1
       have hfz18_2 := qC BK329.out 2
       go_wp2
       go_meet
       case rel => exact ⟨_, ((a1 == 119)), (by first | rfl | (simp; done) | (simp [*]; done)), H', ⟨by first | omega | exact Nat.le_refl _⟩, ⟨by (with_reducible repeat (first | refine qB ?_ _ | refine qD ?_ | refine qA ?_ _)); exact BK329.out⟩, ⟨by (with_reducible repeat (first | refine qB ?_ _ | refine qD ?_ | refine qA ?_ _)); exact BK330.out⟩, ⟨bl⟩⟩
     ·rw [if_neg c13] at H
      have c13b0 : (a0_2 == 1) = false := beq_eq_false_iff_ne.mpr c13
      have c13b1 : (a0_2 != 1) = true := bne_iff_ne.mpr c13
      have H' := Aside0.mk H
      clear H
      have hnb19 := NB329_330.out
      have hnc19 := NB330_329.out
      have hcz20_0 := bc BK329 0
      have hcz20_1 := bc BK329 1
      have hcz20_2 := bc BK329 2
      have hfz20_0 := qC BK329.out 0
      have hfz20_1 := qC BK329.out 1
      have hfz20_2 := qC BK329.out 2
      go_wp2
      go_meet
      case rel => exact ⟨_, (false), (by first | rfl | (simp; done) | (simp [*]; done)), H', ⟨by first | omega | exact Nat.le_refl _⟩, ⟨by (with_reducible repeat (first | refine qB ?_ _ | refine qD ?_ | refine qA ?_ _)); exact BK329.out⟩, ⟨by (with_reducible repeat (first | refine qB ?_ _ | refine qD ?_ | refine qA ?_ _)); exact BK330.out⟩, ⟨bl⟩⟩
  ·rw [if_neg c6] at H
   have c6b0 : (a0_2 == 2) = false := beq_eq_false_iff_ne.mpr c6
   have c6b1 : (a0_2 != 2) = true := bne_iff_ne.mpr c6
   (first | rw [c6b0] | (simp only [i64_w, i32_w]; rw [c6b0]) | skip)
   by_cases c21 : a0_2 = 1
   ·rw [if_pos c21] at H
    have c21b0 : (a0_2 == 1) = true := beq_iff_eq.mpr c21
    have c21b1 : (a0_2 != 1) = false := bne_eq_false_iff_eq.mpr c21
    clear c21
    by_cases c22 : a1 = 101
    ·rw [if_pos c22] at H
     have c22b0 : (a1 == 101) = true := beq_iff_eq.mpr c22
     have c22b1 : (a1 != 101) = false := bne_eq_false_iff_eq.mpr c22
     clear c22
     have H' := Aside0.mk H
     clear H
     have hnb23 := NB329_330.out
     have hnc23 := NB330_329.out
     have hcz24_0 := bc BK329 0
     have hcz24_1 := bc BK329 1
     have hcz24_2 := bc BK329 2
     have hfz24_0 := qC BK329.out 0
     have hfz24_1 := qC BK329.out 1
     have hfz24_2 := qC BK329.out 2
     go_wp2
     go_meet
     case rel => exact ⟨_, (true), (by first | rfl | (simp; done) | (simp [*]; done)), H', ⟨by first | omega | exact Nat.le_refl _⟩, ⟨by (with_reducible repeat (first | refine qB ?_ _ | refine qD ?_ | refine qA ?_ _)); exact BK329.out⟩, ⟨by (with_reducible repeat (first | refine qB ?_ _ | refine qD ?_ | refine qA ?_ _)); exact BK330.out⟩, ⟨bl⟩⟩
    ·rw [if_neg c22] at H
     have c22b0 : (a1 == 101) = false := beq_eq_false_iff_ne.mpr c22
     have c22b1 : (a1 != 101) = true := bne_iff_ne.mpr c22
     have H' := Aside0.mk H
     clear H
     have hnb25 := NB329_330.out
     have hnc25 := NB330_329.out
     have hcz26_0 := bc BK329 0
     have hcz26_1 := bc BK329 1
     have hcz26_2 := bc BK329 2
     have hfz26_0 := qC BK329.out 0
     have hfz26_1 := qC BK329.out 1
     have hfz26_2 := qC BK329.out 2
     go_wp2
     go_meet
     case rel => exact ⟨_, ((a1 == 119)), (by first | rfl | (simp; done) | (simp [*]; done)), H', ⟨by first | omega | exact Nat.le_refl _⟩, ⟨by (with_reducible repeat (first | refine qB ?_ _ | refine qD ?_ | refine qA ?_ _)); exact BK329.out⟩, ⟨by (with_reducible repeat (first | refine qB ?_ _ | refine qD ?_ | refine qA ?_ _)); exact BK330.out⟩, ⟨bl⟩⟩
   ·rw [if_neg c21] at H
    have c21b0 : (a0_2 == 1) = false := beq_eq_false_iff_ne.mpr c21
    have c21b1 : (a0_2 != 1) = true := bne_iff_ne.mpr c21
    have H' := Aside0.mk H
    clear H
    have hnb27 := NB329_330.out
    have hnc27 := NB330_329.out
    have hcz28_0 := bc BK329 0
    have hcz28_1 := bc BK329 1
    have hcz28_2 := bc BK329 2
    have hfz28_0 := qC BK329.out 0
    have hfz28_1 := qC BK329.out 1
    have hfz28_2 := qC BK329.out 2
    go_wp2
    go_meet
    case rel => exact ⟨_, (false), (by first | rfl | (simp; done) | (simp [*]; done)), H', ⟨by first | omega | exact Nat.le_refl _⟩, ⟨by (with_reducible repeat (first | refine qB ?_ _ | refine qD ?_ | refine qA ?_ _)); exact BK329.out⟩, ⟨by (with_reducible repeat (first | refine qB ?_ _ | refine qD ?_ | refine qA ?_ _)); exact BK330.out⟩, ⟨bl⟩⟩
 case rest =>
  clear HC3
  try clear c1
  try clear c2
  try clear p2
  try clear c6
  try clear c6b0
  try clear c6b1
  try clear c7
  try clear c7b0
  try clear c7b1
  try clear c8
  try clear c10
  try clear c10b0
  try clear c10b1
  try clear c11
  try clear c13
  try clear c13b0
  try clear c13b1
  try clear c14
  try clear c14b0
  try clear c14b1
  try clear c15
  try clear c17
  try clear c19
  try clear c21
  try clear c21b0
  try clear c21b1
  try clear c22
  try clear c22b0
  try clear c22b1
  try clear c23
  try clear c25
  try clear c27
  try clear hcz12_0
  try clear hcz12_1
  try clear hcz12_2
  try clear hcz16_0
  try clear hcz16_1
  try clear hcz16_2
  try clear hcz18_0
  try clear hcz18_1
  try clear hcz18_2
  try clear hcz20_0
  try clear hcz20_1
  try clear hcz20_2
  try clear hcz24_0
  try clear hcz24_1
  try clear hcz24_2
  try clear hcz26_0
  try clear hcz26_1
  try clear hcz26_2
  try clear hcz28_0
  try clear hcz28_1
  try clear hcz28_2
  try clear hcz9_0
  try clear hcz9_1
  try clear hcz9_2
  try clear hfz12_0
  try clear hfz12_1
  try clear hfz12_2
  try clear hfz16_0
  try clear hfz16_1
  try clear hfz16_2
  try clear hfz18_0
  try clear hfz18_1
  try clear hfz18_2
  try clear hfz20_0
  try clear hfz20_1
  try clear hfz20_2
  try clear hfz24_0
  try clear hfz24_1
  try clear hfz24_2
  try clear hfz26_0
  try clear hfz26_1
  try clear hfz26_2
  try clear hfz28_0
  try clear hfz28_1
  try clear hfz28_2
  try clear hfz9_0
  try clear hfz9_1
  try clear hfz9_2
  obtain ⟨kq, x5_2, rfl, HA, HJ2, BK329, BK330, HB⟩ := hcut
  cases kq with
  | zero => exact absurd HA.out (by simp [qT.j0])
  | succ kj2 =>
   have H := HA.out
   clear HA
   simp only [qT.j0] at H
   by_cases c29 : a0_2 = 0
   ·rw [if_pos c29] at H
    have c29b0 : (a0_2 == 0) = true := beq_iff_eq.mpr c29
    have c29b1 : (a0_2 != 0) = false := bne_eq_false_iff_eq.mpr c29
    clear c29
    by_cases c30 : a1 = 110
    ·rw [if_pos c30] at H
     have c30b0 : (a1 == 110) = true := beq_iff_eq.mpr c30
     have c30b1 : (a1 != 110) = false := bne_eq_false_iff_eq.mpr c30
     clear c30
     simp only [Option.some.injEq, Prod.mk.injEq] at H
     obtain ⟨rfl, rfl, rfl⟩ := H
     have hnb31 := NB329_330.out
     have hnc31 := NB330_329.out
     have hcz32_0 := bc BK329 0
     have hcz32_1 := bc BK329 1
     have hcz32_2 := bc BK329 2
     have hfz32_0 := qC BK329.out 0
     have hfz32_1 := qC BK329.out 1
     have hfz32_2 := qC BK329.out 2
     have hcz33_0 := bc BK330 0
     have hcz33_1 := bc BK330 1
     have hcz33_2 := bc BK330 2
     have hfz33_0 := qC BK330.out 0
     have hfz33_1 := qC BK330.out 1
     have hfz33_2 := qC BK330.out 2
     go_wp2
     refine bodyPost_ret (results_cell_row rfl _ _ gb330 27 #[.int .i64 a0_0, .int .i64 (wrap64 (a0_1 - 2)), .int .i64 2] (0, 0) _ rfl (by (with_reducible repeat (first | refine qB ?_ _ | refine qD ?_ | refine qA ?_ _)); refine qP (cs := #[.int .i64 a0_0, .int .i64 (wrap64 (a0_1 - 2)), .int .i64 0]) ?_ 2 _ rfl; (with_reducible repeat (first | refine qB ?_ _ | refine qD ?_ | refine qA ?_ _)); refine qP (cs := #[.int .i64 a0_0, .int .i64 0, .int .i64 0]) ?_ 1 _ rfl; (with_reducible repeat (first | refine qB ?_ _ | refine qD ?_ | refine qA ?_ _)); refine qP (cs := #[.int .i64 0, .int .i64 0, .int .i64 0]) ?_ 0 _ rfl; (with_reducible repeat (first | refine qB ?_ _ | refine qD ?_ | refine qA ?_ _)); exact BK330.out) Tryd.underlying27 rfl (by kernel_rfl)) rfl ?_
     exact ⟨by first | rfl | (simp [qJ, qI] <;> rfl) | (simp [*, qJ, qI] <;> rfl), bl⟩
    ·rw [if_neg c30] at H
     have c30b0 : (a1 == 110) = false := beq_eq_false_iff_ne.mpr c30
     have c30b1 : (a1 != 110) = true := bne_iff_ne.mpr c30
     by_cases c34 : a1 = 101
     ·rw [if_pos c34] at H
      have c34b0 : (a1 == 101) = true := beq_iff_eq.mpr c34
      have c34b1 : (a1 != 101) = false := bne_eq_false_iff_eq.mpr c34
      clear c34
      simp only [Option.some.injEq, Prod.mk.injEq] at H
      obtain ⟨rfl, rfl, rfl⟩ := H
      have hnb35 := NB329_330.out
      have hnc35 := NB330_329.out
      have hcz36_0 := bc BK329 0
      have hcz36_1 := bc BK329 1
      have hcz36_2 := bc BK329 2
      have hfz36_0 := qC BK329.out 0
      have hfz36_1 := qC BK329.out 1
      have hfz36_2 := qC BK329.out 2
      have hcz37_0 := bc BK330 0
      have hcz37_1 := bc BK330 1
      have hcz37_2 := bc BK330 2
      have hfz37_0 := qC BK330.out 0
      have hfz37_1 := qC BK330.out 1
      have hfz37_2 := qC BK330.out 2
      go_wp2
      refine bodyPost_ret (results_cell_row rfl _ _ gb330 27 #[.int .i64 (wrap64 (a0_0 + 1)), .int .i64 a0_1, .int .i64 1] (0, 0) _ rfl (by (with_reducible repeat (first | refine qB ?_ _ | refine qD ?_ | refine qA ?_ _)); refine qP (cs := #[.int .i64 (wrap64 (a0_0 + 1)), .int .i64 a0_1, .int .i64 0]) ?_ 2 _ rfl; (with_reducible repeat (first | refine qB ?_ _ | refine qD ?_ | refine qA ?_ _)); refine qP (cs := #[.int .i64 (wrap64 (a0_0 + 1)), .int .i64 0, .int .i64 0]) ?_ 1 _ rfl; (with_reducible repeat (first | refine qB ?_ _ | refine qD ?_ | refine qA ?_ _)); refine qP (cs := #[.int .i64 0, .int .i64 0, .int .i64 0]) ?_ 0 _ rfl; (with_reducible repeat (first | refine qB ?_ _ | refine qD ?_ | refine qA ?_ _)); exact BK330.out) Tryd.underlying27 rfl (by kernel_rfl)) rfl ?_
      exact ⟨by first | rfl | (simp [qJ, qI] <;> rfl) | (simp [*, qJ, qI] <;> rfl), bl⟩
     ·rw [if_neg c34] at H
      have c34b0 : (a1 == 101) = false := beq_eq_false_iff_ne.mpr c34
      have c34b1 : (a1 != 101) = true := bne_iff_ne.mpr c34
      by_cases c38 : a1 = 115
      ·rw [if_pos c38] at H
       have c38b0 : (a1 == 115) = true := beq_iff_eq.mpr c38
       have c38b1 : (a1 != 115) = false := bne_eq_false_iff_eq.mpr c38
       clear c38
       simp only [Option.some.injEq, Prod.mk.injEq] at H
       obtain ⟨rfl, rfl, rfl⟩ := H
       have hnb39 := NB329_330.out
       have hnc39 := NB330_329.out
       have hcz40_0 := bc BK329 0
       have hcz40_1 := bc BK329 1
       have hcz40_2 := bc BK329 2
       have hfz40_0 := qC BK329.out 0
       have hfz40_1 := qC BK329.out 1
       have hfz40_2 := qC BK329.out 2
       have hcz41_0 := bc BK330 0
       have hcz41_1 := bc BK330 1
       have hcz41_2 := bc BK330 2
       have hfz41_0 := qC BK330.out 0
       have hfz41_1 := qC BK330.out 1
       have hfz41_2 := qC BK330.out 2
       go_wp2
       refine bodyPost_ret (results_cell_row rfl _ _ gb330 27 #[.int .i64 a0_0, .int .i64 (wrap64 (a0_1 + 1)), .int .i64 2] (0, 0) _ rfl (by (with_reducible repeat (first | refine qB ?_ _ | refine qD ?_ | refine qA ?_ _)); refine qP (cs := #[.int .i64 a0_0, .int .i64 (wrap64 (a0_1 + 1)), .int .i64 0]) ?_ 2 _ rfl; (with_reducible repeat (first | refine qB ?_ _ | refine qD ?_ | refine qA ?_ _)); refine qP (cs := #[.int .i64 a0_0, .int .i64 0, .int .i64 0]) ?_ 1 _ rfl; (with_reducible repeat (first | refine qB ?_ _ | refine qD ?_ | refine qA ?_ _)); refine qP (cs := #[.int .i64 0, .int .i64 0, .int .i64 0]) ?_ 0 _ rfl; (with_reducible repeat (first | refine qB ?_ _ | refine qD ?_ | refine qA ?_ _)); exact BK330.out) Tryd.underlying27 rfl (by kernel_rfl)) rfl ?_
       exact ⟨by first | rfl | (simp [qJ, qI] <;> rfl) | (simp [*, qJ, qI] <;> rfl), bl⟩
      ·rw [if_neg c38] at H
       have c38b0 : (a1 == 115) = false := beq_eq_false_iff_ne.mpr c38
       have c38b1 : (a1 != 115) = true := bne_iff_ne.mpr c38
       simp only [Option.some.injEq, Prod.mk.injEq] at H
       obtain ⟨rfl, rfl, rfl⟩ := H
       have hnb42 := NB329_330.out
       have hnc42 := NB330_329.out
       have hcz43_0 := bc BK329 0
       have hcz43_1 := bc BK329 1
       have hcz43_2 := bc BK329 2
       have hfz43_0 := qC BK329.out 0
       have hfz43_1 := qC BK329.out 1
       have hfz43_2 := qC BK329.out 2
       have hcz44_0 := bc BK330 0
       have hcz44_1 := bc BK330 1
       have hcz44_2 := bc BK330 2
       have hfz44_0 := qC BK330.out 0
       have hfz44_1 := qC BK330.out 1
       have hfz44_2 := qC BK330.out 2
       go_wp2
       refine bodyPost_ret (results_cell_row rfl _ _ gb330 27 #[.int .i64 (wrap64 (a0_0 - 2)), .int .i64 a0_1, .int .i64 1] (0, 0) _ rfl (by (with_reducible repeat (first | refine qB ?_ _ | refine qD ?_ | refine qA ?_ _)); refine qP (cs := #[.int .i64 (wrap64 (a0_0 - 2)), .int .i64 a0_1, .int .i64 0]) ?_ 2 _ rfl; (with_reducible repeat (first | refine qB ?_ _ | refine qD ?_ | refine qA ?_ _)); refine qP (cs := #[.int .i64 (wrap64 (a0_0 - 2)), .int .i64 0, .int .i64 0]) ?_ 1 _ rfl; (with_reducible repeat (first | refine qB ?_ _ | refine qD ?_ | refine qA ?_ _)); refine qP (cs := #[.int .i64 0, .int .i64 0, .int .i64 0]) ?_ 0 _ rfl; (with_reducible repeat (first | refine qB ?_ _ | refine qD ?_ | refine qA ?_ _)); exact BK330.out) Tryd.underlying27 rfl (by kernel_rfl)) rfl ?_
       exact ⟨by first | rfl | (simp [qJ, qI] <;> rfl) | (simp [*, qJ, qI] <;> rfl), bl⟩
   ·rw [if_neg c29] at H
    have c29b0 : (a0_2 == 0) = false := beq_eq_false_iff_ne.mpr c29
    have c29b1 : (a0_2 != 0) = true := bne_iff_ne.mpr c29
    have HC45 := Aside0.mk H
    clear H
    have hnb46 := NB329_330.out
    have hnc46 := NB330_329.out
    have hcz47_0 := bc BK329 0
    have hcz47_1 := bc BK329 1
    have hcz47_2 := bc BK329 2
    have hfz47_0 := qC BK329.out 0
    have hfz47_1 := qC BK329.out 1
    have hfz47_2 := qC BK329.out 2
    go_upto_region 11 with (fail)
    go_cut [67] (fun v67 wc => ∃ (kq : Nat) (x67_44 : Bool), v67 = .bool x67_44 ∧ Aside0 (qT.j1 kq a1 x5_2 x67_44 a0_0 a0_1 a0_2 = some (r1, r2, r3)) ∧ Aside0 (kq ≤ kj2) ∧ Aside0 (wc.heap[gb329]? = some (.cells #[.int .i64 a0_0, .int .i64 a0_1, .int .i64 a0_2] 27 (0, 0))) ∧ Aside0 (wc.heap[gb330]? = some (.cells #[.int .i64 0, .int .i64 0, .int .i64 0] 27 (0, 0))) ∧ Aside0 (Below w.heap.size w wc))
    case first =>
     have H := HC45.out
     clear HC45
     by_cases c48 : x5_2 = true
     ·subst c48
      have H1 : (qT.j1 kj2 a1 true (a1 == 101) a0_0 a0_1 a0_2) = some (r1, r2, r3) := by rw [if_pos rfl] at H; exact H
      clear H
      have H := H1
      clear H1
      have H' := Aside0.mk H
      clear H
      go_wp2
      go_meet
      case rel => exact ⟨_, ((a1 == 101)), (by first | rfl | (simp; done) | (simp [*]; done)), H', ⟨by have := HJ2.out; first | omega | exact Nat.le_refl _⟩, ⟨by (with_reducible repeat (first | refine qB ?_ _ | refine qD ?_ | refine qA ?_ _)); exact BK329.out⟩, ⟨by (with_reducible repeat (first | refine qB ?_ _ | refine qD ?_ | refine qA ?_ _)); exact BK330.out⟩, ⟨bl⟩⟩
     ·replace c48 := Bool.eq_false_iff.mpr c48
      subst c48
      have H1 : (qT.j1 kj2 a1 false false a0_0 a0_1 a0_2) = some (r1, r2, r3) := by rw [if_neg (show ¬ (false = true) by decide)] at H; exact H
      clear H
      have H := H1
      clear H1
      have H' := Aside0.mk H
      clear H
      go_wp2
      go_meet
      case rel => exact ⟨_, (false), (by first | rfl | (simp; done) | (simp [*]; done)), H', ⟨by have := HJ2.out; first | omega | exact Nat.le_refl _⟩, ⟨by (with_reducible repeat (first | refine qB ?_ _ | refine qD ?_ | refine qA ?_ _)); exact BK329.out⟩, ⟨by (with_reducible repeat (first | refine qB ?_ _ | refine qD ?_ | refine qA ?_ _)); exact BK330.out⟩, ⟨bl⟩⟩
    case rest =>
     clear HC45
     try clear c1
     try clear c2
     try clear p2
     try clear c3
     try clear c4
     try clear c6
     try clear c6b0
     try clear c6b1
     try clear p6
     try clear c7
     try clear c7b0
     try clear c7b1
     try clear c8
     try clear c10
     try clear c10b0
     try clear c10b1
     try clear c11
     try clear c13
     try clear c13b0
     try clear c13b1
     try clear c14
     try clear c14b0
     try clear c14b1
     try clear c15
     try clear c17
     try clear c19
     try clear c21
     try clear c21b0
     try clear c21b1
     try clear c22
     try clear c22b0
     try clear c22b1
     try clear c23
     try clear c25
     try clear c27
     try clear c29
     try clear c29b0
     try clear c29b1
     try clear c30
     try clear c30b0
     try clear c30b1
     try clear c31
     try clear c34
     try clear c34b0
     try clear c34b1
     try clear c35
     try clear c38
     try clear c38b0
     try clear c38b1
     try clear c39
     try clear c42
     try clear c46
     try clear c48
     try clear hcz12_0
     try clear hcz12_1
     try clear hcz12_2
     try clear hcz16_0
     try clear hcz16_1
     try clear hcz16_2
     try clear hcz18_0
     try clear hcz18_1
     try clear hcz18_2
     try clear hcz20_0
     try clear hcz20_1
     try clear hcz20_2
     try clear hcz24_0
     try clear hcz24_1
     try clear hcz24_2
     try clear hcz26_0
     try clear hcz26_1
     try clear hcz26_2
     try clear hcz28_0
     try clear hcz28_1
     try clear hcz28_2
     try clear hcz32_0
     try clear hcz32_1
     try clear hcz32_2
     try clear hcz33_0
     try clear hcz33_1
     try clear hcz33_2
     try clear hcz36_0
     try clear hcz36_1
     try clear hcz36_2
     try clear hcz37_0
     try clear hcz37_1
     try clear hcz37_2
     try clear hcz40_0
     try clear hcz40_1
     try clear hcz40_2
     try clear hcz41_0
     try clear hcz41_1
     try clear hcz41_2
     try clear hcz43_0
     try clear hcz43_1
     try clear hcz43_2
     try clear hcz44_0
     try clear hcz44_1
     try clear hcz44_2
     try clear hcz47_0
     try clear hcz47_1
     try clear hcz47_2
     try clear hcz9_0
     try clear hcz9_1
     try clear hcz9_2
     try clear hfz12_0
     try clear hfz12_1
     try clear hfz12_2
     try clear hfz16_0
     try clear hfz16_1
     try clear hfz16_2
     try clear hfz18_0
     try clear hfz18_1
     try clear hfz18_2
     try clear hfz20_0
     try clear hfz20_1
     try clear hfz20_2
     try clear hfz24_0
     try clear hfz24_1
     try clear hfz24_2
     try clear hfz26_0
     try clear hfz26_1
     try clear hfz26_2
     try clear hfz28_0
     try clear hfz28_1
     try clear hfz28_2
     try clear hfz32_0
     try clear hfz32_1
     try clear hfz32_2
     try clear hfz33_0
     try clear hfz33_1
     try clear hfz33_2
     try clear hfz36_0
     try clear hfz36_1
     try clear hfz36_2
     try clear hfz37_0
     try clear hfz37_1
     try clear hfz37_2
     try clear hfz40_0
     try clear hfz40_1
     try clear hfz40_2
     try clear hfz41_0
     try clear hfz41_1
     try clear hfz41_2
     try clear hfz43_0
     try clear hfz43_1
     try clear hfz43_2
     try clear hfz44_0
     try clear hfz44_1
     try clear hfz44_2
     try clear hfz47_0
     try clear hfz47_1
     try clear hfz47_2
     try clear hfz9_0
     try clear hfz9_1
     try clear hfz9_2
     try clear p2
     obtain ⟨kq, x67_44, rfl, HA, HJ44, BK329, BK330, HB⟩ := hcut
     cases kq with
     | zero => exact absurd HA.out (by simp [qT.j1])
     | succ kj44 =>
      have H := HA.out
      clear HA
      simp only [qT.j1] at H
      by_cases c49 : x67_44 = true
      ·subst c49
       have H1 : (some (wrap64 (a0_0 + 2), a0_1, 0)) = some (r1, r2, r3) := by rw [if_pos rfl] at H; exact H
       clear H
       have H := H1
       clear H1
       simp only [Option.some.injEq, Prod.mk.injEq] at H
       obtain ⟨rfl, rfl, rfl⟩ := H
       have hnb50 := NB329_330.out
       have hnc50 := NB330_329.out
       have hcz51_0 := bc BK329 0
       have hcz51_1 := bc BK329 1
       have hcz51_2 := bc BK329 2
       have hfz51_0 := qC BK329.out 0
       have hfz51_1 := qC BK329.out 1
       have hfz51_2 := qC BK329.out 2
       have hcz52_0 := bc BK330 0
       have hcz52_1 := bc BK330 1
       have hcz52_2 := bc BK330 2
       have hfz52_0 := qC BK330.out 0
       have hfz52_1 := qC BK330.out 1
       have hfz52_2 := qC BK330.out 2
       go_wp2
       refine bodyPost_ret (results_cell_row rfl _ _ gb330 27 #[.int .i64 (wrap64 (a0_0 + 2)), .int .i64 a0_1, .int .i64 0] (0, 0) _ rfl (by (with_reducible repeat (first | refine qB ?_ _ | refine qD ?_ | refine qA ?_ _)); refine qP (cs := #[.int .i64 (wrap64 (a0_0 + 2)), .int .i64 a0_1, .int .i64 0]) ?_ 2 _ rfl; (with_reducible repeat (first | refine qB ?_ _ | refine qD ?_ | refine qA ?_ _)); refine qP (cs := #[.int .i64 (wrap64 (a0_0 + 2)), .int .i64 0, .int .i64 0]) ?_ 1 _ rfl; (with_reducible repeat (first | refine qB ?_ _ | refine qD ?_ | refine qA ?_ _)); refine qP (cs := #[.int .i64 0, .int .i64 0, .int .i64 0]) ?_ 0 _ rfl; (with_reducible repeat (first | refine qB ?_ _ | refine qD ?_ | refine qA ?_ _)); exact BK330.out) Tryd.underlying27 rfl (by kernel_rfl)) rfl ?_
       exact ⟨by first | rfl | (simp [qJ, qI] <;> rfl) | (simp [*, qJ, qI] <;> rfl), bl⟩
      ·replace c49 := Bool.eq_false_iff.mpr c49
       subst c49
       have H1 : (if x5_2 = true then (qT.j2 kj44 a1 x5_2 (a1 == 115) a0_0 a0_1 a0_2) else (qT.j2 kj44 a1 x5_2 false a0_0 a0_1 a0_2)) = some (r1, r2, r3) := by rw [if_neg (show ¬ (false = true) by decide)] at H; exact H
       clear H
       have H := H1
       clear H1
       have HC53 := Aside0.mk H
       clear H
       go_upto_region 13 with (fail)
       go_cut [79] (fun v79 wc => ∃ (kq : Nat) (x79_52 : Bool), v79 = .bool x79_52 ∧ Aside0 (qT.j2 kq a1 x5_2 x79_52 a0_0 a0_1 a0_2 = some (r1, r2, r3)) ∧ Aside0 (kq ≤ kj44) ∧ Aside0 (wc.heap[gb329]? = some (.cells #[.int .i64 a0_0, .int .i64 a0_1, .int .i64 a0_2] 27 (0, 0))) ∧ Aside0 (wc.heap[gb330]? = some (.cells #[.int .i64 0, .int .i64 0, .int .i64 0] 27 (0, 0))) ∧ Aside0 (Below w.heap.size w wc))
       case first =>
        have H := HC53.out
        clear HC53
        by_cases c54 : x5_2 = true
        ·subst c54
         have H1 : (qT.j2 kj44 a1 true (a1 == 115) a0_0 a0_1 a0_2) = some (r1, r2, r3) := by rw [if_pos rfl] at H; exact H
         clear H
         have H := H1
         clear H1
         have H' := Aside0.mk H
         clear H
         go_wp2
         go_meet
         case rel => exact ⟨_, ((a1 == 115)), (by first | rfl | (simp; done) | (simp [*]; done)), H', ⟨by have := HJ2.out; have := HJ44.out; first | omega | exact Nat.le_refl _⟩, ⟨by (with_reducible repeat (first | refine qB ?_ _ | refine qD ?_ | refine qA ?_ _)); exact BK329.out⟩, ⟨by (with_reducible repeat (first | refine qB ?_ _ | refine qD ?_ | refine qA ?_ _)); exact BK330.out⟩, ⟨bl⟩⟩
        ·replace c54 := Bool.eq_false_iff.mpr c54
         subst c54
         have H1 : (qT.j2 kj44 a1 false false a0_0 a0_1 a0_2) = some (r1, r2, r3) := by rw [if_neg (show ¬ (false = true) by decide)] at H; exact H
         clear H
         have H := H1
         clear H1
         have H' := Aside0.mk H
         clear H
         go_wp2
         go_meet
         case rel => exact ⟨_, (false), (by first | rfl | (simp; done) | (simp [*]; done)), H', ⟨by have := HJ2.out; have := HJ44.out; first | omega | exact Nat.le_refl _⟩, ⟨by (with_reducible repeat (first | refine qB ?_ _ | refine qD ?_ | refine qA ?_ _)); exact BK329.out⟩, ⟨by (with_reducible repeat (first | refine qB ?_ _ | refine qD ?_ | refine qA ?_ _)); exact BK330.out⟩, ⟨bl⟩⟩
       case rest =>
        clear HC53
        try clear c1
        try clear c2
        try clear p2
        try clear c3
        try clear c4
        try clear c5
        try clear c6
        try clear c6b0
        try clear c6b1
        try clear p6
        try clear c7
        try clear c7b0
        try clear c7b1
        try clear c8
        try clear c10
        try clear c10b0
        try clear c10b1
        try clear c11
        try clear c13
        try clear c13b0
        try clear c13b1
        try clear c14
        try clear c14b0
        try clear c14b1
        try clear c15
        try clear c17
        try clear c19
        try clear c21
        try clear c21b0
        try clear c21b1
        try clear c22
        try clear c22b0
        try clear c22b1
        try clear c23
        try clear c25
        try clear c27
        try clear c29
        try clear c29b0
        try clear c29b1
        try clear c30
        try clear c30b0
        try clear c30b1
        try clear c31
        try clear c34
        try clear c34b0
        try clear c34b1
        try clear c35
        try clear c38
        try clear c38b0
        try clear c38b1
        try clear c39
        try clear c42
        try clear c46
        try clear c48
        try clear c49
        try clear c50
        try clear c54
        try clear hcz12_0
        try clear hcz12_1
        try clear hcz12_2
        try clear hcz16_0
        try clear hcz16_1
        try clear hcz16_2
        try clear hcz18_0
        try clear hcz18_1
        try clear hcz18_2
        try clear hcz20_0
        try clear hcz20_1
        try clear hcz20_2
        try clear hcz24_0
        try clear hcz24_1
        try clear hcz24_2
        try clear hcz26_0
        try clear hcz26_1
        try clear hcz26_2
        try clear hcz28_0
        try clear hcz28_1
        try clear hcz28_2
        try clear hcz32_0
        try clear hcz32_1
        try clear hcz32_2
        try clear hcz33_0
        try clear hcz33_1
        try clear hcz33_2
        try clear hcz36_0
        try clear hcz36_1
        try clear hcz36_2
        try clear hcz37_0
        try clear hcz37_1
        try clear hcz37_2
        try clear hcz40_0
        try clear hcz40_1
        try clear hcz40_2
        try clear hcz41_0
        try clear hcz41_1
        try clear hcz41_2
        try clear hcz43_0
        try clear hcz43_1
        try clear hcz43_2
        try clear hcz44_0
        try clear hcz44_1
        try clear hcz44_2
        try clear hcz47_0
        try clear hcz47_1
        try clear hcz47_2
        try clear hcz51_0
        try clear hcz51_1
        try clear hcz51_2
        try clear hcz52_0
        try clear hcz52_1
        try clear hcz52_2
        try clear hcz9_0
        try clear hcz9_1
        try clear hcz9_2
        try clear hfz12_0
        try clear hfz12_1
        try clear hfz12_2
        try clear hfz16_0
        try clear hfz16_1
        try clear hfz16_2
        try clear hfz18_0
        try clear hfz18_1
        try clear hfz18_2
        try clear hfz20_0
        try clear hfz20_1
        try clear hfz20_2
        try clear hfz24_0
        try clear hfz24_1
        try clear hfz24_2
        try clear hfz26_0
        try clear hfz26_1
        try clear hfz26_2
        try clear hfz28_0
        try clear hfz28_1
        try clear hfz28_2
        try clear hfz32_0
        try clear hfz32_1
        try clear hfz32_2
        try clear hfz33_0
        try clear hfz33_1
        try clear hfz33_2
        try clear hfz36_0
        try clear hfz36_1
        try clear hfz36_2
        try clear hfz37_0
        try clear hfz37_1
        try clear hfz37_2
        try clear hfz40_0
        try clear hfz40_1
        try clear hfz40_2
        try clear hfz41_0
        try clear hfz41_1
        try clear hfz41_2
        try clear hfz43_0
        try clear hfz43_1
        try clear hfz43_2
        try clear hfz44_0
        try clear hfz44_1
        try clear hfz44_2
        try clear hfz47_0
        try clear hfz47_1
        try clear hfz47_2
        try clear hfz51_0
        try clear hfz51_1
        try clear hfz51_2
        try clear hfz52_0
        try clear hfz52_1
        try clear hfz52_2
        try clear hfz9_0
        try clear hfz9_1
        try clear hfz9_2
        try clear p2
        try clear p6
        obtain ⟨kq, x79_52, rfl, HA, HJ52, BK329, BK330, HB⟩ := hcut
        cases kq with
        | zero => exact absurd HA.out (by simp [qT.j2])
        | succ kj52 =>
         have H := HA.out
         clear HA
         simp only [qT.j2] at H
         by_cases c55 : x79_52 = true
         ·subst c55
          have H1 : (some (a0_0, wrap64 (a0_1 + 2), 0)) = some (r1, r2, r3) := by rw [if_pos rfl] at H; exact H
          clear H
          have H := H1
          clear H1
          simp only [Option.some.injEq, Prod.mk.injEq] at H
          obtain ⟨rfl, rfl, rfl⟩ := H
          have hnb56 := NB329_330.out
          have hnc56 := NB330_329.out
          have hcz57_0 := bc BK329 0
          have hcz57_1 := bc BK329 1
          have hcz57_2 := bc BK329 2
          have hfz57_0 := qC BK329.out 0
          have hfz57_1 := qC BK329.out 1
          have hfz57_2 := qC BK329.out 2
          have hcz58_0 := bc BK330 0
          have hcz58_1 := bc BK330 1
          have hcz58_2 := bc BK330 2
          have hfz58_0 := qC BK330.out 0
          have hfz58_1 := qC BK330.out 1
          have hfz58_2 := qC BK330.out 2
          go_wp2
          refine bodyPost_ret (results_cell_row rfl _ _ gb330 27 #[.int .i64 a0_0, .int .i64 (wrap64 (a0_1 + 2)), .int .i64 0] (0, 0) _ rfl (by (with_reducible repeat (first | refine qB ?_ _ | refine qD ?_ | refine qA ?_ _)); refine qP (cs := #[.int .i64 a0_0, .int .i64 (wrap64 (a0_1 + 2)), .int .i64 0]) ?_ 2 _ rfl; (with_reducible repeat (first | refine qB ?_ _ | refine qD ?_ | refine qA ?_ _)); refine qP (cs := #[.int .i64 a0_0, .int .i64 0, .int .i64 0]) ?_ 1 _ rfl; (with_reducible repeat (first | refine qB ?_ _ | refine qD ?_ | refine qA ?_ _)); refine qP (cs := #[.int .i64 0, .int .i64 0, .int .i64 0]) ?_ 0 _ rfl; (with_reducible repeat (first | refine qB ?_ _ | refine qD ?_ | refine qA ?_ _)); exact BK330.out) Tryd.underlying27 rfl (by kernel_rfl)) rfl ?_
          exact ⟨by first | rfl | (simp [qJ, qI] <;> rfl) | (simp [*, qJ, qI] <;> rfl), bl⟩
         ·replace c55 := Bool.eq_false_iff.mpr c55
          subst c55
          have H1 : ((qoA.f a0_0 a0_1 a1).bind fun bt331 => (if x5_2 = true then (some (bt331.1, bt331.2, 0)) else (some (bt331.1, bt331.2, a0_2)))) = some (r1, r2, r3) := by rw [if_neg (show ¬ (false = true) by decide)] at H; exact H
          clear H
          have H := H1
          clear H1
          replace H := Option.bind_eq_some_iff.mp H
          obtain ⟨⟨t331, t332⟩, A590, H⟩ := H
          replace H : (if x5_2 = true then (some (t331, t332, 0)) else (some (t331, t332, a0_2))) = some (r1, r2, r3) := H
          have A59 := Aside0.mk A590
          clear A590
          by_cases c60 : x5_2 = true
          ·subst c60
           have H1 : (some (t331, t332, 0)) = some (r1, r2, r3) := by rw [if_pos rfl] at H; exact H
           clear H
           have H := H1
           clear H1
           simp only [Option.some.injEq, Prod.mk.injEq] at H
           obtain ⟨rfl, rfl, rfl⟩ := H
           have hnb61 := NB329_330.out
           have hnc61 := NB330_329.out
           have hcz62_0 := bc BK329 0
           have hcz62_1 := bc BK329 1
           have hcz62_2 := bc BK329 2
           have hfz62_0 := qC BK329.out 0
           have hfz62_1 := qC BK329.out 1
           have hfz62_2 := qC BK329.out 2
           go_wp2_with (first | ((with_reducible refine qa (f := 109) rfl ?_); refine qr (some 97) rfl rfl Tryd.func109 (by kernel_rfl) rfl #[.int .i64 a0_0, .int .i64 a0_1, .int .u8 a1] rfl (by (try simp only [List.map_toArray, List.map_cons, List.map_nil]); first | done | rfl | (simp only [List.length_drop, List.length_take]; rfl)) ?_; (with_reducible refine (qoA.calls a0_0 a0_1 a1 t331 t332 _ A59.out).mono ?_); rintro e w' ⟨rfl, ⟨nd, rfl⟩⟩; refine ⟨_, rfl, ?_⟩; (try (rw [qMB wc]; generalize hq_ : World.drewN wc _ = wc; have n0_ : Aside0 (wc.heap[gb329]? = some (.cells #[.int .i64 a0_0, .int .i64 a0_1, .int .i64 a0_2] 27 (0, 0))) := ⟨by rw [← hq_]; exact (by (with_reducible repeat (first | refine qB ?_ _ | refine qD ?_ | refine qA ?_ _)); exact BK329.out)⟩; have n1_ : Aside0 (wc.heap[gb330]? = some (.cells #[.int .i64 0, .int .i64 0, .int .i64 0] 27 (0, 0))) := ⟨by rw [← hq_]; exact (by (with_reducible repeat (first | refine qB ?_ _ | refine qD ?_ | refine qA ?_ _)); exact BK330.out)⟩; have n2_ : Aside0 (Below w.heap.size w wc) := ⟨by rw [← hq_]; exact bl⟩; clear BK329 BK330 HB hq_; have BK329 := n0_; have BK330 := n1_; have HB := n2_; clear n0_ n1_ n2_)); have hcz63_0 := bc BK330 0; have hcz63_1 := bc BK330 1; have hcz63_2 := bc BK330 2; have hfz63_0 := qC BK330.out 0; have hfz63_1 := qC BK330.out 1; have hfz63_2 := qC BK330.out 2))
           refine bodyPost_ret (results_cell_row rfl _ _ gb330 27 #[.int .i64 t331, .int .i64 t332, .int .i64 0] (0, 0) _ rfl (by (with_reducible repeat (first | refine qB ?_ _ | refine qD ?_ | refine qA ?_ _)); refine qP (cs := #[.int .i64 t331, .int .i64 t332, .int .i64 0]) ?_ 2 _ rfl; (with_reducible repeat (first | refine qB ?_ _ | refine qD ?_ | refine qA ?_ _)); refine qP (cs := #[.int .i64 t331, .int .i64 0, .int .i64 0]) ?_ 1 _ rfl; (with_reducible repeat (first | refine qB ?_ _ | refine qD ?_ | refine qA ?_ _)); refine qP (cs := #[.int .i64 0, .int .i64 0, .int .i64 0]) ?_ 0 _ rfl; (with_reducible repeat (first | refine qB ?_ _ | refine qD ?_ | refine qA ?_ _)); exact BK330.out) Tryd.underlying27 rfl (by kernel_rfl)) rfl ?_
           exact ⟨by first | rfl | (simp [qJ, qI] <;> rfl) | (simp [*, qJ, qI] <;> rfl), bl⟩
          ·replace c60 := Bool.eq_false_iff.mpr c60
           subst c60
           have H1 : (some (t331, t332, a0_2)) = some (r1, r2, r3) := by rw [if_neg (show ¬ (false = true) by decide)] at H; exact H
           clear H
           have H := H1
           clear H1
           simp only [Option.some.injEq, Prod.mk.injEq] at H
           obtain ⟨rfl, rfl, rfl⟩ := H
           have hnb64 := NB329_330.out
           have hnc64 := NB330_329.out
           have hcz65_0 := bc BK329 0
           have hcz65_1 := bc BK329 1
           have hcz65_2 := bc BK329 2
           have hfz65_0 := qC BK329.out 0
           have hfz65_1 := qC BK329.out 1
           have hfz65_2 := qC BK329.out 2
           go_wp2_with (first | ((with_reducible refine qa (f := 109) rfl ?_); refine qr (some 97) rfl rfl Tryd.func109 (by kernel_rfl) rfl #[.int .i64 a0_0, .int .i64 a0_1, .int .u8 a1] rfl (by (try simp only [List.map_toArray, List.map_cons, List.map_nil]); first | done | rfl | (simp only [List.length_drop, List.length_take]; rfl)) ?_; (with_reducible refine (qoA.calls a0_0 a0_1 a1 t331 t332 _ A59.out).mono ?_); rintro e w' ⟨rfl, ⟨nd, rfl⟩⟩; refine ⟨_, rfl, ?_⟩; (try (rw [qMB wc]; generalize hq_ : World.drewN wc _ = wc; have n0_ : Aside0 (wc.heap[gb329]? = some (.cells #[.int .i64 a0_0, .int .i64 a0_1, .int .i64 a0_2] 27 (0, 0))) := ⟨by rw [← hq_]; exact (by (with_reducible repeat (first | refine qB ?_ _ | refine qD ?_ | refine qA ?_ _)); exact BK329.out)⟩; have n1_ : Aside0 (wc.heap[gb330]? = some (.cells #[.int .i64 0, .int .i64 0, .int .i64 0] 27 (0, 0))) := ⟨by rw [← hq_]; exact (by (with_reducible repeat (first | refine qB ?_ _ | refine qD ?_ | refine qA ?_ _)); exact BK330.out)⟩; have n2_ : Aside0 (Below w.heap.size w wc) := ⟨by rw [← hq_]; exact bl⟩; clear BK329 BK330 HB hq_; have BK329 := n0_; have BK330 := n1_; have HB := n2_; clear n0_ n1_ n2_)); have hcz66_0 := bc BK329 0; have hcz66_1 := bc BK329 1; have hcz66_2 := bc BK329 2; have hfz66_0 := qC BK329.out 0; have hfz66_1 := qC BK329.out 1; have hfz66_2 := qC BK329.out 2; have hcz67_0 := bc BK330 0; have hcz67_1 := bc BK330 1; have hcz67_2 := bc BK330 2; have hfz67_0 := qC BK330.out 0; have hfz67_1 := qC BK330.out 1; have hfz67_2 := qC BK330.out 2))
           refine bodyPost_ret (results_cell_row rfl _ _ gb330 27 #[.int .i64 t331, .int .i64 t332, .int .i64 a0_2] (0, 0) _ rfl (by (with_reducible repeat (first | refine qB ?_ _ | refine qD ?_ | refine qA ?_ _)); refine qP (cs := #[.int .i64 t331, .int .i64 t332, .int .i64 0]) ?_ 2 _ rfl; (with_reducible repeat (first | refine qB ?_ _ | refine qD ?_ | refine qA ?_ _)); refine qP (cs := #[.int .i64 t331, .int .i64 0, .int .i64 0]) ?_ 1 _ rfl; (with_reducible repeat (first | refine qB ?_ _ | refine qD ?_ | refine qA ?_ _)); refine qP (cs := #[.int .i64 0, .int .i64 0, .int .i64 0]) ?_ 0 _ rfl; (with_reducible repeat (first | refine qB ?_ _ | refine qD ?_ | refine qA ?_ _)); exact BK330.out) Tryd.underlying27 rfl (by kernel_rfl)) rfl ?_
           exact ⟨by first | rfl | (simp [qJ, qI] <;> rfl) | (simp [*, qJ, qI] <;> rfl), bl⟩
def qAA.f (k : Nat) (l0 : List ByteArray) (a1_0 : Int) (a1_1 : Int) (a1_2 : Int) (a2 : Int) : Option (Int × Int × Int × Bool) := (qT.f k a1_0 a1_1 a1_2 a2).bind fun bt335 => ((qW.f k l0 bt335.1 bt335.2.1 bt335.2.2).bind fun t339 => (some (bt335.1, bt335.2.1, bt335.2.2, t339)))
set_option maxHeartbeats 8000000 in
set_option maxRecDepth 100000 in
theorem qAA.calls (k : Nat) (A0 : Option Addr) (c0 : Nat) (l0 : List ByteArray) (a1_0 : Int) (a1_1 : Int) (a1_2 : Int) (a2 : Int) (r1 : Int) (r2 : Int) (r3 : Int) (r4 : Bool) (w : World) (hr0 : Kd.C Kd.string w A0 l0.length l0) (hc0 : l0.length ≤ c0) (h : qAA.f k l0 a1_0 a1_1 a1_2 a2 = some (r1, r2, r3, r4)) :
  Calls Tryd.prog 62 #[.slice A0 l0.length c0, .agg #[.int .i64 a1_0, .int .i64 a1_1, .int .i64 a1_2], .int .u8 a2] w fun e w' => e = .returned (.tuple #[.agg #[.int .i64 r1, .int .i64 r2, .int .i64 r3], .bool r4]) ∧ Below w.heap.size w w' := by
 have hu27 := Tryd.underlying27
 have HR0 := Aside0.mk hr0
 have HC0 := Aside0.mk hc0
 clear hr0 hc0
 have HB := Aside0.mk (Below.refl w.heap.size w)
 have H : ((qT.f k a1_0 a1_1 a1_2 a2).bind fun bt335 => ((qW.f k l0 bt335.1 bt335.2.1 bt335.2.2).bind fun t339 => (some (bt335.1, bt335.2.1, bt335.2.2, t339)))) = some (r1, r2, r3, r4) := h
 clear h
 replace H := Option.bind_eq_some_iff.mp H
 obtain ⟨⟨t335, t336, t337⟩, A40, H⟩ := H
 replace H : ((qW.f k l0 t335 t336 t337).bind fun t339 => (some (t335, t336, t337, t339))) = some (r1, r2, r3, r4) := H
 have A4 := Aside0.mk A40
 clear A40
 replace H := Option.bind_eq_some_iff.mp H
 obtain ⟨t339, A50, H⟩ := H
 replace H : (some (t335, t336, t337, t339)) = some (r1, r2, r3, r4) := H
 have A5 := Aside0.mk A50
 clear A50
 simp only [Option.some.injEq, Prod.mk.injEq] at H
 obtain ⟨rfl, rfl, rfl, rfl⟩ := H
 go_enter Tryd.func62, Tryd.ntmps62
 try go_wp2_with (first | ((with_reducible refine qb (N := 4) rfl ?_); refine qZ ?hg (N := 4) ?hd (cs := #[.int .i64 a1_0, .int .i64 a1_1, .int .i64 a1_2]) (t := 27) ?hr ?_; (case hd => rfl); (case hg => rfl); (case hr => first | (go_simp; done) | (go_simp; rfl)); intro gb333 hg w6 hbox hb; have n0_ := Aside0.mk (qG bl hb); have n1_ := Aside0.mk (hbox); have n2_ := Aside0.mk ((gg hg)); have n3_ := Aside0.mk ((gg hg)); clear HB; have HB := n0_; have BK333 := n1_; have GW333 := n2_; have GE333 := n3_; clear n0_ n1_ n2_ n3_; clear hb hbox hg) | ((with_reducible refine qb (N := 6) rfl ?_); refine qZ ?hg (N := 6) ?hd (cs := #[.int .i64 0, .int .i64 0, .int .i64 0]) (t := 27) ?hr ?_; (case hd => rfl); (case hg => rfl); (case hr => first | (go_simp; done) | (go_simp; rfl)); intro gb334 hg w7 hbox hb; have n0_ := Aside0.mk (bb BK333 hb); have n1_ := Aside0.mk (qG bl hb); have n2_ := Aside0.mk (hbox); have n3_ := Aside0.mk ((gg hg)); have n4_ := Aside0.mk ((gg hg)); have n5_ := Aside0.mk ((nl BK333 hg)); have n6_ := Aside0.mk ((nr BK333 hg)); clear BK333; clear HB; have BK333 := n0_; have HB := n1_; have BK334 := n2_; have GW334 := n3_; have GE334 := n4_; have NB333_334 := n5_; have NB334_333 := n6_; clear n0_ n1_ n2_ n3_ n4_ n5_ n6_; clear hb hbox hg; have hnb8 := NB333_334.out; have hnc8 := NB334_333.out; have hcz9_0 := bc BK333 0; have hcz9_1 := bc BK333 1; have hcz9_2 := bc BK333 2; have hfz9_0 := qC BK333.out 0; have hfz9_1 := qC BK333.out 1; have hfz9_2 := qC BK333.out 2) | ((with_reducible refine qa (f := 88) rfl ?_); refine qr (some 11) rfl rfl Tryd.func88 (by kernel_rfl) rfl #[.agg #[.int .i64 a1_0, .int .i64 a1_1, .int .i64 a1_2], .int .u8 a2] rfl (by (try simp only [List.map_toArray, List.map_cons, List.map_nil]); first | done | rfl | (simp only [List.length_drop, List.length_take]; rfl)) ?_; (with_reducible refine (qT.calls k a1_0 a1_1 a1_2 a2 t335 t336 t337 _ A4.out).mono ?_); rintro e w10 ⟨rfl, hb⟩; refine ⟨_, rfl, ?_⟩; have n0_ := Aside0.mk (bb BK333 hb); have n1_ := Aside0.mk (bb BK334 hb); have n2_ := Aside0.mk (qG bl hb); clear BK333; clear BK334; clear HB; have BK333 := n0_; have BK334 := n1_; have HB := n2_; clear n0_ n1_ n2_; (try clear hb); (try clear hb2); (try clear hk); (try clear hi)) | ((with_reducible refine qb (N := 8) rfl ?_); refine qZ ?hg (N := 8) ?hd (cs := #[.int .i64 0, .int .i64 0, .int .i64 0]) (t := 27) ?hr ?_; (case hd => rfl); (case hg => rfl); (case hr => first | (go_simp; done) | (go_simp; rfl)); intro gb338 hg w11 hbox hb; have n0_ := Aside0.mk (bb BK333 hb); have n1_ := Aside0.mk (bb BK334 hb); have n2_ := Aside0.mk (qG bl hb); have n3_ := Aside0.mk (hbox); have n4_ := Aside0.mk ((gg hg)); have n5_ := Aside0.mk ((gg hg)); have n6_ := Aside0.mk ((nl BK333 hg)); have n7_ := Aside0.mk ((nr BK333 hg)); have n8_ := Aside0.mk ((nl BK334 hg)); have n9_ := Aside0.mk ((nr BK334 hg)); clear BK333; clear BK334; clear HB; have BK333 := n0_; have BK334 := n1_; have HB := n2_; have BK338 := n3_; have GW338 := n4_; have GE338 := n5_; have NB333_338 := n6_; have NB338_333 := n7_; have NB334_338 := n8_; have NB338_334 := n9_; clear n0_ n1_ n2_ n3_ n4_ n5_ n6_ n7_ n8_ n9_; clear hb hbox hg; have hnb12 := NB338_333.out; have hnc12 := NB333_338.out; have hnb13 := NB338_334.out; have hnc13 := NB334_338.out; have hcz14_0 := bc BK338 0; have hcz14_1 := bc BK338 1; have hcz14_2 := bc BK338 2; have hfz14_0 := qC BK338.out 0; have hfz14_1 := qC BK338.out 1; have hfz14_2 := qC BK338.out 2))
 have n0_ : Aside0 ((((w11.setCell ⟨gb338, 0, none⟩ (.int .i64 t335)).setCell ⟨gb338, 1, none⟩ (.int .i64 t336)).setCell ⟨gb338, 2, none⟩ (.int .i64 t337)).heap[gb333]? = some (.cells #[.int .i64 a1_0, .int .i64 a1_1, .int .i64 a1_2] 27 (0, 0))) := ⟨by (with_reducible repeat (first | refine qB ?_ _ | refine qD ?_ | refine qA ?_ _)); refine qL ?_ NB333_338.out _; (with_reducible repeat (first | refine qB ?_ _ | refine qD ?_ | refine qA ?_ _)); refine qL ?_ NB333_338.out _; (with_reducible repeat (first | refine qB ?_ _ | refine qD ?_ | refine qA ?_ _)); refine qL ?_ NB333_338.out _; (with_reducible repeat (first | refine qB ?_ _ | refine qD ?_ | refine qA ?_ _)); exact BK333.out⟩
 have n1_ : Aside0 ((((w11.setCell ⟨gb338, 0, none⟩ (.int .i64 t335)).setCell ⟨gb338, 1, none⟩ (.int .i64 t336)).setCell ⟨gb338, 2, none⟩ (.int .i64 t337)).heap[gb334]? = some (.cells #[.int .i64 0, .int .i64 0, .int .i64 0] 27 (0, 0))) := ⟨by (with_reducible repeat (first | refine qB ?_ _ | refine qD ?_ | refine qA ?_ _)); refine qL ?_ NB334_338.out _; (with_reducible repeat (first | refine qB ?_ _ | refine qD ?_ | refine qA ?_ _)); refine qL ?_ NB334_338.out _; (with_reducible repeat (first | refine qB ?_ _ | refine qD ?_ | refine qA ?_ _)); refine qL ?_ NB334_338.out _; (with_reducible repeat (first | refine qB ?_ _ | refine qD ?_ | refine qA ?_ _)); exact BK334.out⟩
 have n2_ : Aside0 ((((w11.setCell ⟨gb338, 0, none⟩ (.int .i64 t335)).setCell ⟨gb338, 1, none⟩ (.int .i64 t336)).setCell ⟨gb338, 2, none⟩ (.int .i64 t337)).heap[gb338]? = some (.cells #[.int .i64 t335, .int .i64 t336, .int .i64 t337] 27 (0, 0))) := ⟨by (with_reducible repeat (first | refine qB ?_ _ | refine qD ?_ | refine qA ?_ _)); refine qP (cs := #[.int .i64 t335, .int .i64 t336, .int .i64 0]) ?_ 2 _ rfl; (with_reducible repeat (first | refine qB ?_ _ | refine qD ?_ | refine qA ?_ _)); refine qP (cs := #[.int .i64 t335, .int .i64 0, .int .i64 0]) ?_ 1 _ rfl; (with_reducible repeat (first | refine qB ?_ _ | refine qD ?_ | refine qA ?_ _)); refine qP (cs := #[.int .i64 0, .int .i64 0, .int .i64 0]) ?_ 0 _ rfl; (with_reducible repeat (first | refine qB ?_ _ | refine qD ?_ | refine qA ?_ _)); exact BK338.out⟩
 have n3_ : Aside0 (Below w.heap.size w (((w11.setCell ⟨gb338, 0, none⟩ (.int .i64 t335)).setCell ⟨gb338, 1, none⟩ (.int .i64 t336)).setCell ⟨gb338, 2, none⟩ (.int .i64 t337))) := ⟨bl⟩
 (try clear BK333)
 (try clear BK334)
 (try clear BK338)
 (try clear HB)
 generalize (((w11.setCell ⟨gb338, 0, none⟩ (.int .i64 t335)).setCell ⟨gb338, 1, none⟩ (.int .i64 t336)).setCell ⟨gb338, 2, none⟩ (.int .i64 t337)) = w15 at n0_ n1_ n2_ n3_ ⊢
 have BK333 := n0_
 have BK334 := n1_
 have BK338 := n2_
 have HB := n3_
 clear n0_ n1_ n2_ n3_
 have n0_ := Aside0.mk (qD BK333.out)
 have n1_ := Aside0.mk (qD BK334.out)
 have n2_ := Aside0.mk (qD BK338.out)
 have n3_ := Aside0.mk (qi HB.out)
 clear BK333
 clear BK334
 clear BK338
 clear HB
 have BK333 := n0_
 have BK334 := n1_
 have BK338 := n2_
 have HB := n3_
 clear n0_ n1_ n2_ n3_
 refine qsA (n := 6) (S := fun w' => w'.cell? ⟨gb338, 0, none⟩ = some (.int .i64 t335) ∧ w'.cell? ⟨gb338, 1, none⟩ = some (.int .i64 t336) ∧ w'.cell? ⟨gb338, 2, none⟩ = some (.int .i64 t337)) (ds := []) #[false, false, false, false, false, false] (by kernel_rfl) rfl rfl ⟨(qK BK338.out 0).trans rfl, (qK BK338.out 1).trans rfl, (qK BK338.out 2).trans rfl⟩ (fun hHeld => ?_)
 generalize w15.drew = w16 at BK333 BK334 BK338 HB hHeld ⊢
 refine pure_ (i := 1) (N := some 13) (v := ?_) (a' := ?_) #[false, true, false, false, false, false] rfl rfl (by kernel_rfl) (fun _ _ _ h => h) (Or.inl ⟨by rfl, ?_⟩) ?_ ?_
 rotate_left
 ·intro w'
  go_simp
  first | (with_reducible rfl) | (rw [if_neg (by simp only [ByteArray.size_extract, ByteArray.size_append] at * <;> omega)]; try with_reducible rfl)
 rotate_left
 ·simp only [Act.put, List.setIfInBounds_toArray, List.set_cons_zero, List.set_cons_succ, i64_w, i32_w]
  rfl
 refine take_ (i := 0) (N := some 12) (v := ?_) (a' := ?_) #[true, true, false, false, false, false] rfl rfl (by kernel_rfl) (fun _ _ _ h => h) (Or.inl ⟨by rfl, ?_⟩) hHeld ?_ ?_
 rotate_left
 ·rintro w' ⟨s0, s1, s2⟩
  go_simp
  first | (with_reducible rfl) | (rw [if_neg (by simp only [ByteArray.size_extract, ByteArray.size_append] at * <;> omega)]; try with_reducible rfl)
 rotate_left
 ·simp only [Act.put, List.setIfInBounds_toArray, List.set_cons_zero, List.set_cons_succ, i64_w, i32_w]
  rfl
 refine take_ (i := 2) (N := some 14) (v := ?_) (a' := ?_) #[true, true, true, false, false, false] rfl rfl (by kernel_rfl) (fun _ _ _ h => h) (Or.inl ⟨by rfl, ?_⟩) hHeld ?_ ?_
 rotate_left
 ·rintro w' ⟨s0, s1, s2⟩
  go_simp
  first | (with_reducible rfl) | (rw [if_neg (by simp only [ByteArray.size_extract, ByteArray.size_append] at * <;> omega)]; try with_reducible rfl)
 rotate_left
 ·simp only [Act.put, List.setIfInBounds_toArray, List.set_cons_zero, List.set_cons_succ, i64_w, i32_w]
  rfl
 refine one_ (i := 3) (N := some 15) #[true, true, true, true, false, false] rfl rfl (by kernel_rfl) (by decide) (fun K hK => ?_)
 refine goes_ Tryd.func56 (by kernel_rfl) rfl #[.slice A0 l0.length c0, .agg #[.int .i64 t335, .int .i64 t336, .int .i64 t337]] (by rfl) rfl rfl (by (try simp only [List.map_toArray, List.map_cons, List.map_nil]); first | done | rfl | (simp only [List.length_drop, List.length_take]; rfl)) ?_
 with_reducible refine (qW.calls k _ _ l0 t335 t336 t337 t339 _ ?side1 ?side2 A5.out).mono ?_
 (case side1 => repeat (first | exact (Kd.qQA HR0.out HB.out) | (with_reducible refine Kd.qIA ?_ _) | (with_reducible refine Kd.qHA ?_ _) | (with_reducible refine Kd.qSA ?_)))
 (case side2 => exact HC0.out)
 rintro e w17 ⟨rfl, hb⟩
 refine ⟨_, rfl, ?_⟩
 have n0_ := Aside0.mk (bb BK333 hb)
 have n1_ := Aside0.mk (bb BK334 hb)
 have n2_ := Aside0.mk (bb BK338 hb)
 have n3_ := Aside0.mk (qG bl hb)
 clear BK333
 clear BK334
 clear BK338
 clear HB
 have BK333 := n0_
 have BK334 := n1_
 have BK338 := n2_
 have HB := n3_
 clear n0_ n1_ n2_ n3_
 (try clear hb)
 (try clear hb2)
 (try clear hk)
 (try clear hi)
 refine hK.out _ _ ⟨(qK BK338.out 0).trans rfl, (qK BK338.out 1).trans rfl, (qK BK338.out 2).trans rfl⟩ (fun hHeld => ?_)
 clear hK K
 refine norm_ (a' := ?_) ?_ ?_
 rotate_left
 ·show Act.put _ (some 15) _ = _
  simp only [Act.put, List.setIfInBounds_toArray, List.set_cons_zero, List.set_cons_succ, i64_w, i32_w]
  rfl
 refine one_ (i := 4) (N := none) #[true, true, true, true, true, false] rfl rfl (by kernel_rfl) (by decide) (fun K hK => ?_)
 have hs18 : w17.cell? ⟨gb334, 0, none⟩ = some (.int .i64 0) := (qK BK334.out 0).trans rfl
 have hfs18 := qC BK334.out 0
 have hns18_0 := NB333_334.out
 have hns18_2 := NB338_334.out
 have hms18_0 := NB334_333.out
 have hms18_2 := NB334_338.out
 have hs19 : w17.cell? ⟨gb334, 1, none⟩ = some (.int .i64 0) := (qK BK334.out 1).trans rfl
 have hfs19 := qC BK334.out 1
 have hns19_0 := NB333_334.out
 have hns19_2 := NB338_334.out
 have hms19_0 := NB334_333.out
 have hms19_2 := NB334_338.out
 have hs20 : w17.cell? ⟨gb334, 2, none⟩ = some (.int .i64 0) := (qK BK334.out 2).trans rfl
 have hfs20 := qC BK334.out 2
 have hns20_0 := NB333_334.out
 have hns20_2 := NB338_334.out
 have hms20_0 := NB334_333.out
 have hms20_2 := NB334_338.out
 refine skip_ (w1 := ?_) (by rfl) rfl ?_ ?_
 rotate_left
 ·go_simp
  rfl
 refine hK.out _ _ ⟨((qO (p := ⟨gb334, _, none⟩) NB338_334.out _).trans (((qO (p := ⟨gb334, _, none⟩) NB338_334.out _).trans (((qO (p := ⟨gb334, _, none⟩) NB338_334.out _).trans (hHeld.1)))))), ((qO (p := ⟨gb334, _, none⟩) NB338_334.out _).trans (((qO (p := ⟨gb334, _, none⟩) NB338_334.out _).trans (((qO (p := ⟨gb334, _, none⟩) NB338_334.out _).trans (hHeld.2.1)))))), ((qO (p := ⟨gb334, _, none⟩) NB338_334.out _).trans (((qO (p := ⟨gb334, _, none⟩) NB338_334.out _).trans (((qO (p := ⟨gb334, _, none⟩) NB338_334.out _).trans (hHeld.2.2))))))⟩ (fun hHeld => ?_)
 clear hK K
 refine pure_ (i := 5) (N := some 7) (v := ?_) (a' := ?_) #[true, true, true, true, true, true] rfl rfl (by kernel_rfl) (fun _ _ _ h => h) (Or.inl ⟨by rfl, ?_⟩) ?_ ?_
 rotate_left
 ·intro w'
  go_simp
  first | (with_reducible rfl) | (rw [if_neg (by simp only [ByteArray.size_extract, ByteArray.size_append] at * <;> omega)]; try with_reducible rfl)
 rotate_left
 ·simp only [Act.put, List.setIfInBounds_toArray, List.set_cons_zero, List.set_cons_succ, i64_w, i32_w]
  rfl
 refine done_ (by kernel_rfl) ?_
 try go_wp2
 refine bodyPost_ret (qJA rfl _ _ gb334 27 #[.int .i64 t335, .int .i64 t336, .int .i64 t337] (0, 0) _ rfl (by (with_reducible repeat (first | refine qB ?_ _ | refine qD ?_ | refine qA ?_ _)); refine qP (cs := #[.int .i64 t335, .int .i64 t336, .int .i64 0]) ?_ 2 _ rfl; (with_reducible repeat (first | refine qB ?_ _ | refine qD ?_ | refine qA ?_ _)); refine qP (cs := #[.int .i64 t335, .int .i64 0, .int .i64 0]) ?_ 1 _ rfl; (with_reducible repeat (first | refine qB ?_ _ | refine qD ?_ | refine qA ?_ _)); refine qP (cs := #[.int .i64 0, .int .i64 0, .int .i64 0]) ?_ 0 _ rfl; (with_reducible repeat (first | refine qB ?_ _ | refine qD ?_ | refine qA ?_ _)); exact BK334.out) Tryd.underlying27 rfl (by kernel_rfl)) rfl ?_
 exact ⟨by first | rfl | (simp [qJ, qI] <;> rfl) | (simp [*, qJ, qI] <;> rfl), bl⟩
end Go.Proofs.YtbpfhpjbeomfcaaDoor.P
namespace Go.Proofs.YtbpfhpjbeomfcaaDoor.P
open Go.RowKit Go.Proofs.YtbpfhpjbeomfcaaDoorW.PrintWords Go.Proofs.YtbpfhpjbeomfcaaDoorW.PrintLast Go.Proofs.YtbpfhpjbeomfcaaDoorW.PrintMore
attribute [local go_sem] qy qw qFA qEA qn qm qx qv
set_option linter.unusedVariables false
set_option linter.unusedSimpArgs false
attribute [local go_sem high] eqA27
def qY.l0 : Nat → List (S27) → Int → Int → Int → Int → Int → Option (Int)
 | 0, _, _, _, _, _, _ => none
 | k + 1, x0, x7, x8, x468000, x468001, x468002 => if x8 < x7 then (if 0 ≤ x8 then (if x8 < (x0.length : Int) then (if (x468000 == ((qX x0 x8).f0) && (x468001 == ((qX x0 x8).f1) && (x468002 == ((qX x0 x8).f2)))) = true then (some x8) else (qY.l0 k x0 x7 (wrap64 (x8 + 1)) x468000 x468001 x468002)) else (none)) else (none)) else (some (-1))
def qY.f (k : Nat) (l0 : List (S27)) (a1_0 : Int) (a1_1 : Int) (a1_2 : Int) : Option (Int) := qY.l0 k l0 (l0.length : Int) 0 a1_0 a1_1 a1_2
set_option maxHeartbeats 8000000 in
set_option maxRecDepth 100000 in
theorem qY.calls (k : Nat) (A0 : Option Addr) (c0 : Nat) (l0 : List (S27)) (a1_0 : Int) (a1_1 : Int) (a1_2 : Int) (r : Int) (w : World) (hr0 : Kd.C k27 w A0 l0.length l0) (hc0 : l0.length ≤ c0) (h : qY.f k l0 a1_0 a1_1 a1_2 = some r) :
  Calls Tryd.prog 110 #[.slice A0 l0.length c0, .agg #[.int .i64 a1_0, .int .i64 a1_1, .int .i64 a1_2]] w fun e w' => e = .returned (.int .i64 r) ∧ Below w.heap.size w w' := by
 have hu27 := Tryd.underlying27
 have HR0 := Aside0.mk hr0
 have HC0 := Aside0.mk hc0
 clear hr0 hc0
 have HB := Aside0.mk (Below.refl w.heap.size w)
 have H : (qY.l0 k l0 (l0.length : Int) 0 a1_0 a1_1 a1_2) = some r := h
 clear h
 have H' := Aside0.mk H
 clear H
 go_enter Tryd.func110, Tryd.ntmps110
 go_wp2_with (first | ((with_reducible refine qb (N := 3) rfl ?_); refine qZ ?hg (N := 3) ?hd (cs := #[.int .i64 a1_0, .int .i64 a1_1, .int .i64 a1_2]) (t := 27) ?hr ?_; (case hd => rfl); (case hg => rfl); (case hr => first | (go_simp; done) | (go_simp; rfl)); intro gb467 hg w3 hbox hb; have n0_ := Aside0.mk (qG bl hb); have n1_ := Aside0.mk (hbox); have n2_ := Aside0.mk ((gg hg)); have n3_ := Aside0.mk ((gg hg)); clear HB; have HB := n0_; have BK467 := n1_; have GW467 := n2_; have GE467 := n3_; clear n0_ n1_ n2_ n3_; clear hb hbox hg))
 repeat (go_quiet (first | ((with_reducible refine qb (N := 3) rfl ?_); refine qZ ?hg (N := 3) ?hd (cs := #[.int .i64 a1_0, .int .i64 a1_1, .int .i64 a1_2]) (t := 27) ?hr ?_; (case hd => rfl); (case hg => rfl); (case hr => first | (go_simp; done) | (go_simp; rfl)); intro gb467 hg w3 hbox hb; have n0_ := Aside0.mk (qG bl hb); have n1_ := Aside0.mk (hbox); have n2_ := Aside0.mk ((gg hg)); have n3_ := Aside0.mk ((gg hg)); clear HB; have HB := n0_; have BK467 := n1_; have GW467 := n2_; have GE467 := n3_; clear n0_ n1_ n2_ n3_; clear hb hbox hg)); try go_wp2_with (first | ((with_reducible refine qb (N := 3) rfl ?_); refine qZ ?hg (N := 3) ?hd (cs := #[.int .i64 a1_0, .int .i64 a1_1, .int .i64 a1_2]) (t := 27) ?hr ?_; (case hd => rfl); (case hg => rfl); (case hr => first | (go_simp; done) | (go_simp; rfl)); intro gb467 hg w3 hbox hb; have n0_ := Aside0.mk (qG bl hb); have n1_ := Aside0.mk (hbox); have n2_ := Aside0.mk ((gg hg)); have n3_ := Aside0.mk ((gg hg)); clear HB; have HB := n0_; have BK467 := n1_; have GW467 := n2_; have GE467 := n3_; clear n0_ n1_ n2_ n3_; clear hb hbox hg)))
 go_loopg [8] k (fun kq v8 w' => ∃ (x8_1 : Int), v8 = .int .i64 x8_1 ∧ Aside0 (qY.l0 kq l0 (l0.length : Int) x8_1 a1_0 a1_1 a1_2 = some r) ∧ Aside0 (kq ≤ k) ∧ Aside0 (w'.heap[gb467]? = some (.cells #[.int .i64 a1_0, .int .i64 a1_1, .int .i64 a1_2] 27 (0, 0))) ∧ Aside0 (Below w.heap.size w w'))
 case atStart => exact ⟨(0), (by first | rfl | (simp; done) | (simp [*]; done)), H', ⟨Nat.le_refl _⟩, ⟨by (with_reducible repeat (first | refine qB ?_ _ | refine qD ?_ | refine qA ?_ _)); exact BK467.out⟩, ⟨bl⟩⟩
 case round =>
  clear H'
  try clear c1
  try clear p2
  obtain ⟨x8_1, rfl, HA, HK1, BK467, HB⟩ := hrel
  cases gk with
  | zero => exact absurd HA.out (by simp [qY.l0])
  | succ k1 =>
   have H := HA.out
   clear HA
   simp only [qY.l0] at H
   by_cases c4 : x8_1 < (l0.length : Int)
   ·rw [if_pos c4] at H
    have c4b0 : decide (x8_1 < (l0.length : Int)) = true := decide_eq_true c4
    clear c4
    by_cases c5 : 0 ≤ x8_1
    ·rw [if_pos c5] at H
     have c5b0 : decide (0 ≤ x8_1) = true := decide_eq_true c5
     clear c5
     by_cases c6 : x8_1 < (l0.length : Int)
     ·rw [if_pos c6] at H
      have c6b0 : decide (x8_1 < (l0.length : Int)) = true := decide_eq_true c6
      clear c6
      by_cases c7 : (a1_0 == ((qX l0 x8_1).f0) && (a1_1 == ((qX l0 x8_1).f1) && (a1_2 == ((qX l0 x8_1).f2)))) = true
      ·rw [if_pos c7] at H
       have c7b0 : (a1_0 == ((qX l0 x8_1).f0) && (a1_1 == ((qX l0 x8_1).f1) && (a1_2 == ((qX l0 x8_1).f2)))) = true := c7
       (try (have c7b1 : decide (a1_0 = ((qX l0 x8_1).f0) && (a1_1 == ((qX l0 x8_1).f1) && (a1_2 == ((qX l0 x8_1).f2)))) = true := by simpa using c7))
       (try (have c7b2 : (a1_0 == ((qX l0 x8_1).f0) && (a1_1 == ((qX l0 x8_1).f1) && (a1_2 == ((qX l0 x8_1).f2)))) = true := by simpa using c7))
       clear c7
       obtain rfl := Option.some.inj H
       have hcz8_0 := bc BK467 0
       have hcz8_1 := bc BK467 1
       have hcz8_2 := bc BK467 2
       have hfz8_0 := qC BK467.out 0
       have hfz8_1 := qC BK467.out 1
       have hfz8_2 := qC BK467.out 2
       have p468 : 0 ≤ (x8_1 : Int) := of_decide_eq_true (by first | (with_reducible assumption) | assumption)
       have q468 : x8_1 < (l0.length : Int) := of_decide_eq_true (by first | (with_reducible assumption) | assumption)
       obtain ⟨ad468, e468, hx468_0, hx468_1, hx468_2⟩ := qWB HR0.out x8_1 p468 q468
       cases e468
       replace hx468_0 := (HB.out.cell (World.block_lt_of_cell? w _ hx468_0)).trans hx468_0
       replace hx468_1 := (HB.out.cell (World.block_lt_of_cell? w _ hx468_1)).trans hx468_1
       replace hx468_2 := (HB.out.cell (World.block_lt_of_cell? w _ hx468_2)).trans hx468_2
       replace p468 := eq_true p468
       replace q468 := eq_true q468
       go_wp2
       repeat (go_quiet (fail); try go_wp2)
       go_ret
       exact ⟨by first | rfl | (simp [qJ, qI] <;> rfl) | (simp [*, qJ, qI] <;> rfl), bl⟩
      ·rw [if_neg c7] at H
       have c7b0 : (a1_0 == ((qX l0 x8_1).f0) && (a1_1 == ((qX l0 x8_1).f1) && (a1_2 == ((qX l0 x8_1).f2)))) = false := by simpa using c7
       (try (have c7b1 : decide (a1_0 = ((qX l0 x8_1).f0) && (a1_1 == ((qX l0 x8_1).f1) && (a1_2 == ((qX l0 x8_1).f2)))) = false := by simpa using c7))
       (try (have c7b2 : (a1_0 == ((qX l0 x8_1).f0) && (a1_1 == ((qX l0 x8_1).f1) && (a1_2 == ((qX l0 x8_1).f2)))) = false := by simpa using c7))
       (try (have c7b3 : ¬ (a1_0 = ((qX l0 x8_1).f0) && (a1_1 == ((qX l0 x8_1).f1) && (a1_2 == ((qX l0 x8_1).f2)))) := by simpa using c7))
       clear c7
       have H' := Aside0.mk H
       clear H
       have hcz9_0 := bc BK467 0
       have hcz9_1 := bc BK467 1
       have hcz9_2 := bc BK467 2
       have hfz9_0 := qC BK467.out 0
       have hfz9_1 := qC BK467.out 1
       have hfz9_2 := qC BK467.out 2
       have p468 : 0 ≤ (x8_1 : Int) := of_decide_eq_true (by first | (with_reducible assumption) | assumption)
       have q468 : x8_1 < (l0.length : Int) := of_decide_eq_true (by first | (with_reducible assumption) | assumption)
       obtain ⟨ad468, e468, hx468_0, hx468_1, hx468_2⟩ := qWB HR0.out x8_1 p468 q468
       cases e468
       replace hx468_0 := (HB.out.cell (World.block_lt_of_cell? w _ hx468_0)).trans hx468_0
       replace hx468_1 := (HB.out.cell (World.block_lt_of_cell? w _ hx468_1)).trans hx468_1
       replace hx468_2 := (HB.out.cell (World.block_lt_of_cell? w _ hx468_2)).trans hx468_2
       replace p468 := eq_true p468
       replace q468 := eq_true q468
       go_wp2
       repeat (go_quiet (fail); try go_wp2)
       go_roundg k1
       case measure => have := HK1.out; omega
       case rel => exact ⟨(wrap64 (x8_1 + 1)), (by first | rfl | (simp; done) | (simp [*]; done)), H', ⟨by have := HK1.out; omega⟩, ⟨by (with_reducible repeat (first | refine qB ?_ _ | refine qD ?_ | refine qA ?_ _)); exact BK467.out⟩, ⟨bl⟩⟩
     ·rw [if_neg c6] at H
      exact absurd H (by simp)
    ·rw [if_neg c5] at H
     exact absurd H (by simp)
   ·rw [if_neg c4] at H
    have c4b0 : decide (x8_1 < (l0.length : Int)) = false := decide_eq_false c4
    clear c4
    obtain rfl := Option.some.inj H
    go_wp2
    repeat (go_quiet (fail); try go_wp2)
    go_ret
    exact ⟨by first | rfl | (simp [qJ, qI] <;> rfl) | (simp [*, qJ, qI] <;> rfl), bl⟩
end Go.Proofs.YtbpfhpjbeomfcaaDoor.P
namespace Go.Proofs.YtbpfhpjbeomfcaaDoor.P
open Go.RowKit Go.Proofs.YtbpfhpjbeomfcaaDoorW.PrintWords Go.Proofs.YtbpfhpjbeomfcaaDoorW.PrintLast Go.Proofs.YtbpfhpjbeomfcaaDoorW.PrintMore
attribute [local go_sem] qy qw qFA qEA qn qm qx qv
set_option linter.unusedVariables false
set_option linter.unusedSimpArgs false
def qg.f (k : Nat) (l0 : List (S27)) (a1_0 : Int) (a1_1 : Int) (a1_2 : Int) : Option (Bool) := (qY.f k l0 a1_0 a1_1 a1_2).bind fun t470 => (some (decide (t470 ≥ 0)))
set_option maxHeartbeats 8000000 in
set_option maxRecDepth 100000 in
theorem qg.calls (k : Nat) (A0 : Option Addr) (c0 : Nat) (l0 : List (S27)) (a1_0 : Int) (a1_1 : Int) (a1_2 : Int) (r : Bool) (w : World) (hr0 : Kd.C k27 w A0 l0.length l0) (hc0 : l0.length ≤ c0) (h : qg.f k l0 a1_0 a1_1 a1_2 = some r) :
  Calls Tryd.prog 91 #[.slice A0 l0.length c0, .agg #[.int .i64 a1_0, .int .i64 a1_1, .int .i64 a1_2]] w fun e w' => e = .returned (.bool r) ∧ Below w.heap.size w w' := by
 have hu27 := Tryd.underlying27
 have HR0 := Aside0.mk hr0
 have HC0 := Aside0.mk hc0
 clear hr0 hc0
 have HB := Aside0.mk (Below.refl w.heap.size w)
 have H : ((qY.f k l0 a1_0 a1_1 a1_2).bind fun t470 => (some (decide (t470 ≥ 0)))) = some r := h
 clear h
 replace H := Option.bind_eq_some_iff.mp H
 obtain ⟨t470, A30, H⟩ := H
 replace H : (some (decide (t470 ≥ 0))) = some r := H
 have A3 := Aside0.mk A30
 clear A30
 obtain rfl := Option.some.inj H
 go_enter Tryd.func91, Tryd.ntmps91
 go_wp2_with (first | ((with_reducible refine qb (N := 3) rfl ?_); refine qZ ?hg (N := 3) ?hd (cs := #[.int .i64 a1_0, .int .i64 a1_1, .int .i64 a1_2]) (t := 27) ?hr ?_; (case hd => rfl); (case hg => rfl); (case hr => first | (go_simp; done) | (go_simp; rfl)); intro gb469 hg w4 hbox hb; have n0_ := Aside0.mk (qG bl hb); have n1_ := Aside0.mk (hbox); have n2_ := Aside0.mk ((gg hg)); have n3_ := Aside0.mk ((gg hg)); clear HB; have HB := n0_; have BK469 := n1_; have GW469 := n2_; have GE469 := n3_; clear n0_ n1_ n2_ n3_; clear hb hbox hg; have hcz5_0 := bc BK469 0; have hcz5_1 := bc BK469 1; have hcz5_2 := bc BK469 2; have hfz5_0 := qC BK469.out 0; have hfz5_1 := qC BK469.out 1; have hfz5_2 := qC BK469.out 2) | ((with_reducible refine qa (f := 110) rfl ?_); refine qr (some 7) rfl rfl Tryd.func110 (by kernel_rfl) rfl #[.slice A0 l0.length c0, .agg #[.int .i64 a1_0, .int .i64 a1_1, .int .i64 a1_2]] rfl (by (try simp only [List.map_toArray, List.map_cons, List.map_nil]); first | done | rfl | (simp only [List.length_drop, List.length_take]; rfl)) ?_; (with_reducible refine (qY.calls k _ _ l0 a1_0 a1_1 a1_2 t470 _ ?side1 ?side2 A3.out).mono ?_); (case side1 => repeat (first | exact (Kd.qQA HR0.out HB.out) | (with_reducible refine Kd.qIA ?_ _) | (with_reducible refine Kd.qHA ?_ _) | (with_reducible refine Kd.qSA ?_))); (case side2 => exact HC0.out); rintro e w6 ⟨rfl, hb⟩; refine ⟨_, rfl, ?_⟩; have n0_ := Aside0.mk (bb BK469 hb); have n1_ := Aside0.mk (qG bl hb); clear BK469; clear HB; have BK469 := n0_; have HB := n1_; clear n0_ n1_; (try clear hb); (try clear hb2); (try clear hk); (try clear hi)))
 go_ret
 exact ⟨by first | rfl | (simp [qJ, qI] <;> rfl) | (simp [*, qJ, qI] <;> rfl), bl⟩
end Go.Proofs.YtbpfhpjbeomfcaaDoor.P
namespace Go.Proofs.YtbpfhpjbeomfcaaDoor
open Go.RowKit Go.Proofs.YtbpfhpjbeomfcaaDoorW.PrintWords Go.Proofs.YtbpfhpjbeomfcaaDoorW.PrintLast
set_option linter.unusedVariables false
set_option linter.unusedSimpArgs false
def KeptUp (w w' : World) (v : Value) (n : Nat) : Prop := ∀ (p : Addr) (u : Value), w.cell? p = some u → (some p.block = v.ownBlock → p.off < n) → w'.cell? p = some u
theorem cell_of_block {w w' : World} {p : Addr} (h : w'.heap[p.block]? = w.heap[p.block]?) : w'.cell? p = w.cell? p := by unfold World.cell?; rw [h]
section
variable {P : Program} (w : World)
theorem append_kept (base : Nat) (t ty e : TypeId) (i : TypeInfo) (z : Value) (size bytes : Nat) (ht : P.underlying t = some (.slice e)) (hi : P.info? e = some i) (hz : i.zero = some z)
  (hsize : i.size = size) (hby : i.bytes = bytes) (hzs : z.cells.size = size) (hsz : 0 < size)
  (v : Value) (n : Nat) (xs : List Value) (hown : w.ownsRow base e size v n xs)
  (a : Addr) (m c : Nat) (news : List Value) (hl : news.length = m * size) (hnews : ∀ j u, news[j]? = some u → w.cell? (a.add j) = some u) (h1 : ∀ u ∈ news, u.oneCell' = true)
  (h63 : n + m ≤ maxLen) (hbytes : (n + m) * bytes ≤ 140737488355328) (hbase : base ≤ w.heap.size) {v' : Value} {w' : World}
  (hr : (Builtin.append_ #[t, t] ty #[v, .slice (some a) m c]).run P w = .ok v' w') : KeptUp w w' v (n * size) := by
 obtain ⟨v2, w2, hr2, hown2, hg2, _, _⟩ := run_append_own_at (P := P) w base t ty e i z size bytes ht hi hz hsize hby hzs hsz v n xs hown a m c news hl hnews h1 h63 hbytes hbase
 rw [hr] at hr2
 injection hr2 with e1 e2
 subst e1
 subst e2
 intro p u hp hb
 have hlt := World.block_lt_of_cell? w p hp
 by_cases hpb : some p.block = v.ownBlock
 ·have hoff := hb hpb
  rcases hown.2 with ⟨rfl, _⟩ | ⟨g, cap, cur, rfl, hbg, hg, hnc, hcm, hcs, htake⟩
  ·cases hpb
  ·obtain rfl : p.block = g := Option.some.inj hpb
   subst hsize
   have hsmall : n + m ≤ 9223372036854775807 := by simp only [maxLen] at h63; omega
   by_cases hroom : n + m ≤ cap
   ·have hfit : n * i.size + news.length ≤ cur.size := by rw [hl, hcs, ← Nat.add_mul]; exact Nat.mul_le_mul_right _ hroom
    have hr3 := run_append_room (P := P) w t ty e i ht hi p.block n cap cur hg a m c news hl hnews h1 hroom hfit
    rw [hr] at hr3
    injection hr3 with e1 e2
    subst e1
    rcases hown2.2 with ⟨h3, _⟩ | ⟨g', cap', cur', he, _, hg', _, _, _, htake'⟩
    ·cases h3
    ·injection he with he1 he2 he3
     injection he1 with he1
     injection he1 with he1
     subst he1
     unfold World.cell? at hp ⊢
     rw [hg] at hp
     rw [hg']
     simp only at hp ⊢
     split at hp
     ·cases hp
     ·rename_i hs
      rw [if_neg hs]
      have q1 : xs[p.off]? = some u := by
       rw [← htake, List.getElem?_take, if_pos hoff, Array.getElem?_toList]; exact hp
      have q2 : (cur'.toList.take ((n + m) * i.size))[p.off]? = some u := by
       rw [htake', List.getElem?_append_left (by have := (List.getElem?_eq_some_iff.1 q1).1; exact this)]; exact q1
      rw [List.getElem?_take] at q2
      split at q2
      ·rwa [Array.getElem?_toList] at q2
      ·cases q2
   ·have holds : ∀ j u, xs[j]? = some u → w.cell? ((⟨p.block, 0, none⟩ : Addr).add j) = some u := hown.cells (g := p.block) rfl
    subst hby
    have hr3 := run_append_grow (P := P) w t ty e i z ht hi hz ⟨p.block, 0, none⟩ n cap xs hown.1 holds a m c news hl hnews (by omega) (by omega) (growslice_fits (by omega) hbytes)
    rw [hr] at hr3
    injection hr3 with e1 e2
    subst e2
    refine (cell_of_block ?_).trans hp
    exact heap_alloc_old w.drew _ hlt
 ·exact (cell_of_block (hg2.block p.block hlt hpb)).trans hp
end
section
variable {P : Program} {ops : Array Oper} {o : Oper} {a : Act} {Q : Exit → Act → World → Prop} {Kc : Act → World → Prop} {α : Type}
theorem qdA (d : Kd α) {Rr : α → List Value → Prop} {w0 W : World} (base : Nat) (hw : Region.wanted o (yielded ops a.tmps) = true) (s x : Operand) (t e : TypeId) (z : Value) (bytes : Nat)
  (ho : o.op = .call { callee := .builtin .append, args := #[s, x], argTypes := #[t, t] })
  (ht : P.underlying t = some (.slice e)) (hinfo : (P.info? e).map (fun i => (i.zero, i.size, i.bytes)) = some (some z, d.sz, bytes)) (hz : z.cells.size = d.sz) (hs0 : 0 < d.sz) (hb0 : 0 < bytes)
  (v : Value) (xs ys : List α) (A : Option Addr) (m c : Nat) (ok okp : Nat → Prop) (hs : a.eval s = v) (hx : a.eval x = .slice A m c)
  (HO : d.R e W base ok v xs) (HR : ReadsRow Rr d.sz W A m ys) (hKM : ∀ x cs, Rr x cs → d.M W base okp x cs) (hokp : ∀ k, okp k → ok k ∧ some k ≠ v.ownBlock) (hfresh : ∀ k, W.heap.size ≤ k → ok k)
  (HB : Below base w0 W) (hbase : base ≤ W.heap.size) (hl : (xs.length + m) * bytes ≤ 140737488355328)
  (h : ∀ v1 w1, d.R e w1 base ok v1 (xs ++ ys) → Below base w0 w1 → W.grownBy w1 v.ownBlock → (v1.ownBlock = v.ownBlock ∨ ∃ b, v1.ownBlock = some b ∧ W.heap.size ≤ b) → KeptUp W w1 v (xs.length * d.sz) → Kc (a.put o.dst v1) w1) :
  if Region.wanted o (yielded ops a.tmps) = true then Oper.wp P o a W Kc Q else Kc (a.put o.dst undef) W := by
 have main := Kd.R_append_rows_step (Q := Q) (Kc := fun a' w1 => ∃ v1, a' = a.put o.dst v1 ∧ (KeptUp W w1 v (xs.length * d.sz) → Kc (a.put o.dst v1) w1)) d base hw s x t e z bytes ho ht hinfo hz hs0 hb0 v xs ys A m c ok okp hs hx HO HR hKM hokp hfresh HB hbase hl
  (fun v1 w1 g1 g2 g3 g4 => ⟨v1, rfl, fun hk => h v1 w1 g1 g2 g3 g4 hk⟩)
 rw [if_pos hw] at main ⊢
 obtain ⟨i0, hi, hzz⟩ := Option.map_eq_some_iff.1 hinfo
 simp only [Prod.mk.injEq] at hzz
 obtain ⟨hz0, hz1, hz2⟩ := hzz
 have hm : ys.length = m := HR.1
 have hlen : xs.length + m ≤ 140737488355328 := Nat.le_trans (Nat.le_mul_of_pos_right _ hb0) hl
 obtain ⟨hok, inner, hown, hr⟩ := HO
 have hkeep : ∀ v1 w1, (Builtin.append_ #[t, t] o.type #[v, .slice A m c]).run P W = .ok v1 w1 → KeptUp W w1 v (xs.length * d.sz) := by
  intro v1 w1 hrun
  rcases A with _ | ad
  ·have h0 : m = 0 := by
    rcases Nat.eq_zero_or_pos m with h0 | h0
    ·exact h0
    ·obtain ⟨ad, h, _⟩ := HR.2.2 h0
     cases h
   subst h0
   have e0 : (Builtin.append_ #[t, t] o.type #[v, .slice none 0 c]).run P W = .ok v W := by
    rcases hown.2 with ⟨rfl, hn⟩ | ⟨g, cap, cur, rfl, _, _, hnc, _⟩
    ·simp [Builtin.append_, run_underlying ht, sizeOf, typeInfo, hi, Builtin.lenOf, Builtin.firstCells]
    ·simp [Builtin.append_, run_underlying ht, sizeOf, typeInfo, hi, Builtin.lenOf, Builtin.firstCells, hnc, storeCells]
   rw [hrun] at e0
   injection e0 with _ e2
   subst e2
   exact fun p u hp _ => hp
  ·obtain ⟨news, hnr, hnc⟩ := ReadsRow.qwB HR
   have hnM : Reps (d.M W base okp) d.sz ys news := hnr.imp_ (fun p c hp => hKM p c hp)
   have hone : ∀ u ∈ news, u.oneCell' = true := by
    intro u hu
    obtain ⟨q, hq, rfl⟩ := List.mem_iff_getElem.1 hu
    have hql : q / d.sz < ys.length := by
     rw [Nat.div_lt_iff_lt_mul hs0]
     rw [← hnM.1]
     exact hq
    have hc := hnM.2 (q / d.sz) _ (List.getElem?_eq_getElem hql)
    refine d.K_one (d.K_of_M hc) _ ?_
    rw [List.mem_iff_getElem?]
    refine ⟨q % d.sz, ?_⟩
    rw [List.getElem?_take, if_pos (Nat.mod_lt _ hs0), List.getElem?_drop, Nat.mul_comm, Nat.div_add_mod, List.getElem?_eq_getElem hq]
   exact append_kept (P := P) W base t o.type e i0 z d.sz bytes ht hi hz0 hz1 hz2 hz hs0 v xs.length inner hown ad m c news (by rw [hnM.1, hm]) hnc hone (by simp only [maxLen]; omega) hl hbase hrun
 clear hr
 unfold Oper.wp execOp at main ⊢
 cases hrun : (Builtin.append_ #[t, t] o.type #[v, .slice A m c]).run P W with
 | ok v1 w1 =>
  have hk := hkeep v1 w1 hrun
  simp only [ho, resolve, invoke, builtin, Sem.run_bind, Sem.run_pure, Result.andThen_ok, List.map_toArray, List.map_cons, List.map_nil, hs, hx, hrun] at main ⊢
  obtain ⟨v2, e2, h2⟩ := main
  have h3 := h2 hk
  rw [← e2] at h3
  exact h3
 | halt e w1 =>
  simp only [ho, resolve, invoke, builtin, Sem.run_bind, Sem.run_pure, Result.andThen_ok, List.map_toArray, List.map_cons, List.map_nil, hs, hx, hrun, Result.andThen] at main ⊢
  unfold Oper.upon at main ⊢
  cases e <;> exact main
theorem R_off1 (d : Kd α) {e : Nat} {W : World} {base : Nat} {ok : Nat → Prop} {ad : Addr} {n c : Nat} {xs : List α} (h : d.R e W base ok (.slice (some ad) n c) xs) (hs : d.sz = 1) (i : Int) (h0 : 0 ≤ i) (h1 : i < (xs.length : Int)) : (ad.add i.toNat).off < xs.length * d.sz := by
 obtain ⟨_, inner, hown, _⟩ := h
 rcases hown.2 with ⟨h3, _⟩ | ⟨g, cap, cur, he, _⟩
 ·cases h3
 ·injection he with he1
  injection he1 with he1
  subst he1
  rw [hs, Nat.mul_one]
  show ((⟨g, 0, none⟩ : Addr).add i.toNat).off < _
  rw [add_plain]
  show i.toNat < xs.length
  omega
theorem R_apart1 {β : Type} (d : Kd α) (d' : Kd β) {e e' : Nat} {W : World} {base base' : Nat} {ok ok' : Nat → Prop} {ad : Addr} {n c : Nat} {v : Value} {xs : List α} {ys : List β} (h : d.R e W base ok (.slice (some ad) n c) xs) (h' : d'.R e' W base' ok' v ys) (hne : e ≠ e') (i : Nat) :
  some (ad.add i).block ≠ v.ownBlock := by
 obtain ⟨in1, ho1⟩ := Kd.R_own h
 obtain ⟨in2, ho2⟩ := Kd.R_own h'
 rw [qS]
 rcases own_type_ne ho1 ho2 hne with h3 | h3
 ·cases h3
 ·exact h3
end
end Go.Proofs.YtbpfhpjbeomfcaaDoor
namespace Go.Proofs.YtbpfhpjbeomfcaaDoor.P
open Go.RowKit Go.Proofs.YtbpfhpjbeomfcaaDoorW.PrintWords Go.Proofs.YtbpfhpjbeomfcaaDoorW.PrintLast Go.Proofs.YtbpfhpjbeomfcaaDoorW.PrintMore
attribute [local go_sem] qy qw qFA qEA qn qm qx qv
set_option linter.unusedVariables false
set_option linter.unusedSimpArgs false
mutual
def qN.l0 : Nat → List (S27) → List ByteArray → Int → List ByteArray → Option ((List (S27)) × List ByteArray × Bool)
 | 0, _, _, _, _ => none
 | k + 1, x9, x10, x11, x19 => if x11 < (x9.length : Int) then (qN.l1 k x9 x10 x11 x19 0) else (some (x9, x10, decide ((x9.length : Int) ≤ 400)))
def qN.l1 : Nat → List (S27) → List ByteArray → Int → List ByteArray → Int → Option ((List (S27)) × List ByteArray × Bool)
 | 0, _, _, _, _, _ => none
 | k + 1, x9, x10, x11, x19, x32 => if x32 < 4 then (if 0 ≤ x11 then (if x11 < (x9.length : Int) then (if 0 ≤ x32 then ((qAA.f k x19 ((qX x9 x11).f0) ((qX x9 x11).f1) ((qX x9 x11).f2) (bt (⟨#[110, 101, 115, 119]⟩ : ByteArray) x32)).bind fun bt483 => (if bt483.2.2.2 = true then ((qg.f k x9 bt483.1 bt483.2.1 bt483.2.2.1).bind fun t488 => (if t488 = true then (qN.l1 k x9 x10 x11 x19 (wrap64 (x32 + 1))) else ((some (([(⟨bt483.1, bt483.2.1, bt483.2.2.1⟩ : S27)] : List (S27)) : List (S27))).bind fun y489 => (if x9.length + y489.length < 5864062014805 then (if x11 < (x10.length : Int) then (if x32 ≤ (wrap64 (x32 + 1)) then (if (wrap64 (x32 + 1)) ≤ 4 then (if (rdOf ByteArray.empty x10 x11).size + ((⟨#[110, 101, 115, 119]⟩ : ByteArray).extract (x32 : Int).toNat ((wrap64 (x32 + 1)) : Int).toNat).size ≤ 9223372036854775807 then ((some (([(rdOf ByteArray.empty x10 x11) ++ ((⟨#[110, 101, 115, 119]⟩ : ByteArray).extract (x32 : Int).toNat ((wrap64 (x32 + 1)) : Int).toNat)] : List ByteArray) : List ByteArray)).bind fun y496 => (if x10.length + y496.length < 8796093022208 then (qN.l1 k (x9 ++ y489) (x10 ++ y496) x11 x19 (wrap64 (x32 + 1))) else (none))) else (none)) else (none)) else (none)) else (none)) else (none))))) else (qN.l1 k x9 x10 x11 x19 (wrap64 (x32 + 1))))) else (none)) else (none)) else (none)) else (qN.l0 k x9 x10 (wrap64 (x11 + 1)) x19)
end
def qN.f (k : Nat) (a0 : ByteArray) (a1_0 : Int) (a1_1 : Int) (a1_2 : Int) : Option ((List (S27)) × List ByteArray × Bool) := (qVA.f k a0 a1_0 a1_1 a1_2).bind fun bt472 => (if bt472.2 = true then (qN.l0 k (([(⟨a1_0, a1_1, a1_2⟩ : S27)] : List (S27))) (([(⟨#[]⟩ : ByteArray)] : List ByteArray)) 0 bt472.1) else (some (([] : List (S27)), ([] : List ByteArray), false)))
def qN.T11 : Bool × List (List Nat × List Nat) := (true, [([], []), ([], []), ([], []), ([1, 2], [1, 2]), ([3], [3]), ([], []), ([5], [5]), ([0, 4, 6], [0, 4, 6]), ([7], [7]), ([8], [8]), ([8], [8]), ([], []), ([11, 9, 7, 0, 1, 2, 3, 4, 5, 6, 7, 8, 9, 11], [9, 11]), ([10, 12, 0, 1, 2, 3, 4, 5, 6, 7, 8, 9, 10, 11, 12], [10])])
def qN.B11 : List Nat := [0, 0, 0, 6, 14, 0, 32, 127, 255, 511, 511, 0, 3071, 8191]
theorem qN.tab11 : rtab .any (opsOf Tryd.f66 11) = qN.T11 := by kernel_rfl
theorem qN.bits11 : waitsOk qN.T11.2 qN.B11 = true := by kernel_rfl
def qN.T13 : Bool × List (List Nat × List Nat) := (true, [([], []), ([], []), ([1], [1]), ([0, 2], [0, 2]), ([], []), ([], []), ([], []), ([5, 6], [5, 6]), ([7], [7]), ([], []), ([], []), ([10], [10]), ([9, 11], [9, 11]), ([8, 12], [8, 12]), ([13], [13]), ([4, 14, 3], [4, 14]), ([3, 15, 0, 1, 2, 3], [0, 3]), ([15, 16, 0, 1, 2, 3, 4, 5, 6, 7, 8, 9, 10, 11, 12, 13, 14, 15, 16], [4, 5, 15])])
def qN.B13 : List Nat := [0, 0, 2, 7, 0, 0, 0, 96, 224, 0, 0, 1024, 3584, 8160, 16352, 32767, 65535, 131071]
theorem qN.tab13 : rtab .any (opsOf Tryd.f66 13) = qN.T13 := by kernel_rfl
theorem qN.bits13 : waitsOk qN.T13.2 qN.B13 = true := by kernel_rfl
set_option maxHeartbeats 8000000 in
set_option maxRecDepth 100000 in
theorem qN.calls (k : Nat) (a0 : ByteArray) (a1_0 : Int) (a1_1 : Int) (a1_2 : Int) (r1 : List (S27)) (r2 : List ByteArray) (r3 : Bool) (w : World) (hL : Laid w) (h : qN.f k a0 a1_0 a1_1 a1_2 = some (r1, r2, r3)) :
  Calls Tryd.prog 66 #[.string a0, .agg #[.int .i64 a1_0, .int .i64 a1_1, .int .i64 a1_2]] w fun e w' => ∃ v0_ v1_ : Value, e = .returned (.tuple #[v0_, v1_, .bool r3]) ∧ Kd.R k27 27 w' w.heap.size (fun _ => True) v0_ r1 ∧ Kd.R Kd.string 9 w' w.heap.size (fun _ => True) v1_ r2 ∧ Below w.heap.size w w' := by
 have hu27 := Tryd.underlying27
 have HLD := Aside0.mk hL
 clear hL
 have HB := Aside0.mk (Below.refl w.heap.size w)
 have H : ((qVA.f k a0 a1_0 a1_1 a1_2).bind fun bt472 => (if bt472.2 = true then (qN.l0 k (([(⟨a1_0, a1_1, a1_2⟩ : S27)] : List (S27))) (([(⟨#[]⟩ : ByteArray)] : List ByteArray)) 0 bt472.1) else (some (([] : List (S27)), ([] : List ByteArray), false)))) = some (r1, r2, r3) := h
 clear h
 replace H := Option.bind_eq_some_iff.mp H
 obtain ⟨⟨t472, t475⟩, A30, H⟩ := H
 replace H : (if t475 = true then (qN.l0 k (([(⟨a1_0, a1_1, a1_2⟩ : S27)] : List (S27))) (([(⟨#[]⟩ : ByteArray)] : List ByteArray)) 0 t472) else (some (([] : List (S27)), ([] : List ByteArray), false))) = some (r1, r2, r3) := H
 have A3 := Aside0.mk A30
 clear A30
 by_cases c4 : t475 = true
 ·subst c4
  have H1 : (qN.l0 k (([(⟨a1_0, a1_1, a1_2⟩ : S27)] : List (S27))) (([(⟨#[]⟩ : ByteArray)] : List ByteArray)) 0 t472) = some (r1, r2, r3) := by rw [if_pos rfl] at H; exact H
  clear H
  have H := H1
  clear H1
  obtain ⟨y476, hy476⟩ : ∃ y_ : List (S27), y_ = (([(⟨a1_0, a1_1, a1_2⟩ : S27)] : List (S27))) := ⟨_, rfl⟩
  replace H : (qN.l0 k y476 (([(⟨#[]⟩ : ByteArray)] : List ByteArray)) 0 t472) = some (r1, r2, r3) := by first | (rw [hy476]; with_reducible exact H) | (have H2_ := (Option.bind_some _ _).symm.trans H; rw [hy476]; with_reducible exact H2_) | (have H2_ := (Option.bind_some _ _).symm.trans H; with_reducible exact H2_) | with_reducible exact H | (rw [hy476]; exact H) | exact H
  have Ny476 := Aside0.mk hy476
  clear hy476
  obtain ⟨y479, hy479⟩ : ∃ y_ : List ByteArray, y_ = (([(⟨#[]⟩ : ByteArray)] : List ByteArray)) := ⟨_, rfl⟩
  replace H : (qN.l0 k y476 y479 0 t472) = some (r1, r2, r3) := by first | (rw [hy479]; with_reducible exact H) | (have H2_ := (Option.bind_some _ _).symm.trans H; rw [hy479]; with_reducible exact H2_) | (have H2_ := (Option.bind_some _ _).symm.trans H; with_reducible exact H2_) | with_reducible exact H | (rw [hy479]; exact H) | exact H
  have Ny479 := Aside0.mk hy479
  clear hy479
  have H' := Aside0.mk H
  clear H
  go_enter Tryd.func66, Tryd.ntmps66
  go_wp2_with (first | ((with_reducible refine qb (N := 3) rfl ?_); refine qZ ?hg (N := 3) ?hd (cs := #[.int .i64 a1_0, .int .i64 a1_1, .int .i64 a1_2]) (t := 27) ?hr ?_; (case hd => rfl); (case hg => rfl); (case hr => first | (go_simp; done) | (go_simp; rfl)); intro gb471 hg w5 hbox hb; have n0_ := Aside0.mk (qG bl hb); have n1_ := Aside0.mk (hbox); have n2_ := Aside0.mk ((gg hg)); have n3_ := Aside0.mk ((gg hg)); clear HB; have HB := n0_; have BK471 := n1_; have GW471 := n2_; have GE471 := n3_; clear n0_ n1_ n2_ n3_; clear hb hbox hg; have hcz6_0 := bc BK471 0; have hcz6_1 := bc BK471 1; have hcz6_2 := bc BK471 2; have hfz6_0 := qC BK471.out 0; have hfz6_1 := qC BK471.out 1; have hfz6_2 := qC BK471.out 2) | ((with_reducible refine qa (f := 58) rfl ?_); refine qr (some 18) rfl rfl Tryd.func58 (by kernel_rfl) rfl #[.string a0, .agg #[.int .i64 a1_0, .int .i64 a1_1, .int .i64 a1_2]] rfl (by (try simp only [List.map_toArray, List.map_cons, List.map_nil]); first | done | rfl | (simp only [List.length_drop, List.length_take]; rfl)) ?_; (with_reducible refine (qVA.calls k a0 a1_0 a1_1 a1_2 t472 true _ ?side1 A3.out).mono ?_); (case side1 => first | exact HLD.out | exact Laid.below HLD.out (by repeat (first | (with_reducible first | exact HB.out | apply qj | apply qk | apply qi | refine qWA ?_ (Aside0.out (by with_reducible assumption))) | exact HB.out))); rintro e w7 ⟨v473, rfl, ho0, hb⟩; refine ⟨_, rfl, ?_⟩; have n0_ := Aside0.mk (Kd.qu ho0 (qe bl)); have n1_ := Aside0.mk (bb BK471 hb); have n2_ := Aside0.mk (qG bl hb); clear BK471; clear HB; have HO474 := n0_; have BK471 := n1_; have HB := n2_; clear n0_ n1_ n2_; (try clear hb); (try clear hb2); (try clear hk); (try clear hi); (try clear ho0); have hcz8_0 := bc BK471 0; have hcz8_1 := bc BK471 1; have hcz8_2 := bc BK471 2; have hfz8_0 := qC BK471.out 0; have hfz8_1 := qC BK471.out 1; have hfz8_2 := qC BK471.out 2) | ((with_reducible refine qb (N := 24) rfl ?_); refine Kd.R_lit k27 _ 27 ?hg (N := 24) ?hd (xs := ([(⟨a1_0, a1_1, a1_2⟩ : S27)] : List (S27))) (inner := [.int .i64 a1_0, .int .i64 a1_1, .int .i64 a1_2]) (ok := fun _ => True) (okp := fun _ => True) ?hr ?hp (fun _ hk => hk) trivial (Below.refl _ _) (Nat.le_refl _) (by simp) ?_; (case hd => rfl); (case hg => rfl); (case hr => first | (go_simp; done) | (go_simp; rfl)); (case hp => exact (Reps.c3 (show Kd.M k27 _ _ _ (⟨a1_0, a1_1, a1_2⟩ : S27) [.int .i64 a1_0, .int .i64 a1_1, .int .i64 a1_2] from (qhB _ _ _ (⟨a1_0, a1_1, a1_2⟩ : S27) )) (Reps.none _ _))); intro v477 w9 ho10 hb hg_ hnew_; clear hg_ hnew_; (first | rw [← Ny476.out] at ho10 | (simp only [Int.reduceToNat] at ho10; rw [← Ny476.out] at ho10)); have n0_ := Aside0.mk (Kd.qc (by (with_reducible repeat (first | apply Kd.qF | apply Kd.qE | apply Kd.qH)); exact HO474.out) hb); have n1_ := Aside0.mk (Kd.qu (Kd.qHB ho10 (g := gb471) (o := .cells #[.int .i64 a1_0, .int .i64 a1_1, .int .i64 a1_2] 27 (0, 0)) (by (with_reducible repeat (first | refine qB ?_ _ | refine qD ?_ | refine qA ?_ _)); exact BK471.out)) (qe bl)); have n2_ := Aside0.mk (bb BK471 hb); have n3_ := Aside0.mk (qG bl hb); clear HO474; clear BK471; clear HB; have HO474 := n0_; have HO478 := n1_; have BK471 := n2_; have HB := n3_; clear n0_ n1_ n2_ n3_; clear hb ho10) | ((with_reducible refine qb (N := 25) rfl ?_); refine Kd.R_lit Kd.string _ 9 ?hg (N := 25) ?hd (xs := ([(⟨#[]⟩ : ByteArray)] : List ByteArray)) (inner := [.string (⟨#[]⟩ : ByteArray)]) (ok := fun _ => True) (okp := fun _ => True) ?hr ?hp (fun _ hk => hk) trivial (Below.refl _ _) (Nat.le_refl _) (by simp) ?_; (case hd => rfl); (case hg => rfl); (case hr => first | (go_simp; done) | (go_simp; rfl)); (case hp => exact (Reps.one (show Kd.M Kd.string _ _ _ (⟨#[]⟩ : ByteArray) [.string (⟨#[]⟩ : ByteArray)] from rfl) (Reps.none _ _))); intro v480 w11 ho12 hb hg_ hnew_; clear hg_ hnew_; (first | rw [← Ny479.out] at ho12 | (simp only [Int.reduceToNat] at ho12; rw [← Ny479.out] at ho12)); have n0_ := Aside0.mk (Kd.qlA (by (with_reducible repeat (first | apply Kd.qF | apply Kd.qE | apply Kd.qH)); exact HO474.out) (Kd.qJB ho12) hb); have n1_ := Aside0.mk (Kd.qc (by (with_reducible repeat (first | apply Kd.qF | apply Kd.qE | apply Kd.qH)); exact HO478.out) hb); have n2_ := Aside0.mk (Kd.qu (Kd.qIB ho12 (Kd.R_lt (by (with_reducible repeat (first | apply Kd.qF | apply Kd.qE | apply Kd.qH)); exact HO474.out))) (qe bl)); have n3_ := Aside0.mk (bb BK471 hb); have n4_ := Aside0.mk (qG bl hb); clear HO474; clear HO478; clear BK471; clear HB; have HO474 := n0_; have HO478 := n1_; have HO481 := n2_; have BK471 := n3_; have HB := n4_; clear n0_ n1_ n2_ n3_ n4_; clear hb ho12))
  go_loopg [9, 10, 11] k (fun kq v9 v10 v11 w' => ∃ (x9_1 : List (S27)) (x10_1 : List ByteArray) (x11_1 : Int), v11 = .int .i64 x11_1 ∧ Aside0 (qN.l0 kq x9_1 x10_1 x11_1 t472 = some (r1, r2, r3)) ∧ Aside0 (kq ≤ k) ∧ Aside0 (Kd.R k27 27 w' w.heap.size (fun k_ => k_ ≠ gb471) v9 x9_1) ∧ Aside0 (Kd.R Kd.string 9 w' w.heap.size (fun k_ => some k_ ≠ (v473 : Value).ownBlock) v10 x10_1) ∧ Aside0 (Kd.R Kd.string 9 w' w.heap.size (fun k_ => some k_ ≠ (v10 : Value).ownBlock) v473 t472) ∧ Aside0 (w'.heap[gb471]? = some (.cells #[.int .i64 a1_0, .int .i64 a1_1, .int .i64 a1_2] 27 (0, 0))) ∧ Aside0 (Below w.heap.size w w'))
  case atStart => exact ⟨(y476), (y479), (0), (by first | rfl | (simp; done) | (simp [*]; done)), H', ⟨Nat.le_refl _⟩, ⟨by (with_reducible repeat (first | apply Kd.qF | apply Kd.qE | apply Kd.qH)); exact Kd.qf HO478.out (fun _ hk => hk.2)⟩, ⟨by (with_reducible repeat (first | apply Kd.qF | apply Kd.qE | apply Kd.qH)); exact Kd.qf HO481.out (fun _ hk => hk.2)⟩, ⟨by (with_reducible repeat (first | apply Kd.qF | apply Kd.qE | apply Kd.qH)); exact Kd.qf HO474.out (fun _ hk => hk.2)⟩, ⟨by (with_reducible repeat (first | refine qB ?_ _ | refine qD ?_ | refine qA ?_ _)); exact BK471.out⟩, ⟨bl⟩⟩
  case round =>
   clear H'
   try clear p2
   try clear c3
   try clear c4
   try clear c5
   try clear c6
   try clear hcz6_0
   try clear hcz6_1
   try clear hcz6_2
   try clear hcz8_0
   try clear hcz8_1
   try clear hcz8_2
   try clear hfz6_0
   try clear hfz6_1
   try clear hfz6_2
   try clear hfz8_0
   try clear hfz8_1
   try clear hfz8_2
   obtain ⟨x9_1, x10_1, x11_1, rfl, HA, HK1, HO_9, HO_10, HO_19, BK471, HB⟩ := hrel
   cases gk with
   | zero => exact absurd HA.out (by simp [qN.l0])
   | succ k1 =>
    have H := HA.out
    clear HA
    simp only [qN.l0] at H
    by_cases c13 : x11_1 < (x9_1.length : Int)
    ·rw [if_pos c13] at H
     have c13b0 : decide (x11_1 < (x9_1.length : Int)) = true := decide_eq_true c13
     clear c13
     have H' := Aside0.mk H
     clear H
     obtain ⟨Ao14, co14, eo14⟩ := Kd.ql HO_9.out
     subst eo14
     go_wp2
     go_loopg [9, 10, 32] k1 (fun kq v9 v10 v32 w' => ∃ (x9_2 : List (S27)) (x10_2 : List ByteArray) (x32_2 : Int), v32 = .int .i64 x32_2 ∧ Aside0 (qN.l1 kq x9_2 x10_2 x11_1 t472 x32_2 = some (r1, r2, r3)) ∧ Aside0 (kq ≤ k1) ∧ Aside0 (Kd.R k27 27 w' w.heap.size (fun k_ => k_ ≠ gb471) v9 x9_2) ∧ Aside0 (Kd.R Kd.string 9 w' w.heap.size (fun k_ => some k_ ≠ (v473 : Value).ownBlock) v10 x10_2) ∧ Aside0 (Kd.R Kd.string 9 w' w.heap.size (fun k_ => some k_ ≠ (v10 : Value).ownBlock) v473 t472) ∧ Aside0 (w'.heap[gb471]? = some (.cells #[.int .i64 a1_0, .int .i64 a1_1, .int .i64 a1_2] 27 (0, 0))) ∧ Aside0 (Below w.heap.size w w'))
     case atStart => exact ⟨(x9_1), (x10_1), (0), (by first | rfl | (simp; done) | (simp [*]; done)), H', ⟨Nat.le_refl _⟩, ⟨by (with_reducible repeat (first | apply Kd.qF | apply Kd.qE | apply Kd.qH)); exact HO_9.out⟩, ⟨by (with_reducible repeat (first | apply Kd.qF | apply Kd.qE | apply Kd.qH)); exact HO_10.out⟩, ⟨by (with_reducible repeat (first | apply Kd.qF | apply Kd.qE | apply Kd.qH)); exact HO_19.out⟩, ⟨by (with_reducible repeat (first | refine qB ?_ _ | refine qD ?_ | refine qA ?_ _)); exact BK471.out⟩, ⟨bl⟩⟩
     case round =>
      clear H'
      try clear c1
      try clear p2
      try clear c3
      try clear c4
      try clear c5
      try clear c6
      try clear c13
      try clear c13b0
      try clear hcz6_0
      try clear hcz6_1
      try clear hcz6_2
      try clear hcz8_0
      try clear hcz8_1
      try clear hcz8_2
      try clear hfz6_0
      try clear hfz6_1
      try clear hfz6_2
      try clear hfz8_0
      try clear hfz8_1
      try clear hfz8_2
      try clear p2
      obtain ⟨x9_2, x10_2, x32_2, rfl, HA, HK2, HO_9, HO_10, HO_19, BK471, HB⟩ := hrel
      cases gk with
      | zero => exact absurd HA.out (by simp [qN.l1])
      | succ k2 =>
       have H := HA.out
       clear HA
       simp only [qN.l1] at H
       by_cases c15 : x32_2 < 4
       ·rw [if_pos c15] at H
        have c15b0 : decide (x32_2 < 4) = true := decide_eq_true c15
        clear c15
        by_cases c16 : 0 ≤ x11_1
        ·rw [if_pos c16] at H
         have c16b0 : decide (0 ≤ x11_1) = true := decide_eq_true c16
         clear c16
         by_cases c17 : x11_1 < (x9_2.length : Int)
         ·rw [if_pos c17] at H
          have c17b0 : decide (x11_1 < (x9_2.length : Int)) = true := decide_eq_true c17
          clear c17
          by_cases c18 : 0 ≤ x32_2
          ·rw [if_pos c18] at H
           have c18b0 : decide (0 ≤ x32_2) = true := decide_eq_true c18
           clear c18
           replace H := Option.bind_eq_some_iff.mp H
           obtain ⟨⟨t483, t484, t485, t486⟩, A200, H⟩ := H
           replace H : (if t486 = true then ((qg.f k2 x9_2 t483 t484 t485).bind fun t488 => (if t488 = true then (qN.l1 k2 x9_2 x10_2 x11_1 t472 (wrap64 (x32_2 + 1))) else ((some (([(⟨t483, t484, t485⟩ : S27)] : List (S27)) : List (S27))).bind fun y489 => (if x9_2.length + y489.length < 5864062014805 then (if x11_1 < (x10_2.length : Int) then (if x32_2 ≤ (wrap64 (x32_2 + 1)) then (if (wrap64 (x32_2 + 1)) ≤ 4 then (if (rdOf ByteArray.empty x10_2 x11_1).size + ((⟨#[110, 101, 115, 119]⟩ : ByteArray).extract (x32_2 : Int).toNat ((wrap64 (x32_2 + 1)) : Int).toNat).size ≤ 9223372036854775807 then ((some (([(rdOf ByteArray.empty x10_2 x11_1) ++ ((⟨#[110, 101, 115, 119]⟩ : ByteArray).extract (x32_2 : Int).toNat ((wrap64 (x32_2 + 1)) : Int).toNat)] : List ByteArray) : List ByteArray)).bind fun y496 => (if x10_2.length + y496.length < 8796093022208 then (qN.l1 k2 (x9_2 ++ y489) (x10_2 ++ y496) x11_1 t472 (wrap64 (x32_2 + 1))) else (none))) else (none)) else (none)) else (none)) else (none)) else (none))))) else (qN.l1 k2 x9_2 x10_2 x11_1 t472 (wrap64 (x32_2 + 1)))) = some (r1, r2, r3) := H
           have A20 := Aside0.mk A200
           clear A200
           by_cases c21 : t486 = true
           ·subst c21
            have H1 : ((qg.f k2 x9_2 t483 t484 t485).bind fun t488 => (if t488 = true then (qN.l1 k2 x9_2 x10_2 x11_1 t472 (wrap64 (x32_2 + 1))) else ((some (([(⟨t483, t484, t485⟩ : S27)] : List (S27)) : List (S27))).bind fun y489 => (if x9_2.length + y489.length < 5864062014805 then (if x11_1 < (x10_2.length : Int) then (if x32_2 ≤ (wrap64 (x32_2 + 1)) then (if (wrap64 (x32_2 + 1)) ≤ 4 then (if (rdOf ByteArray.empty x10_2 x11_1).size + ((⟨#[110, 101, 115, 119]⟩ : ByteArray).extract (x32_2 : Int).toNat ((wrap64 (x32_2 + 1)) : Int).toNat).size ≤ 9223372036854775807 then ((some (([(rdOf ByteArray.empty x10_2 x11_1) ++ ((⟨#[110, 101, 115, 119]⟩ : ByteArray).extract (x32_2 : Int).toNat ((wrap64 (x32_2 + 1)) : Int).toNat)] : List ByteArray) : List ByteArray)).bind fun y496 => (if x10_2.length + y496.length < 8796093022208 then (qN.l1 k2 (x9_2 ++ y489) (x10_2 ++ y496) x11_1 t472 (wrap64 (x32_2 + 1))) else (none))) else (none)) else (none)) else (none)) else (none)) else (none))))) = some (r1, r2, r3) := by rw [if_pos rfl] at H; exact H
            clear H
            have H := H1
            clear H1
            replace H := Option.bind_eq_some_iff.mp H
            obtain ⟨t488, A220, H⟩ := H
            replace H : (if t488 = true then (qN.l1 k2 x9_2 x10_2 x11_1 t472 (wrap64 (x32_2 + 1))) else ((some (([(⟨t483, t484, t485⟩ : S27)] : List (S27)) : List (S27))).bind fun y489 => (if x9_2.length + y489.length < 5864062014805 then (if x11_1 < (x10_2.length : Int) then (if x32_2 ≤ (wrap64 (x32_2 + 1)) then (if (wrap64 (x32_2 + 1)) ≤ 4 then (if (rdOf ByteArray.empty x10_2 x11_1).size + ((⟨#[110, 101, 115, 119]⟩ : ByteArray).extract (x32_2 : Int).toNat ((wrap64 (x32_2 + 1)) : Int).toNat).size ≤ 9223372036854775807 then ((some (([(rdOf ByteArray.empty x10_2 x11_1) ++ ((⟨#[110, 101, 115, 119]⟩ : ByteArray).extract (x32_2 : Int).toNat ((wrap64 (x32_2 + 1)) : Int).toNat)] : List ByteArray) : List ByteArray)).bind fun y496 => (if x10_2.length + y496.length < 8796093022208 then (qN.l1 k2 (x9_2 ++ y489) (x10_2 ++ y496) x11_1 t472 (wrap64 (x32_2 + 1))) else (none))) else (none)) else (none)) else (none)) else (none)) else (none)))) = some (r1, r2, r3) := H
            have A22 := Aside0.mk A220
            clear A220
            by_cases c23 : t488 = true
            ·subst c23
             have H1 : (qN.l1 k2 x9_2 x10_2 x11_1 t472 (wrap64 (x32_2 + 1))) = some (r1, r2, r3) := by rw [if_pos rfl] at H; exact H
             clear H
             have H := H1
             clear H1
             have H' := Aside0.mk H
             clear H
             obtain ⟨Ao24, co24, eo24⟩ := Kd.ql HO_19.out
             subst eo24
             try go_wp2
             have n0_ := Aside0.mk (Kd.qH HO_9.out)
             have n1_ := Aside0.mk (Kd.qH HO_10.out)
             have n2_ := Aside0.mk (Kd.qH HO_19.out)
             have n3_ := Aside0.mk (qD BK471.out)
             have n4_ := Aside0.mk (qi HB.out)
             clear HO_9
             clear HO_10
             clear HO_19
             clear BK471
             clear HB
             have HO_9 := n0_
             have HO_10 := n1_
             have HO_19 := n2_
             have BK471 := n3_
             have HB := n4_
             clear n0_ n1_ n2_ n3_ n4_
             obtain ⟨Ao26, co26, eo26⟩ := Kd.ql HO_9.out
             (first | subst eo26 | (injection eo26 with f1_ f2_ f3_; have f4_ := f1_.symm; have f5_ := f3_.symm; clear f1_ f2_ f3_; subst f4_; subst f5_))
             have p482 : 0 ≤ (x11_1 : Int) := of_decide_eq_true (by first | (with_reducible assumption) | assumption)
             have q482 : x11_1 < (x9_2.length : Int) := of_decide_eq_true (by first | (with_reducible assumption) | assumption)
             obtain ⟨ad482, e482, hx482_0, hx482_1, hx482_2⟩ := qWB (Kd.qh HO_9.out).2.2 x11_1 p482 q482
             cases e482
             replace p482 := eq_true p482
             replace q482 := eq_true q482
             have p19 : 0 ≤ (x32_2 : Int) := of_decide_eq_true (by first | (with_reducible assumption) | assumption)
             have q19 : x32_2 < (4 : Int) := of_decide_eq_true (by first | (with_reducible assumption) | assumption)
             have hx19 := bt_at (⟨#[110, 101, 115, 119]⟩ : ByteArray) x32_2
             replace p19 := eq_true p19
             replace q19 := eq_true q19
             refine qsA (n := 14) (S := fun w' => w'.cell? (ad482.add ((x11_1).toNat * 3)) = some (.int .i64 ((qX x9_2 x11_1).f0)) ∧ w'.cell? ⟨(ad482.add ((x11_1).toNat * 3)).block, (ad482.add ((x11_1).toNat * 3)).off + 1, none⟩ = some (.int .i64 ((qX x9_2 x11_1).f1)) ∧ w'.cell? ⟨(ad482.add ((x11_1).toNat * 3)).block, (ad482.add ((x11_1).toNat * 3)).off + 2, none⟩ = some (.int .i64 ((qX x9_2 x11_1).f2))) (ds := []) #[false, false, false, false, false, false, false, false, false, false, false, false, false, false] (by kernel_rfl) rfl rfl ⟨hx482_0, hx482_1, hx482_2⟩ (fun hHeld => ?_); refine qTA qN.tab11 qN.bits11 (fun HT_ HW_ => ?_)
             generalize wr.drew = w25 at HO_9 HO_10 HO_19 BK471 HB hx482_0 hx482_1 hx482_2 hHeld ⊢
             refine pS (i := 0) (N := some 36) #[true, false, false, false, false, false, false, false, false, false, false, false, false, false] HT_ ?_
             refine pS (i := 1) (N := some 37) #[true, true, false, false, false, false, false, false, false, false, false, false, false, false] HT_ ?_
             refine pS (i := 2) (N := some 38) #[true, true, true, false, false, false, false, false, false, false, false, false, false, false] HT_ ?_
             refine pS (i := 3) (N := some 39) #[true, true, true, true, false, false, false, false, false, false, false, false, false, false] HT_ ?_
             refine pS (i := 5) (N := some 41) #[true, true, true, true, false, true, false, false, false, false, false, false, false, false] HT_ ?_
             refine tS (i := 4) (N := some 40) #[true, true, true, true, true, true, false, false, false, false, false, false, false, false] HT_ HW_ hHeld ?_
             refine tS (i := 6) (N := some 42) #[true, true, true, true, true, true, true, false, false, false, false, false, false, false] HT_ HW_ hHeld ?_
             refine join_ (σ := Nat) 2 #[true, true, true, true, true, true, true, true, true, true, true, true, false, false] (fun s_ => [(43, .tuple #[.agg #[.int .i64 t483, .int .i64 t484, .int .i64 t485], .bool true]), (13, .pointer (some ⟨s_, 0, none⟩)), (35, .tuple #[.agg #[.int .i64 t483, .int .i64 t484, .int .i64 t485], .bool true]), (44, .agg #[.int .i64 t483, .int .i64 t484, .int .i64 t485]), (45, .bool true)]) (fun s_ w' => (w'.cell? (ad482.add ((x11_1).toNat * 3)) = some (.int .i64 ((qX x9_2 x11_1).f0)) ∧ w'.cell? ⟨(ad482.add ((x11_1).toNat * 3)).block, (ad482.add ((x11_1).toNat * 3)).off + 1, none⟩ = some (.int .i64 ((qX x9_2 x11_1).f1)) ∧ w'.cell? ⟨(ad482.add ((x11_1).toNat * 3)).block, (ad482.add ((x11_1).toNat * 3)).off + 2, none⟩ = some (.int .i64 ((qX x9_2 x11_1).f2))) ∧ (Kd.R Kd.string 9 w' w.heap.size (fun k_ => some k_ ≠ (.slice Ao24 t472.length co24 : Value).ownBlock) u10 x10_2) ∧ (Kd.R Kd.string 9 w' w.heap.size (fun k_ => some k_ ≠ (u10 : Value).ownBlock) (.slice Ao24 t472.length co24) t472) ∧ (Kd.R k27 27 w' w.heap.size (fun k_ => k_ ≠ gb471 ∧ k_ ≠ s_) (.slice (some ad482) x9_2.length co26) x9_2) ∧ (w'.heap[gb471]? = some (.cells #[.int .i64 a1_0, .int .i64 a1_1, .int .i64 a1_2] 27 (0, 0))) ∧ (w'.heap[s_]? = some (.cells #[.int .i64 0, .int .i64 0, .int .i64 0] 27 (0, 0))) ∧ (w.heap.size ≤ s_) ∧ (w.heap.size ≤ s_) ∧ (gb471 ≠ s_) ∧ (s_ ≠ gb471) ∧ (Below w.heap.size w w')) ?_ ?_
             rotate_left
             ·intro hCont
              refine two_ (i := 7) (j := 11) (Ni := some 43) (Nj := some 13) #[true, true, true, true, true, true, true, true, false, false, false, false, false, false] #[true, true, true, true, true, true, true, false, false, false, false, true, false, false] rfl rfl rfl rfl (qeB HT_.out (by kernel_rfl)) (by decide) (by decide) (fun K hK => ?_) (fun K hK => ?_)
              ·skip
               refine goes_ Tryd.func62 (by kernel_rfl) rfl #[.slice Ao24 t472.length co24, .agg #[.int .i64 ((qX x9_2 x11_1).f0), .int .i64 ((qX x9_2 x11_1).f1), .int .i64 ((qX x9_2 x11_1).f2)], .int .u8 (bt (⟨#[110, 101, 115, 119]⟩ : ByteArray) x32_2)] (by rfl) rfl rfl (by (try simp only [List.map_toArray, List.map_cons, List.map_nil]); first | done | rfl | (simp only [List.length_drop, List.length_take]; rfl)) ?_
               with_reducible refine (qAA.calls k2 _ _ t472 ((qX x9_2 x11_1).f0) ((qX x9_2 x11_1).f1) ((qX x9_2 x11_1).f2) (bt (⟨#[110, 101, 115, 119]⟩ : ByteArray) x32_2) t483 t484 t485 true _ ?side1 ?side2 A20.out).mono ?_
               (case side1 => repeat (first | exact (Kd.qh HO_19.out).2.2 | (with_reducible refine Kd.qIA ?_ _) | (with_reducible refine Kd.qHA ?_ _) | (with_reducible refine Kd.qSA ?_)))
               (case side2 => exact (Kd.qh HO_19.out).2.1)
               rintro e w27 ⟨rfl, hb⟩
               have HS0_ := (hb.cell (World.block_lt_of_cell? _ _ (hHeld.1))).trans (hHeld.1)
               have HS1_ := (hb.cell (World.block_lt_of_cell? _ _ (hHeld.2.1))).trans (hHeld.2.1)
               have HS2_ := (hb.cell (World.block_lt_of_cell? _ _ (hHeld.2.2))).trans (hHeld.2.2)
               refine ⟨_, rfl, ?_⟩
               have n0_ := Aside0.mk (Kd.qc (by (with_reducible repeat (first | apply Kd.qF | apply Kd.qE | apply Kd.qH)); exact HO_9.out) hb)
               have n1_ := Aside0.mk (Kd.qc (by (with_reducible repeat (first | apply Kd.qF | apply Kd.qE | apply Kd.qH)); exact HO_10.out) hb)
               have n2_ := Aside0.mk (Kd.qc (by (with_reducible repeat (first | apply Kd.qF | apply Kd.qE | apply Kd.qH)); exact HO_19.out) hb)
               have n3_ := Aside0.mk (bb BK471 hb)
               have n4_ := Aside0.mk (qG bl hb)
               clear HO_9
               clear HO_10
               clear HO_19
               clear BK471
               clear HB
               have HO_9 := n0_
               have HO_10 := n1_
               have HO_19 := n2_
               have BK471 := n3_
               have HB := n4_
               clear n0_ n1_ n2_ n3_ n4_
               (try clear hb)
               (try clear hb2)
               (try clear hk)
               (try clear hi)
               refine hK.out _ _ ⟨HS0_, HS1_, HS2_⟩ (fun hHeld => ?_)
               clear hK K
               refine norm_ (a' := ?_) ?_ ?_
               rotate_left
               ·show Act.put _ (some 43) _ = _
                simp only [Act.put, List.setIfInBounds_toArray, List.set_cons_zero, List.set_cons_succ, i64_w, i32_w]
                rfl
               refine pS (i := 8) (N := some 35) #[true, true, true, true, true, true, true, true, true, false, false, false, false, false] HT_ ?_
               refine pS (i := 9) (N := some 44) #[true, true, true, true, true, true, true, true, true, true, false, false, false, false] HT_ ?_
               refine pS (i := 10) (N := some 45) #[true, true, true, true, true, true, true, true, true, true, true, false, false, false] HT_ ?_
               refine one_ (i := 11) (N := some 13) #[true, true, true, true, true, true, true, true, true, true, true, true, false, false] rfl rfl (qNA HT_.out (by kernel_rfl)) (by decide) (fun K hK => ?_)
               refine qnA ?hg (N := 13) ?hd (cs := #[.int .i64 0, .int .i64 0, .int .i64 0]) (t := 27) ?hr ?_; (case hd => rfl); (case hg => rfl); (case hr => first | (go_simp; done) | (go_simp; rfl))
               intro gb487 hg w28 hbox hb
               have HS0_ := (hb.cell (World.block_lt_of_cell? _ _ (hHeld.1))).trans (hHeld.1)
               have HS1_ := (hb.cell (World.block_lt_of_cell? _ _ (hHeld.2.1))).trans (hHeld.2.1)
               have HS2_ := (hb.cell (World.block_lt_of_cell? _ _ (hHeld.2.2))).trans (hHeld.2.2)
               have n0_ := Aside0.mk (Kd.qc (Kd.qcA (by (with_reducible repeat (first | apply Kd.qF | apply Kd.qE | apply Kd.qH)); exact HO_9.out) gb487 (Nat.le_of_eq hg.symm)) hb)
               have n1_ := Aside0.mk (Kd.qc (by (with_reducible repeat (first | apply Kd.qF | apply Kd.qE | apply Kd.qH)); exact HO_10.out) hb)
               have n2_ := Aside0.mk (Kd.qc (by (with_reducible repeat (first | apply Kd.qF | apply Kd.qE | apply Kd.qH)); exact HO_19.out) hb)
               have n3_ := Aside0.mk (bb BK471 hb)
               have n4_ := Aside0.mk (qG bl hb)
               have n5_ := Aside0.mk (hbox)
               have n6_ := Aside0.mk ((gg hg))
               have n7_ := Aside0.mk ((gg hg))
               have n8_ := Aside0.mk ((nl BK471 hg))
               have n9_ := Aside0.mk ((nr BK471 hg))
               clear HO_9
               clear HO_10
               clear HO_19
               clear BK471
               clear HB
               have HO_9 := n0_
               have HO_10 := n1_
               have HO_19 := n2_
               have BK471 := n3_
               have HB := n4_
               have BK487 := n5_
               have GW487 := n6_
               have GE487 := n7_
               have NB471_487 := n8_
               have NB487_471 := n9_
               clear n0_ n1_ n2_ n3_ n4_ n5_ n6_ n7_ n8_ n9_
               clear hb hbox hg
               refine hK.out _ _ ⟨HS0_, HS1_, HS2_⟩ (fun hHeld => ?_)
               clear hK K
               refine norm_ (a' := ?_) ?_ ?_
               rotate_left
               ·show Act.put _ (some 13) _ = _
                simp only [Act.put, List.setIfInBounds_toArray, List.set_cons_zero, List.set_cons_succ, i64_w, i32_w]
                rfl
               exact norm_ (by simp only [putAll, Act.put, List.setIfInBounds_toArray, List.set_cons_zero, List.set_cons_succ]) (hCont (gb487) _ ⟨hHeld, (by (with_reducible repeat (first | apply Kd.qF | apply Kd.qE | apply Kd.qH)); exact HO_10.out), (by (with_reducible repeat (first | apply Kd.qF | apply Kd.qE | apply Kd.qH)); exact HO_19.out), (by (with_reducible repeat (first | apply Kd.qF | apply Kd.qE | apply Kd.qH)); exact HO_9.out), (by (with_reducible repeat (first | refine qB ?_ _ | refine qD ?_ | refine qA ?_ _)); exact BK471.out), (by (with_reducible repeat (first | refine qB ?_ _ | refine qD ?_ | refine qA ?_ _)); exact BK487.out), GW487.out, GE487.out, NB471_487.out, NB487_471.out, bl⟩)
              ·skip
               refine qnA ?hg (N := 13) ?hd (cs := #[.int .i64 0, .int .i64 0, .int .i64 0]) (t := 27) ?hr ?_; (case hd => rfl); (case hg => rfl); (case hr => first | (go_simp; done) | (go_simp; rfl))
               intro gb487 hg w27 hbox hb
               have HS0_ := (hb.cell (World.block_lt_of_cell? _ _ (hHeld.1))).trans (hHeld.1)
               have HS1_ := (hb.cell (World.block_lt_of_cell? _ _ (hHeld.2.1))).trans (hHeld.2.1)
               have HS2_ := (hb.cell (World.block_lt_of_cell? _ _ (hHeld.2.2))).trans (hHeld.2.2)
               have n0_ := Aside0.mk (Kd.qc (Kd.qcA (by (with_reducible repeat (first | apply Kd.qF | apply Kd.qE | apply Kd.qH)); exact HO_9.out) gb487 (Nat.le_of_eq hg.symm)) hb)
               have n1_ := Aside0.mk (Kd.qc (by (with_reducible repeat (first | apply Kd.qF | apply Kd.qE | apply Kd.qH)); exact HO_10.out) hb)
               have n2_ := Aside0.mk (Kd.qc (by (with_reducible repeat (first | apply Kd.qF | apply Kd.qE | apply Kd.qH)); exact HO_19.out) hb)
               have n3_ := Aside0.mk (bb BK471 hb)
               have n4_ := Aside0.mk (qG bl hb)
               have n5_ := Aside0.mk (hbox)
               have n6_ := Aside0.mk ((gg hg))
               have n7_ := Aside0.mk ((gg hg))
               have n8_ := Aside0.mk ((nl BK471 hg))
               have n9_ := Aside0.mk ((nr BK471 hg))
               clear HO_9
               clear HO_10
               clear HO_19
               clear BK471
               clear HB
               have HO_9 := n0_
               have HO_10 := n1_
               have HO_19 := n2_
               have BK471 := n3_
               have HB := n4_
               have BK487 := n5_
               have GW487 := n6_
               have GE487 := n7_
               have NB471_487 := n8_
               have NB487_471 := n9_
               clear n0_ n1_ n2_ n3_ n4_ n5_ n6_ n7_ n8_ n9_
               clear hb hbox hg
               refine hK.out _ _ ⟨HS0_, HS1_, HS2_⟩ (fun hHeld => ?_)
               clear hK K
               refine norm_ (a' := ?_) ?_ ?_
               rotate_left
               ·show Act.put _ (some 13) _ = _
                simp only [Act.put, List.setIfInBounds_toArray, List.set_cons_zero, List.set_cons_succ, i64_w, i32_w]
                rfl
               refine one_ (i := 7) (N := some 43) #[true, true, true, true, true, true, true, true, false, false, false, true, false, false] rfl rfl (qNA HT_.out (by kernel_rfl)) (by decide) (fun K hK => ?_)
               refine goes_ Tryd.func62 (by kernel_rfl) rfl #[.slice Ao24 t472.length co24, .agg #[.int .i64 ((qX x9_2 x11_1).f0), .int .i64 ((qX x9_2 x11_1).f1), .int .i64 ((qX x9_2 x11_1).f2)], .int .u8 (bt (⟨#[110, 101, 115, 119]⟩ : ByteArray) x32_2)] (by rfl) rfl rfl (by (try simp only [List.map_toArray, List.map_cons, List.map_nil]); first | done | rfl | (simp only [List.length_drop, List.length_take]; rfl)) ?_
               with_reducible refine (qAA.calls k2 _ _ t472 ((qX x9_2 x11_1).f0) ((qX x9_2 x11_1).f1) ((qX x9_2 x11_1).f2) (bt (⟨#[110, 101, 115, 119]⟩ : ByteArray) x32_2) t483 t484 t485 true _ ?side1 ?side2 A20.out).mono ?_
               (case side1 => repeat (first | exact (Kd.qh HO_19.out).2.2 | (with_reducible refine Kd.qIA ?_ _) | (with_reducible refine Kd.qHA ?_ _) | (with_reducible refine Kd.qSA ?_)))
               (case side2 => exact (Kd.qh HO_19.out).2.1)
               rintro e w28 ⟨rfl, hb⟩
               have HS0_ := (hb.cell (World.block_lt_of_cell? _ _ (hHeld.1))).trans (hHeld.1)
               have HS1_ := (hb.cell (World.block_lt_of_cell? _ _ (hHeld.2.1))).trans (hHeld.2.1)
               have HS2_ := (hb.cell (World.block_lt_of_cell? _ _ (hHeld.2.2))).trans (hHeld.2.2)
               refine ⟨_, rfl, ?_⟩
               have n0_ := Aside0.mk (Kd.qc (by (with_reducible repeat (first | apply Kd.qF | apply Kd.qE | apply Kd.qH)); exact HO_9.out) hb)
               have n1_ := Aside0.mk (Kd.qc (by (with_reducible repeat (first | apply Kd.qF | apply Kd.qE | apply Kd.qH)); exact HO_10.out) hb)
               have n2_ := Aside0.mk (Kd.qc (by (with_reducible repeat (first | apply Kd.qF | apply Kd.qE | apply Kd.qH)); exact HO_19.out) hb)
               have n3_ := Aside0.mk (bb BK471 hb)
               have n4_ := Aside0.mk (bb BK487 hb)
               have n5_ := Aside0.mk (qG bl hb)
               clear HO_9
               clear HO_10
               clear HO_19
               clear BK471
               clear BK487
               clear HB
               have HO_9 := n0_
               have HO_10 := n1_
               have HO_19 := n2_
               have BK471 := n3_
               have BK487 := n4_
               have HB := n5_
               clear n0_ n1_ n2_ n3_ n4_ n5_
               (try clear hb)
               (try clear hb2)
               (try clear hk)
               (try clear hi)
               refine hK.out _ _ ⟨HS0_, HS1_, HS2_⟩ (fun hHeld => ?_)
               clear hK K
               refine norm_ (a' := ?_) ?_ ?_
               rotate_left
               ·show Act.put _ (some 43) _ = _
                simp only [Act.put, List.setIfInBounds_toArray, List.set_cons_zero, List.set_cons_succ, i64_w, i32_w]
                rfl
               refine pS (i := 8) (N := some 35) #[true, true, true, true, true, true, true, true, true, false, false, true, false, false] HT_ ?_
               refine pS (i := 9) (N := some 44) #[true, true, true, true, true, true, true, true, true, true, false, true, false, false] HT_ ?_
               refine pS (i := 10) (N := some 45) #[true, true, true, true, true, true, true, true, true, true, true, true, false, false] HT_ ?_
               exact norm_ (by simp only [putAll, Act.put, List.setIfInBounds_toArray, List.set_cons_zero, List.set_cons_succ]) (hCont (gb487) _ ⟨hHeld, (by (with_reducible repeat (first | apply Kd.qF | apply Kd.qE | apply Kd.qH)); exact HO_10.out), (by (with_reducible repeat (first | apply Kd.qF | apply Kd.qE | apply Kd.qH)); exact HO_19.out), (by (with_reducible repeat (first | apply Kd.qF | apply Kd.qE | apply Kd.qH)); exact HO_9.out), (by (with_reducible repeat (first | refine qB ?_ _ | refine qD ?_ | refine qA ?_ _)); exact BK471.out), (by (with_reducible repeat (first | refine qB ?_ _ | refine qD ?_ | refine qA ?_ _)); exact BK487.out), GW487.out, GE487.out, NB471_487.out, NB487_471.out, bl⟩)
             rintro gb487 w29 ⟨hS_, h0_, h1_, h2_, h3_, h4_, h5_, h6_, h7_, h8_, h9_⟩
             have n0_ : Aside0 (Kd.R Kd.string 9 w29 w.heap.size (fun k_ => some k_ ≠ (.slice Ao24 t472.length co24 : Value).ownBlock) u10 x10_2) := ⟨h0_⟩
             have n1_ : Aside0 (Kd.R Kd.string 9 w29 w.heap.size (fun k_ => some k_ ≠ (u10 : Value).ownBlock) (.slice Ao24 t472.length co24) t472) := ⟨h1_⟩
             have n2_ : Aside0 (Kd.R k27 27 w29 w.heap.size (fun k_ => k_ ≠ gb471 ∧ k_ ≠ gb487) (.slice (some ad482) x9_2.length co26) x9_2) := ⟨h2_⟩
             have n3_ : Aside0 (w29.heap[gb471]? = some (.cells #[.int .i64 a1_0, .int .i64 a1_1, .int .i64 a1_2] 27 (0, 0))) := ⟨h3_⟩
             have n4_ : Aside0 (w29.heap[gb487]? = some (.cells #[.int .i64 0, .int .i64 0, .int .i64 0] 27 (0, 0))) := ⟨h4_⟩
             have n5_ : Aside0 (w.heap.size ≤ gb487) := ⟨h5_⟩
             have n6_ : Aside0 (w.heap.size ≤ gb487) := ⟨h6_⟩
             have n7_ : Aside0 (gb471 ≠ gb487) := ⟨h7_⟩
             have n8_ : Aside0 (gb487 ≠ gb471) := ⟨h8_⟩
             have n9_ : Aside0 (Below w.heap.size w w29) := ⟨h9_⟩
             clear HO_9
             clear HO_10
             clear HO_19
             clear BK471
             clear HB
             clear h0_ h1_ h2_ h3_ h4_ h5_ h6_ h7_ h8_ h9_
             have HO_10 := n0_
             have HO_19 := n1_
             have HO_9 := n2_
             have BK471 := n3_
             have BK487 := n4_
             have GW487 := n5_
             have GE487 := n6_
             have NB471_487 := n7_
             have NB487_471 := n8_
             have HB := n9_
             clear n0_ n1_ n2_ n3_ n4_ n5_ n6_ n7_ n8_ n9_
             have hHeld : w29.cell? (ad482.add ((x11_1).toNat * 3)) = some (.int .i64 ((qX x9_2 x11_1).f0)) ∧ w29.cell? ⟨(ad482.add ((x11_1).toNat * 3)).block, (ad482.add ((x11_1).toNat * 3)).off + 1, none⟩ = some (.int .i64 ((qX x9_2 x11_1).f1)) ∧ w29.cell? ⟨(ad482.add ((x11_1).toNat * 3)).block, (ad482.add ((x11_1).toNat * 3)).off + 2, none⟩ = some (.int .i64 ((qX x9_2 x11_1).f2)) := hS_
             refine norm_ (a' := ?_) ?_ ?_
             rotate_left
             ·simp only [putAll, Act.put, List.setIfInBounds_toArray, List.set_cons_zero, List.set_cons_succ]
              rfl
             refine one_ (i := 12) (N := none) #[true, true, true, true, true, true, true, true, true, true, true, true, true, false] rfl rfl (qNA HT_.out (by kernel_rfl)) (by decide) (fun K hK => ?_)
             have hs30 : w29.cell? ⟨gb487, 0, none⟩ = some (.int .i64 0) := (qK BK487.out 0).trans rfl
             have hfs30 := qC BK487.out 0
             have hns30_0 := NB471_487.out
             have hms30_0 := NB487_471.out
             have hs31 : w29.cell? ⟨gb487, 1, none⟩ = some (.int .i64 0) := (qK BK487.out 1).trans rfl
             have hfs31 := qC BK487.out 1
             have hns31_0 := NB471_487.out
             have hms31_0 := NB487_471.out
             have hs32 : w29.cell? ⟨gb487, 2, none⟩ = some (.int .i64 0) := (qK BK487.out 2).trans rfl
             have hfs32 := qC BK487.out 2
             have hns32_0 := NB471_487.out
             have hms32_0 := NB487_471.out
             refine skip_ (w1 := ?_) (by rfl) rfl ?_ ?_
             rotate_left
             ·go_simp
              rfl
             refine hK.out _ _ ⟨((qO (p := ⟨gb487, _, none⟩) (by first | exact Kd.qM (Kd.qR HO_9.out (fun _ hk => hk.2)) | (rw [qS]; exact Kd.qM (Kd.qR HO_9.out (fun _ hk => hk.2))) | (show (Addr.add _ _).block ≠ _; rw [qS]; exact Kd.qM (Kd.qR HO_9.out (fun _ hk => hk.2))) | (dsimp only; exact Kd.qM (Kd.qR HO_9.out (fun _ hk => hk.2)))) _).trans (((qO (p := ⟨gb487, _, none⟩) (by first | exact Kd.qM (Kd.qR HO_9.out (fun _ hk => hk.2)) | (rw [qS]; exact Kd.qM (Kd.qR HO_9.out (fun _ hk => hk.2))) | (show (Addr.add _ _).block ≠ _; rw [qS]; exact Kd.qM (Kd.qR HO_9.out (fun _ hk => hk.2))) | (dsimp only; exact Kd.qM (Kd.qR HO_9.out (fun _ hk => hk.2)))) _).trans (((qO (p := ⟨gb487, _, none⟩) (by first | exact Kd.qM (Kd.qR HO_9.out (fun _ hk => hk.2)) | (rw [qS]; exact Kd.qM (Kd.qR HO_9.out (fun _ hk => hk.2))) | (show (Addr.add _ _).block ≠ _; rw [qS]; exact Kd.qM (Kd.qR HO_9.out (fun _ hk => hk.2))) | (dsimp only; exact Kd.qM (Kd.qR HO_9.out (fun _ hk => hk.2)))) _).trans (hHeld.1)))))), ((qO (p := ⟨gb487, _, none⟩) (by first | exact Kd.qM (Kd.qR HO_9.out (fun _ hk => hk.2)) | (rw [qS]; exact Kd.qM (Kd.qR HO_9.out (fun _ hk => hk.2))) | (show (Addr.add _ _).block ≠ _; rw [qS]; exact Kd.qM (Kd.qR HO_9.out (fun _ hk => hk.2))) | (dsimp only; exact Kd.qM (Kd.qR HO_9.out (fun _ hk => hk.2)))) _).trans (((qO (p := ⟨gb487, _, none⟩) (by first | exact Kd.qM (Kd.qR HO_9.out (fun _ hk => hk.2)) | (rw [qS]; exact Kd.qM (Kd.qR HO_9.out (fun _ hk => hk.2))) | (show (Addr.add _ _).block ≠ _; rw [qS]; exact Kd.qM (Kd.qR HO_9.out (fun _ hk => hk.2))) | (dsimp only; exact Kd.qM (Kd.qR HO_9.out (fun _ hk => hk.2)))) _).trans (((qO (p := ⟨gb487, _, none⟩) (by first | exact Kd.qM (Kd.qR HO_9.out (fun _ hk => hk.2)) | (rw [qS]; exact Kd.qM (Kd.qR HO_9.out (fun _ hk => hk.2))) | (show (Addr.add _ _).block ≠ _; rw [qS]; exact Kd.qM (Kd.qR HO_9.out (fun _ hk => hk.2))) | (dsimp only; exact Kd.qM (Kd.qR HO_9.out (fun _ hk => hk.2)))) _).trans (hHeld.2.1)))))), ((qO (p := ⟨gb487, _, none⟩) (by first | exact Kd.qM (Kd.qR HO_9.out (fun _ hk => hk.2)) | (rw [qS]; exact Kd.qM (Kd.qR HO_9.out (fun _ hk => hk.2))) | (show (Addr.add _ _).block ≠ _; rw [qS]; exact Kd.qM (Kd.qR HO_9.out (fun _ hk => hk.2))) | (dsimp only; exact Kd.qM (Kd.qR HO_9.out (fun _ hk => hk.2)))) _).trans (((qO (p := ⟨gb487, _, none⟩) (by first | exact Kd.qM (Kd.qR HO_9.out (fun _ hk => hk.2)) | (rw [qS]; exact Kd.qM (Kd.qR HO_9.out (fun _ hk => hk.2))) | (show (Addr.add _ _).block ≠ _; rw [qS]; exact Kd.qM (Kd.qR HO_9.out (fun _ hk => hk.2))) | (dsimp only; exact Kd.qM (Kd.qR HO_9.out (fun _ hk => hk.2)))) _).trans (((qO (p := ⟨gb487, _, none⟩) (by first | exact Kd.qM (Kd.qR HO_9.out (fun _ hk => hk.2)) | (rw [qS]; exact Kd.qM (Kd.qR HO_9.out (fun _ hk => hk.2))) | (show (Addr.add _ _).block ≠ _; rw [qS]; exact Kd.qM (Kd.qR HO_9.out (fun _ hk => hk.2))) | (dsimp only; exact Kd.qM (Kd.qR HO_9.out (fun _ hk => hk.2)))) _).trans (hHeld.2.2))))))⟩ (fun hHeld => ?_)
             clear hK K
             refine pS (i := 13) (N := some 14) #[true, true, true, true, true, true, true, true, true, true, true, true, true, true] HT_ ?_
             refine done_ (qjA HT_.out (by kernel_rfl)) ?_
             have hnb33 := NB487_471.out
             have hnc33 := NB471_487.out
             have hcz34_0 := bc BK487 0
             have hcz34_1 := bc BK487 1
             have hcz34_2 := bc BK487 2
             have hfz34_0 := qC BK487.out 0
             have hfz34_1 := qC BK487.out 1
             have hfz34_2 := qC BK487.out 2
             try go_wp2_with (first | (go_at_call 91; (with_reducible refine (qg.calls k2 _ _ x9_2 t483 t484 t485 true _ ?side1 ?side2 A22.out).mono ?_); (case side1 => refine (Kd.qh (e := 27) (base := w.heap.size) (ok := fun k_ => (k_ ≠ gb471 ∧ k_ ≠ gb487)) (n := x9_2.length) (c := co26) ?_).2.2; exact (by (with_reducible repeat (first | apply Kd.qF | apply Kd.qE | apply Kd.qH)); exact (Kd.qf (Kd.R_far (p := ⟨gb487, 2, none⟩) (Kd.R_far (p := ⟨gb487, 1, none⟩) (Kd.R_far (p := ⟨gb487, 0, none⟩) (Kd.qf HO_9.out (fun k_ hk => (⟨hk, hk.2⟩ : _ ∧ k_ ≠ gb487))) (fun _ hk => hk.2) (.int .i64 t483)) (fun _ hk => hk.2) (.int .i64 t484)) (fun _ hk => hk.2) (.int .i64 t485)) (fun _ h_ => h_.1)))); (case side2 => exact (Kd.qh HO_9.out).2.1); rintro e w35 ⟨rfl, hb⟩; have n0_ := Aside0.mk (Kd.qc (by (with_reducible repeat (first | apply Kd.qF | apply Kd.qE | apply Kd.qH)); exact (Kd.qf (Kd.R_far (p := ⟨gb487, 2, none⟩) (Kd.R_far (p := ⟨gb487, 1, none⟩) (Kd.R_far (p := ⟨gb487, 0, none⟩) (Kd.qf HO_9.out (fun k_ hk => (⟨hk, hk.2⟩ : _ ∧ k_ ≠ gb487))) (fun _ hk => hk.2) (.int .i64 t483)) (fun _ hk => hk.2) (.int .i64 t484)) (fun _ hk => hk.2) (.int .i64 t485)) (fun _ h_ => h_.1))) hb); have n1_ := Aside0.mk (Kd.qc (by (with_reducible repeat (first | apply Kd.qF | apply Kd.qE | apply Kd.qH)); exact (Kd.qf (Kd.R_far (p := ⟨gb487, 2, none⟩) (Kd.R_far (p := ⟨gb487, 1, none⟩) (Kd.R_far (p := ⟨gb487, 0, none⟩) (Kd.qt HO_10.out BK487.out (by decide)) (fun _ hk => hk.2) (.int .i64 t483)) (fun _ hk => hk.2) (.int .i64 t484)) (fun _ hk => hk.2) (.int .i64 t485)) (fun _ h_ => h_.1))) hb); have n2_ := Aside0.mk (Kd.qc (by (with_reducible repeat (first | apply Kd.qF | apply Kd.qE | apply Kd.qH)); exact (Kd.qf (Kd.R_far (p := ⟨gb487, 2, none⟩) (Kd.R_far (p := ⟨gb487, 1, none⟩) (Kd.R_far (p := ⟨gb487, 0, none⟩) (Kd.qt HO_19.out BK487.out (by decide)) (fun _ hk => hk.2) (.int .i64 t483)) (fun _ hk => hk.2) (.int .i64 t484)) (fun _ hk => hk.2) (.int .i64 t485)) (fun _ h_ => h_.1))) hb); have n3_ := Aside0.mk (qOA (g := gb471) (o := .cells #[.int .i64 a1_0, .int .i64 a1_1, .int .i64 a1_2] 27 (0, 0)) (by (with_reducible repeat (first | refine qB ?_ _ | refine qD ?_ | refine qA ?_ _)); refine qL ?_ NB471_487.out _; (with_reducible repeat (first | refine qB ?_ _ | refine qD ?_ | refine qA ?_ _)); refine qL ?_ NB471_487.out _; (with_reducible repeat (first | refine qB ?_ _ | refine qD ?_ | refine qA ?_ _)); refine qL ?_ NB471_487.out _; (with_reducible repeat (first | refine qB ?_ _ | refine qD ?_ | refine qA ?_ _)); exact BK471.out) hb); have n4_ := Aside0.mk (qOA (g := gb487) (o := .cells #[.int .i64 t483, .int .i64 t484, .int .i64 t485] 27 (0, 0)) (by (with_reducible repeat (first | refine qB ?_ _ | refine qD ?_ | refine qA ?_ _)); refine qP (cs := #[.int .i64 t483, .int .i64 t484, .int .i64 0]) ?_ 2 _ rfl; (with_reducible repeat (first | refine qB ?_ _ | refine qD ?_ | refine qA ?_ _)); refine qP (cs := #[.int .i64 t483, .int .i64 0, .int .i64 0]) ?_ 1 _ rfl; (with_reducible repeat (first | refine qB ?_ _ | refine qD ?_ | refine qA ?_ _)); refine qP (cs := #[.int .i64 0, .int .i64 0, .int .i64 0]) ?_ 0 _ rfl; (with_reducible repeat (first | refine qB ?_ _ | refine qD ?_ | refine qA ?_ _)); exact BK487.out) hb); have n5_ := Aside0.mk (qG bl hb); clear HO_9; clear HO_10; clear HO_19; clear BK471; clear BK487; clear HB; have HO_9 := n0_; have HO_10 := n1_; have HO_19 := n2_; have BK471 := n3_; have BK487 := n4_; have HB := n5_; clear n0_ n1_ n2_ n3_ n4_ n5_; (try clear hb); (try clear hb2); (try clear hk); (try clear hi)))
             go_roundg k2
             case measure => have := HK1.out; have := HK2.out; omega
             case rel => exact ⟨(x9_2), (x10_2), (wrap64 (x32_2 + 1)), (by first | rfl | (simp; done) | (simp [*]; done)), H', ⟨by have := HK1.out; have := HK2.out; omega⟩, ⟨by (with_reducible repeat (first | apply Kd.qF | apply Kd.qE | apply Kd.qH)); exact Kd.qf HO_9.out (fun _ hk => hk.1)⟩, ⟨by (with_reducible repeat (first | apply Kd.qF | apply Kd.qE | apply Kd.qH)); exact HO_10.out⟩, ⟨by (with_reducible repeat (first | apply Kd.qF | apply Kd.qE | apply Kd.qH)); exact HO_19.out⟩, ⟨by (with_reducible repeat (first | refine qB ?_ _ | refine qD ?_ | refine qA ?_ _)); exact BK471.out⟩, ⟨bl⟩⟩
            ·replace c23 := Bool.eq_false_iff.mpr c23
             subst c23
             have H1 : ((some (([(⟨t483, t484, t485⟩ : S27)] : List (S27)) : List (S27))).bind fun y489 => (if x9_2.length + y489.length < 5864062014805 then (if x11_1 < (x10_2.length : Int) then (if x32_2 ≤ (wrap64 (x32_2 + 1)) then (if (wrap64 (x32_2 + 1)) ≤ 4 then (if (rdOf ByteArray.empty x10_2 x11_1).size + ((⟨#[110, 101, 115, 119]⟩ : ByteArray).extract (x32_2 : Int).toNat ((wrap64 (x32_2 + 1)) : Int).toNat).size ≤ 9223372036854775807 then ((some (([(rdOf ByteArray.empty x10_2 x11_1) ++ ((⟨#[110, 101, 115, 119]⟩ : ByteArray).extract (x32_2 : Int).toNat ((wrap64 (x32_2 + 1)) : Int).toNat)] : List ByteArray) : List ByteArray)).bind fun y496 => (if x10_2.length + y496.length < 8796093022208 then (qN.l1 k2 (x9_2 ++ y489) (x10_2 ++ y496) x11_1 t472 (wrap64 (x32_2 + 1))) else (none))) else (none)) else (none)) else (none)) else (none)) else (none))) = some (r1, r2, r3) := by rw [if_neg (show ¬ (false = true) by decide)] at H; exact H
             clear H
             have H := H1
             clear H1
             obtain ⟨y489, hy489⟩ : ∃ y_ : List (S27), y_ = (([(⟨t483, t484, t485⟩ : S27)] : List (S27))) := ⟨_, rfl⟩
             replace H : (if x9_2.length + y489.length < 5864062014805 then (if x11_1 < (x10_2.length : Int) then (if x32_2 ≤ (wrap64 (x32_2 + 1)) then (if (wrap64 (x32_2 + 1)) ≤ 4 then (if (rdOf ByteArray.empty x10_2 x11_1).size + ((⟨#[110, 101, 115, 119]⟩ : ByteArray).extract (x32_2 : Int).toNat ((wrap64 (x32_2 + 1)) : Int).toNat).size ≤ 9223372036854775807 then ((some (([(rdOf ByteArray.empty x10_2 x11_1) ++ ((⟨#[110, 101, 115, 119]⟩ : ByteArray).extract (x32_2 : Int).toNat ((wrap64 (x32_2 + 1)) : Int).toNat)] : List ByteArray) : List ByteArray)).bind fun y496 => (if x10_2.length + y496.length < 8796093022208 then (qN.l1 k2 (x9_2 ++ y489) (x10_2 ++ y496) x11_1 t472 (wrap64 (x32_2 + 1))) else (none))) else (none)) else (none)) else (none)) else (none)) else (none)) = some (r1, r2, r3) := by first | (rw [hy489]; with_reducible exact H) | (have H2_ := (Option.bind_some _ _).symm.trans H; rw [hy489]; with_reducible exact H2_) | (have H2_ := (Option.bind_some _ _).symm.trans H; with_reducible exact H2_) | with_reducible exact H | (rw [hy489]; exact H) | exact H
             have Ny489 := Aside0.mk hy489
             clear hy489
             by_cases c36 : x9_2.length + y489.length < 5864062014805
             ·rw [if_pos c36] at H
              have LMc36 := Aside0.mk c36
              clear c36
              obtain ⟨y492, hy492⟩ : ∃ y_ : List (S27), y_ = (x9_2 ++ y489) := ⟨_, rfl⟩
              replace H : (if x11_1 < (x10_2.length : Int) then (if x32_2 ≤ (wrap64 (x32_2 + 1)) then (if (wrap64 (x32_2 + 1)) ≤ 4 then (if (rdOf ByteArray.empty x10_2 x11_1).size + ((⟨#[110, 101, 115, 119]⟩ : ByteArray).extract (x32_2 : Int).toNat ((wrap64 (x32_2 + 1)) : Int).toNat).size ≤ 9223372036854775807 then ((some (([(rdOf ByteArray.empty x10_2 x11_1) ++ ((⟨#[110, 101, 115, 119]⟩ : ByteArray).extract (x32_2 : Int).toNat ((wrap64 (x32_2 + 1)) : Int).toNat)] : List ByteArray) : List ByteArray)).bind fun y496 => (if x10_2.length + y496.length < 8796093022208 then (qN.l1 k2 y492 (x10_2 ++ y496) x11_1 t472 (wrap64 (x32_2 + 1))) else (none))) else (none)) else (none)) else (none)) else (none)) = some (r1, r2, r3) := by first | (rw [hy492]; with_reducible exact H) | (have H2_ := (Option.bind_some _ _).symm.trans H; rw [hy492]; with_reducible exact H2_) | (have H2_ := (Option.bind_some _ _).symm.trans H; with_reducible exact H2_) | with_reducible exact H | (rw [hy492]; exact H) | exact H
              have Ny492 := Aside0.mk hy492
              clear hy492
              by_cases c37 : x11_1 < (x10_2.length : Int)
              ·rw [if_pos c37] at H
               have c37b0 : decide (x11_1 < (x10_2.length : Int)) = true := decide_eq_true c37
               clear c37
               have c38b0 := eq_true (of_decide_eq_true (by first | (with_reducible assumption) | assumption) : 0 ≤ x32_2)
               by_cases c39 : x32_2 ≤ (wrap64 (x32_2 + 1))
               ·rw [if_pos c39] at H
                have c39b0 := eq_true c39
                have c39b1 : decide (x32_2 ≤ (wrap64 (x32_2 + 1))) = true := decide_eq_true c39
                by_cases c40 : (wrap64 (x32_2 + 1)) ≤ 4
                ·rw [if_pos c40] at H
                 have c40b0 := eq_true c40
                 have c40b1 : decide ((wrap64 (x32_2 + 1)) ≤ 4) = true := decide_eq_true c40
                 by_cases c41 : (rdOf ByteArray.empty x10_2 x11_1).size + ((⟨#[110, 101, 115, 119]⟩ : ByteArray).extract (x32_2 : Int).toNat ((wrap64 (x32_2 + 1)) : Int).toNat).size ≤ 9223372036854775807
                 ·rw [if_pos c41] at H
                  have c41b0 := eq_true c41
                  have c41b1 : decide ((rdOf ByteArray.empty x10_2 x11_1).size + ((⟨#[110, 101, 115, 119]⟩ : ByteArray).extract (x32_2 : Int).toNat ((wrap64 (x32_2 + 1)) : Int).toNat).size ≤ 9223372036854775807) = true := decide_eq_true c41
                  try have c41b2 : (9223372036854775807 < (rdOf ByteArray.empty x10_2 x11_1).size + ((⟨#[110, 101, 115, 119]⟩ : ByteArray).extract (x32_2 : Int).toNat ((wrap64 (x32_2 + 1)) : Int).toNat).size) = False := eq_false (Nat.not_lt.2 c41)
                  obtain ⟨y496, hy496⟩ : ∃ y_ : List ByteArray, y_ = (([(rdOf ByteArray.empty x10_2 x11_1) ++ ((⟨#[110, 101, 115, 119]⟩ : ByteArray).extract (x32_2 : Int).toNat ((wrap64 (x32_2 + 1)) : Int).toNat)] : List ByteArray)) := ⟨_, rfl⟩
                  replace H : (if x10_2.length + y496.length < 8796093022208 then (qN.l1 k2 y492 (x10_2 ++ y496) x11_1 t472 (wrap64 (x32_2 + 1))) else (none)) = some (r1, r2, r3) := by first | (rw [hy496]; with_reducible exact H) | (have H2_ := (Option.bind_some _ _).symm.trans H; rw [hy496]; with_reducible exact H2_) | (have H2_ := (Option.bind_some _ _).symm.trans H; with_reducible exact H2_) | with_reducible exact H | (rw [hy496]; exact H) | exact H
                  have Ny496 := Aside0.mk hy496
                  clear hy496
                  by_cases c42 : x10_2.length + y496.length < 8796093022208
                  ·rw [if_pos c42] at H
                   have LMc42 := Aside0.mk c42
                   clear c42
                   obtain ⟨y499, hy499⟩ : ∃ y_ : List ByteArray, y_ = (x10_2 ++ y496) := ⟨_, rfl⟩
                   replace H : (qN.l1 k2 y492 y499 x11_1 t472 (wrap64 (x32_2 + 1))) = some (r1, r2, r3) := by first | (rw [hy499]; with_reducible exact H) | (have H2_ := (Option.bind_some _ _).symm.trans H; rw [hy499]; with_reducible exact H2_) | (have H2_ := (Option.bind_some _ _).symm.trans H; with_reducible exact H2_) | with_reducible exact H | (rw [hy499]; exact H) | exact H
                   have Ny499 := Aside0.mk hy499
                   clear hy499
                   have H' := Aside0.mk H
                   clear H
                   obtain ⟨Ao43, co43, eo43⟩ := Kd.ql HO_19.out
                   subst eo43
                   try go_wp2
                   have n0_ := Aside0.mk (Kd.qH HO_9.out)
                   have n1_ := Aside0.mk (Kd.qH HO_10.out)
                   have n2_ := Aside0.mk (Kd.qH HO_19.out)
                   have n3_ := Aside0.mk (qD BK471.out)
                   have n4_ := Aside0.mk (qi HB.out)
                   clear HO_9
                   clear HO_10
                   clear HO_19
                   clear BK471
                   clear HB
                   have HO_9 := n0_
                   have HO_10 := n1_
                   have HO_19 := n2_
                   have BK471 := n3_
                   have HB := n4_
                   clear n0_ n1_ n2_ n3_ n4_
                   obtain ⟨Ao45, co45, eo45⟩ := Kd.ql HO_9.out
                   (first | subst eo45 | (injection eo45 with f1_ f2_ f3_; have f4_ := f1_.symm; have f5_ := f3_.symm; clear f1_ f2_ f3_; subst f4_; subst f5_))
                   have p482 : 0 ≤ (x11_1 : Int) := of_decide_eq_true (by first | (with_reducible assumption) | assumption)
                   have q482 : x11_1 < (x9_2.length : Int) := of_decide_eq_true (by first | (with_reducible assumption) | assumption)
                   obtain ⟨ad482, e482, hx482_0, hx482_1, hx482_2⟩ := qWB (Kd.qh HO_9.out).2.2 x11_1 p482 q482
                   cases e482
                   replace p482 := eq_true p482
                   replace q482 := eq_true q482
                   have p19 : 0 ≤ (x32_2 : Int) := of_decide_eq_true (by first | (with_reducible assumption) | assumption)
                   have q19 : x32_2 < (4 : Int) := of_decide_eq_true (by first | (with_reducible assumption) | assumption)
                   have hx19 := bt_at (⟨#[110, 101, 115, 119]⟩ : ByteArray) x32_2
                   replace p19 := eq_true p19
                   replace q19 := eq_true q19
                   refine qsA (n := 14) (S := fun w' => w'.cell? (ad482.add ((x11_1).toNat * 3)) = some (.int .i64 ((qX x9_2 x11_1).f0)) ∧ w'.cell? ⟨(ad482.add ((x11_1).toNat * 3)).block, (ad482.add ((x11_1).toNat * 3)).off + 1, none⟩ = some (.int .i64 ((qX x9_2 x11_1).f1)) ∧ w'.cell? ⟨(ad482.add ((x11_1).toNat * 3)).block, (ad482.add ((x11_1).toNat * 3)).off + 2, none⟩ = some (.int .i64 ((qX x9_2 x11_1).f2))) (ds := []) #[false, false, false, false, false, false, false, false, false, false, false, false, false, false] (by kernel_rfl) rfl rfl ⟨hx482_0, hx482_1, hx482_2⟩ (fun hHeld => ?_); refine qTA qN.tab11 qN.bits11 (fun HT_ HW_ => ?_)
                   generalize wr.drew = w44 at HO_9 HO_10 HO_19 BK471 HB hx482_0 hx482_1 hx482_2 hHeld ⊢
                   refine pS (i := 0) (N := some 36) #[true, false, false, false, false, false, false, false, false, false, false, false, false, false] HT_ ?_
                   refine pS (i := 1) (N := some 37) #[true, true, false, false, false, false, false, false, false, false, false, false, false, false] HT_ ?_
                   refine pS (i := 2) (N := some 38) #[true, true, true, false, false, false, false, false, false, false, false, false, false, false] HT_ ?_
                   refine pS (i := 3) (N := some 39) #[true, true, true, true, false, false, false, false, false, false, false, false, false, false] HT_ ?_
                   refine pS (i := 5) (N := some 41) #[true, true, true, true, false, true, false, false, false, false, false, false, false, false] HT_ ?_
                   refine tS (i := 4) (N := some 40) #[true, true, true, true, true, true, false, false, false, false, false, false, false, false] HT_ HW_ hHeld ?_
                   refine tS (i := 6) (N := some 42) #[true, true, true, true, true, true, true, false, false, false, false, false, false, false] HT_ HW_ hHeld ?_
                   refine join_ (σ := Nat) 2 #[true, true, true, true, true, true, true, true, true, true, true, true, false, false] (fun s_ => [(43, .tuple #[.agg #[.int .i64 t483, .int .i64 t484, .int .i64 t485], .bool true]), (13, .pointer (some ⟨s_, 0, none⟩)), (35, .tuple #[.agg #[.int .i64 t483, .int .i64 t484, .int .i64 t485], .bool true]), (44, .agg #[.int .i64 t483, .int .i64 t484, .int .i64 t485]), (45, .bool true)]) (fun s_ w' => (w'.cell? (ad482.add ((x11_1).toNat * 3)) = some (.int .i64 ((qX x9_2 x11_1).f0)) ∧ w'.cell? ⟨(ad482.add ((x11_1).toNat * 3)).block, (ad482.add ((x11_1).toNat * 3)).off + 1, none⟩ = some (.int .i64 ((qX x9_2 x11_1).f1)) ∧ w'.cell? ⟨(ad482.add ((x11_1).toNat * 3)).block, (ad482.add ((x11_1).toNat * 3)).off + 2, none⟩ = some (.int .i64 ((qX x9_2 x11_1).f2))) ∧ (Kd.R Kd.string 9 w' w.heap.size (fun k_ => some k_ ≠ (.slice Ao43 t472.length co43 : Value).ownBlock) u10 x10_2) ∧ (Kd.R Kd.string 9 w' w.heap.size (fun k_ => some k_ ≠ (u10 : Value).ownBlock) (.slice Ao43 t472.length co43) t472) ∧ (Kd.R k27 27 w' w.heap.size (fun k_ => k_ ≠ gb471 ∧ k_ ≠ s_) (.slice (some ad482) x9_2.length co45) x9_2) ∧ (w'.heap[gb471]? = some (.cells #[.int .i64 a1_0, .int .i64 a1_1, .int .i64 a1_2] 27 (0, 0))) ∧ (w'.heap[s_]? = some (.cells #[.int .i64 0, .int .i64 0, .int .i64 0] 27 (0, 0))) ∧ (w.heap.size ≤ s_) ∧ (w.heap.size ≤ s_) ∧ (gb471 ≠ s_) ∧ (s_ ≠ gb471) ∧ (Below w.heap.size w w')) ?_ ?_
                   rotate_left
                   ·intro hCont
                    refine two_ (i := 7) (j := 11) (Ni := some 43) (Nj := some 13) #[true, true, true, true, true, true, true, true, false, false, false, false, false, false] #[true, true, true, true, true, true, true, false, false, false, false, true, false, false] rfl rfl rfl rfl (qeB HT_.out (by kernel_rfl)) (by decide) (by decide) (fun K hK => ?_) (fun K hK => ?_)
                    ·skip
                     refine goes_ Tryd.func62 (by kernel_rfl) rfl #[.slice Ao43 t472.length co43, .agg #[.int .i64 ((qX x9_2 x11_1).f0), .int .i64 ((qX x9_2 x11_1).f1), .int .i64 ((qX x9_2 x11_1).f2)], .int .u8 (bt (⟨#[110, 101, 115, 119]⟩ : ByteArray) x32_2)] (by rfl) rfl rfl (by (try simp only [List.map_toArray, List.map_cons, List.map_nil]); first | done | rfl | (simp only [List.length_drop, List.length_take]; rfl)) ?_
                     with_reducible refine (qAA.calls k2 _ _ t472 ((qX x9_2 x11_1).f0) ((qX x9_2 x11_1).f1) ((qX x9_2 x11_1).f2) (bt (⟨#[110, 101, 115, 119]⟩ : ByteArray) x32_2) t483 t484 t485 true _ ?side1 ?side2 A20.out).mono ?_
                     (case side1 => repeat (first | exact (Kd.qh HO_19.out).2.2 | (with_reducible refine Kd.qIA ?_ _) | (with_reducible refine Kd.qHA ?_ _) | (with_reducible refine Kd.qSA ?_)))
                     (case side2 => exact (Kd.qh HO_19.out).2.1)
                     rintro e w46 ⟨rfl, hb⟩
                     have HS0_ := (hb.cell (World.block_lt_of_cell? _ _ (hHeld.1))).trans (hHeld.1)
                     have HS1_ := (hb.cell (World.block_lt_of_cell? _ _ (hHeld.2.1))).trans (hHeld.2.1)
                     have HS2_ := (hb.cell (World.block_lt_of_cell? _ _ (hHeld.2.2))).trans (hHeld.2.2)
                     refine ⟨_, rfl, ?_⟩
                     have n0_ := Aside0.mk (Kd.qc (by (with_reducible repeat (first | apply Kd.qF | apply Kd.qE | apply Kd.qH)); exact HO_9.out) hb)
                     have n1_ := Aside0.mk (Kd.qc (by (with_reducible repeat (first | apply Kd.qF | apply Kd.qE | apply Kd.qH)); exact HO_10.out) hb)
                     have n2_ := Aside0.mk (Kd.qc (by (with_reducible repeat (first | apply Kd.qF | apply Kd.qE | apply Kd.qH)); exact HO_19.out) hb)
                     have n3_ := Aside0.mk (bb BK471 hb)
                     have n4_ := Aside0.mk (qG bl hb)
                     clear HO_9
                     clear HO_10
                     clear HO_19
                     clear BK471
                     clear HB
                     have HO_9 := n0_
                     have HO_10 := n1_
                     have HO_19 := n2_
                     have BK471 := n3_
                     have HB := n4_
                     clear n0_ n1_ n2_ n3_ n4_
                     (try clear hb)
                     (try clear hb2)
                     (try clear hk)
                     (try clear hi)
                     refine hK.out _ _ ⟨HS0_, HS1_, HS2_⟩ (fun hHeld => ?_)
                     clear hK K
                     refine norm_ (a' := ?_) ?_ ?_
                     rotate_left
                     ·show Act.put _ (some 43) _ = _
                      simp only [Act.put, List.setIfInBounds_toArray, List.set_cons_zero, List.set_cons_succ, i64_w, i32_w]
                      rfl
                     refine pS (i := 8) (N := some 35) #[true, true, true, true, true, true, true, true, true, false, false, false, false, false] HT_ ?_
                     refine pS (i := 9) (N := some 44) #[true, true, true, true, true, true, true, true, true, true, false, false, false, false] HT_ ?_
                     refine pS (i := 10) (N := some 45) #[true, true, true, true, true, true, true, true, true, true, true, false, false, false] HT_ ?_
                     refine one_ (i := 11) (N := some 13) #[true, true, true, true, true, true, true, true, true, true, true, true, false, false] rfl rfl (qNA HT_.out (by kernel_rfl)) (by decide) (fun K hK => ?_)
                     refine qnA ?hg (N := 13) ?hd (cs := #[.int .i64 0, .int .i64 0, .int .i64 0]) (t := 27) ?hr ?_; (case hd => rfl); (case hg => rfl); (case hr => first | (go_simp; done) | (go_simp; rfl))
                     intro gb487 hg w47 hbox hb
                     have HS0_ := (hb.cell (World.block_lt_of_cell? _ _ (hHeld.1))).trans (hHeld.1)
                     have HS1_ := (hb.cell (World.block_lt_of_cell? _ _ (hHeld.2.1))).trans (hHeld.2.1)
                     have HS2_ := (hb.cell (World.block_lt_of_cell? _ _ (hHeld.2.2))).trans (hHeld.2.2)
                     have n0_ := Aside0.mk (Kd.qc (Kd.qcA (by (with_reducible repeat (first | apply Kd.qF | apply Kd.qE | apply Kd.qH)); exact HO_9.out) gb487 (Nat.le_of_eq hg.symm)) hb)
                     have n1_ := Aside0.mk (Kd.qc (by (with_reducible repeat (first | apply Kd.qF | apply Kd.qE | apply Kd.qH)); exact HO_10.out) hb)
                     have n2_ := Aside0.mk (Kd.qc (by (with_reducible repeat (first | apply Kd.qF | apply Kd.qE | apply Kd.qH)); exact HO_19.out) hb)
                     have n3_ := Aside0.mk (bb BK471 hb)
                     have n4_ := Aside0.mk (qG bl hb)
                     have n5_ := Aside0.mk (hbox)
                     have n6_ := Aside0.mk ((gg hg))
                     have n7_ := Aside0.mk ((gg hg))
                     have n8_ := Aside0.mk ((nl BK471 hg))
                     have n9_ := Aside0.mk ((nr BK471 hg))
                     clear HO_9
                     clear HO_10
                     clear HO_19
                     clear BK471
                     clear HB
                     have HO_9 := n0_
                     have HO_10 := n1_
                     have HO_19 := n2_
                     have BK471 := n3_
                     have HB := n4_
                     have BK487 := n5_
                     have GW487 := n6_
                     have GE487 := n7_
                     have NB471_487 := n8_
                     have NB487_471 := n9_
                     clear n0_ n1_ n2_ n3_ n4_ n5_ n6_ n7_ n8_ n9_
                     clear hb hbox hg
                     refine hK.out _ _ ⟨HS0_, HS1_, HS2_⟩ (fun hHeld => ?_)
                     clear hK K
                     refine norm_ (a' := ?_) ?_ ?_
                     rotate_left
                     ·show Act.put _ (some 13) _ = _
                      simp only [Act.put, List.setIfInBounds_toArray, List.set_cons_zero, List.set_cons_succ, i64_w, i32_w]
                      rfl
                     exact norm_ (by simp only [putAll, Act.put, List.setIfInBounds_toArray, List.set_cons_zero, List.set_cons_succ]) (hCont (gb487) _ ⟨hHeld, (by (with_reducible repeat (first | apply Kd.qF | apply Kd.qE | apply Kd.qH)); exact HO_10.out), (by (with_reducible repeat (first | apply Kd.qF | apply Kd.qE | apply Kd.qH)); exact HO_19.out), (by (with_reducible repeat (first | apply Kd.qF | apply Kd.qE | apply Kd.qH)); exact HO_9.out), (by (with_reducible repeat (first | refine qB ?_ _ | refine qD ?_ | refine qA ?_ _)); exact BK471.out), (by (with_reducible repeat (first | refine qB ?_ _ | refine qD ?_ | refine qA ?_ _)); exact BK487.out), GW487.out, GE487.out, NB471_487.out, NB487_471.out, bl⟩)
                    ·skip
                     refine qnA ?hg (N := 13) ?hd (cs := #[.int .i64 0, .int .i64 0, .int .i64 0]) (t := 27) ?hr ?_; (case hd => rfl); (case hg => rfl); (case hr => first | (go_simp; done) | (go_simp; rfl))
                     intro gb487 hg w46 hbox hb
                     have HS0_ := (hb.cell (World.block_lt_of_cell? _ _ (hHeld.1))).trans (hHeld.1)
                     have HS1_ := (hb.cell (World.block_lt_of_cell? _ _ (hHeld.2.1))).trans (hHeld.2.1)
                     have HS2_ := (hb.cell (World.block_lt_of_cell? _ _ (hHeld.2.2))).trans (hHeld.2.2)
                     have n0_ := Aside0.mk (Kd.qc (Kd.qcA (by (with_reducible repeat (first | apply Kd.qF | apply Kd.qE | apply Kd.qH)); exact HO_9.out) gb487 (Nat.le_of_eq hg.symm)) hb)
                     have n1_ := Aside0.mk (Kd.qc (by (with_reducible repeat (first | apply Kd.qF | apply Kd.qE | apply Kd.qH)); exact HO_10.out) hb)
                     have n2_ := Aside0.mk (Kd.qc (by (with_reducible repeat (first | apply Kd.qF | apply Kd.qE | apply Kd.qH)); exact HO_19.out) hb)
                     have n3_ := Aside0.mk (bb BK471 hb)
                     have n4_ := Aside0.mk (qG bl hb)
                     have n5_ := Aside0.mk (hbox)
                     have n6_ := Aside0.mk ((gg hg))
                     have n7_ := Aside0.mk ((gg hg))
                     have n8_ := Aside0.mk ((nl BK471 hg))
                     have n9_ := Aside0.mk ((nr BK471 hg))
                     clear HO_9
                     clear HO_10
                     clear HO_19
                     clear BK471
                     clear HB
                     have HO_9 := n0_
                     have HO_10 := n1_
                     have HO_19 := n2_
                     have BK471 := n3_
                     have HB := n4_
                     have BK487 := n5_
                     have GW487 := n6_
                     have GE487 := n7_
                     have NB471_487 := n8_
                     have NB487_471 := n9_
                     clear n0_ n1_ n2_ n3_ n4_ n5_ n6_ n7_ n8_ n9_
                     clear hb hbox hg
                     refine hK.out _ _ ⟨HS0_, HS1_, HS2_⟩ (fun hHeld => ?_)
                     clear hK K
                     refine norm_ (a' := ?_) ?_ ?_
                     rotate_left
                     ·show Act.put _ (some 13) _ = _
                      simp only [Act.put, List.setIfInBounds_toArray, List.set_cons_zero, List.set_cons_succ, i64_w, i32_w]
                      rfl
                     refine one_ (i := 7) (N := some 43) #[true, true, true, true, true, true, true, true, false, false, false, true, false, false] rfl rfl (qNA HT_.out (by kernel_rfl)) (by decide) (fun K hK => ?_)
                     refine goes_ Tryd.func62 (by kernel_rfl) rfl #[.slice Ao43 t472.length co43, .agg #[.int .i64 ((qX x9_2 x11_1).f0), .int .i64 ((qX x9_2 x11_1).f1), .int .i64 ((qX x9_2 x11_1).f2)], .int .u8 (bt (⟨#[110, 101, 115, 119]⟩ : ByteArray) x32_2)] (by rfl) rfl rfl (by (try simp only [List.map_toArray, List.map_cons, List.map_nil]); first | done | rfl | (simp only [List.length_drop, List.length_take]; rfl)) ?_
                     with_reducible refine (qAA.calls k2 _ _ t472 ((qX x9_2 x11_1).f0) ((qX x9_2 x11_1).f1) ((qX x9_2 x11_1).f2) (bt (⟨#[110, 101, 115, 119]⟩ : ByteArray) x32_2) t483 t484 t485 true _ ?side1 ?side2 A20.out).mono ?_
                     (case side1 => repeat (first | exact (Kd.qh HO_19.out).2.2 | (with_reducible refine Kd.qIA ?_ _) | (with_reducible refine Kd.qHA ?_ _) | (with_reducible refine Kd.qSA ?_)))
                     (case side2 => exact (Kd.qh HO_19.out).2.1)
                     rintro e w47 ⟨rfl, hb⟩
                     have HS0_ := (hb.cell (World.block_lt_of_cell? _ _ (hHeld.1))).trans (hHeld.1)
                     have HS1_ := (hb.cell (World.block_lt_of_cell? _ _ (hHeld.2.1))).trans (hHeld.2.1)
                     have HS2_ := (hb.cell (World.block_lt_of_cell? _ _ (hHeld.2.2))).trans (hHeld.2.2)
                     refine ⟨_, rfl, ?_⟩
                     have n0_ := Aside0.mk (Kd.qc (by (with_reducible repeat (first | apply Kd.qF | apply Kd.qE | apply Kd.qH)); exact HO_9.out) hb)
                     have n1_ := Aside0.mk (Kd.qc (by (with_reducible repeat (first | apply Kd.qF | apply Kd.qE | apply Kd.qH)); exact HO_10.out) hb)
                     have n2_ := Aside0.mk (Kd.qc (by (with_reducible repeat (first | apply Kd.qF | apply Kd.qE | apply Kd.qH)); exact HO_19.out) hb)
                     have n3_ := Aside0.mk (bb BK471 hb)
                     have n4_ := Aside0.mk (bb BK487 hb)
                     have n5_ := Aside0.mk (qG bl hb)
                     clear HO_9
                     clear HO_10
                     clear HO_19
                     clear BK471
                     clear BK487
                     clear HB
                     have HO_9 := n0_
                     have HO_10 := n1_
                     have HO_19 := n2_
                     have BK471 := n3_
                     have BK487 := n4_
                     have HB := n5_
                     clear n0_ n1_ n2_ n3_ n4_ n5_
                     (try clear hb)
                     (try clear hb2)
                     (try clear hk)
                     (try clear hi)
                     refine hK.out _ _ ⟨HS0_, HS1_, HS2_⟩ (fun hHeld => ?_)
                     clear hK K
                     refine norm_ (a' := ?_) ?_ ?_
                     rotate_left
                     ·show Act.put _ (some 43) _ = _
                      simp only [Act.put, List.setIfInBounds_toArray, List.set_cons_zero, List.set_cons_succ, i64_w, i32_w]
                      rfl
                     refine pS (i := 8) (N := some 35) #[true, true, true, true, true, true, true, true, true, false, false, true, false, false] HT_ ?_
                     refine pS (i := 9) (N := some 44) #[true, true, true, true, true, true, true, true, true, true, false, true, false, false] HT_ ?_
                     refine pS (i := 10) (N := some 45) #[true, true, true, true, true, true, true, true, true, true, true, true, false, false] HT_ ?_
                     exact norm_ (by simp only [putAll, Act.put, List.setIfInBounds_toArray, List.set_cons_zero, List.set_cons_succ]) (hCont (gb487) _ ⟨hHeld, (by (with_reducible repeat (first | apply Kd.qF | apply Kd.qE | apply Kd.qH)); exact HO_10.out), (by (with_reducible repeat (first | apply Kd.qF | apply Kd.qE | apply Kd.qH)); exact HO_19.out), (by (with_reducible repeat (first | apply Kd.qF | apply Kd.qE | apply Kd.qH)); exact HO_9.out), (by (with_reducible repeat (first | refine qB ?_ _ | refine qD ?_ | refine qA ?_ _)); exact BK471.out), (by (with_reducible repeat (first | refine qB ?_ _ | refine qD ?_ | refine qA ?_ _)); exact BK487.out), GW487.out, GE487.out, NB471_487.out, NB487_471.out, bl⟩)
                   rintro gb487 w48 ⟨hS_, h0_, h1_, h2_, h3_, h4_, h5_, h6_, h7_, h8_, h9_⟩
                   have n0_ : Aside0 (Kd.R Kd.string 9 w48 w.heap.size (fun k_ => some k_ ≠ (.slice Ao43 t472.length co43 : Value).ownBlock) u10 x10_2) := ⟨h0_⟩
                   have n1_ : Aside0 (Kd.R Kd.string 9 w48 w.heap.size (fun k_ => some k_ ≠ (u10 : Value).ownBlock) (.slice Ao43 t472.length co43) t472) := ⟨h1_⟩
                   have n2_ : Aside0 (Kd.R k27 27 w48 w.heap.size (fun k_ => k_ ≠ gb471 ∧ k_ ≠ gb487) (.slice (some ad482) x9_2.length co45) x9_2) := ⟨h2_⟩
                   have n3_ : Aside0 (w48.heap[gb471]? = some (.cells #[.int .i64 a1_0, .int .i64 a1_1, .int .i64 a1_2] 27 (0, 0))) := ⟨h3_⟩
                   have n4_ : Aside0 (w48.heap[gb487]? = some (.cells #[.int .i64 0, .int .i64 0, .int .i64 0] 27 (0, 0))) := ⟨h4_⟩
                   have n5_ : Aside0 (w.heap.size ≤ gb487) := ⟨h5_⟩
                   have n6_ : Aside0 (w.heap.size ≤ gb487) := ⟨h6_⟩
                   have n7_ : Aside0 (gb471 ≠ gb487) := ⟨h7_⟩
                   have n8_ : Aside0 (gb487 ≠ gb471) := ⟨h8_⟩
                   have n9_ : Aside0 (Below w.heap.size w w48) := ⟨h9_⟩
                   clear HO_9
                   clear HO_10
                   clear HO_19
                   clear BK471
                   clear HB
                   clear h0_ h1_ h2_ h3_ h4_ h5_ h6_ h7_ h8_ h9_
                   have HO_10 := n0_
                   have HO_19 := n1_
                   have HO_9 := n2_
                   have BK471 := n3_
                   have BK487 := n4_
                   have GW487 := n5_
                   have GE487 := n6_
                   have NB471_487 := n7_
                   have NB487_471 := n8_
                   have HB := n9_
                   clear n0_ n1_ n2_ n3_ n4_ n5_ n6_ n7_ n8_ n9_
                   have hHeld : w48.cell? (ad482.add ((x11_1).toNat * 3)) = some (.int .i64 ((qX x9_2 x11_1).f0)) ∧ w48.cell? ⟨(ad482.add ((x11_1).toNat * 3)).block, (ad482.add ((x11_1).toNat * 3)).off + 1, none⟩ = some (.int .i64 ((qX x9_2 x11_1).f1)) ∧ w48.cell? ⟨(ad482.add ((x11_1).toNat * 3)).block, (ad482.add ((x11_1).toNat * 3)).off + 2, none⟩ = some (.int .i64 ((qX x9_2 x11_1).f2)) := hS_
                   refine norm_ (a' := ?_) ?_ ?_
                   rotate_left
                   ·simp only [putAll, Act.put, List.setIfInBounds_toArray, List.set_cons_zero, List.set_cons_succ]
                    rfl
                   refine one_ (i := 12) (N := none) #[true, true, true, true, true, true, true, true, true, true, true, true, true, false] rfl rfl (qNA HT_.out (by kernel_rfl)) (by decide) (fun K hK => ?_)
                   have hs49 : w48.cell? ⟨gb487, 0, none⟩ = some (.int .i64 0) := (qK BK487.out 0).trans rfl
                   have hfs49 := qC BK487.out 0
                   have hns49_0 := NB471_487.out
                   have hms49_0 := NB487_471.out
                   have hs50 : w48.cell? ⟨gb487, 1, none⟩ = some (.int .i64 0) := (qK BK487.out 1).trans rfl
                   have hfs50 := qC BK487.out 1
                   have hns50_0 := NB471_487.out
                   have hms50_0 := NB487_471.out
                   have hs51 : w48.cell? ⟨gb487, 2, none⟩ = some (.int .i64 0) := (qK BK487.out 2).trans rfl
                   have hfs51 := qC BK487.out 2
                   have hns51_0 := NB471_487.out
                   have hms51_0 := NB487_471.out
                   refine skip_ (w1 := ?_) (by rfl) rfl ?_ ?_
                   rotate_left
                   ·go_simp
                    rfl
                   refine hK.out _ _ ⟨((qO (p := ⟨gb487, _, none⟩) (by first | exact Kd.qM (Kd.qR HO_9.out (fun _ hk => hk.2)) | (rw [qS]; exact Kd.qM (Kd.qR HO_9.out (fun _ hk => hk.2))) | (show (Addr.add _ _).block ≠ _; rw [qS]; exact Kd.qM (Kd.qR HO_9.out (fun _ hk => hk.2))) | (dsimp only; exact Kd.qM (Kd.qR HO_9.out (fun _ hk => hk.2)))) _).trans (((qO (p := ⟨gb487, _, none⟩) (by first | exact Kd.qM (Kd.qR HO_9.out (fun _ hk => hk.2)) | (rw [qS]; exact Kd.qM (Kd.qR HO_9.out (fun _ hk => hk.2))) | (show (Addr.add _ _).block ≠ _; rw [qS]; exact Kd.qM (Kd.qR HO_9.out (fun _ hk => hk.2))) | (dsimp only; exact Kd.qM (Kd.qR HO_9.out (fun _ hk => hk.2)))) _).trans (((qO (p := ⟨gb487, _, none⟩) (by first | exact Kd.qM (Kd.qR HO_9.out (fun _ hk => hk.2)) | (rw [qS]; exact Kd.qM (Kd.qR HO_9.out (fun _ hk => hk.2))) | (show (Addr.add _ _).block ≠ _; rw [qS]; exact Kd.qM (Kd.qR HO_9.out (fun _ hk => hk.2))) | (dsimp only; exact Kd.qM (Kd.qR HO_9.out (fun _ hk => hk.2)))) _).trans (hHeld.1)))))), ((qO (p := ⟨gb487, _, none⟩) (by first | exact Kd.qM (Kd.qR HO_9.out (fun _ hk => hk.2)) | (rw [qS]; exact Kd.qM (Kd.qR HO_9.out (fun _ hk => hk.2))) | (show (Addr.add _ _).block ≠ _; rw [qS]; exact Kd.qM (Kd.qR HO_9.out (fun _ hk => hk.2))) | (dsimp only; exact Kd.qM (Kd.qR HO_9.out (fun _ hk => hk.2)))) _).trans (((qO (p := ⟨gb487, _, none⟩) (by first | exact Kd.qM (Kd.qR HO_9.out (fun _ hk => hk.2)) | (rw [qS]; exact Kd.qM (Kd.qR HO_9.out (fun _ hk => hk.2))) | (show (Addr.add _ _).block ≠ _; rw [qS]; exact Kd.qM (Kd.qR HO_9.out (fun _ hk => hk.2))) | (dsimp only; exact Kd.qM (Kd.qR HO_9.out (fun _ hk => hk.2)))) _).trans (((qO (p := ⟨gb487, _, none⟩) (by first | exact Kd.qM (Kd.qR HO_9.out (fun _ hk => hk.2)) | (rw [qS]; exact Kd.qM (Kd.qR HO_9.out (fun _ hk => hk.2))) | (show (Addr.add _ _).block ≠ _; rw [qS]; exact Kd.qM (Kd.qR HO_9.out (fun _ hk => hk.2))) | (dsimp only; exact Kd.qM (Kd.qR HO_9.out (fun _ hk => hk.2)))) _).trans (hHeld.2.1)))))), ((qO (p := ⟨gb487, _, none⟩) (by first | exact Kd.qM (Kd.qR HO_9.out (fun _ hk => hk.2)) | (rw [qS]; exact Kd.qM (Kd.qR HO_9.out (fun _ hk => hk.2))) | (show (Addr.add _ _).block ≠ _; rw [qS]; exact Kd.qM (Kd.qR HO_9.out (fun _ hk => hk.2))) | (dsimp only; exact Kd.qM (Kd.qR HO_9.out (fun _ hk => hk.2)))) _).trans (((qO (p := ⟨gb487, _, none⟩) (by first | exact Kd.qM (Kd.qR HO_9.out (fun _ hk => hk.2)) | (rw [qS]; exact Kd.qM (Kd.qR HO_9.out (fun _ hk => hk.2))) | (show (Addr.add _ _).block ≠ _; rw [qS]; exact Kd.qM (Kd.qR HO_9.out (fun _ hk => hk.2))) | (dsimp only; exact Kd.qM (Kd.qR HO_9.out (fun _ hk => hk.2)))) _).trans (((qO (p := ⟨gb487, _, none⟩) (by first | exact Kd.qM (Kd.qR HO_9.out (fun _ hk => hk.2)) | (rw [qS]; exact Kd.qM (Kd.qR HO_9.out (fun _ hk => hk.2))) | (show (Addr.add _ _).block ≠ _; rw [qS]; exact Kd.qM (Kd.qR HO_9.out (fun _ hk => hk.2))) | (dsimp only; exact Kd.qM (Kd.qR HO_9.out (fun _ hk => hk.2)))) _).trans (hHeld.2.2))))))⟩ (fun hHeld => ?_)
                   clear hK K
                   refine pS (i := 13) (N := some 14) #[true, true, true, true, true, true, true, true, true, true, true, true, true, true] HT_ ?_
                   refine done_ (qjA HT_.out (by kernel_rfl)) ?_
                   have hnb52 := NB487_471.out
                   have hnc52 := NB471_487.out
                   have hcz53_0 := bc BK487 0
                   have hcz53_1 := bc BK487 1
                   have hcz53_2 := bc BK487 2
                   have hfz53_0 := qC BK487.out 0
                   have hfz53_1 := qC BK487.out 1
                   have hfz53_2 := qC BK487.out 2
                   try go_wp2_with (first | (go_at_call 91; (with_reducible refine (qg.calls k2 _ _ x9_2 t483 t484 t485 false _ ?side1 ?side2 A22.out).mono ?_); (case side1 => refine (Kd.qh (e := 27) (base := w.heap.size) (ok := fun k_ => (k_ ≠ gb471 ∧ k_ ≠ gb487)) (n := x9_2.length) (c := co45) ?_).2.2; exact (by (with_reducible repeat (first | apply Kd.qF | apply Kd.qE | apply Kd.qH)); exact (Kd.qf (Kd.R_far (p := ⟨gb487, 2, none⟩) (Kd.R_far (p := ⟨gb487, 1, none⟩) (Kd.R_far (p := ⟨gb487, 0, none⟩) (Kd.qf HO_9.out (fun k_ hk => (⟨hk, hk.2⟩ : _ ∧ k_ ≠ gb487))) (fun _ hk => hk.2) (.int .i64 t483)) (fun _ hk => hk.2) (.int .i64 t484)) (fun _ hk => hk.2) (.int .i64 t485)) (fun _ h_ => h_.1)))); (case side2 => exact (Kd.qh HO_9.out).2.1); rintro e w54 ⟨rfl, hb⟩; have n0_ := Aside0.mk (Kd.qc (by (with_reducible repeat (first | apply Kd.qF | apply Kd.qE | apply Kd.qH)); exact (Kd.qf (Kd.R_far (p := ⟨gb487, 2, none⟩) (Kd.R_far (p := ⟨gb487, 1, none⟩) (Kd.R_far (p := ⟨gb487, 0, none⟩) (Kd.qf HO_9.out (fun k_ hk => (⟨hk, hk.2⟩ : _ ∧ k_ ≠ gb487))) (fun _ hk => hk.2) (.int .i64 t483)) (fun _ hk => hk.2) (.int .i64 t484)) (fun _ hk => hk.2) (.int .i64 t485)) (fun _ h_ => h_.1))) hb); have n1_ := Aside0.mk (Kd.qc (by (with_reducible repeat (first | apply Kd.qF | apply Kd.qE | apply Kd.qH)); exact (Kd.qf (Kd.R_far (p := ⟨gb487, 2, none⟩) (Kd.R_far (p := ⟨gb487, 1, none⟩) (Kd.R_far (p := ⟨gb487, 0, none⟩) (Kd.qt HO_10.out BK487.out (by decide)) (fun _ hk => hk.2) (.int .i64 t483)) (fun _ hk => hk.2) (.int .i64 t484)) (fun _ hk => hk.2) (.int .i64 t485)) (fun _ h_ => h_.1))) hb); have n2_ := Aside0.mk (Kd.qc (by (with_reducible repeat (first | apply Kd.qF | apply Kd.qE | apply Kd.qH)); exact (Kd.qf (Kd.R_far (p := ⟨gb487, 2, none⟩) (Kd.R_far (p := ⟨gb487, 1, none⟩) (Kd.R_far (p := ⟨gb487, 0, none⟩) (Kd.qt HO_19.out BK487.out (by decide)) (fun _ hk => hk.2) (.int .i64 t483)) (fun _ hk => hk.2) (.int .i64 t484)) (fun _ hk => hk.2) (.int .i64 t485)) (fun _ h_ => h_.1))) hb); have n3_ := Aside0.mk (qOA (g := gb471) (o := .cells #[.int .i64 a1_0, .int .i64 a1_1, .int .i64 a1_2] 27 (0, 0)) (by (with_reducible repeat (first | refine qB ?_ _ | refine qD ?_ | refine qA ?_ _)); refine qL ?_ NB471_487.out _; (with_reducible repeat (first | refine qB ?_ _ | refine qD ?_ | refine qA ?_ _)); refine qL ?_ NB471_487.out _; (with_reducible repeat (first | refine qB ?_ _ | refine qD ?_ | refine qA ?_ _)); refine qL ?_ NB471_487.out _; (with_reducible repeat (first | refine qB ?_ _ | refine qD ?_ | refine qA ?_ _)); exact BK471.out) hb); have n4_ := Aside0.mk (qOA (g := gb487) (o := .cells #[.int .i64 t483, .int .i64 t484, .int .i64 t485] 27 (0, 0)) (by (with_reducible repeat (first | refine qB ?_ _ | refine qD ?_ | refine qA ?_ _)); refine qP (cs := #[.int .i64 t483, .int .i64 t484, .int .i64 0]) ?_ 2 _ rfl; (with_reducible repeat (first | refine qB ?_ _ | refine qD ?_ | refine qA ?_ _)); refine qP (cs := #[.int .i64 t483, .int .i64 0, .int .i64 0]) ?_ 1 _ rfl; (with_reducible repeat (first | refine qB ?_ _ | refine qD ?_ | refine qA ?_ _)); refine qP (cs := #[.int .i64 0, .int .i64 0, .int .i64 0]) ?_ 0 _ rfl; (with_reducible repeat (first | refine qB ?_ _ | refine qD ?_ | refine qA ?_ _)); exact BK487.out) hb); have n5_ := Aside0.mk (qG bl hb); clear HO_9; clear HO_10; clear HO_19; clear BK471; clear BK487; clear HB; have HO_9 := n0_; have HO_10 := n1_; have HO_19 := n2_; have BK471 := n3_; have BK487 := n4_; have HB := n5_; clear n0_ n1_ n2_ n3_ n4_ n5_; (try clear hb); (try clear hb2); (try clear hk); (try clear hi); obtain ⟨Ao55, co55, eo55⟩ := Kd.ql HO_10.out; subst eo55))
                   have n0_ := Aside0.mk (Kd.qH HO_9.out)
                   have n1_ := Aside0.mk (Kd.qH HO_10.out)
                   have n2_ := Aside0.mk (Kd.qH HO_19.out)
                   have n3_ := Aside0.mk (qD BK471.out)
                   have n4_ := Aside0.mk (qD BK487.out)
                   have n5_ := Aside0.mk (qi HB.out)
                   clear HO_9
                   clear HO_10
                   clear HO_19
                   clear BK471
                   clear BK487
                   clear HB
                   have HO_9 := n0_
                   have HO_10 := n1_
                   have HO_19 := n2_
                   have BK471 := n3_
                   have BK487 := n4_
                   have HB := n5_
                   clear n0_ n1_ n2_ n3_ n4_ n5_
                   have p495 : 0 ≤ (x11_1 : Int) := of_decide_eq_true (by first | (with_reducible assumption) | assumption)
                   have q495 : x11_1 < (x10_2.length : Int) := of_decide_eq_true (by first | (with_reducible assumption) | assumption)
                   obtain ⟨ad495, e495, hx495_0⟩ := Kd.qpA (Kd.qh HO_10.out).2.2 x11_1 p495 q495
                   cases e495
                   replace p495 := eq_true p495
                   replace q495 := eq_true q495
                   have hof495 := Aside0.mk (R_off1 _ HO_10.out (by rfl) x11_1 (of_eq_true p495) (of_eq_true q495))
                   have hnr495_HO_9 := Aside0.mk (R_apart1 _ _ HO_10.out HO_9.out (by decide) (x11_1).toNat)
                   refine qsA (n := 18) (S := fun w' => w'.cell? ⟨gb487, 0, none⟩ = some (.int .i64 t483) ∧ w'.cell? ⟨gb487, 1, none⟩ = some (.int .i64 t484) ∧ w'.cell? ⟨gb487, 2, none⟩ = some (.int .i64 t485) ∧ w'.cell? (ad495.add (x11_1).toNat) = some (.string (rdOf ByteArray.empty x10_2 x11_1))) (ds := []) #[false, false, false, false, false, false, false, false, false, false, false, false, false, false, false, false, false, false] (by kernel_rfl) rfl rfl ⟨(qK BK487.out 0).trans rfl, (qK BK487.out 1).trans rfl, (qK BK487.out 2).trans rfl, hx495_0⟩ (fun hHeld => ?_); refine qTA qN.tab13 qN.bits13 (fun HT_ HW_ => ?_)
                   generalize w54.drew = w56 at HO_9 HO_10 HO_19 BK471 BK487 HB hx495_0 hHeld ⊢
                   refine pS (i := 0) (N := some 53) #[true, false, false, false, false, false, false, false, false, false, false, false, false, false, false, false, false, false] HT_ ?_
                   refine pS (i := 4) (N := some 57) #[true, false, false, false, true, false, false, false, false, false, false, false, false, false, false, false, false, false] HT_ ?_
                   refine pS (i := 5) (N := some 58) #[true, false, false, false, true, true, false, false, false, false, false, false, false, false, false, false, false, false] HT_ ?_
                   refine pS (i := 6) (N := some 59) #[true, false, false, false, true, true, true, false, false, false, false, false, false, false, false, false, false, false] HT_ ?_
                   refine pS (i := 7) (N := some 60) #[true, false, false, false, true, true, true, true, false, false, false, false, false, false, false, false, false, false] HT_ ?_
                   refine pS (i := 9) (N := some 62) #[true, false, false, false, true, true, true, true, false, true, false, false, false, false, false, false, false, false] HT_ ?_
                   refine pS (i := 10) (N := some 63) #[true, false, false, false, true, true, true, true, false, true, true, false, false, false, false, false, false, false] HT_ ?_
                   refine pS (i := 11) (N := some 64) #[true, false, false, false, true, true, true, true, false, true, true, true, false, false, false, false, false, false] HT_ ?_
                   refine pS (i := 12) (N := some 65) #[true, false, false, false, true, true, true, true, false, true, true, true, true, false, false, false, false, false] HT_ ?_
                   refine tS (i := 1) (N := some 54) #[true, true, false, false, true, true, true, true, false, true, true, true, true, false, false, false, false, false] HT_ HW_ hHeld ?_
                   refine tS (i := 8) (N := some 61) #[true, true, false, false, true, true, true, true, true, true, true, true, true, false, false, false, false, false] HT_ HW_ hHeld ?_
                   refine pS (i := 13) (N := some 66) #[true, true, false, false, true, true, true, true, true, true, true, true, true, true, false, false, false, false] HT_ ?_
                   refine join_ (σ := Value × Value × Value) 3 #[true, true, true, true, true, true, true, true, true, true, true, true, true, true, true, false, false, false] (fun s_ => [(55, s_.1), (56, s_.2.1), (67, s_.2.2)]) (fun s_ w' => (w'.cell? ⟨gb487, 0, none⟩ = some (.int .i64 t483) ∧ w'.cell? ⟨gb487, 1, none⟩ = some (.int .i64 t484) ∧ w'.cell? ⟨gb487, 2, none⟩ = some (.int .i64 t485) ∧ w'.cell? (ad495.add (x11_1).toNat) = some (.string (rdOf ByteArray.empty x10_2 x11_1))) ∧ (Kd.R k27 27 w' w.heap.size (fun k_ => some k_ ≠ (s_.2.1 : Value).ownBlock ∧ k_ ≠ gb471 ∧ k_ ≠ gb487) s_.1 y489) ∧ (Kd.R k27 27 w' w.heap.size (fun k_ => some k_ ≠ (s_.1 : Value).ownBlock ∧ k_ ≠ gb471 ∧ k_ ≠ gb487) s_.2.1 y492) ∧ (Kd.R Kd.string 9 w' w.heap.size (fun k_ => some k_ ≠ (.slice (some ad495) x10_2.length co55 : Value).ownBlock ∧ some k_ ≠ (.slice Ao43 t472.length co43 : Value).ownBlock) s_.2.2 y496) ∧ (Kd.R Kd.string 9 w' w.heap.size (fun k_ => some k_ ≠ (s_.2.2 : Value).ownBlock ∧ some k_ ≠ (.slice Ao43 t472.length co43 : Value).ownBlock) (.slice (some ad495) x10_2.length co55) x10_2) ∧ (Kd.R Kd.string 9 w' w.heap.size (fun k_ => some k_ ≠ (s_.2.2 : Value).ownBlock ∧ some k_ ≠ (.slice (some ad495) x10_2.length co55 : Value).ownBlock) (.slice Ao43 t472.length co43) t472) ∧ (w'.heap[gb471]? = some (.cells #[.int .i64 a1_0, .int .i64 a1_1, .int .i64 a1_2] 27 (0, 0))) ∧ (w'.heap[gb487]? = some (.cells #[.int .i64 t483, .int .i64 t484, .int .i64 t485] 27 (0, 0))) ∧ (Below w.heap.size w w')) ?_ ?_
                   rotate_left
                   ·intro hCont
                    refine two_ (i := 2) (j := 14) (Ni := some 55) (Nj := some 67) #[true, true, true, false, true, true, true, true, true, true, true, true, true, true, false, false, false, false] #[true, true, false, false, true, true, true, true, true, true, true, true, true, true, true, false, false, false] rfl rfl rfl rfl (qeB HT_.out (by kernel_rfl)) (by decide) (by decide) (fun K hK => ?_) (fun K hK => ?_)
                    ·skip
                     refine Kd.qzA k27 _ 27 ?hg (N := 55) ?hd (xs := ([(⟨t483, t484, t485⟩ : S27)] : List (S27))) (inner := [.int .i64 t483, .int .i64 t484, .int .i64 t485]) (ok := fun _ => True) (okp := fun _ => True) ?hr ?hp (fun _ hk => hk) trivial (Below.refl _ _) (Nat.le_refl _) (by simp) ?_; (case hd => rfl); (case hg => rfl); (case hr => first | (go_simp; done) | (go_simp; rfl)); (case hp => exact (Reps.c3 (show Kd.M k27 _ _ _ (⟨t483, t484, t485⟩ : S27) [.int .i64 t483, .int .i64 t484, .int .i64 t485] from (qhB _ _ _ (⟨t483, t484, t485⟩ : S27) )) (Reps.none _ _)))
                     intro v490 w57 ho58 hb hg_ hnew_
                     have HS3_ := (hb.cell (World.block_lt_of_cell? _ _ (hHeld.2.2.2))).trans (hHeld.2.2.2)
                     clear hg_ hnew_
                     (first | rw [← Ny489.out] at ho58 | (simp only [Int.reduceToNat] at ho58; rw [← Ny489.out] at ho58))
                     have n0_ := Aside0.mk (Kd.qlA (by (with_reducible repeat (first | apply Kd.qF | apply Kd.qE | apply Kd.qH)); exact HO_9.out) (Kd.qJB ho58) hb)
                     have n1_ := Aside0.mk (Kd.qc (by (with_reducible repeat (first | apply Kd.qF | apply Kd.qE | apply Kd.qH)); exact HO_10.out) hb)
                     have n2_ := Aside0.mk (Kd.qc (by (with_reducible repeat (first | apply Kd.qF | apply Kd.qE | apply Kd.qH)); exact HO_19.out) hb)
                     have n3_ := Aside0.mk (Kd.qu (Kd.qHB (Kd.qHB (Kd.qIB ho58 (Kd.R_lt (by (with_reducible repeat (first | apply Kd.qF | apply Kd.qE | apply Kd.qH)); exact HO_9.out))) (g := gb471) (o := .cells #[.int .i64 a1_0, .int .i64 a1_1, .int .i64 a1_2] 27 (0, 0)) (by (with_reducible repeat (first | refine qB ?_ _ | refine qD ?_ | refine qA ?_ _)); exact BK471.out)) (g := gb487) (o := .cells #[.int .i64 t483, .int .i64 t484, .int .i64 t485] 27 (0, 0)) (by (with_reducible repeat (first | refine qB ?_ _ | refine qD ?_ | refine qA ?_ _)); exact BK487.out)) (qe bl))
                     have n4_ := Aside0.mk (bb BK471 hb)
                     have n5_ := Aside0.mk (bb BK487 hb)
                     have n6_ := Aside0.mk (qG bl hb)
                     clear HO_9
                     clear HO_10
                     clear HO_19
                     clear BK471
                     clear BK487
                     clear HB
                     have HO_9 := n0_
                     have HO_10 := n1_
                     have HO_19 := n2_
                     have HO491 := n3_
                     have BK471 := n4_
                     have BK487 := n5_
                     have HB := n6_
                     clear n0_ n1_ n2_ n3_ n4_ n5_ n6_
                     clear hb ho58
                     obtain ⟨Ao60, co60, eo60⟩ := Kd.ql HO491.out
                     (first | subst eo60 | (injection eo60 with f1_ f2_ f3_; have f4_ := f1_.symm; have f5_ := f3_.symm; clear f1_ f2_ f3_; subst f4_; subst f5_))
                     refine hK.out _ _ ⟨(qK BK487.out 0).trans rfl, (qK BK487.out 1).trans rfl, (qK BK487.out 2).trans rfl, HS3_⟩ (fun hHeld => ?_)
                     clear hK K
                     refine norm_ (a' := ?_) ?_ ?_
                     rotate_left
                     ·show Act.put _ (some 55) _ = _
                      simp only [Act.put, List.setIfInBounds_toArray, List.set_cons_zero, List.set_cons_succ, i64_w, i32_w]
                      rfl
                     refine two_ (i := 3) (j := 14) (Ni := some 56) (Nj := some 67) #[true, true, true, true, true, true, true, true, true, true, true, true, true, true, false, false, false, false] #[true, true, true, false, true, true, true, true, true, true, true, true, true, true, true, false, false, false] rfl rfl rfl rfl (qeB HT_.out (by kernel_rfl)) (by decide) (by decide) (fun K hK => ?_) (fun K hK => ?_)
                     ·skip
                      refine qdA k27 (w0 := w) w.heap.size (by rfl) (.tmp 53) (.tmp 55) 50 27 (.agg #[(.int .i64 0), (.int .i64 0), (.int .i64 0)]) 24 rfl Tryd.underlying50 info27 rfl (by decide) (by omega) (.slice (some ad482) x9_2.length co45) x9_2 y489 _ _ _ (fun k_ => some k_ ≠ (.slice Ao60 y489.length co60 : Value).ownBlock ∧ k_ ≠ gb471 ∧ k_ ≠ gb487) (fun _ => False) rfl rfl ?aO ?aR (fun _ _ h => h) (fun _ h => h.elim) ?aF ?aB ?aS ?aL ?_
                      (case aR => repeat (first | exact (Kd.qh HO491.out).2.2 | (with_reducible refine Kd.qIA ?_ _) | (with_reducible refine Kd.qHA ?_ _) | (with_reducible refine Kd.qSA ?_)))
                      (case aB => exact bl)
                      (case aF => exact (fun k_ hk => ⟨Kd.fresh' (Kd.R_lt (by (with_reducible repeat (first | apply Kd.qF | apply Kd.qE | apply Kd.qH)); exact HO491.out)) k_ hk, Kd.freshB (g := gb471) (o := .cells #[.int .i64 a1_0, .int .i64 a1_1, .int .i64 a1_2] 27 (0, 0)) (by (with_reducible repeat (first | refine qB ?_ _ | refine qD ?_ | refine qA ?_ _)); exact BK471.out) k_ hk, Kd.freshB (g := gb487) (o := .cells #[.int .i64 t483, .int .i64 t484, .int .i64 t485] 27 (0, 0)) (by (with_reducible repeat (first | refine qB ?_ _ | refine qD ?_ | refine qA ?_ _)); exact BK487.out) k_ hk⟩))
                      (case aO => exact (by (with_reducible repeat (first | apply Kd.qF | apply Kd.qE | apply Kd.qH)); exact Kd.qf HO_9.out (fun _ hk => ⟨hk.2, ⟨hk.1.1, hk.1.2⟩⟩)))
                      (case aS => exact (qe bl))
                      (case aL => have := LMc36.out; omega)
                      intro v493 w59 ho hb hg hat hkp_
                      have HS3_ := hkp_ _ _ (hHeld.2.2.2) (fun e_ => absurd e_ hnr495_HO_9.out)
                      clear hkp_
                      rw [← Ny492.out] at ho
                      have n0_ := Aside0.mk (Kd.qrA (by (with_reducible repeat (first | apply Kd.qF | apply Kd.qE | apply Kd.qH)); exact HO_10.out) (Kd.qqA (by (with_reducible repeat (first | apply Kd.qF | apply Kd.qE | apply Kd.qH)); exact HO_9.out)) (by decide) hg)
                      have n1_ := Aside0.mk (Kd.qrA (by (with_reducible repeat (first | apply Kd.qF | apply Kd.qE | apply Kd.qH)); exact HO_19.out) (Kd.qqA (by (with_reducible repeat (first | apply Kd.qF | apply Kd.qE | apply Kd.qH)); exact HO_9.out)) (by decide) hg)
                      have n2_ := Aside0.mk (qDA (g := gb471) (o := .cells #[.int .i64 a1_0, .int .i64 a1_1, .int .i64 a1_2] 27 (0, 0)) (by (with_reducible repeat (first | refine qB ?_ _ | refine qD ?_ | refine qA ?_ _)); exact BK471.out) hg (Kd.qR HO_9.out (fun _ hk => hk.1.1)))
                      have n3_ := Aside0.mk (qDA (g := gb487) (o := .cells #[.int .i64 t483, .int .i64 t484, .int .i64 t485] 27 (0, 0)) (by (with_reducible repeat (first | refine qB ?_ _ | refine qD ?_ | refine qA ?_ _)); exact BK487.out) hg (Kd.qR HO_9.out (fun _ hk => hk.1.2)))
                      have n4_ := Aside0.mk (Kd.qOB (ok := (fun k_ => k_ ≠ gb471 ∧ k_ ≠ gb487)) (by (with_reducible repeat (first | apply Kd.qF | apply Kd.qE | apply Kd.qH)); exact Kd.qf HO491.out (fun _ hk => ⟨⟨hk.1.2, hk.2⟩, hk.1.1.2⟩)) hg hat)
                      have n5_ := Aside0.mk (hb)
                      have n6_ := Aside0.mk (ho)
                      clear HO_10
                      clear HO_19
                      clear BK471
                      clear BK487
                      clear HO491
                      clear HB
                      clear HO_9
                      have HO_10 := n0_
                      have HO_19 := n1_
                      have BK471 := n2_
                      have BK487 := n3_
                      have HO491 := n4_
                      have HB := n5_
                      have HO494 := n6_
                      clear n0_ n1_ n2_ n3_ n4_ n5_ n6_
                      clear ho hb hg hat
                      refine hK.out _ _ ⟨(qK BK487.out 0).trans rfl, (qK BK487.out 1).trans rfl, (qK BK487.out 2).trans rfl, HS3_⟩ (fun hHeld => ?_)
                      clear hK K
                      refine norm_ (a' := ?_) ?_ ?_
                      rotate_left
                      ·show Act.put _ (some 56) _ = _
                       simp only [Act.put, List.setIfInBounds_toArray, List.set_cons_zero, List.set_cons_succ, i64_w, i32_w]
                       rfl
                      refine one_ (i := 14) (N := some 67) #[true, true, true, true, true, true, true, true, true, true, true, true, true, true, true, false, false, false] rfl rfl (qNA HT_.out (by kernel_rfl)) (by decide) (fun K hK => ?_)
                      refine Kd.qzA Kd.string _ 9 ?hg (N := 67) ?hd (xs := ([(rdOf ByteArray.empty x10_2 x11_1) ++ ((⟨#[110, 101, 115, 119]⟩ : ByteArray).extract (x32_2 : Int).toNat ((wrap64 (x32_2 + 1)) : Int).toNat)] : List ByteArray)) (inner := [.string ((rdOf ByteArray.empty x10_2 x11_1) ++ ((⟨#[110, 101, 115, 119]⟩ : ByteArray).extract (x32_2 : Int).toNat ((wrap64 (x32_2 + 1)) : Int).toNat))]) (ok := fun _ => True) (okp := fun _ => True) ?hr ?hp (fun _ hk => hk) trivial (Below.refl _ _) (Nat.le_refl _) (by simp) ?_; (case hd => rfl); (case hg => rfl); (case hr => first | (go_simp; done) | (go_simp; rfl)); (case hp => exact (Reps.one (show Kd.M Kd.string _ _ _ ((rdOf ByteArray.empty x10_2 x11_1) ++ ((⟨#[110, 101, 115, 119]⟩ : ByteArray).extract (x32_2 : Int).toNat ((wrap64 (x32_2 + 1)) : Int).toNat)) [.string ((rdOf ByteArray.empty x10_2 x11_1) ++ ((⟨#[110, 101, 115, 119]⟩ : ByteArray).extract (x32_2 : Int).toNat ((wrap64 (x32_2 + 1)) : Int).toNat))] from rfl) (Reps.none _ _)))
                      intro v497 w61 ho62 hb hg_ hnew_
                      have HS3_ := (hb.cell (World.block_lt_of_cell? _ _ (hHeld.2.2.2))).trans (hHeld.2.2.2)
                      clear hg_ hnew_
                      (first | rw [← Ny496.out] at ho62 | (simp only [Int.reduceToNat] at ho62; rw [← Ny496.out] at ho62))
                      have n0_ := Aside0.mk (Kd.qlA (by (with_reducible repeat (first | apply Kd.qF | apply Kd.qE | apply Kd.qH)); exact HO_10.out) (Kd.qJB ho62) hb)
                      have n1_ := Aside0.mk (Kd.qlA (by (with_reducible repeat (first | apply Kd.qF | apply Kd.qE | apply Kd.qH)); exact HO_19.out) (Kd.qJB ho62) hb)
                      have n2_ := Aside0.mk (Kd.qc (by (with_reducible repeat (first | apply Kd.qF | apply Kd.qE | apply Kd.qH)); exact HO491.out) hb)
                      have n3_ := Aside0.mk (Kd.qc (by (with_reducible repeat (first | apply Kd.qF | apply Kd.qE | apply Kd.qH)); exact HO494.out) hb)
                      have n4_ := Aside0.mk (Kd.qu (Kd.qIB (Kd.qIB ho62 (Kd.R_lt (by (with_reducible repeat (first | apply Kd.qF | apply Kd.qE | apply Kd.qH)); exact HO_10.out))) (Kd.R_lt (by (with_reducible repeat (first | apply Kd.qF | apply Kd.qE | apply Kd.qH)); exact HO_19.out))) (qe bl))
                      have n5_ := Aside0.mk (bb BK471 hb)
                      have n6_ := Aside0.mk (bb BK487 hb)
                      have n7_ := Aside0.mk (qG bl hb)
                      clear HO_10
                      clear HO_19
                      clear HO491
                      clear HO494
                      clear BK471
                      clear BK487
                      clear HB
                      have HO_10 := n0_
                      have HO_19 := n1_
                      have HO491 := n2_
                      have HO494 := n3_
                      have HO498 := n4_
                      have BK471 := n5_
                      have BK487 := n6_
                      have HB := n7_
                      clear n0_ n1_ n2_ n3_ n4_ n5_ n6_ n7_
                      clear hb ho62
                      refine hK.out _ _ ⟨(qK BK487.out 0).trans rfl, (qK BK487.out 1).trans rfl, (qK BK487.out 2).trans rfl, HS3_⟩ (fun hHeld => ?_)
                      clear hK K
                      refine norm_ (a' := ?_) ?_ ?_
                      rotate_left
                      ·show Act.put _ (some 67) _ = _
                       simp only [Act.put, List.setIfInBounds_toArray, List.set_cons_zero, List.set_cons_succ, i64_w, i32_w]
                       rfl
                      exact norm_ (by simp only [putAll, Act.put, List.setIfInBounds_toArray, List.set_cons_zero, List.set_cons_succ]) (hCont (.slice Ao60 y489.length co60, v493, v497) _ ⟨hHeld, (by (with_reducible repeat (first | apply Kd.qF | apply Kd.qE | apply Kd.qH)); exact Kd.qf HO491.out (fun _ hk => ⟨hk.2, ⟨hk.1.1, hk.1.2⟩⟩)), (by (with_reducible repeat (first | apply Kd.qF | apply Kd.qE | apply Kd.qH)); exact HO494.out), (by (with_reducible repeat (first | apply Kd.qF | apply Kd.qE | apply Kd.qH)); exact Kd.qf HO498.out (fun _ hk => ⟨hk.1.2, hk.2⟩)), (by (with_reducible repeat (first | apply Kd.qF | apply Kd.qE | apply Kd.qH)); exact Kd.qf HO_10.out (fun _ hk => ⟨hk.2, hk.1⟩)), (by (with_reducible repeat (first | apply Kd.qF | apply Kd.qE | apply Kd.qH)); exact Kd.qf HO_19.out (fun _ hk => ⟨hk.2, hk.1⟩)), (by (with_reducible repeat (first | refine qB ?_ _ | refine qD ?_ | refine qA ?_ _)); exact BK471.out), (by (with_reducible repeat (first | refine qB ?_ _ | refine qD ?_ | refine qA ?_ _)); exact BK487.out), bl⟩)
                     ·skip
                      refine Kd.qzA Kd.string _ 9 ?hg (N := 67) ?hd (xs := ([(rdOf ByteArray.empty x10_2 x11_1) ++ ((⟨#[110, 101, 115, 119]⟩ : ByteArray).extract (x32_2 : Int).toNat ((wrap64 (x32_2 + 1)) : Int).toNat)] : List ByteArray)) (inner := [.string ((rdOf ByteArray.empty x10_2 x11_1) ++ ((⟨#[110, 101, 115, 119]⟩ : ByteArray).extract (x32_2 : Int).toNat ((wrap64 (x32_2 + 1)) : Int).toNat))]) (ok := fun _ => True) (okp := fun _ => True) ?hr ?hp (fun _ hk => hk) trivial (Below.refl _ _) (Nat.le_refl _) (by simp) ?_; (case hd => rfl); (case hg => rfl); (case hr => first | (go_simp; done) | (go_simp; rfl)); (case hp => exact (Reps.one (show Kd.M Kd.string _ _ _ ((rdOf ByteArray.empty x10_2 x11_1) ++ ((⟨#[110, 101, 115, 119]⟩ : ByteArray).extract (x32_2 : Int).toNat ((wrap64 (x32_2 + 1)) : Int).toNat)) [.string ((rdOf ByteArray.empty x10_2 x11_1) ++ ((⟨#[110, 101, 115, 119]⟩ : ByteArray).extract (x32_2 : Int).toNat ((wrap64 (x32_2 + 1)) : Int).toNat))] from rfl) (Reps.none _ _)))
                      intro v497 w59 ho60 hb hg_ hnew_
                      have HS3_ := (hb.cell (World.block_lt_of_cell? _ _ (hHeld.2.2.2))).trans (hHeld.2.2.2)
                      clear hg_ hnew_
                      (first | rw [← Ny496.out] at ho60 | (simp only [Int.reduceToNat] at ho60; rw [← Ny496.out] at ho60))
                      have n0_ := Aside0.mk (Kd.qc (by (with_reducible repeat (first | apply Kd.qF | apply Kd.qE | apply Kd.qH)); exact HO_9.out) hb)
                      have n1_ := Aside0.mk (Kd.qlA (by (with_reducible repeat (first | apply Kd.qF | apply Kd.qE | apply Kd.qH)); exact HO_10.out) (Kd.qJB ho60) hb)
                      have n2_ := Aside0.mk (Kd.qlA (by (with_reducible repeat (first | apply Kd.qF | apply Kd.qE | apply Kd.qH)); exact HO_19.out) (Kd.qJB ho60) hb)
                      have n3_ := Aside0.mk (Kd.qc (by (with_reducible repeat (first | apply Kd.qF | apply Kd.qE | apply Kd.qH)); exact HO491.out) hb)
                      have n4_ := Aside0.mk (Kd.qu (Kd.qIB (Kd.qIB ho60 (Kd.R_lt (by (with_reducible repeat (first | apply Kd.qF | apply Kd.qE | apply Kd.qH)); exact HO_10.out))) (Kd.R_lt (by (with_reducible repeat (first | apply Kd.qF | apply Kd.qE | apply Kd.qH)); exact HO_19.out))) (qe bl))
                      have n5_ := Aside0.mk (bb BK471 hb)
                      have n6_ := Aside0.mk (bb BK487 hb)
                      have n7_ := Aside0.mk (qG bl hb)
                      clear HO_9
                      clear HO_10
                      clear HO_19
                      clear HO491
                      clear BK471
                      clear BK487
                      clear HB
                      have HO_9 := n0_
                      have HO_10 := n1_
                      have HO_19 := n2_
                      have HO491 := n3_
                      have HO498 := n4_
                      have BK471 := n5_
                      have BK487 := n6_
                      have HB := n7_
                      clear n0_ n1_ n2_ n3_ n4_ n5_ n6_ n7_
                      clear hb ho60
                      obtain ⟨Ao62, co62, eo62⟩ := Kd.ql HO491.out
                      (first | subst eo62 | (injection eo62 with f1_ f2_ f3_; have f4_ := f1_.symm; have f5_ := f3_.symm; clear f1_ f2_ f3_; subst f4_; subst f5_))
                      refine hK.out _ _ ⟨(qK BK487.out 0).trans rfl, (qK BK487.out 1).trans rfl, (qK BK487.out 2).trans rfl, HS3_⟩ (fun hHeld => ?_)
                      clear hK K
                      refine norm_ (a' := ?_) ?_ ?_
                      rotate_left
                      ·show Act.put _ (some 67) _ = _
                       simp only [Act.put, List.setIfInBounds_toArray, List.set_cons_zero, List.set_cons_succ, i64_w, i32_w]
                       rfl
                      refine one_ (i := 3) (N := some 56) #[true, true, true, true, true, true, true, true, true, true, true, true, true, true, true, false, false, false] rfl rfl (qNA HT_.out (by kernel_rfl)) (by decide) (fun K hK => ?_)
                      refine qdA k27 (w0 := w) w.heap.size (by rfl) (.tmp 53) (.tmp 55) 50 27 (.agg #[(.int .i64 0), (.int .i64 0), (.int .i64 0)]) 24 rfl Tryd.underlying50 info27 rfl (by decide) (by omega) (.slice (some ad482) x9_2.length co45) x9_2 y489 _ _ _ (fun k_ => some k_ ≠ (.slice Ao62 y489.length co62 : Value).ownBlock ∧ k_ ≠ gb471 ∧ k_ ≠ gb487) (fun _ => False) rfl rfl ?aO ?aR (fun _ _ h => h) (fun _ h => h.elim) ?aF ?aB ?aS ?aL ?_
                      (case aR => repeat (first | exact (Kd.qh HO491.out).2.2 | (with_reducible refine Kd.qIA ?_ _) | (with_reducible refine Kd.qHA ?_ _) | (with_reducible refine Kd.qSA ?_)))
                      (case aB => exact bl)
                      (case aF => exact (fun k_ hk => ⟨Kd.fresh' (Kd.R_lt (by (with_reducible repeat (first | apply Kd.qF | apply Kd.qE | apply Kd.qH)); exact HO491.out)) k_ hk, Kd.freshB (g := gb471) (o := .cells #[.int .i64 a1_0, .int .i64 a1_1, .int .i64 a1_2] 27 (0, 0)) (by (with_reducible repeat (first | refine qB ?_ _ | refine qD ?_ | refine qA ?_ _)); exact BK471.out) k_ hk, Kd.freshB (g := gb487) (o := .cells #[.int .i64 t483, .int .i64 t484, .int .i64 t485] 27 (0, 0)) (by (with_reducible repeat (first | refine qB ?_ _ | refine qD ?_ | refine qA ?_ _)); exact BK487.out) k_ hk⟩))
                      (case aO => exact (by (with_reducible repeat (first | apply Kd.qF | apply Kd.qE | apply Kd.qH)); exact Kd.qf HO_9.out (fun _ hk => ⟨hk.2, ⟨hk.1.1, hk.1.2⟩⟩)))
                      (case aS => exact (qe bl))
                      (case aL => have := LMc36.out; omega)
                      intro v493 w61 ho hb hg hat hkp_
                      have HS3_ := hkp_ _ _ (hHeld.2.2.2) (fun e_ => absurd e_ hnr495_HO_9.out)
                      clear hkp_
                      rw [← Ny492.out] at ho
                      have n0_ := Aside0.mk (Kd.qrA (by (with_reducible repeat (first | apply Kd.qF | apply Kd.qE | apply Kd.qH)); exact HO_10.out) (Kd.qqA (by (with_reducible repeat (first | apply Kd.qF | apply Kd.qE | apply Kd.qH)); exact HO_9.out)) (by decide) hg)
                      have n1_ := Aside0.mk (Kd.qrA (by (with_reducible repeat (first | apply Kd.qF | apply Kd.qE | apply Kd.qH)); exact HO_19.out) (Kd.qqA (by (with_reducible repeat (first | apply Kd.qF | apply Kd.qE | apply Kd.qH)); exact HO_9.out)) (by decide) hg)
                      have n2_ := Aside0.mk (qDA (g := gb471) (o := .cells #[.int .i64 a1_0, .int .i64 a1_1, .int .i64 a1_2] 27 (0, 0)) (by (with_reducible repeat (first | refine qB ?_ _ | refine qD ?_ | refine qA ?_ _)); exact BK471.out) hg (Kd.qR HO_9.out (fun _ hk => hk.1.1)))
                      have n3_ := Aside0.mk (qDA (g := gb487) (o := .cells #[.int .i64 t483, .int .i64 t484, .int .i64 t485] 27 (0, 0)) (by (with_reducible repeat (first | refine qB ?_ _ | refine qD ?_ | refine qA ?_ _)); exact BK487.out) hg (Kd.qR HO_9.out (fun _ hk => hk.1.2)))
                      have n4_ := Aside0.mk (Kd.qOB (ok := (fun k_ => k_ ≠ gb471 ∧ k_ ≠ gb487)) (by (with_reducible repeat (first | apply Kd.qF | apply Kd.qE | apply Kd.qH)); exact Kd.qf HO491.out (fun _ hk => ⟨⟨hk.1.2, hk.2⟩, hk.1.1.2⟩)) hg hat)
                      have n5_ := Aside0.mk (Kd.qrA (by (with_reducible repeat (first | apply Kd.qF | apply Kd.qE | apply Kd.qH)); exact HO498.out) (Kd.qqA (by (with_reducible repeat (first | apply Kd.qF | apply Kd.qE | apply Kd.qH)); exact HO_9.out)) (by decide) hg)
                      have n6_ := Aside0.mk (hb)
                      have n7_ := Aside0.mk (ho)
                      clear HO_10
                      clear HO_19
                      clear BK471
                      clear BK487
                      clear HO491
                      clear HO498
                      clear HB
                      clear HO_9
                      have HO_10 := n0_
                      have HO_19 := n1_
                      have BK471 := n2_
                      have BK487 := n3_
                      have HO491 := n4_
                      have HO498 := n5_
                      have HB := n6_
                      have HO494 := n7_
                      clear n0_ n1_ n2_ n3_ n4_ n5_ n6_ n7_
                      clear ho hb hg hat
                      refine hK.out _ _ ⟨(qK BK487.out 0).trans rfl, (qK BK487.out 1).trans rfl, (qK BK487.out 2).trans rfl, HS3_⟩ (fun hHeld => ?_)
                      clear hK K
                      refine norm_ (a' := ?_) ?_ ?_
                      rotate_left
                      ·show Act.put _ (some 56) _ = _
                       simp only [Act.put, List.setIfInBounds_toArray, List.set_cons_zero, List.set_cons_succ, i64_w, i32_w]
                       rfl
                      exact norm_ (by simp only [putAll, Act.put, List.setIfInBounds_toArray, List.set_cons_zero, List.set_cons_succ]) (hCont (.slice Ao62 y489.length co62, v493, v497) _ ⟨hHeld, (by (with_reducible repeat (first | apply Kd.qF | apply Kd.qE | apply Kd.qH)); exact Kd.qf HO491.out (fun _ hk => ⟨hk.2, ⟨hk.1.1, hk.1.2⟩⟩)), (by (with_reducible repeat (first | apply Kd.qF | apply Kd.qE | apply Kd.qH)); exact HO494.out), (by (with_reducible repeat (first | apply Kd.qF | apply Kd.qE | apply Kd.qH)); exact Kd.qf HO498.out (fun _ hk => ⟨hk.1.2, hk.2⟩)), (by (with_reducible repeat (first | apply Kd.qF | apply Kd.qE | apply Kd.qH)); exact Kd.qf HO_10.out (fun _ hk => ⟨hk.2, hk.1⟩)), (by (with_reducible repeat (first | apply Kd.qF | apply Kd.qE | apply Kd.qH)); exact Kd.qf HO_19.out (fun _ hk => ⟨hk.2, hk.1⟩)), (by (with_reducible repeat (first | refine qB ?_ _ | refine qD ?_ | refine qA ?_ _)); exact BK471.out), (by (with_reducible repeat (first | refine qB ?_ _ | refine qD ?_ | refine qA ?_ _)); exact BK487.out), bl⟩)
                    ·skip
                     refine Kd.qzA Kd.string _ 9 ?hg (N := 67) ?hd (xs := ([(rdOf ByteArray.empty x10_2 x11_1) ++ ((⟨#[110, 101, 115, 119]⟩ : ByteArray).extract (x32_2 : Int).toNat ((wrap64 (x32_2 + 1)) : Int).toNat)] : List ByteArray)) (inner := [.string ((rdOf ByteArray.empty x10_2 x11_1) ++ ((⟨#[110, 101, 115, 119]⟩ : ByteArray).extract (x32_2 : Int).toNat ((wrap64 (x32_2 + 1)) : Int).toNat))]) (ok := fun _ => True) (okp := fun _ => True) ?hr ?hp (fun _ hk => hk) trivial (Below.refl _ _) (Nat.le_refl _) (by simp) ?_; (case hd => rfl); (case hg => rfl); (case hr => first | (go_simp; done) | (go_simp; rfl)); (case hp => exact (Reps.one (show Kd.M Kd.string _ _ _ ((rdOf ByteArray.empty x10_2 x11_1) ++ ((⟨#[110, 101, 115, 119]⟩ : ByteArray).extract (x32_2 : Int).toNat ((wrap64 (x32_2 + 1)) : Int).toNat)) [.string ((rdOf ByteArray.empty x10_2 x11_1) ++ ((⟨#[110, 101, 115, 119]⟩ : ByteArray).extract (x32_2 : Int).toNat ((wrap64 (x32_2 + 1)) : Int).toNat))] from rfl) (Reps.none _ _)))
                     intro v497 w57 ho58 hb hg_ hnew_
                     have HS3_ := (hb.cell (World.block_lt_of_cell? _ _ (hHeld.2.2.2))).trans (hHeld.2.2.2)
                     clear hg_ hnew_
                     (first | rw [← Ny496.out] at ho58 | (simp only [Int.reduceToNat] at ho58; rw [← Ny496.out] at ho58))
                     have n0_ := Aside0.mk (Kd.qc (by (with_reducible repeat (first | apply Kd.qF | apply Kd.qE | apply Kd.qH)); exact HO_9.out) hb)
                     have n1_ := Aside0.mk (Kd.qlA (by (with_reducible repeat (first | apply Kd.qF | apply Kd.qE | apply Kd.qH)); exact HO_10.out) (Kd.qJB ho58) hb)
                     have n2_ := Aside0.mk (Kd.qlA (by (with_reducible repeat (first | apply Kd.qF | apply Kd.qE | apply Kd.qH)); exact HO_19.out) (Kd.qJB ho58) hb)
                     have n3_ := Aside0.mk (Kd.qu (Kd.qIB (Kd.qIB ho58 (Kd.R_lt (by (with_reducible repeat (first | apply Kd.qF | apply Kd.qE | apply Kd.qH)); exact HO_10.out))) (Kd.R_lt (by (with_reducible repeat (first | apply Kd.qF | apply Kd.qE | apply Kd.qH)); exact HO_19.out))) (qe bl))
                     have n4_ := Aside0.mk (bb BK471 hb)
                     have n5_ := Aside0.mk (bb BK487 hb)
                     have n6_ := Aside0.mk (qG bl hb)
                     clear HO_9
                     clear HO_10
                     clear HO_19
                     clear BK471
                     clear BK487
                     clear HB
                     have HO_9 := n0_
                     have HO_10 := n1_
                     have HO_19 := n2_
                     have HO498 := n3_
                     have BK471 := n4_
                     have BK487 := n5_
                     have HB := n6_
                     clear n0_ n1_ n2_ n3_ n4_ n5_ n6_
                     clear hb ho58
                     refine hK.out _ _ ⟨(qK BK487.out 0).trans rfl, (qK BK487.out 1).trans rfl, (qK BK487.out 2).trans rfl, HS3_⟩ (fun hHeld => ?_)
                     clear hK K
                     refine norm_ (a' := ?_) ?_ ?_
                     rotate_left
                     ·show Act.put _ (some 67) _ = _
                      simp only [Act.put, List.setIfInBounds_toArray, List.set_cons_zero, List.set_cons_succ, i64_w, i32_w]
                      rfl
                     refine one_ (i := 2) (N := some 55) #[true, true, true, false, true, true, true, true, true, true, true, true, true, true, true, false, false, false] rfl rfl (qNA HT_.out (by kernel_rfl)) (by decide) (fun K hK => ?_)
                     refine Kd.qzA k27 _ 27 ?hg (N := 55) ?hd (xs := ([(⟨t483, t484, t485⟩ : S27)] : List (S27))) (inner := [.int .i64 t483, .int .i64 t484, .int .i64 t485]) (ok := fun _ => True) (okp := fun _ => True) ?hr ?hp (fun _ hk => hk) trivial (Below.refl _ _) (Nat.le_refl _) (by simp) ?_; (case hd => rfl); (case hg => rfl); (case hr => first | (go_simp; done) | (go_simp; rfl)); (case hp => exact (Reps.c3 (show Kd.M k27 _ _ _ (⟨t483, t484, t485⟩ : S27) [.int .i64 t483, .int .i64 t484, .int .i64 t485] from (qhB _ _ _ (⟨t483, t484, t485⟩ : S27) )) (Reps.none _ _)))
                     intro v490 w59 ho60 hb hg_ hnew_
                     have HS3_ := (hb.cell (World.block_lt_of_cell? _ _ (hHeld.2.2.2))).trans (hHeld.2.2.2)
                     clear hg_ hnew_
                     (first | rw [← Ny489.out] at ho60 | (simp only [Int.reduceToNat] at ho60; rw [← Ny489.out] at ho60))
                     have n0_ := Aside0.mk (Kd.qlA (by (with_reducible repeat (first | apply Kd.qF | apply Kd.qE | apply Kd.qH)); exact HO_9.out) (Kd.qJB ho60) hb)
                     have n1_ := Aside0.mk (Kd.qc (by (with_reducible repeat (first | apply Kd.qF | apply Kd.qE | apply Kd.qH)); exact HO_10.out) hb)
                     have n2_ := Aside0.mk (Kd.qc (by (with_reducible repeat (first | apply Kd.qF | apply Kd.qE | apply Kd.qH)); exact HO_19.out) hb)
                     have n3_ := Aside0.mk (Kd.qc (by (with_reducible repeat (first | apply Kd.qF | apply Kd.qE | apply Kd.qH)); exact HO498.out) hb)
                     have n4_ := Aside0.mk (Kd.qu (Kd.qHB (Kd.qHB (Kd.qIB ho60 (Kd.R_lt (by (with_reducible repeat (first | apply Kd.qF | apply Kd.qE | apply Kd.qH)); exact HO_9.out))) (g := gb471) (o := .cells #[.int .i64 a1_0, .int .i64 a1_1, .int .i64 a1_2] 27 (0, 0)) (by (with_reducible repeat (first | refine qB ?_ _ | refine qD ?_ | refine qA ?_ _)); exact BK471.out)) (g := gb487) (o := .cells #[.int .i64 t483, .int .i64 t484, .int .i64 t485] 27 (0, 0)) (by (with_reducible repeat (first | refine qB ?_ _ | refine qD ?_ | refine qA ?_ _)); exact BK487.out)) (qe bl))
                     have n5_ := Aside0.mk (bb BK471 hb)
                     have n6_ := Aside0.mk (bb BK487 hb)
                     have n7_ := Aside0.mk (qG bl hb)
                     clear HO_9
                     clear HO_10
                     clear HO_19
                     clear HO498
                     clear BK471
                     clear BK487
                     clear HB
                     have HO_9 := n0_
                     have HO_10 := n1_
                     have HO_19 := n2_
                     have HO498 := n3_
                     have HO491 := n4_
                     have BK471 := n5_
                     have BK487 := n6_
                     have HB := n7_
                     clear n0_ n1_ n2_ n3_ n4_ n5_ n6_ n7_
                     clear hb ho60
                     obtain ⟨Ao62, co62, eo62⟩ := Kd.ql HO491.out
                     (first | subst eo62 | (injection eo62 with f1_ f2_ f3_; have f4_ := f1_.symm; have f5_ := f3_.symm; clear f1_ f2_ f3_; subst f4_; subst f5_))
                     refine hK.out _ _ ⟨(qK BK487.out 0).trans rfl, (qK BK487.out 1).trans rfl, (qK BK487.out 2).trans rfl, HS3_⟩ (fun hHeld => ?_)
                     clear hK K
                     refine norm_ (a' := ?_) ?_ ?_
                     rotate_left
                     ·show Act.put _ (some 55) _ = _
                      simp only [Act.put, List.setIfInBounds_toArray, List.set_cons_zero, List.set_cons_succ, i64_w, i32_w]
                      rfl
                     refine one_ (i := 3) (N := some 56) #[true, true, true, true, true, true, true, true, true, true, true, true, true, true, true, false, false, false] rfl rfl (qNA HT_.out (by kernel_rfl)) (by decide) (fun K hK => ?_)
                     refine qdA k27 (w0 := w) w.heap.size (by rfl) (.tmp 53) (.tmp 55) 50 27 (.agg #[(.int .i64 0), (.int .i64 0), (.int .i64 0)]) 24 rfl Tryd.underlying50 info27 rfl (by decide) (by omega) (.slice (some ad482) x9_2.length co45) x9_2 y489 _ _ _ (fun k_ => some k_ ≠ (.slice Ao62 y489.length co62 : Value).ownBlock ∧ k_ ≠ gb471 ∧ k_ ≠ gb487) (fun _ => False) rfl rfl ?aO ?aR (fun _ _ h => h) (fun _ h => h.elim) ?aF ?aB ?aS ?aL ?_
                     (case aR => repeat (first | exact (Kd.qh HO491.out).2.2 | (with_reducible refine Kd.qIA ?_ _) | (with_reducible refine Kd.qHA ?_ _) | (with_reducible refine Kd.qSA ?_)))
                     (case aB => exact bl)
                     (case aF => exact (fun k_ hk => ⟨Kd.fresh' (Kd.R_lt (by (with_reducible repeat (first | apply Kd.qF | apply Kd.qE | apply Kd.qH)); exact HO491.out)) k_ hk, Kd.freshB (g := gb471) (o := .cells #[.int .i64 a1_0, .int .i64 a1_1, .int .i64 a1_2] 27 (0, 0)) (by (with_reducible repeat (first | refine qB ?_ _ | refine qD ?_ | refine qA ?_ _)); exact BK471.out) k_ hk, Kd.freshB (g := gb487) (o := .cells #[.int .i64 t483, .int .i64 t484, .int .i64 t485] 27 (0, 0)) (by (with_reducible repeat (first | refine qB ?_ _ | refine qD ?_ | refine qA ?_ _)); exact BK487.out) k_ hk⟩))
                     (case aO => exact (by (with_reducible repeat (first | apply Kd.qF | apply Kd.qE | apply Kd.qH)); exact Kd.qf HO_9.out (fun _ hk => ⟨hk.2, ⟨hk.1.1, hk.1.2⟩⟩)))
                     (case aS => exact (qe bl))
                     (case aL => have := LMc36.out; omega)
                     intro v493 w61 ho hb hg hat hkp_
                     have HS3_ := hkp_ _ _ (hHeld.2.2.2) (fun e_ => absurd e_ hnr495_HO_9.out)
                     clear hkp_
                     rw [← Ny492.out] at ho
                     have n0_ := Aside0.mk (Kd.qrA (by (with_reducible repeat (first | apply Kd.qF | apply Kd.qE | apply Kd.qH)); exact HO_10.out) (Kd.qqA (by (with_reducible repeat (first | apply Kd.qF | apply Kd.qE | apply Kd.qH)); exact HO_9.out)) (by decide) hg)
                     have n1_ := Aside0.mk (Kd.qrA (by (with_reducible repeat (first | apply Kd.qF | apply Kd.qE | apply Kd.qH)); exact HO_19.out) (Kd.qqA (by (with_reducible repeat (first | apply Kd.qF | apply Kd.qE | apply Kd.qH)); exact HO_9.out)) (by decide) hg)
                     have n2_ := Aside0.mk (qDA (g := gb471) (o := .cells #[.int .i64 a1_0, .int .i64 a1_1, .int .i64 a1_2] 27 (0, 0)) (by (with_reducible repeat (first | refine qB ?_ _ | refine qD ?_ | refine qA ?_ _)); exact BK471.out) hg (Kd.qR HO_9.out (fun _ hk => hk.1.1)))
                     have n3_ := Aside0.mk (qDA (g := gb487) (o := .cells #[.int .i64 t483, .int .i64 t484, .int .i64 t485] 27 (0, 0)) (by (with_reducible repeat (first | refine qB ?_ _ | refine qD ?_ | refine qA ?_ _)); exact BK487.out) hg (Kd.qR HO_9.out (fun _ hk => hk.1.2)))
                     have n4_ := Aside0.mk (Kd.qrA (by (with_reducible repeat (first | apply Kd.qF | apply Kd.qE | apply Kd.qH)); exact HO498.out) (Kd.qqA (by (with_reducible repeat (first | apply Kd.qF | apply Kd.qE | apply Kd.qH)); exact HO_9.out)) (by decide) hg)
                     have n5_ := Aside0.mk (Kd.qOB (ok := (fun k_ => k_ ≠ gb471 ∧ k_ ≠ gb487)) (by (with_reducible repeat (first | apply Kd.qF | apply Kd.qE | apply Kd.qH)); exact Kd.qf HO491.out (fun _ hk => ⟨⟨hk.1.2, hk.2⟩, hk.1.1.2⟩)) hg hat)
                     have n6_ := Aside0.mk (hb)
                     have n7_ := Aside0.mk (ho)
                     clear HO_10
                     clear HO_19
                     clear BK471
                     clear BK487
                     clear HO498
                     clear HO491
                     clear HB
                     clear HO_9
                     have HO_10 := n0_
                     have HO_19 := n1_
                     have BK471 := n2_
                     have BK487 := n3_
                     have HO498 := n4_
                     have HO491 := n5_
                     have HB := n6_
                     have HO494 := n7_
                     clear n0_ n1_ n2_ n3_ n4_ n5_ n6_ n7_
                     clear ho hb hg hat
                     refine hK.out _ _ ⟨(qK BK487.out 0).trans rfl, (qK BK487.out 1).trans rfl, (qK BK487.out 2).trans rfl, HS3_⟩ (fun hHeld => ?_)
                     clear hK K
                     refine norm_ (a' := ?_) ?_ ?_
                     rotate_left
                     ·show Act.put _ (some 56) _ = _
                      simp only [Act.put, List.setIfInBounds_toArray, List.set_cons_zero, List.set_cons_succ, i64_w, i32_w]
                      rfl
                     exact norm_ (by simp only [putAll, Act.put, List.setIfInBounds_toArray, List.set_cons_zero, List.set_cons_succ]) (hCont (.slice Ao62 y489.length co62, v493, v497) _ ⟨hHeld, (by (with_reducible repeat (first | apply Kd.qF | apply Kd.qE | apply Kd.qH)); exact Kd.qf HO491.out (fun _ hk => ⟨hk.2, ⟨hk.1.1, hk.1.2⟩⟩)), (by (with_reducible repeat (first | apply Kd.qF | apply Kd.qE | apply Kd.qH)); exact HO494.out), (by (with_reducible repeat (first | apply Kd.qF | apply Kd.qE | apply Kd.qH)); exact Kd.qf HO498.out (fun _ hk => ⟨hk.1.2, hk.2⟩)), (by (with_reducible repeat (first | apply Kd.qF | apply Kd.qE | apply Kd.qH)); exact Kd.qf HO_10.out (fun _ hk => ⟨hk.2, hk.1⟩)), (by (with_reducible repeat (first | apply Kd.qF | apply Kd.qE | apply Kd.qH)); exact Kd.qf HO_19.out (fun _ hk => ⟨hk.2, hk.1⟩)), (by (with_reducible repeat (first | refine qB ?_ _ | refine qD ?_ | refine qA ?_ _)); exact BK471.out), (by (with_reducible repeat (first | refine qB ?_ _ | refine qD ?_ | refine qA ?_ _)); exact BK487.out), bl⟩)
                   rintro ⟨v490, v493, v497⟩ w63 ⟨hS_, h0_, h1_, h2_, h3_, h4_, h5_, h6_, h7_⟩
                   have n0_ : Aside0 (Kd.R k27 27 w63 w.heap.size (fun k_ => some k_ ≠ (v493 : Value).ownBlock ∧ k_ ≠ gb471 ∧ k_ ≠ gb487) v490 y489) := ⟨h0_⟩
                   have n1_ : Aside0 (Kd.R k27 27 w63 w.heap.size (fun k_ => some k_ ≠ (v490 : Value).ownBlock ∧ k_ ≠ gb471 ∧ k_ ≠ gb487) v493 y492) := ⟨h1_⟩
                   have n2_ : Aside0 (Kd.R Kd.string 9 w63 w.heap.size (fun k_ => some k_ ≠ (.slice (some ad495) x10_2.length co55 : Value).ownBlock ∧ some k_ ≠ (.slice Ao43 t472.length co43 : Value).ownBlock) v497 y496) := ⟨h2_⟩
                   have n3_ : Aside0 (Kd.R Kd.string 9 w63 w.heap.size (fun k_ => some k_ ≠ (v497 : Value).ownBlock ∧ some k_ ≠ (.slice Ao43 t472.length co43 : Value).ownBlock) (.slice (some ad495) x10_2.length co55) x10_2) := ⟨h3_⟩
                   have n4_ : Aside0 (Kd.R Kd.string 9 w63 w.heap.size (fun k_ => some k_ ≠ (v497 : Value).ownBlock ∧ some k_ ≠ (.slice (some ad495) x10_2.length co55 : Value).ownBlock) (.slice Ao43 t472.length co43) t472) := ⟨h4_⟩
                   have n5_ : Aside0 (w63.heap[gb471]? = some (.cells #[.int .i64 a1_0, .int .i64 a1_1, .int .i64 a1_2] 27 (0, 0))) := ⟨h5_⟩
                   have n6_ : Aside0 (w63.heap[gb487]? = some (.cells #[.int .i64 t483, .int .i64 t484, .int .i64 t485] 27 (0, 0))) := ⟨h6_⟩
                   have n7_ : Aside0 (Below w.heap.size w w63) := ⟨h7_⟩
                   clear HO_9
                   clear HO_10
                   clear HO_19
                   clear BK471
                   clear BK487
                   clear HB
                   clear h0_ h1_ h2_ h3_ h4_ h5_ h6_ h7_
                   have HO491 := n0_
                   have HO494 := n1_
                   have HO498 := n2_
                   have HO_10 := n3_
                   have HO_19 := n4_
                   have BK471 := n5_
                   have BK487 := n6_
                   have HB := n7_
                   clear n0_ n1_ n2_ n3_ n4_ n5_ n6_ n7_
                   have hHeld : w63.cell? ⟨gb487, 0, none⟩ = some (.int .i64 t483) ∧ w63.cell? ⟨gb487, 1, none⟩ = some (.int .i64 t484) ∧ w63.cell? ⟨gb487, 2, none⟩ = some (.int .i64 t485) ∧ w63.cell? (ad495.add (x11_1).toNat) = some (.string (rdOf ByteArray.empty x10_2 x11_1)) := hS_
                   obtain ⟨Ao65, co65, eo65⟩ := Kd.ql HO498.out
                   (first | subst eo65 | (injection eo65 with f1_ f2_ f3_; have f4_ := f1_.symm; have f5_ := f3_.symm; clear f1_ f2_ f3_; subst f4_; subst f5_))
                   refine norm_ (a' := ?_) ?_ ?_
                   rotate_left
                   ·simp only [putAll, Act.put, List.setIfInBounds_toArray, List.set_cons_zero, List.set_cons_succ]
                    rfl
                   refine one_ (i := 15) (N := some 68) #[true, true, true, true, true, true, true, true, true, true, true, true, true, true, true, true, false, false] rfl rfl (qNA HT_.out (by kernel_rfl)) (by decide) (fun K hK => ?_)
                   refine qdA Kd.string (w0 := w) w.heap.size (by rfl) (.tmp 57) (.tmp 67) 60 9 (.string ⟨#[]⟩) 16 rfl Tryd.underlying60 info9 rfl (by decide) (by omega) (.slice (some ad495) x10_2.length co55) x10_2 y496 _ _ _ (fun k_ => some k_ ≠ (.slice Ao43 t472.length co43 : Value).ownBlock ∧ some k_ ≠ (.slice Ao65 y496.length co65 : Value).ownBlock) (fun _ => False) rfl rfl ?aO ?aR (fun _ _ h => h) (fun _ h => h.elim) ?aF ?aB ?aS ?aL ?_
                   (case aR => repeat (first | exact (Kd.qh HO498.out).2.2 | (with_reducible refine Kd.qIA ?_ _) | (with_reducible refine Kd.qHA ?_ _) | (with_reducible refine Kd.qSA ?_)))
                   (case aB => exact bl)
                   (case aF => exact (fun k_ hk => ⟨Kd.fresh' (Kd.R_lt (by (with_reducible repeat (first | apply Kd.qF | apply Kd.qE | apply Kd.qH)); exact HO_19.out)) k_ hk, Kd.fresh' (Kd.R_lt (by (with_reducible repeat (first | apply Kd.qF | apply Kd.qE | apply Kd.qH)); exact HO498.out)) k_ hk⟩))
                   (case aO => exact (by (with_reducible repeat (first | apply Kd.qF | apply Kd.qE | apply Kd.qH)); exact Kd.qf HO_10.out (fun _ hk => ⟨hk.2, hk.1⟩)))
                   (case aS => exact (qe bl))
                   (case aL => have := LMc42.out; omega)
                   intro v500 w64 ho hb hg hat hkp_
                   have HS3_ := hkp_ _ _ (hHeld.2.2.2) (fun _ => hof495.out)
                   clear hkp_
                   rw [← Ny499.out] at ho
                   have n0_ := Aside0.mk (Kd.qOB (ok := (fun k_ => some k_ ≠ (.slice Ao65 y496.length co65 : Value).ownBlock)) (by (with_reducible repeat (first | apply Kd.qF | apply Kd.qE | apply Kd.qH)); exact HO_19.out) hg hat)
                   have n1_ := Aside0.mk (qDA (g := gb471) (o := .cells #[.int .i64 a1_0, .int .i64 a1_1, .int .i64 a1_2] 27 (0, 0)) (by (with_reducible repeat (first | refine qB ?_ _ | refine qD ?_ | refine qA ?_ _)); exact BK471.out) hg (Kd.R_ne HO_10.out BK471.out (by decide)))
                   have n2_ := Aside0.mk (qDA (g := gb487) (o := .cells #[.int .i64 t483, .int .i64 t484, .int .i64 t485] 27 (0, 0)) (by (with_reducible repeat (first | refine qB ?_ _ | refine qD ?_ | refine qA ?_ _)); exact BK487.out) hg (Kd.R_ne HO_10.out BK487.out (by decide)))
                   have n3_ := Aside0.mk (Kd.qrA (by (with_reducible repeat (first | apply Kd.qF | apply Kd.qE | apply Kd.qH)); exact HO491.out) (Kd.qqA (by (with_reducible repeat (first | apply Kd.qF | apply Kd.qE | apply Kd.qH)); exact HO_10.out)) (by decide) hg)
                   have n4_ := Aside0.mk (Kd.qrA (by (with_reducible repeat (first | apply Kd.qF | apply Kd.qE | apply Kd.qH)); exact HO494.out) (Kd.qqA (by (with_reducible repeat (first | apply Kd.qF | apply Kd.qE | apply Kd.qH)); exact HO_10.out)) (by decide) hg)
                   have n5_ := Aside0.mk (Kd.qOB (ok := (fun k_ => some k_ ≠ (.slice Ao43 t472.length co43 : Value).ownBlock)) (by (with_reducible repeat (first | apply Kd.qF | apply Kd.qE | apply Kd.qH)); exact Kd.qf HO498.out (fun _ hk => ⟨hk.2, hk.1⟩)) hg hat)
                   have n6_ := Aside0.mk (hb)
                   have n7_ := Aside0.mk (ho)
                   clear HO_19
                   clear BK471
                   clear BK487
                   clear HO491
                   clear HO494
                   clear HO498
                   clear HB
                   clear HO_10
                   have HO_19 := n0_
                   have BK471 := n1_
                   have BK487 := n2_
                   have HO491 := n3_
                   have HO494 := n4_
                   have HO498 := n5_
                   have HB := n6_
                   have HO501 := n7_
                   clear n0_ n1_ n2_ n3_ n4_ n5_ n6_ n7_
                   clear ho hb hg hat
                   refine hK.out _ _ ⟨(qK BK487.out 0).trans rfl, (qK BK487.out 1).trans rfl, (qK BK487.out 2).trans rfl, HS3_⟩ (fun hHeld => ?_)
                   clear hK K
                   refine norm_ (a' := ?_) ?_ ?_
                   rotate_left
                   ·show Act.put _ (some 68) _ = _
                    simp only [Act.put, List.setIfInBounds_toArray, List.set_cons_zero, List.set_cons_succ, i64_w, i32_w]
                    rfl
                   refine pS (i := 16) (N := some 9) #[true, true, true, true, true, true, true, true, true, true, true, true, true, true, true, true, true, false] HT_ ?_
                   refine pS (i := 17) (N := some 10) #[true, true, true, true, true, true, true, true, true, true, true, true, true, true, true, true, true, true] HT_ ?_
                   refine done_ (qjA HT_.out (by kernel_rfl)) ?_
                   try go_wp2
                   go_roundg k2
                   case measure => have := HK1.out; have := HK2.out; omega
                   case rel => exact ⟨(y492), (y499), (wrap64 (x32_2 + 1)), (by first | rfl | (simp; done) | (simp [*]; done)), H', ⟨by have := HK1.out; have := HK2.out; omega⟩, ⟨by (with_reducible repeat (first | apply Kd.qF | apply Kd.qE | apply Kd.qH)); exact Kd.qf HO494.out (fun _ hk => hk.2.1)⟩, ⟨by (with_reducible repeat (first | apply Kd.qF | apply Kd.qE | apply Kd.qH)); exact Kd.qf HO501.out (fun _ hk => hk.1)⟩, ⟨by (with_reducible repeat (first | apply Kd.qF | apply Kd.qE | apply Kd.qH)); exact Kd.qf HO_19.out (fun _ hk => hk.2)⟩, ⟨by (with_reducible repeat (first | refine qB ?_ _ | refine qD ?_ | refine qA ?_ _)); exact BK471.out⟩, ⟨bl⟩⟩
                  ·rw [if_neg c42] at H
                   exact absurd H (by simp)
                 ·rw [if_neg c41] at H
                  exact absurd H (by simp)
                ·rw [if_neg c40] at H
                 exact absurd H (by simp)
               ·rw [if_neg c39] at H
                exact absurd H (by simp)
              ·rw [if_neg c37] at H
               exact absurd H (by simp)
             ·rw [if_neg c36] at H
              exact absurd H (by simp)
           ·replace c21 := Bool.eq_false_iff.mpr c21
            subst c21
            have H1 : (qN.l1 k2 x9_2 x10_2 x11_1 t472 (wrap64 (x32_2 + 1))) = some (r1, r2, r3) := by rw [if_neg (show ¬ (false = true) by decide)] at H; exact H
            clear H
            have H := H1
            clear H1
            have H' := Aside0.mk H
            clear H
            obtain ⟨Ao66, co66, eo66⟩ := Kd.ql HO_19.out
            subst eo66
            try go_wp2
            have n0_ := Aside0.mk (Kd.qH HO_9.out)
            have n1_ := Aside0.mk (Kd.qH HO_10.out)
            have n2_ := Aside0.mk (Kd.qH HO_19.out)
            have n3_ := Aside0.mk (qD BK471.out)
            have n4_ := Aside0.mk (qi HB.out)
            clear HO_9
            clear HO_10
            clear HO_19
            clear BK471
            clear HB
            have HO_9 := n0_
            have HO_10 := n1_
            have HO_19 := n2_
            have BK471 := n3_
            have HB := n4_
            clear n0_ n1_ n2_ n3_ n4_
            obtain ⟨Ao68, co68, eo68⟩ := Kd.ql HO_9.out
            (first | subst eo68 | (injection eo68 with f1_ f2_ f3_; have f4_ := f1_.symm; have f5_ := f3_.symm; clear f1_ f2_ f3_; subst f4_; subst f5_))
            have p482 : 0 ≤ (x11_1 : Int) := of_decide_eq_true (by first | (with_reducible assumption) | assumption)
            have q482 : x11_1 < (x9_2.length : Int) := of_decide_eq_true (by first | (with_reducible assumption) | assumption)
            obtain ⟨ad482, e482, hx482_0, hx482_1, hx482_2⟩ := qWB (Kd.qh HO_9.out).2.2 x11_1 p482 q482
            cases e482
            replace p482 := eq_true p482
            replace q482 := eq_true q482
            have p19 : 0 ≤ (x32_2 : Int) := of_decide_eq_true (by first | (with_reducible assumption) | assumption)
            have q19 : x32_2 < (4 : Int) := of_decide_eq_true (by first | (with_reducible assumption) | assumption)
            have hx19 := bt_at (⟨#[110, 101, 115, 119]⟩ : ByteArray) x32_2
            replace p19 := eq_true p19
            replace q19 := eq_true q19
            refine qsA (n := 14) (S := fun w' => w'.cell? (ad482.add ((x11_1).toNat * 3)) = some (.int .i64 ((qX x9_2 x11_1).f0)) ∧ w'.cell? ⟨(ad482.add ((x11_1).toNat * 3)).block, (ad482.add ((x11_1).toNat * 3)).off + 1, none⟩ = some (.int .i64 ((qX x9_2 x11_1).f1)) ∧ w'.cell? ⟨(ad482.add ((x11_1).toNat * 3)).block, (ad482.add ((x11_1).toNat * 3)).off + 2, none⟩ = some (.int .i64 ((qX x9_2 x11_1).f2))) (ds := []) #[false, false, false, false, false, false, false, false, false, false, false, false, false, false] (by kernel_rfl) rfl rfl ⟨hx482_0, hx482_1, hx482_2⟩ (fun hHeld => ?_); refine qTA qN.tab11 qN.bits11 (fun HT_ HW_ => ?_)
            generalize wr.drew = w67 at HO_9 HO_10 HO_19 BK471 HB hx482_0 hx482_1 hx482_2 hHeld ⊢
            refine pS (i := 0) (N := some 36) #[true, false, false, false, false, false, false, false, false, false, false, false, false, false] HT_ ?_
            refine pS (i := 1) (N := some 37) #[true, true, false, false, false, false, false, false, false, false, false, false, false, false] HT_ ?_
            refine pS (i := 2) (N := some 38) #[true, true, true, false, false, false, false, false, false, false, false, false, false, false] HT_ ?_
            refine pS (i := 3) (N := some 39) #[true, true, true, true, false, false, false, false, false, false, false, false, false, false] HT_ ?_
            refine pS (i := 5) (N := some 41) #[true, true, true, true, false, true, false, false, false, false, false, false, false, false] HT_ ?_
            refine tS (i := 4) (N := some 40) #[true, true, true, true, true, true, false, false, false, false, false, false, false, false] HT_ HW_ hHeld ?_
            refine tS (i := 6) (N := some 42) #[true, true, true, true, true, true, true, false, false, false, false, false, false, false] HT_ HW_ hHeld ?_
            refine join_ (σ := Nat) 2 #[true, true, true, true, true, true, true, true, true, true, true, true, false, false] (fun s_ => [(43, .tuple #[.agg #[.int .i64 t483, .int .i64 t484, .int .i64 t485], .bool false]), (13, .pointer (some ⟨s_, 0, none⟩)), (35, .tuple #[.agg #[.int .i64 t483, .int .i64 t484, .int .i64 t485], .bool false]), (44, .agg #[.int .i64 t483, .int .i64 t484, .int .i64 t485]), (45, .bool false)]) (fun s_ w' => (w'.cell? (ad482.add ((x11_1).toNat * 3)) = some (.int .i64 ((qX x9_2 x11_1).f0)) ∧ w'.cell? ⟨(ad482.add ((x11_1).toNat * 3)).block, (ad482.add ((x11_1).toNat * 3)).off + 1, none⟩ = some (.int .i64 ((qX x9_2 x11_1).f1)) ∧ w'.cell? ⟨(ad482.add ((x11_1).toNat * 3)).block, (ad482.add ((x11_1).toNat * 3)).off + 2, none⟩ = some (.int .i64 ((qX x9_2 x11_1).f2))) ∧ (Kd.R Kd.string 9 w' w.heap.size (fun k_ => some k_ ≠ (.slice Ao66 t472.length co66 : Value).ownBlock) u10 x10_2) ∧ (Kd.R Kd.string 9 w' w.heap.size (fun k_ => some k_ ≠ (u10 : Value).ownBlock) (.slice Ao66 t472.length co66) t472) ∧ (Kd.R k27 27 w' w.heap.size (fun k_ => k_ ≠ gb471 ∧ k_ ≠ s_) (.slice (some ad482) x9_2.length co68) x9_2) ∧ (w'.heap[gb471]? = some (.cells #[.int .i64 a1_0, .int .i64 a1_1, .int .i64 a1_2] 27 (0, 0))) ∧ (w'.heap[s_]? = some (.cells #[.int .i64 0, .int .i64 0, .int .i64 0] 27 (0, 0))) ∧ (w.heap.size ≤ s_) ∧ (w.heap.size ≤ s_) ∧ (gb471 ≠ s_) ∧ (s_ ≠ gb471) ∧ (Below w.heap.size w w')) ?_ ?_
            rotate_left
            ·intro hCont
             refine two_ (i := 7) (j := 11) (Ni := some 43) (Nj := some 13) #[true, true, true, true, true, true, true, true, false, false, false, false, false, false] #[true, true, true, true, true, true, true, false, false, false, false, true, false, false] rfl rfl rfl rfl (qeB HT_.out (by kernel_rfl)) (by decide) (by decide) (fun K hK => ?_) (fun K hK => ?_)
             ·skip
              refine goes_ Tryd.func62 (by kernel_rfl) rfl #[.slice Ao66 t472.length co66, .agg #[.int .i64 ((qX x9_2 x11_1).f0), .int .i64 ((qX x9_2 x11_1).f1), .int .i64 ((qX x9_2 x11_1).f2)], .int .u8 (bt (⟨#[110, 101, 115, 119]⟩ : ByteArray) x32_2)] (by rfl) rfl rfl (by (try simp only [List.map_toArray, List.map_cons, List.map_nil]); first | done | rfl | (simp only [List.length_drop, List.length_take]; rfl)) ?_
              with_reducible refine (qAA.calls k2 _ _ t472 ((qX x9_2 x11_1).f0) ((qX x9_2 x11_1).f1) ((qX x9_2 x11_1).f2) (bt (⟨#[110, 101, 115, 119]⟩ : ByteArray) x32_2) t483 t484 t485 false _ ?side1 ?side2 A20.out).mono ?_
              (case side1 => repeat (first | exact (Kd.qh HO_19.out).2.2 | (with_reducible refine Kd.qIA ?_ _) | (with_reducible refine Kd.qHA ?_ _) | (with_reducible refine Kd.qSA ?_)))
              (case side2 => exact (Kd.qh HO_19.out).2.1)
              rintro e w69 ⟨rfl, hb⟩
              have HS0_ := (hb.cell (World.block_lt_of_cell? _ _ (hHeld.1))).trans (hHeld.1)
              have HS1_ := (hb.cell (World.block_lt_of_cell? _ _ (hHeld.2.1))).trans (hHeld.2.1)
              have HS2_ := (hb.cell (World.block_lt_of_cell? _ _ (hHeld.2.2))).trans (hHeld.2.2)
              refine ⟨_, rfl, ?_⟩
              have n0_ := Aside0.mk (Kd.qc (by (with_reducible repeat (first | apply Kd.qF | apply Kd.qE | apply Kd.qH)); exact HO_9.out) hb)
              have n1_ := Aside0.mk (Kd.qc (by (with_reducible repeat (first | apply Kd.qF | apply Kd.qE | apply Kd.qH)); exact HO_10.out) hb)
              have n2_ := Aside0.mk (Kd.qc (by (with_reducible repeat (first | apply Kd.qF | apply Kd.qE | apply Kd.qH)); exact HO_19.out) hb)
              have n3_ := Aside0.mk (bb BK471 hb)
              have n4_ := Aside0.mk (qG bl hb)
              clear HO_9
              clear HO_10
              clear HO_19
              clear BK471
              clear HB
              have HO_9 := n0_
              have HO_10 := n1_
              have HO_19 := n2_
              have BK471 := n3_
              have HB := n4_
              clear n0_ n1_ n2_ n3_ n4_
              (try clear hb)
              (try clear hb2)
              (try clear hk)
              (try clear hi)
              refine hK.out _ _ ⟨HS0_, HS1_, HS2_⟩ (fun hHeld => ?_)
              clear hK K
              refine norm_ (a' := ?_) ?_ ?_
              rotate_left
              ·show Act.put _ (some 43) _ = _
               simp only [Act.put, List.setIfInBounds_toArray, List.set_cons_zero, List.set_cons_succ, i64_w, i32_w]
               rfl
              refine pS (i := 8) (N := some 35) #[true, true, true, true, true, true, true, true, true, false, false, false, false, false] HT_ ?_
              refine pS (i := 9) (N := some 44) #[true, true, true, true, true, true, true, true, true, true, false, false, false, false] HT_ ?_
              refine pS (i := 10) (N := some 45) #[true, true, true, true, true, true, true, true, true, true, true, false, false, false] HT_ ?_
              refine one_ (i := 11) (N := some 13) #[true, true, true, true, true, true, true, true, true, true, true, true, false, false] rfl rfl (qNA HT_.out (by kernel_rfl)) (by decide) (fun K hK => ?_)
              refine qnA ?hg (N := 13) ?hd (cs := #[.int .i64 0, .int .i64 0, .int .i64 0]) (t := 27) ?hr ?_; (case hd => rfl); (case hg => rfl); (case hr => first | (go_simp; done) | (go_simp; rfl))
              intro gb487 hg w70 hbox hb
              have HS0_ := (hb.cell (World.block_lt_of_cell? _ _ (hHeld.1))).trans (hHeld.1)
              have HS1_ := (hb.cell (World.block_lt_of_cell? _ _ (hHeld.2.1))).trans (hHeld.2.1)
              have HS2_ := (hb.cell (World.block_lt_of_cell? _ _ (hHeld.2.2))).trans (hHeld.2.2)
              have n0_ := Aside0.mk (Kd.qc (Kd.qcA (by (with_reducible repeat (first | apply Kd.qF | apply Kd.qE | apply Kd.qH)); exact HO_9.out) gb487 (Nat.le_of_eq hg.symm)) hb)
              have n1_ := Aside0.mk (Kd.qc (by (with_reducible repeat (first | apply Kd.qF | apply Kd.qE | apply Kd.qH)); exact HO_10.out) hb)
              have n2_ := Aside0.mk (Kd.qc (by (with_reducible repeat (first | apply Kd.qF | apply Kd.qE | apply Kd.qH)); exact HO_19.out) hb)
              have n3_ := Aside0.mk (bb BK471 hb)
              have n4_ := Aside0.mk (qG bl hb)
              have n5_ := Aside0.mk (hbox)
              have n6_ := Aside0.mk ((gg hg))
              have n7_ := Aside0.mk ((gg hg))
              have n8_ := Aside0.mk ((nl BK471 hg))
              have n9_ := Aside0.mk ((nr BK471 hg))
              clear HO_9
              clear HO_10
              clear HO_19
              clear BK471
              clear HB
              have HO_9 := n0_
              have HO_10 := n1_
              have HO_19 := n2_
              have BK471 := n3_
              have HB := n4_
              have BK487 := n5_
              have GW487 := n6_
              have GE487 := n7_
              have NB471_487 := n8_
              have NB487_471 := n9_
              clear n0_ n1_ n2_ n3_ n4_ n5_ n6_ n7_ n8_ n9_
              clear hb hbox hg
              refine hK.out _ _ ⟨HS0_, HS1_, HS2_⟩ (fun hHeld => ?_)
              clear hK K
              refine norm_ (a' := ?_) ?_ ?_
              rotate_left
              ·show Act.put _ (some 13) _ = _
               simp only [Act.put, List.setIfInBounds_toArray, List.set_cons_zero, List.set_cons_succ, i64_w, i32_w]
               rfl
              exact norm_ (by simp only [putAll, Act.put, List.setIfInBounds_toArray, List.set_cons_zero, List.set_cons_succ]) (hCont (gb487) _ ⟨hHeld, (by (with_reducible repeat (first | apply Kd.qF | apply Kd.qE | apply Kd.qH)); exact HO_10.out), (by (with_reducible repeat (first | apply Kd.qF | apply Kd.qE | apply Kd.qH)); exact HO_19.out), (by (with_reducible repeat (first | apply Kd.qF | apply Kd.qE | apply Kd.qH)); exact HO_9.out), (by (with_reducible repeat (first | refine qB ?_ _ | refine qD ?_ | refine qA ?_ _)); exact BK471.out), (by (with_reducible repeat (first | refine qB ?_ _ | refine qD ?_ | refine qA ?_ _)); exact BK487.out), GW487.out, GE487.out, NB471_487.out, NB487_471.out, bl⟩)
             ·skip
              refine qnA ?hg (N := 13) ?hd (cs := #[.int .i64 0, .int .i64 0, .int .i64 0]) (t := 27) ?hr ?_; (case hd => rfl); (case hg => rfl); (case hr => first | (go_simp; done) | (go_simp; rfl))
              intro gb487 hg w69 hbox hb
              have HS0_ := (hb.cell (World.block_lt_of_cell? _ _ (hHeld.1))).trans (hHeld.1)
              have HS1_ := (hb.cell (World.block_lt_of_cell? _ _ (hHeld.2.1))).trans (hHeld.2.1)
              have HS2_ := (hb.cell (World.block_lt_of_cell? _ _ (hHeld.2.2))).trans (hHeld.2.2)
              have n0_ := Aside0.mk (Kd.qc (Kd.qcA (by (with_reducible repeat (first | apply Kd.qF | apply Kd.qE | apply Kd.qH)); exact HO_9.out) gb487 (Nat.le_of_eq hg.symm)) hb)
              have n1_ := Aside0.mk (Kd.qc (by (with_reducible repeat (first | apply Kd.qF | apply Kd.qE | apply Kd.qH)); exact HO_10.out) hb)
              have n2_ := Aside0.mk (Kd.qc (by (with_reducible repeat (first | apply Kd.qF | apply Kd.qE | apply Kd.qH)); exact HO_19.out) hb)
              have n3_ := Aside0.mk (bb BK471 hb)
              have n4_ := Aside0.mk (qG bl hb)
              have n5_ := Aside0.mk (hbox)
              have n6_ := Aside0.mk ((gg hg))
              have n7_ := Aside0.mk ((gg hg))
              have n8_ := Aside0.mk ((nl BK471 hg))
              have n9_ := Aside0.mk ((nr BK471 hg))
              clear HO_9
              clear HO_10
              clear HO_19
              clear BK471
              clear HB
              have HO_9 := n0_
              have HO_10 := n1_
              have HO_19 := n2_
              have BK471 := n3_
              have HB := n4_
              have BK487 := n5_
              have GW487 := n6_
              have GE487 := n7_
              have NB471_487 := n8_
              have NB487_471 := n9_
              clear n0_ n1_ n2_ n3_ n4_ n5_ n6_ n7_ n8_ n9_
              clear hb hbox hg
              refine hK.out _ _ ⟨HS0_, HS1_, HS2_⟩ (fun hHeld => ?_)
              clear hK K
              refine norm_ (a' := ?_) ?_ ?_
              rotate_left
              ·show Act.put _ (some 13) _ = _
               simp only [Act.put, List.setIfInBounds_toArray, List.set_cons_zero, List.set_cons_succ, i64_w, i32_w]
               rfl
              refine one_ (i := 7) (N := some 43) #[true, true, true, true, true, true, true, true, false, false, false, true, false, false] rfl rfl (qNA HT_.out (by kernel_rfl)) (by decide) (fun K hK => ?_)
              refine goes_ Tryd.func62 (by kernel_rfl) rfl #[.slice Ao66 t472.length co66, .agg #[.int .i64 ((qX x9_2 x11_1).f0), .int .i64 ((qX x9_2 x11_1).f1), .int .i64 ((qX x9_2 x11_1).f2)], .int .u8 (bt (⟨#[110, 101, 115, 119]⟩ : ByteArray) x32_2)] (by rfl) rfl rfl (by (try simp only [List.map_toArray, List.map_cons, List.map_nil]); first | done | rfl | (simp only [List.length_drop, List.length_take]; rfl)) ?_
              with_reducible refine (qAA.calls k2 _ _ t472 ((qX x9_2 x11_1).f0) ((qX x9_2 x11_1).f1) ((qX x9_2 x11_1).f2) (bt (⟨#[110, 101, 115, 119]⟩ : ByteArray) x32_2) t483 t484 t485 false _ ?side1 ?side2 A20.out).mono ?_
              (case side1 => repeat (first | exact (Kd.qh HO_19.out).2.2 | (with_reducible refine Kd.qIA ?_ _) | (with_reducible refine Kd.qHA ?_ _) | (with_reducible refine Kd.qSA ?_)))
              (case side2 => exact (Kd.qh HO_19.out).2.1)
              rintro e w70 ⟨rfl, hb⟩
              have HS0_ := (hb.cell (World.block_lt_of_cell? _ _ (hHeld.1))).trans (hHeld.1)
              have HS1_ := (hb.cell (World.block_lt_of_cell? _ _ (hHeld.2.1))).trans (hHeld.2.1)
              have HS2_ := (hb.cell (World.block_lt_of_cell? _ _ (hHeld.2.2))).trans (hHeld.2.2)
              refine ⟨_, rfl, ?_⟩
              have n0_ := Aside0.mk (Kd.qc (by (with_reducible repeat (first | apply Kd.qF | apply Kd.qE | apply Kd.qH)); exact HO_9.out) hb)
              have n1_ := Aside0.mk (Kd.qc (by (with_reducible repeat (first | apply Kd.qF | apply Kd.qE | apply Kd.qH)); exact HO_10.out) hb)
              have n2_ := Aside0.mk (Kd.qc (by (with_reducible repeat (first | apply Kd.qF | apply Kd.qE | apply Kd.qH)); exact HO_19.out) hb)
              have n3_ := Aside0.mk (bb BK471 hb)
              have n4_ := Aside0.mk (bb BK487 hb)
              have n5_ := Aside0.mk (qG bl hb)
              clear HO_9
              clear HO_10
              clear HO_19
              clear BK471
              clear BK487
              clear HB
              have HO_9 := n0_
              have HO_10 := n1_
              have HO_19 := n2_
              have BK471 := n3_
              have BK487 := n4_
              have HB := n5_
              clear n0_ n1_ n2_ n3_ n4_ n5_
              (try clear hb)
              (try clear hb2)
              (try clear hk)
              (try clear hi)
              refine hK.out _ _ ⟨HS0_, HS1_, HS2_⟩ (fun hHeld => ?_)
              clear hK K
              refine norm_ (a' := ?_) ?_ ?_
              rotate_left
              ·show Act.put _ (some 43) _ = _
               simp only [Act.put, List.setIfInBounds_toArray, List.set_cons_zero, List.set_cons_succ, i64_w, i32_w]
               rfl
              refine pS (i := 8) (N := some 35) #[true, true, true, true, true, true, true, true, true, false, false, true, false, false] HT_ ?_
              refine pS (i := 9) (N := some 44) #[true, true, true, true, true, true, true, true, true, true, false, true, false, false] HT_ ?_
              refine pS (i := 10) (N := some 45) #[true, true, true, true, true, true, true, true, true, true, true, true, false, false] HT_ ?_
              exact norm_ (by simp only [putAll, Act.put, List.setIfInBounds_toArray, List.set_cons_zero, List.set_cons_succ]) (hCont (gb487) _ ⟨hHeld, (by (with_reducible repeat (first | apply Kd.qF | apply Kd.qE | apply Kd.qH)); exact HO_10.out), (by (with_reducible repeat (first | apply Kd.qF | apply Kd.qE | apply Kd.qH)); exact HO_19.out), (by (with_reducible repeat (first | apply Kd.qF | apply Kd.qE | apply Kd.qH)); exact HO_9.out), (by (with_reducible repeat (first | refine qB ?_ _ | refine qD ?_ | refine qA ?_ _)); exact BK471.out), (by (with_reducible repeat (first | refine qB ?_ _ | refine qD ?_ | refine qA ?_ _)); exact BK487.out), GW487.out, GE487.out, NB471_487.out, NB487_471.out, bl⟩)
            rintro gb487 w71 ⟨hS_, h0_, h1_, h2_, h3_, h4_, h5_, h6_, h7_, h8_, h9_⟩
            have n0_ : Aside0 (Kd.R Kd.string 9 w71 w.heap.size (fun k_ => some k_ ≠ (.slice Ao66 t472.length co66 : Value).ownBlock) u10 x10_2) := ⟨h0_⟩
            have n1_ : Aside0 (Kd.R Kd.string 9 w71 w.heap.size (fun k_ => some k_ ≠ (u10 : Value).ownBlock) (.slice Ao66 t472.length co66) t472) := ⟨h1_⟩
            have n2_ : Aside0 (Kd.R k27 27 w71 w.heap.size (fun k_ => k_ ≠ gb471 ∧ k_ ≠ gb487) (.slice (some ad482) x9_2.length co68) x9_2) := ⟨h2_⟩
            have n3_ : Aside0 (w71.heap[gb471]? = some (.cells #[.int .i64 a1_0, .int .i64 a1_1, .int .i64 a1_2] 27 (0, 0))) := ⟨h3_⟩
            have n4_ : Aside0 (w71.heap[gb487]? = some (.cells #[.int .i64 0, .int .i64 0, .int .i64 0] 27 (0, 0))) := ⟨h4_⟩
            have n5_ : Aside0 (w.heap.size ≤ gb487) := ⟨h5_⟩
            have n6_ : Aside0 (w.heap.size ≤ gb487) := ⟨h6_⟩
            have n7_ : Aside0 (gb471 ≠ gb487) := ⟨h7_⟩
            have n8_ : Aside0 (gb487 ≠ gb471) := ⟨h8_⟩
            have n9_ : Aside0 (Below w.heap.size w w71) := ⟨h9_⟩
            clear HO_9
            clear HO_10
            clear HO_19
            clear BK471
            clear HB
            clear h0_ h1_ h2_ h3_ h4_ h5_ h6_ h7_ h8_ h9_
            have HO_10 := n0_
            have HO_19 := n1_
            have HO_9 := n2_
            have BK471 := n3_
            have BK487 := n4_
            have GW487 := n5_
            have GE487 := n6_
            have NB471_487 := n7_
            have NB487_471 := n8_
            have HB := n9_
            clear n0_ n1_ n2_ n3_ n4_ n5_ n6_ n7_ n8_ n9_
            have hHeld : w71.cell? (ad482.add ((x11_1).toNat * 3)) = some (.int .i64 ((qX x9_2 x11_1).f0)) ∧ w71.cell? ⟨(ad482.add ((x11_1).toNat * 3)).block, (ad482.add ((x11_1).toNat * 3)).off + 1, none⟩ = some (.int .i64 ((qX x9_2 x11_1).f1)) ∧ w71.cell? ⟨(ad482.add ((x11_1).toNat * 3)).block, (ad482.add ((x11_1).toNat * 3)).off + 2, none⟩ = some (.int .i64 ((qX x9_2 x11_1).f2)) := hS_
            refine norm_ (a' := ?_) ?_ ?_
            rotate_left
            ·simp only [putAll, Act.put, List.setIfInBounds_toArray, List.set_cons_zero, List.set_cons_succ]
             rfl
            refine one_ (i := 12) (N := none) #[true, true, true, true, true, true, true, true, true, true, true, true, true, false] rfl rfl (qNA HT_.out (by kernel_rfl)) (by decide) (fun K hK => ?_)
            have hs72 : w71.cell? ⟨gb487, 0, none⟩ = some (.int .i64 0) := (qK BK487.out 0).trans rfl
            have hfs72 := qC BK487.out 0
            have hns72_0 := NB471_487.out
            have hms72_0 := NB487_471.out
            have hs73 : w71.cell? ⟨gb487, 1, none⟩ = some (.int .i64 0) := (qK BK487.out 1).trans rfl
            have hfs73 := qC BK487.out 1
            have hns73_0 := NB471_487.out
            have hms73_0 := NB487_471.out
            have hs74 : w71.cell? ⟨gb487, 2, none⟩ = some (.int .i64 0) := (qK BK487.out 2).trans rfl
            have hfs74 := qC BK487.out 2
            have hns74_0 := NB471_487.out
            have hms74_0 := NB487_471.out
            refine skip_ (w1 := ?_) (by rfl) rfl ?_ ?_
            rotate_left
            ·go_simp
             rfl
            refine hK.out _ _ ⟨((qO (p := ⟨gb487, _, none⟩) (by first | exact Kd.qM (Kd.qR HO_9.out (fun _ hk => hk.2)) | (rw [qS]; exact Kd.qM (Kd.qR HO_9.out (fun _ hk => hk.2))) | (show (Addr.add _ _).block ≠ _; rw [qS]; exact Kd.qM (Kd.qR HO_9.out (fun _ hk => hk.2))) | (dsimp only; exact Kd.qM (Kd.qR HO_9.out (fun _ hk => hk.2)))) _).trans (((qO (p := ⟨gb487, _, none⟩) (by first | exact Kd.qM (Kd.qR HO_9.out (fun _ hk => hk.2)) | (rw [qS]; exact Kd.qM (Kd.qR HO_9.out (fun _ hk => hk.2))) | (show (Addr.add _ _).block ≠ _; rw [qS]; exact Kd.qM (Kd.qR HO_9.out (fun _ hk => hk.2))) | (dsimp only; exact Kd.qM (Kd.qR HO_9.out (fun _ hk => hk.2)))) _).trans (((qO (p := ⟨gb487, _, none⟩) (by first | exact Kd.qM (Kd.qR HO_9.out (fun _ hk => hk.2)) | (rw [qS]; exact Kd.qM (Kd.qR HO_9.out (fun _ hk => hk.2))) | (show (Addr.add _ _).block ≠ _; rw [qS]; exact Kd.qM (Kd.qR HO_9.out (fun _ hk => hk.2))) | (dsimp only; exact Kd.qM (Kd.qR HO_9.out (fun _ hk => hk.2)))) _).trans (hHeld.1)))))), ((qO (p := ⟨gb487, _, none⟩) (by first | exact Kd.qM (Kd.qR HO_9.out (fun _ hk => hk.2)) | (rw [qS]; exact Kd.qM (Kd.qR HO_9.out (fun _ hk => hk.2))) | (show (Addr.add _ _).block ≠ _; rw [qS]; exact Kd.qM (Kd.qR HO_9.out (fun _ hk => hk.2))) | (dsimp only; exact Kd.qM (Kd.qR HO_9.out (fun _ hk => hk.2)))) _).trans (((qO (p := ⟨gb487, _, none⟩) (by first | exact Kd.qM (Kd.qR HO_9.out (fun _ hk => hk.2)) | (rw [qS]; exact Kd.qM (Kd.qR HO_9.out (fun _ hk => hk.2))) | (show (Addr.add _ _).block ≠ _; rw [qS]; exact Kd.qM (Kd.qR HO_9.out (fun _ hk => hk.2))) | (dsimp only; exact Kd.qM (Kd.qR HO_9.out (fun _ hk => hk.2)))) _).trans (((qO (p := ⟨gb487, _, none⟩) (by first | exact Kd.qM (Kd.qR HO_9.out (fun _ hk => hk.2)) | (rw [qS]; exact Kd.qM (Kd.qR HO_9.out (fun _ hk => hk.2))) | (show (Addr.add _ _).block ≠ _; rw [qS]; exact Kd.qM (Kd.qR HO_9.out (fun _ hk => hk.2))) | (dsimp only; exact Kd.qM (Kd.qR HO_9.out (fun _ hk => hk.2)))) _).trans (hHeld.2.1)))))), ((qO (p := ⟨gb487, _, none⟩) (by first | exact Kd.qM (Kd.qR HO_9.out (fun _ hk => hk.2)) | (rw [qS]; exact Kd.qM (Kd.qR HO_9.out (fun _ hk => hk.2))) | (show (Addr.add _ _).block ≠ _; rw [qS]; exact Kd.qM (Kd.qR HO_9.out (fun _ hk => hk.2))) | (dsimp only; exact Kd.qM (Kd.qR HO_9.out (fun _ hk => hk.2)))) _).trans (((qO (p := ⟨gb487, _, none⟩) (by first | exact Kd.qM (Kd.qR HO_9.out (fun _ hk => hk.2)) | (rw [qS]; exact Kd.qM (Kd.qR HO_9.out (fun _ hk => hk.2))) | (show (Addr.add _ _).block ≠ _; rw [qS]; exact Kd.qM (Kd.qR HO_9.out (fun _ hk => hk.2))) | (dsimp only; exact Kd.qM (Kd.qR HO_9.out (fun _ hk => hk.2)))) _).trans (((qO (p := ⟨gb487, _, none⟩) (by first | exact Kd.qM (Kd.qR HO_9.out (fun _ hk => hk.2)) | (rw [qS]; exact Kd.qM (Kd.qR HO_9.out (fun _ hk => hk.2))) | (show (Addr.add _ _).block ≠ _; rw [qS]; exact Kd.qM (Kd.qR HO_9.out (fun _ hk => hk.2))) | (dsimp only; exact Kd.qM (Kd.qR HO_9.out (fun _ hk => hk.2)))) _).trans (hHeld.2.2))))))⟩ (fun hHeld => ?_)
            clear hK K
            refine pS (i := 13) (N := some 14) #[true, true, true, true, true, true, true, true, true, true, true, true, true, true] HT_ ?_
            refine done_ (qjA HT_.out (by kernel_rfl)) ?_
            try go_wp2
            go_roundg k2
            case measure => have := HK1.out; have := HK2.out; omega
            case rel => exact ⟨(x9_2), (x10_2), (wrap64 (x32_2 + 1)), (by first | rfl | (simp; done) | (simp [*]; done)), H', ⟨by have := HK1.out; have := HK2.out; omega⟩, ⟨by (with_reducible repeat (first | apply Kd.qF | apply Kd.qE | apply Kd.qH)); exact Kd.qf (Kd.R_far (p := ⟨gb487, 2, none⟩) (Kd.R_far (p := ⟨gb487, 1, none⟩) (Kd.R_far (p := ⟨gb487, 0, none⟩) (Kd.qf HO_9.out (fun k_ hk => (⟨hk, hk.2⟩ : _ ∧ k_ ≠ gb487))) (fun _ hk => hk.2) (.int .i64 t483)) (fun _ hk => hk.2) (.int .i64 t484)) (fun _ hk => hk.2) (.int .i64 t485)) (fun _ hk => hk.1.1)⟩, ⟨by (with_reducible repeat (first | apply Kd.qF | apply Kd.qE | apply Kd.qH)); exact Kd.qf (Kd.R_far (p := ⟨gb487, 2, none⟩) (Kd.R_far (p := ⟨gb487, 1, none⟩) (Kd.R_far (p := ⟨gb487, 0, none⟩) (Kd.qt HO_10.out BK487.out (by decide)) (fun _ hk => hk.2) (.int .i64 t483)) (fun _ hk => hk.2) (.int .i64 t484)) (fun _ hk => hk.2) (.int .i64 t485)) (fun _ hk => hk.1)⟩, ⟨by (with_reducible repeat (first | apply Kd.qF | apply Kd.qE | apply Kd.qH)); exact Kd.qf (Kd.R_far (p := ⟨gb487, 2, none⟩) (Kd.R_far (p := ⟨gb487, 1, none⟩) (Kd.R_far (p := ⟨gb487, 0, none⟩) (Kd.qt HO_19.out BK487.out (by decide)) (fun _ hk => hk.2) (.int .i64 t483)) (fun _ hk => hk.2) (.int .i64 t484)) (fun _ hk => hk.2) (.int .i64 t485)) (fun _ hk => hk.1)⟩, ⟨by (with_reducible repeat (first | refine qB ?_ _ | refine qD ?_ | refine qA ?_ _)); refine qL ?_ NB471_487.out _; (with_reducible repeat (first | refine qB ?_ _ | refine qD ?_ | refine qA ?_ _)); refine qL ?_ NB471_487.out _; (with_reducible repeat (first | refine qB ?_ _ | refine qD ?_ | refine qA ?_ _)); refine qL ?_ NB471_487.out _; (with_reducible repeat (first | refine qB ?_ _ | refine qD ?_ | refine qA ?_ _)); exact BK471.out⟩, ⟨bl⟩⟩
          ·rw [if_neg c18] at H
           exact absurd H (by simp)
         ·rw [if_neg c17] at H
          exact absurd H (by simp)
        ·rw [if_neg c16] at H
         exact absurd H (by simp)
       ·rw [if_neg c15] at H
        have c15b0 : decide (x32_2 < 4) = false := decide_eq_false c15
        clear c15
        have H' := Aside0.mk H
        clear H
        go_wp2
        go_roundg k2
        case measure => have := HK1.out; have := HK2.out; omega
        case rel => exact ⟨(x9_2), (x10_2), (wrap64 (x11_1 + 1)), (by first | rfl | (simp; done) | (simp [*]; done)), H', ⟨by have := HK1.out; have := HK2.out; omega⟩, ⟨by (with_reducible repeat (first | apply Kd.qF | apply Kd.qE | apply Kd.qH)); exact HO_9.out⟩, ⟨by (with_reducible repeat (first | apply Kd.qF | apply Kd.qE | apply Kd.qH)); exact HO_10.out⟩, ⟨by (with_reducible repeat (first | apply Kd.qF | apply Kd.qE | apply Kd.qH)); exact HO_19.out⟩, ⟨by (with_reducible repeat (first | refine qB ?_ _ | refine qD ?_ | refine qA ?_ _)); exact BK471.out⟩, ⟨bl⟩⟩
    ·rw [if_neg c13] at H
     have c13b0 : decide (x11_1 < (x9_1.length : Int)) = false := decide_eq_false c13
     clear c13
     simp only [Option.some.injEq, Prod.mk.injEq] at H
     obtain ⟨rfl, rfl, rfl⟩ := H
     obtain ⟨Ao75, co75, eo75⟩ := Kd.ql HO_9.out
     subst eo75
     go_wp2
     go_ret3
     exact ⟨_, _, by first | rfl | (simp [qJ, qI] <;> rfl) | (simp [*, qJ, qI] <;> rfl), by (with_reducible repeat (first | apply Kd.qF | apply Kd.qE | apply Kd.qH)); exact Kd.qf HO_9.out (fun _ hk => trivial), by (with_reducible repeat (first | apply Kd.qF | apply Kd.qE | apply Kd.qH)); exact Kd.qf HO_10.out (fun _ hk => trivial), bl⟩
 ·replace c4 := Bool.eq_false_iff.mpr c4
  subst c4
  have H1 : (some (([] : List (S27)), ([] : List ByteArray), false)) = some (r1, r2, r3) := by rw [if_neg (show ¬ (false = true) by decide)] at H; exact H
  clear H
  have H := H1
  clear H1
  simp only [Option.some.injEq, Prod.mk.injEq] at H
  obtain ⟨rfl, rfl, rfl⟩ := H
  go_enter Tryd.func66, Tryd.ntmps66
  go_wp2_with (first | ((with_reducible refine qb (N := 3) rfl ?_); refine qZ ?hg (N := 3) ?hd (cs := #[.int .i64 a1_0, .int .i64 a1_1, .int .i64 a1_2]) (t := 27) ?hr ?_; (case hd => rfl); (case hg => rfl); (case hr => first | (go_simp; done) | (go_simp; rfl)); intro gb471 hg w76 hbox hb; have n0_ := Aside0.mk (qG bl hb); have n1_ := Aside0.mk (hbox); have n2_ := Aside0.mk ((gg hg)); have n3_ := Aside0.mk ((gg hg)); clear HB; have HB := n0_; have BK471 := n1_; have GW471 := n2_; have GE471 := n3_; clear n0_ n1_ n2_ n3_; clear hb hbox hg; have hcz77_0 := bc BK471 0; have hcz77_1 := bc BK471 1; have hcz77_2 := bc BK471 2; have hfz77_0 := qC BK471.out 0; have hfz77_1 := qC BK471.out 1; have hfz77_2 := qC BK471.out 2) | ((with_reducible refine qa (f := 58) rfl ?_); refine qr (some 18) rfl rfl Tryd.func58 (by kernel_rfl) rfl #[.string a0, .agg #[.int .i64 a1_0, .int .i64 a1_1, .int .i64 a1_2]] rfl (by (try simp only [List.map_toArray, List.map_cons, List.map_nil]); first | done | rfl | (simp only [List.length_drop, List.length_take]; rfl)) ?_; (with_reducible refine (qVA.calls k a0 a1_0 a1_1 a1_2 t472 false _ ?side1 A3.out).mono ?_); (case side1 => first | exact HLD.out | exact Laid.below HLD.out (by repeat (first | (with_reducible first | exact HB.out | apply qj | apply qk | apply qi | refine qWA ?_ (Aside0.out (by with_reducible assumption))) | exact HB.out))); rintro e w78 ⟨v473, rfl, ho0, hb⟩; refine ⟨_, rfl, ?_⟩; have n0_ := Aside0.mk (Kd.qu ho0 (qe bl)); have n1_ := Aside0.mk (bb BK471 hb); have n2_ := Aside0.mk (qG bl hb); clear BK471; clear HB; have HO474 := n0_; have BK471 := n1_; have HB := n2_; clear n0_ n1_ n2_; (try clear hb); (try clear hb2); (try clear hk); (try clear hi); (try clear ho0)))
  go_ret3
  exact ⟨_, _, by first | rfl | (simp [qJ, qI] <;> rfl) | (simp [*, qJ, qI] <;> rfl), by first | exact Kd.R_nil _ _ _ _ _ | exact Kd.N_nil _ _ _ _ _ | exact Kd.V_nil _ _ _ _ _ | exact Kd.Q_nil _ _ _ _ _ | exact Kd.S_nil _ _ _ _ _, by first | exact Kd.R_nil _ _ _ _ _ | exact Kd.N_nil _ _ _ _ _ | exact Kd.V_nil _ _ _ _ _ | exact Kd.Q_nil _ _ _ _ _ | exact Kd.S_nil _ _ _ _ _, bl⟩
def qBA.f (k : Nat) (a0 : ByteArray) (a1_0 : Int) (a1_1 : Int) (a1_2 : Int) : Option (Int × Bool) := (qN.f k a0 a1_0 a1_1 a1_2).bind fun bt503 => (if bt503.2.2 = true then (some ((bt503.1.length : Int), true)) else (some (0, false)))
set_option maxHeartbeats 8000000 in
set_option maxRecDepth 100000 in
theorem qBA.calls (k : Nat) (a0 : ByteArray) (a1_0 : Int) (a1_1 : Int) (a1_2 : Int) (r1 : Int) (r2 : Bool) (w : World) (hL : Laid w) (h : qBA.f k a0 a1_0 a1_1 a1_2 = some (r1, r2)) :
  Calls Tryd.prog 32 #[.string a0, .agg #[.int .i64 a1_0, .int .i64 a1_1, .int .i64 a1_2]] w fun e w' => e = .returned (.tuple #[.int .i64 r1, .bool r2]) ∧ Below w.heap.size w w' := by
 have hu27 := Tryd.underlying27
 have HLD := Aside0.mk hL
 clear hL
 have HB := Aside0.mk (Below.refl w.heap.size w)
 have H : ((qN.f k a0 a1_0 a1_1 a1_2).bind fun bt503 => (if bt503.2.2 = true then (some ((bt503.1.length : Int), true)) else (some (0, false)))) = some (r1, r2) := h
 clear h
 replace H := Option.bind_eq_some_iff.mp H
 obtain ⟨⟨t503, t506, t509⟩, A30, H⟩ := H
 replace H : (if t509 = true then (some ((t503.length : Int), true)) else (some (0, false))) = some (r1, r2) := H
 have A3 := Aside0.mk A30
 clear A30
 by_cases c4 : t509 = true
 ·subst c4
  have H1 : (some ((t503.length : Int), true)) = some (r1, r2) := by rw [if_pos rfl] at H; exact H
  clear H
  have H := H1
  clear H1
  simp only [Option.some.injEq, Prod.mk.injEq] at H
  obtain ⟨rfl, rfl⟩ := H
  go_enter Tryd.func32, Tryd.ntmps32
  go_wp2_with (first | ((with_reducible refine qb (N := 3) rfl ?_); refine qZ ?hg (N := 3) ?hd (cs := #[.int .i64 a1_0, .int .i64 a1_1, .int .i64 a1_2]) (t := 27) ?hr ?_; (case hd => rfl); (case hg => rfl); (case hr => first | (go_simp; done) | (go_simp; rfl)); intro gb502 hg w5 hbox hb; have n0_ := Aside0.mk (qG bl hb); have n1_ := Aside0.mk (hbox); have n2_ := Aside0.mk ((gg hg)); have n3_ := Aside0.mk ((gg hg)); clear HB; have HB := n0_; have BK502 := n1_; have GW502 := n2_; have GE502 := n3_; clear n0_ n1_ n2_ n3_; clear hb hbox hg; have hcz6_0 := bc BK502 0; have hcz6_1 := bc BK502 1; have hcz6_2 := bc BK502 2; have hfz6_0 := qC BK502.out 0; have hfz6_1 := qC BK502.out 1; have hfz6_2 := qC BK502.out 2) | ((with_reducible refine qa (f := 66) rfl ?_); refine qr (some 12) rfl rfl Tryd.func66 (by kernel_rfl) rfl #[.string a0, .agg #[.int .i64 a1_0, .int .i64 a1_1, .int .i64 a1_2]] rfl (by (try simp only [List.map_toArray, List.map_cons, List.map_nil]); first | done | rfl | (simp only [List.length_drop, List.length_take]; rfl)) ?_; (with_reducible refine (qN.calls k a0 a1_0 a1_1 a1_2 t503 t506 true _ ?side1 A3.out).mono ?_); (case side1 => first | exact HLD.out | exact Laid.below HLD.out (by repeat (first | (with_reducible first | exact HB.out | apply qj | apply qk | apply qi | refine qWA ?_ (Aside0.out (by with_reducible assumption))) | exact HB.out))); rintro e w7 ⟨v504, v507, rfl, ho0, ho1, hb⟩; refine ⟨_, rfl, ?_⟩; have n0_ := Aside0.mk (Kd.qu (Kd.qHB ho0 (g := gb502) (o := .cells #[.int .i64 a1_0, .int .i64 a1_1, .int .i64 a1_2] 27 (0, 0)) (by (with_reducible repeat (first | refine qB ?_ _ | refine qD ?_ | refine qA ?_ _)); exact BK502.out)) (qe bl)); have n1_ := Aside0.mk (Kd.qu ho1 (qe bl)); have n2_ := Aside0.mk (bb BK502 hb); have n3_ := Aside0.mk (qG bl hb); clear BK502; clear HB; have HO505 := n0_; have HO508 := n1_; have BK502 := n2_; have HB := n3_; clear n0_ n1_ n2_ n3_; (try clear hb); (try clear hb2); (try clear hk); (try clear hi); (try clear ho0); (try clear ho1); obtain ⟨Ao8, co8, eo8⟩ := Kd.ql HO505.out; subst eo8))
  go_ret2
  exact ⟨by first | rfl | (simp [qJ, qI] <;> rfl) | (simp [*, qJ, qI] <;> rfl), bl⟩
 ·replace c4 := Bool.eq_false_iff.mpr c4
  subst c4
  have H1 : (some (0, false)) = some (r1, r2) := by rw [if_neg (show ¬ (false = true) by decide)] at H; exact H
  clear H
  have H := H1
  clear H1
  simp only [Option.some.injEq, Prod.mk.injEq] at H
  obtain ⟨rfl, rfl⟩ := H
  go_enter Tryd.func32, Tryd.ntmps32
  go_wp2_with (first | ((with_reducible refine qb (N := 3) rfl ?_); refine qZ ?hg (N := 3) ?hd (cs := #[.int .i64 a1_0, .int .i64 a1_1, .int .i64 a1_2]) (t := 27) ?hr ?_; (case hd => rfl); (case hg => rfl); (case hr => first | (go_simp; done) | (go_simp; rfl)); intro gb502 hg w9 hbox hb; have n0_ := Aside0.mk (qG bl hb); have n1_ := Aside0.mk (hbox); have n2_ := Aside0.mk ((gg hg)); have n3_ := Aside0.mk ((gg hg)); clear HB; have HB := n0_; have BK502 := n1_; have GW502 := n2_; have GE502 := n3_; clear n0_ n1_ n2_ n3_; clear hb hbox hg; have hcz10_0 := bc BK502 0; have hcz10_1 := bc BK502 1; have hcz10_2 := bc BK502 2; have hfz10_0 := qC BK502.out 0; have hfz10_1 := qC BK502.out 1; have hfz10_2 := qC BK502.out 2) | ((with_reducible refine qa (f := 66) rfl ?_); refine qr (some 12) rfl rfl Tryd.func66 (by kernel_rfl) rfl #[.string a0, .agg #[.int .i64 a1_0, .int .i64 a1_1, .int .i64 a1_2]] rfl (by (try simp only [List.map_toArray, List.map_cons, List.map_nil]); first | done | rfl | (simp only [List.length_drop, List.length_take]; rfl)) ?_; (with_reducible refine (qN.calls k a0 a1_0 a1_1 a1_2 t503 t506 false _ ?side1 A3.out).mono ?_); (case side1 => first | exact HLD.out | exact Laid.below HLD.out (by repeat (first | (with_reducible first | exact HB.out | apply qj | apply qk | apply qi | refine qWA ?_ (Aside0.out (by with_reducible assumption))) | exact HB.out))); rintro e w11 ⟨v504, v507, rfl, ho0, ho1, hb⟩; refine ⟨_, rfl, ?_⟩; have n0_ := Aside0.mk (Kd.qu (Kd.qHB ho0 (g := gb502) (o := .cells #[.int .i64 a1_0, .int .i64 a1_1, .int .i64 a1_2] 27 (0, 0)) (by (with_reducible repeat (first | refine qB ?_ _ | refine qD ?_ | refine qA ?_ _)); exact BK502.out)) (qe bl)); have n1_ := Aside0.mk (Kd.qu ho1 (qe bl)); have n2_ := Aside0.mk (bb BK502 hb); have n3_ := Aside0.mk (qG bl hb); clear BK502; clear HB; have HO505 := n0_; have HO508 := n1_; have BK502 := n2_; have HB := n3_; clear n0_ n1_ n2_ n3_; (try clear hb); (try clear hb2); (try clear hk); (try clear hi); (try clear ho0); (try clear ho1)))
  go_ret2
  exact ⟨by first | rfl | (simp [qJ, qI] <;> rfl) | (simp [*, qJ, qI] <;> rfl), bl⟩
end Go.Proofs.YtbpfhpjbeomfcaaDoor.P
