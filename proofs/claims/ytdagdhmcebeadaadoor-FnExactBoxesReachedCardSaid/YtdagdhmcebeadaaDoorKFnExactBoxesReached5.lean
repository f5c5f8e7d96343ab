/- The program's BoxesReached returns what the reference's returns, for all texts and boxes (the law lets longer texts by). No further condition. -/
import Derived.Test.YtdagdhmcebeadaaDoorKFnExactBoxesReached4
import Derived.ChangeArms
import Derived.ChangeSame
import Derived.Deep.Slices
import Derived.ProofKit
import Derived.OpenShut
import Derived.SizedLaws
import Derived.Test.YtdagdhmcebeadaaDoorProg
import Derived.Lib.Strings
import Derived.Lib.SplitLaws

namespace Go.Proofs.YtdagdhmcebeadaaDoor.P
open Go.RowKit Go.Proofs.YtdagdhmcebeadaaDoorW.PrintWords Go.Proofs.YtdagdhmcebeadaaDoorW.PrintLast Go.Proofs.YtdagdhmcebeadaaDoorW.PrintMore
attribute [local go_sem] qDA qBA qLA qKA qq qp qCA qAA
set_option linter.unusedVariables false
set_option linter.unusedSimpArgs false
mutual
def qM.j0 : Nat → ByteArray → List (S27) → Bool → List (S27) → Bool → Int → Int → Int → Option (Bool)
 | 0, _, _, _, _, _, _, _, _ => none
 | k + 1, x0, x5, x6, x7, x38, x404000, x404001, x404002 => if x38 = true then (some false) else ((qx.f k x7 1).bind fun bt419 => ((qr.f k bt419.2 1).bind fun t421 => (if t421 < 0 then (some false) else (if t421 = bt419.1 then ((qSA.f x404000 x404001 x404002).bind fun bt422 => ((qw.f k x0 bt422.1 bt422.2.1 bt422.2.2).bind fun bt425 => ((qj.f k bt425.1 x5).bind fun t429 => (if t429 = true then (qM.j1 k bt419.2 bt419.1 (bt425.2 != x6)) else (qM.j1 k bt419.2 bt419.1 true))))) else (some false)))))
def qM.j1 : Nat → List (S27) → Int → Bool → Option (Bool)
 | 0, _, _, _ => none
 | k + 1, x7, x9, x65 => if x65 = true then (some false) else ((qr.f k x7 1).bind fun t430 => (if t430 < 0 then (some false) else (if t430 = x9 then (some true) else (some false))))
end
def qM.f (k : Nat) (a0 : ByteArray) (a1_0 : Int) (a1_1 : Int) (a1_2 : Int) : Option (Bool) := if (a0.size : Int) > 1048576 then (some true) else ((qSA.f a1_0 a1_1 a1_2).bind fun bt404 => ((ql.f k a0 bt404.1 bt404.2.1 bt404.2.2).bind fun bt407 => ((qSA.f a1_0 a1_1 a1_2).bind fun bt411 => ((qw.f k a0 bt411.1 bt411.2.1 bt411.2.2).bind fun bt414 => ((qj.f k bt414.1 bt407.1).bind fun t418 => (if t418 = true then (qM.j0 k a0 bt407.1 bt407.2 bt414.1 (bt414.2 != bt407.2) a1_0 a1_1 a1_2) else (qM.j0 k a0 bt407.1 bt407.2 bt414.1 true a1_0 a1_1 a1_2)))))))
set_option maxHeartbeats 8000000 in
set_option maxRecDepth 100000 in
theorem qM.calls (k : Nat) (a0 : ByteArray) (a1_0 : Int) (a1_1 : Int) (a1_2 : Int) (r : Bool) (w : World) (hL : Laid w) (h : qM.f k a0 a1_0 a1_1 a1_2 = some r) :
  Calls Tryd.prog 3 #[.string a0, .agg #[.int .i64 a1_0, .int .i64 a1_1, .int .i64 a1_2]] w fun e w' => e = .returned (.bool r) ∧ Below w.heap.size w w' := by
 have hu23 := Tryd.underlying23
 have HLD := Aside0.mk hL
 clear hL
 have HB := Aside0.mk (Below.refl w.heap.size w)
 have H : (if (a0.size : Int) > 1048576 then (some true) else ((qSA.f a1_0 a1_1 a1_2).bind fun bt404 => ((ql.f k a0 bt404.1 bt404.2.1 bt404.2.2).bind fun bt407 => ((qSA.f a1_0 a1_1 a1_2).bind fun bt411 => ((qw.f k a0 bt411.1 bt411.2.1 bt411.2.2).bind fun bt414 => ((qj.f k bt414.1 bt407.1).bind fun t418 => (if t418 = true then (qM.j0 k a0 bt407.1 bt407.2 bt414.1 (bt414.2 != bt407.2) a1_0 a1_1 a1_2) else (qM.j0 k a0 bt407.1 bt407.2 bt414.1 true a1_0 a1_1 a1_2)))))))) = some r := h
 clear h
 by_cases c3 : (a0.size : Int) > 1048576
 ·rw [if_pos c3] at H
  have c3b0 : decide (1048576 < (a0.size : Int)) = true := decide_eq_true c3
  have c3b1 : decide (1048576 < a0.size) = true := decide_eq_true (by omega)
  clear c3
  obtain rfl := Option.some.inj H
  go_enter Tryd.func3, Tryd.ntmps3
  go_wp2_with (first | ((with_reducible refine qd (N := 3) rfl ?_); refine qY ?hg (N := 3) ?hd (cs := #[.int .i64 a1_0, .int .i64 a1_1, .int .i64 a1_2]) (t := 23) ?hr ?_; (case hd => rfl); (case hg => rfl); (case hr => first | (go_simp; done) | (go_simp; rfl)); intro gb403 hg w4 hbox hb; have n0_ := Aside0.mk (qG bl hb); have n1_ := Aside0.mk (hbox); have n2_ := Aside0.mk ((gg hg)); have n3_ := Aside0.mk ((gg hg)); clear HB; have HB := n0_; have BK403 := n1_; have GW403 := n2_; have GE403 := n3_; clear n0_ n1_ n2_ n3_; clear hb hbox hg))
  go_ret
  exact ⟨by first | rfl | (simp [qJ, qI] <;> rfl) | (simp [*, qJ, qI] <;> rfl), bl⟩
 ·rw [if_neg c3] at H
  have c3b0 : decide (1048576 < (a0.size : Int)) = false := decide_eq_false c3
  have c3b1 : decide (1048576 < a0.size) = false := decide_eq_false (by omega)
  clear c3
  replace H := Option.bind_eq_some_iff.mp H
  obtain ⟨⟨t404, t405, t406⟩, A50, H⟩ := H
  replace H : ((ql.f k a0 t404 t405 t406).bind fun bt407 => ((qSA.f a1_0 a1_1 a1_2).bind fun bt411 => ((qw.f k a0 bt411.1 bt411.2.1 bt411.2.2).bind fun bt414 => ((qj.f k bt414.1 bt407.1).bind fun t418 => (if t418 = true then (qM.j0 k a0 bt407.1 bt407.2 bt414.1 (bt414.2 != bt407.2) a1_0 a1_1 a1_2) else (qM.j0 k a0 bt407.1 bt407.2 bt414.1 true a1_0 a1_1 a1_2)))))) = some r := H
  have A5 := Aside0.mk A50
  clear A50
  replace H := Option.bind_eq_some_iff.mp H
  obtain ⟨⟨t407, t410⟩, A60, H⟩ := H
  replace H : ((qSA.f a1_0 a1_1 a1_2).bind fun bt411 => ((qw.f k a0 bt411.1 bt411.2.1 bt411.2.2).bind fun bt414 => ((qj.f k bt414.1 t407).bind fun t418 => (if t418 = true then (qM.j0 k a0 t407 t410 bt414.1 (bt414.2 != t410) a1_0 a1_1 a1_2) else (qM.j0 k a0 t407 t410 bt414.1 true a1_0 a1_1 a1_2))))) = some r := H
  have A6 := Aside0.mk A60
  clear A60
  replace H := Option.bind_eq_some_iff.mp H
  obtain ⟨⟨t411, t412, t413⟩, A70, H⟩ := H
  replace H : ((qw.f k a0 t411 t412 t413).bind fun bt414 => ((qj.f k bt414.1 t407).bind fun t418 => (if t418 = true then (qM.j0 k a0 t407 t410 bt414.1 (bt414.2 != t410) a1_0 a1_1 a1_2) else (qM.j0 k a0 t407 t410 bt414.1 true a1_0 a1_1 a1_2)))) = some r := H
  have A7 := Aside0.mk A70
  clear A70
  replace H := Option.bind_eq_some_iff.mp H
  obtain ⟨⟨t414, t417⟩, A80, H⟩ := H
  replace H : ((qj.f k t414 t407).bind fun t418 => (if t418 = true then (qM.j0 k a0 t407 t410 t414 (t417 != t410) a1_0 a1_1 a1_2) else (qM.j0 k a0 t407 t410 t414 true a1_0 a1_1 a1_2))) = some r := H
  have A8 := Aside0.mk A80
  clear A80
  have HC9 := Aside0.mk H
  clear H
  go_enter Tryd.func3, Tryd.ntmps3
  go_upto_region 5 with (first | ((with_reducible refine qd (N := 3) rfl ?_); refine qY ?hg (N := 3) ?hd (cs := #[.int .i64 a1_0, .int .i64 a1_1, .int .i64 a1_2]) (t := 23) ?hr ?_; (case hd => rfl); (case hg => rfl); (case hr => first | (go_simp; done) | (go_simp; rfl)); intro gb403 hg w10 hbox hb; have n0_ := Aside0.mk (qG bl hb); have n1_ := Aside0.mk (hbox); have n2_ := Aside0.mk ((gg hg)); have n3_ := Aside0.mk ((gg hg)); clear HB; have HB := n0_; have BK403 := n1_; have GW403 := n2_; have GE403 := n3_; clear n0_ n1_ n2_ n3_; clear hb hbox hg; have hcz11_0 := bc BK403 0; have hcz11_1 := bc BK403 1; have hcz11_2 := bc BK403 2; have hfz11_0 := qC BK403.out 0; have hfz11_1 := qC BK403.out 1; have hfz11_2 := qC BK403.out 2) | ((with_reducible refine qS (f := 5) rfl ?_); refine qt (some 19) rfl rfl Tryd.func5 (by kernel_rfl) rfl #[.agg #[.int .i64 a1_0, .int .i64 a1_1, .int .i64 a1_2]] rfl (by (try simp only [List.map_toArray, List.map_cons, List.map_nil]); first | done | rfl | (simp only [List.length_drop, List.length_take]; rfl)) ?_; (with_reducible refine (qSA.calls a1_0 a1_1 a1_2 t404 t405 t406 _ A5.out).mono ?_); rintro e w12 ⟨rfl, hb⟩; refine ⟨_, rfl, ?_⟩; have n0_ := Aside0.mk (bb BK403 hb); have n1_ := Aside0.mk (qG bl hb); clear BK403; clear HB; have BK403 := n0_; have HB := n1_; clear n0_ n1_; (try clear hb); (try clear hb2); (try clear hk); (try clear hi)) | ((with_reducible refine qS (f := 4) rfl ?_); refine qt (some 20) rfl rfl Tryd.func4 (by kernel_rfl) rfl #[.string a0, .agg #[.int .i64 t404, .int .i64 t405, .int .i64 t406]] rfl (by (try simp only [List.map_toArray, List.map_cons, List.map_nil]); first | done | rfl | (simp only [List.length_drop, List.length_take]; rfl)) ?_; (with_reducible refine (ql.calls k a0 t404 t405 t406 t407 t410 _ A6.out).mono ?_); rintro e w13 ⟨v408, rfl, ho0, hb⟩; refine ⟨_, rfl, ?_⟩; have n0_ := Aside0.mk (Kd.qHA ho0 (qg bl)); have n1_ := Aside0.mk (bb BK403 hb); have n2_ := Aside0.mk (qG bl hb); clear BK403; clear HB; have HO409 := n0_; have BK403 := n1_; have HB := n2_; clear n0_ n1_ n2_; (try clear hb); (try clear hb2); (try clear hk); (try clear hi); (try clear ho0); have hcz14_0 := bc BK403 0; have hcz14_1 := bc BK403 1; have hcz14_2 := bc BK403 2; have hfz14_0 := qC BK403.out 0; have hfz14_1 := qC BK403.out 1; have hfz14_2 := qC BK403.out 2) | ((with_reducible refine qS (f := 5) rfl ?_); refine qt (some 26) rfl rfl Tryd.func5 (by kernel_rfl) rfl #[.agg #[.int .i64 a1_0, .int .i64 a1_1, .int .i64 a1_2]] rfl (by (try simp only [List.map_toArray, List.map_cons, List.map_nil]); first | done | rfl | (simp only [List.length_drop, List.length_take]; rfl)) ?_; (with_reducible refine (qSA.calls a1_0 a1_1 a1_2 t411 t412 t413 _ A7.out).mono ?_); rintro e w15 ⟨rfl, hb⟩; refine ⟨_, rfl, ?_⟩; have n0_ := Aside0.mk (Kd.qa (by (with_reducible repeat (first | apply Kd.qF | apply Kd.qE | apply Kd.qH)); exact HO409.out) hb); have n1_ := Aside0.mk (bb BK403 hb); have n2_ := Aside0.mk (qG bl hb); clear HO409; clear BK403; clear HB; have HO409 := n0_; have BK403 := n1_; have HB := n2_; clear n0_ n1_ n2_; (try clear hb); (try clear hb2); (try clear hk); (try clear hi)) | ((with_reducible refine qS (f := 6) rfl ?_); refine qt (some 27) rfl rfl Tryd.func6 (by kernel_rfl) rfl #[.string a0, .agg #[.int .i64 t411, .int .i64 t412, .int .i64 t413]] rfl (by (try simp only [List.map_toArray, List.map_cons, List.map_nil]); first | done | rfl | (simp only [List.length_drop, List.length_take]; rfl)) ?_; (with_reducible refine (qw.calls k a0 t411 t412 t413 t414 t417 _ ?side1 A8.out).mono ?_); (case side1 => first | exact HLD.out | exact Laid.below HLD.out (by repeat (first | (with_reducible first | exact HB.out | apply qv | apply qu | apply qm | refine qVA ?_ (Aside0.out (by with_reducible assumption))) | exact HB.out))); rintro e w16 ⟨v415, rfl, ho0, hb⟩; refine ⟨_, rfl, ?_⟩; have n0_ := Aside0.mk (Kd.qkA (by (with_reducible repeat (first | apply Kd.qF | apply Kd.qE | apply Kd.qH)); exact HO409.out) (Kd.qMB ho0) hb); have n1_ := Aside0.mk (Kd.qHA (Kd.qLB ho0 (Kd.R_lt (by (with_reducible repeat (first | apply Kd.qF | apply Kd.qE | apply Kd.qH)); exact HO409.out))) (qg bl)); have n2_ := Aside0.mk (bb BK403 hb); have n3_ := Aside0.mk (qG bl hb); clear HO409; clear BK403; clear HB; have HO409 := n0_; have HO416 := n1_; have BK403 := n2_; have HB := n3_; clear n0_ n1_ n2_ n3_; (try clear hb); (try clear hb2); (try clear hk); (try clear hi); (try clear ho0)))
  (try simp only [Act.put, List.setIfInBounds_toArray, List.set_cons_zero, List.set_cons_succ])
  go_cut [38] (fun v38 wc => ∃ (kq : Nat) (x38_8 : Bool), v38 = .bool x38_8 ∧ Aside0 (qM.j0 kq a0 t407 t410 t414 x38_8 a1_0 a1_1 a1_2 = some r) ∧ Aside0 (kq ≤ k) ∧ Aside0 (Kd.R k27 27 wc w.heap.size (fun k_ => some k_ ≠ (v415 : Value).ownBlock) v408 t407) ∧ Aside0 (Kd.R k27 27 wc w.heap.size (fun k_ => some k_ ≠ (v408 : Value).ownBlock) v415 t414) ∧ Aside0 (wc.heap[gb403]? = some (.cells #[.int .i64 a1_0, .int .i64 a1_1, .int .i64 a1_2] 23 (0, 0))) ∧ Aside0 (Below w.heap.size w wc))
  case first =>
   have H := HC9.out
   clear HC9
   replace H := Option.bind_eq_some_iff.mp H
   obtain ⟨t418, A170, H⟩ := H
   replace H : (if t418 = true then (qM.j0 k a0 t407 t410 t414 (t417 != t410) a1_0 a1_1 a1_2) else (qM.j0 k a0 t407 t410 t414 true a1_0 a1_1 a1_2)) = some r := H
   have A17 := Aside0.mk A170
   clear A170
   by_cases c18 : t418 = true
   ·subst c18
    have H1 : (qM.j0 k a0 t407 t410 t414 (t417 != t410) a1_0 a1_1 a1_2) = some r := by rw [if_pos rfl] at H; exact H
    clear H
    have H := H1
    clear H1
    have H' := Aside0.mk H
    clear H
    obtain ⟨Ao19, co19, eo19⟩ := Kd.qo HO416.out
    subst eo19
    obtain ⟨Ao20, co20, eo20⟩ := Kd.qo HO409.out
    subst eo20
    go_wp2_with (first | ((with_reducible refine qS (f := 7) rfl ?_); refine qt (some 32) rfl rfl Tryd.func7 (by kernel_rfl) rfl #[.slice Ao19 t414.length co19, .slice Ao20 t407.length co20] rfl (by (try simp only [List.map_toArray, List.map_cons, List.map_nil]); first | done | rfl | (simp only [List.length_drop, List.length_take]; rfl)) ?_; (with_reducible refine (qj.calls k _ _ t414 _ _ t407 true _ ?side1 ?side2 ?side3 ?side4 A17.out).mono ?_); (case side1 => repeat (first | exact (Kd.qT HO416.out).2.2 | (with_reducible refine Kd.qz ?_ _) | (with_reducible refine Kd.qy ?_ _) | (with_reducible refine Kd.qNA ?_))); (case side2 => exact (Kd.qT HO416.out).2.1); (case side3 => repeat (first | exact (Kd.qT HO409.out).2.2 | (with_reducible refine Kd.qz ?_ _) | (with_reducible refine Kd.qy ?_ _) | (with_reducible refine Kd.qNA ?_))); (case side4 => exact (Kd.qT HO409.out).2.1); rintro e w21 ⟨rfl, hb⟩; refine ⟨_, rfl, ?_⟩; have n0_ := Aside0.mk (Kd.qa (by (with_reducible repeat (first | apply Kd.qF | apply Kd.qE | apply Kd.qH)); exact HO409.out) hb); have n1_ := Aside0.mk (Kd.qa (by (with_reducible repeat (first | apply Kd.qF | apply Kd.qE | apply Kd.qH)); exact HO416.out) hb); have n2_ := Aside0.mk (bb BK403 hb); have n3_ := Aside0.mk (qG bl hb); clear HO409; clear HO416; clear BK403; clear HB; have HO409 := n0_; have HO416 := n1_; have BK403 := n2_; have HB := n3_; clear n0_ n1_ n2_ n3_; (try clear hb); (try clear hb2); (try clear hk); (try clear hi)))
    go_meet
    case rel => exact ⟨_, ((t417 != t410)), (by first | rfl | (simp; done) | (simp [*]; done)), H', ⟨by first | omega | exact Nat.le_refl _⟩, ⟨by (with_reducible repeat (first | apply Kd.qF | apply Kd.qE | apply Kd.qH)); exact Kd.qh HO409.out (fun _ hk => hk.2)⟩, ⟨by (with_reducible repeat (first | apply Kd.qF | apply Kd.qE | apply Kd.qH)); exact Kd.qh HO416.out (fun _ hk => hk.2)⟩, ⟨by (with_reducible repeat (first | refine qB ?_ _ | refine qD ?_ | refine qA ?_ _)); exact BK403.out⟩, ⟨bl⟩⟩
   ·replace c18 := Bool.eq_false_iff.mpr c18
    subst c18
    have H1 : (qM.j0 k a0 t407 t410 t414 true a1_0 a1_1 a1_2) = some r := by rw [if_neg (show ¬ (false = true) by decide)] at H; exact H
    clear H
    have H := H1
    clear H1
    have H' := Aside0.mk H
    clear H
    obtain ⟨Ao22, co22, eo22⟩ := Kd.qo HO416.out
    subst eo22
    obtain ⟨Ao23, co23, eo23⟩ := Kd.qo HO409.out
    subst eo23
    go_wp2_with (first | ((with_reducible refine qS (f := 7) rfl ?_); refine qt (some 32) rfl rfl Tryd.func7 (by kernel_rfl) rfl #[.slice Ao22 t414.length co22, .slice Ao23 t407.length co23] rfl (by (try simp only [List.map_toArray, List.map_cons, List.map_nil]); first | done | rfl | (simp only [List.length_drop, List.length_take]; rfl)) ?_; (with_reducible refine (qj.calls k _ _ t414 _ _ t407 false _ ?side1 ?side2 ?side3 ?side4 A17.out).mono ?_); (case side1 => repeat (first | exact (Kd.qT HO416.out).2.2 | (with_reducible refine Kd.qz ?_ _) | (with_reducible refine Kd.qy ?_ _) | (with_reducible refine Kd.qNA ?_))); (case side2 => exact (Kd.qT HO416.out).2.1); (case side3 => repeat (first | exact (Kd.qT HO409.out).2.2 | (with_reducible refine Kd.qz ?_ _) | (with_reducible refine Kd.qy ?_ _) | (with_reducible refine Kd.qNA ?_))); (case side4 => exact (Kd.qT HO409.out).2.1); rintro e w24 ⟨rfl, hb⟩; refine ⟨_, rfl, ?_⟩; have n0_ := Aside0.mk (Kd.qa (by (with_reducible repeat (first | apply Kd.qF | apply Kd.qE | apply Kd.qH)); exact HO409.out) hb); have n1_ := Aside0.mk (Kd.qa (by (with_reducible repeat (first | apply Kd.qF | apply Kd.qE | apply Kd.qH)); exact HO416.out) hb); have n2_ := Aside0.mk (bb BK403 hb); have n3_ := Aside0.mk (qG bl hb); clear HO409; clear HO416; clear BK403; clear HB; have HO409 := n0_; have HO416 := n1_; have BK403 := n2_; have HB := n3_; clear n0_ n1_ n2_ n3_; (try clear hb); (try clear hb2); (try clear hk); (try clear hi)))
    go_meet
    case rel => exact ⟨_, (true), (by first | rfl | (simp; done) | (simp [*]; done)), H', ⟨by first | omega | exact Nat.le_refl _⟩, ⟨by (with_reducible repeat (first | apply Kd.qF | apply Kd.qE | apply Kd.qH)); exact Kd.qh HO409.out (fun _ hk => hk.2)⟩, ⟨by (with_reducible repeat (first | apply Kd.qF | apply Kd.qE | apply Kd.qH)); exact Kd.qh HO416.out (fun _ hk => hk.2)⟩, ⟨by (with_reducible repeat (first | refine qB ?_ _ | refine qD ?_ | refine qA ?_ _)); exact BK403.out⟩, ⟨bl⟩⟩
  case rest =>
   clear HC9
   try clear c1
   try clear p2
   try clear c3
   try clear c3b0
   try clear c3b1
   try clear c4
   try clear c5
   try clear c6
   try clear c7
   try clear c18
   try clear hcz11_0
   try clear hcz11_1
   try clear hcz11_2
   try clear hcz14_0
   try clear hcz14_1
   try clear hcz14_2
   try clear hfz11_0
   try clear hfz11_1
   try clear hfz11_2
   try clear hfz14_0
   try clear hfz14_1
   try clear hfz14_2
   obtain ⟨kq, x38_8, rfl, HA, HJ8, HO_5, HO_7, BK403, HB⟩ := hcut
   cases kq with
   | zero => exact absurd HA.out (by simp [qM.j0])
   | succ kj8 =>
    have H := HA.out
    clear HA
    simp only [qM.j0] at H
    by_cases c25 : x38_8 = true
    ·subst c25
     have H1 : (some false) = some r := by rw [if_pos rfl] at H; exact H
     clear H
     have H := H1
     clear H1
     obtain rfl := Option.some.inj H
     go_wp2
     go_ret
     exact ⟨by first | rfl | (simp [qJ, qI] <;> rfl) | (simp [*, qJ, qI] <;> rfl), bl⟩
    ·replace c25 := Bool.eq_false_iff.mpr c25
     subst c25
     have H1 : ((qx.f kj8 t414 1).bind fun bt419 => ((qr.f kj8 bt419.2 1).bind fun t421 => (if t421 < 0 then (some false) else (if t421 = bt419.1 then ((qSA.f a1_0 a1_1 a1_2).bind fun bt422 => ((qw.f kj8 a0 bt422.1 bt422.2.1 bt422.2.2).bind fun bt425 => ((qj.f kj8 bt425.1 t407).bind fun t429 => (if t429 = true then (qM.j1 kj8 bt419.2 bt419.1 (bt425.2 != t410)) else (qM.j1 kj8 bt419.2 bt419.1 true))))) else (some false))))) = some r := by rw [if_neg (show ¬ (false = true) by decide)] at H; exact H
     clear H
     have H := H1
     clear H1
     replace H := Option.bind_eq_some_iff.mp H
     obtain ⟨⟨t419, t420⟩, A260, H⟩ := H
     replace H : ((qr.f kj8 t420 1).bind fun t421 => (if t421 < 0 then (some false) else (if t421 = t419 then ((qSA.f a1_0 a1_1 a1_2).bind fun bt422 => ((qw.f kj8 a0 bt422.1 bt422.2.1 bt422.2.2).bind fun bt425 => ((qj.f kj8 bt425.1 t407).bind fun t429 => (if t429 = true then (qM.j1 kj8 t420 t419 (bt425.2 != t410)) else (qM.j1 kj8 t420 t419 true))))) else (some false)))) = some r := H
     have A26 := Aside0.mk A260
     clear A260
     replace H := Option.bind_eq_some_iff.mp H
     obtain ⟨t421, A270, H⟩ := H
     replace H : (if t421 < 0 then (some false) else (if t421 = t419 then ((qSA.f a1_0 a1_1 a1_2).bind fun bt422 => ((qw.f kj8 a0 bt422.1 bt422.2.1 bt422.2.2).bind fun bt425 => ((qj.f kj8 bt425.1 t407).bind fun t429 => (if t429 = true then (qM.j1 kj8 t420 t419 (bt425.2 != t410)) else (qM.j1 kj8 t420 t419 true))))) else (some false))) = some r := H
     have A27 := Aside0.mk A270
     clear A270
     by_cases c28 : t421 < 0
     ·rw [if_pos c28] at H
      have c28b0 : decide (t421 < 0) = true := decide_eq_true c28
      clear c28
      obtain rfl := Option.some.inj H
      obtain ⟨Ao29, co29, eo29⟩ := Kd.qo HO_7.out
      subst eo29
      go_wp2_with (first | ((with_reducible refine qS (f := 8) rfl ?_); refine qt (some 41) rfl rfl Tryd.func8 (by kernel_rfl) rfl #[.slice Ao29 t414.length co29, .int .i64 1] rfl (by (try simp only [List.map_toArray, List.map_cons, List.map_nil]); first | done | rfl | (simp only [List.length_drop, List.length_take]; rfl)) ?_; (with_reducible refine (qx.calls kj8 (fun k_ => some k_ = (.slice Ao29 t414.length co29 : Value).ownBlock) (.slice Ao29 t414.length co29) t414 1 t419 t420 w _ ?side1 ?side2 A26.out).mono ?_); (case side1 => repeat (first | (with_reducible first | exact HB.out | apply qv | apply qu | apply qm | refine qVA ?_ GE403.out) | exact HB.out)); (case side2 => exact Kd.qRC rfl HO_7.out); rintro e w30 ⟨rfl, hy0, hb, hkp⟩; refine ⟨_, rfl, ?_⟩; have n0_ := Aside0.mk (Kd.qh (ok' := fun k_ => some k_ ≠ (.slice Ao29 t414.length co29 : Value).ownBlock) (Kd.qXC (HO_5.out) hkp (fun k_ hk_ hs_ => (hk_) hs_)) (fun k_ hk_ => hk_.1)); have n1_ := Aside0.mk (Kd.qhC rfl hy0 (fun k_ e_ => HO_7.out.1 k_ e_)); have n2_ := Aside0.mk (qIC (by (with_reducible repeat (first | refine qB ?_ _ | refine qD ?_ | refine qA ?_ _)); exact BK403.out) hkp (fun hs_ => (fun e_ => (Kd.R_ne HO_7.out BK403.out (by decide)) e_) hs_)); have n3_ := Aside0.mk (hb); clear HO_5; clear HO_7; clear BK403; clear HB; have HO_5 := n0_; have HO_7 := n1_; have BK403 := n2_; have HB := n3_; clear n0_ n1_ n2_ n3_; (try clear hb); (try clear hkp); (try clear hy0)) | ((with_reducible refine qS (f := 9) rfl ?_); refine qt (some 44) rfl rfl Tryd.func9 (by kernel_rfl) rfl #[.slice Ao29 t420.length co29, .int .i64 1] rfl (by (try simp only [List.map_toArray, List.map_cons, List.map_nil]); first | done | (rw [show t420.length = t414.length from (Kd.qT HO_7.out).1.symm] <;> rfl) | rfl | (simp only [List.length_drop, List.length_take]; rfl)) ?_; (with_reducible refine (qr.calls kj8 _ _ t420 1 t421 _ ?side1 ?side2 A27.out).mono ?_); (case side1 => repeat (first | exact (Kd.qT HO_7.out).2.2 | (with_reducible refine Kd.qz ?_ _) | (with_reducible refine Kd.qy ?_ _) | (with_reducible refine Kd.qNA ?_))); (case side2 => rw [show t420.length = t414.length from (Kd.qT HO_7.out).1.symm]; exact (Kd.qT HO_7.out).2.1); rintro e w' ⟨rfl, ⟨nd, rfl⟩⟩; refine ⟨_, rfl, ?_⟩))
      go_ret
      exact ⟨by first | rfl | (simp [qJ, qI] <;> rfl) | (simp [*, qJ, qI] <;> rfl), bl⟩
     ·rw [if_neg c28] at H
      have c28b0 : decide (t421 < 0) = false := decide_eq_false c28
      clear c28
      by_cases c31 : t421 = t419
      ·rw [if_pos c31] at H
       have c31b0 : (t421 == t419) = true := beq_iff_eq.mpr c31
       have c31b1 : (t421 != t419) = false := bne_eq_false_iff_eq.mpr c31
       clear c31
       replace H := Option.bind_eq_some_iff.mp H
       obtain ⟨⟨t422, t423, t424⟩, A320, H⟩ := H
       replace H : ((qw.f kj8 a0 t422 t423 t424).bind fun bt425 => ((qj.f kj8 bt425.1 t407).bind fun t429 => (if t429 = true then (qM.j1 kj8 t420 t419 (bt425.2 != t410)) else (qM.j1 kj8 t420 t419 true)))) = some r := H
       have A32 := Aside0.mk A320
       clear A320
       replace H := Option.bind_eq_some_iff.mp H
       obtain ⟨⟨t425, t428⟩, A330, H⟩ := H
       replace H : ((qj.f kj8 t425 t407).bind fun t429 => (if t429 = true then (qM.j1 kj8 t420 t419 (t428 != t410)) else (qM.j1 kj8 t420 t419 true))) = some r := H
       have A33 := Aside0.mk A330
       clear A330
       have HC34 := Aside0.mk H
       clear H
       obtain ⟨Ao35, co35, eo35⟩ := Kd.qo HO_7.out
       subst eo35
       go_upto_region 16 with (first | ((with_reducible refine qS (f := 8) rfl ?_); refine qt (some 41) rfl rfl Tryd.func8 (by kernel_rfl) rfl #[.slice Ao35 t414.length co35, .int .i64 1] rfl (by (try simp only [List.map_toArray, List.map_cons, List.map_nil]); first | done | rfl | (simp only [List.length_drop, List.length_take]; rfl)) ?_; (with_reducible refine (qx.calls kj8 (fun k_ => some k_ = (.slice Ao35 t414.length co35 : Value).ownBlock) (.slice Ao35 t414.length co35) t414 1 t419 t420 w _ ?side1 ?side2 A26.out).mono ?_); (case side1 => repeat (first | (with_reducible first | exact HB.out | apply qv | apply qu | apply qm | refine qVA ?_ GE403.out) | exact HB.out)); (case side2 => exact Kd.qRC rfl HO_7.out); rintro e w36 ⟨rfl, hy0, hb, hkp⟩; refine ⟨_, rfl, ?_⟩; have n0_ := Aside0.mk (Kd.qh (ok' := fun k_ => some k_ ≠ (.slice Ao35 t414.length co35 : Value).ownBlock) (Kd.qXC (HO_5.out) hkp (fun k_ hk_ hs_ => (hk_) hs_)) (fun k_ hk_ => hk_.1)); have n1_ := Aside0.mk (Kd.qhC rfl hy0 (fun k_ e_ => HO_7.out.1 k_ e_)); have n2_ := Aside0.mk (qIC (by (with_reducible repeat (first | refine qB ?_ _ | refine qD ?_ | refine qA ?_ _)); exact BK403.out) hkp (fun hs_ => (fun e_ => (Kd.R_ne HO_7.out BK403.out (by decide)) e_) hs_)); have n3_ := Aside0.mk (hb); clear HO_5; clear HO_7; clear BK403; clear HB; have HO_5 := n0_; have HO_7 := n1_; have BK403 := n2_; have HB := n3_; clear n0_ n1_ n2_ n3_; (try clear hb); (try clear hkp); (try clear hy0)) | ((with_reducible refine qS (f := 9) rfl ?_); refine qt (some 44) rfl rfl Tryd.func9 (by kernel_rfl) rfl #[.slice Ao35 t420.length co35, .int .i64 1] rfl (by (try simp only [List.map_toArray, List.map_cons, List.map_nil]); first | done | (rw [show t420.length = t414.length from (Kd.qT HO_7.out).1.symm] <;> rfl) | rfl | (simp only [List.length_drop, List.length_take]; rfl)) ?_; (with_reducible refine (qr.calls kj8 _ _ t420 1 t421 _ ?side1 ?side2 A27.out).mono ?_); (case side1 => repeat (first | exact (Kd.qT HO_7.out).2.2 | (with_reducible refine Kd.qz ?_ _) | (with_reducible refine Kd.qy ?_ _) | (with_reducible refine Kd.qNA ?_))); (case side2 => rw [show t420.length = t414.length from (Kd.qT HO_7.out).1.symm]; exact (Kd.qT HO_7.out).2.1); rintro e w' ⟨rfl, ⟨nd, rfl⟩⟩; refine ⟨_, rfl, ?_⟩; have hcz37_0 := bc BK403 0; have hcz37_1 := bc BK403 1; have hcz37_2 := bc BK403 2; have hfz37_0 := qC BK403.out 0; have hfz37_1 := qC BK403.out 1; have hfz37_2 := qC BK403.out 2) | ((with_reducible refine qS (f := 5) rfl ?_); refine qt (some 53) rfl rfl Tryd.func5 (by kernel_rfl) rfl #[.agg #[.int .i64 a1_0, .int .i64 a1_1, .int .i64 a1_2]] rfl (by (try simp only [List.map_toArray, List.map_cons, List.map_nil]); first | done | rfl | (simp only [List.length_drop, List.length_take]; rfl)) ?_; (with_reducible refine (qSA.calls a1_0 a1_1 a1_2 t422 t423 t424 _ A32.out).mono ?_); rintro e w38 ⟨rfl, hb⟩; refine ⟨_, rfl, ?_⟩; have n0_ := Aside0.mk (Kd.qa (by (with_reducible repeat (first | apply Kd.qF | apply Kd.qE | apply Kd.qH)); exact HO_5.out) hb); have n1_ := Aside0.mk (Kd.qa (by (with_reducible repeat (first | apply Kd.qF | apply Kd.qE | apply Kd.qH)); exact HO_7.out) hb); have n2_ := Aside0.mk (bb BK403 hb); have n3_ := Aside0.mk (qG bl hb); clear HO_5; clear HO_7; clear BK403; clear HB; have HO_5 := n0_; have HO_7 := n1_; have BK403 := n2_; have HB := n3_; clear n0_ n1_ n2_ n3_; (try clear hb); (try clear hb2); (try clear hk); (try clear hi)) | ((with_reducible refine qS (f := 6) rfl ?_); refine qt (some 54) rfl rfl Tryd.func6 (by kernel_rfl) rfl #[.string a0, .agg #[.int .i64 t422, .int .i64 t423, .int .i64 t424]] rfl (by (try simp only [List.map_toArray, List.map_cons, List.map_nil]); first | done | rfl | (simp only [List.length_drop, List.length_take]; rfl)) ?_; (with_reducible refine (qw.calls kj8 a0 t422 t423 t424 t425 t428 _ ?side1 A33.out).mono ?_); (case side1 => first | exact HLD.out | exact Laid.below HLD.out (by repeat (first | (with_reducible first | exact HB.out | apply qv | apply qu | apply qm | refine qVA ?_ (Aside0.out (by with_reducible assumption))) | exact HB.out))); rintro e w39 ⟨v426, rfl, ho0, hb⟩; refine ⟨_, rfl, ?_⟩; have n0_ := Aside0.mk (Kd.qkA (by (with_reducible repeat (first | apply Kd.qF | apply Kd.qE | apply Kd.qH)); exact HO_5.out) (Kd.qMB ho0) hb); have n1_ := Aside0.mk (Kd.qkA (by (with_reducible repeat (first | apply Kd.qF | apply Kd.qE | apply Kd.qH)); exact HO_7.out) (Kd.qMB ho0) hb); have n2_ := Aside0.mk (Kd.qHA (Kd.qLB (Kd.qLB ho0 (Kd.R_lt (by (with_reducible repeat (first | apply Kd.qF | apply Kd.qE | apply Kd.qH)); exact HO_5.out))) (Kd.R_lt (by (with_reducible repeat (first | apply Kd.qF | apply Kd.qE | apply Kd.qH)); exact HO_7.out))) (qg bl)); have n3_ := Aside0.mk (bb BK403 hb); have n4_ := Aside0.mk (qG bl hb); clear HO_5; clear HO_7; clear BK403; clear HB; have HO_5 := n0_; have HO_7 := n1_; have HO427 := n2_; have BK403 := n3_; have HB := n4_; clear n0_ n1_ n2_ n3_ n4_; (try clear hb); (try clear hb2); (try clear hk); (try clear hi); (try clear ho0)))
       (try simp only [Act.put, List.setIfInBounds_toArray, List.set_cons_zero, List.set_cons_succ])
       go_cut [65] (fun v65 wc => ∃ (kq : Nat) (x65_33 : Bool), v65 = .bool x65_33 ∧ Aside0 (qM.j1 kq t420 t419 x65_33 = some r) ∧ Aside0 (kq ≤ kj8) ∧ Aside0 (Kd.R k27 27 wc w.heap.size (fun _ => True) (.slice Ao35 t414.length co35) t420) ∧ Aside0 (wc.heap[gb403]? = some (.cells #[.int .i64 a1_0, .int .i64 a1_1, .int .i64 a1_2] 23 (0, 0))) ∧ Aside0 (Below w.heap.size w wc))
       case first =>
        have H := HC34.out
        clear HC34
        replace H := Option.bind_eq_some_iff.mp H
        obtain ⟨t429, A400, H⟩ := H
        replace H : (if t429 = true then (qM.j1 kj8 t420 t419 (t428 != t410)) else (qM.j1 kj8 t420 t419 true)) = some r := H
        have A40 := Aside0.mk A400
        clear A400
        by_cases c41 : t429 = true
        ·subst c41
         have H1 : (qM.j1 kj8 t420 t419 (t428 != t410)) = some r := by rw [if_pos rfl] at H; exact H
         clear H
         have H := H1
         clear H1
         have H' := Aside0.mk H
         clear H
         obtain ⟨Ao42, co42, eo42⟩ := Kd.qo HO427.out
         subst eo42
         obtain ⟨Ao43, co43, eo43⟩ := Kd.qo HO_5.out
         subst eo43
         go_wp2_with (first | ((with_reducible refine qS (f := 7) rfl ?_); refine qt (some 59) rfl rfl Tryd.func7 (by kernel_rfl) rfl #[.slice Ao42 t425.length co42, .slice Ao43 t407.length co43] rfl (by (try simp only [List.map_toArray, List.map_cons, List.map_nil]); first | done | rfl | (simp only [List.length_drop, List.length_take]; rfl)) ?_; (with_reducible refine (qj.calls kj8 _ _ t425 _ _ t407 true _ ?side1 ?side2 ?side3 ?side4 A40.out).mono ?_); (case side1 => repeat (first | exact (Kd.qT HO427.out).2.2 | (with_reducible refine Kd.qz ?_ _) | (with_reducible refine Kd.qy ?_ _) | (with_reducible refine Kd.qNA ?_))); (case side2 => exact (Kd.qT HO427.out).2.1); (case side3 => repeat (first | exact (Kd.qT HO_5.out).2.2 | (with_reducible refine Kd.qz ?_ _) | (with_reducible refine Kd.qy ?_ _) | (with_reducible refine Kd.qNA ?_))); (case side4 => exact (Kd.qT HO_5.out).2.1); rintro e w44 ⟨rfl, hb⟩; refine ⟨_, rfl, ?_⟩; have n0_ := Aside0.mk (Kd.qa (by (with_reducible repeat (first | apply Kd.qF | apply Kd.qE | apply Kd.qH)); exact HO_5.out) hb); have n1_ := Aside0.mk (Kd.qa (by (with_reducible repeat (first | apply Kd.qF | apply Kd.qE | apply Kd.qH)); exact HO_7.out) hb); have n2_ := Aside0.mk (Kd.qa (by (with_reducible repeat (first | apply Kd.qF | apply Kd.qE | apply Kd.qH)); exact HO427.out) hb); have n3_ := Aside0.mk (bb BK403 hb); have n4_ := Aside0.mk (qG bl hb); clear HO_5; clear HO_7; clear HO427; clear BK403; clear HB; have HO_5 := n0_; have HO_7 := n1_; have HO427 := n2_; have BK403 := n3_; have HB := n4_; clear n0_ n1_ n2_ n3_ n4_; (try clear hb); (try clear hb2); (try clear hk); (try clear hi)))
         go_meet
         case rel => exact ⟨_, ((t428 != t410)), (by first | rfl | (simp; done) | (simp [*]; done)), H', ⟨by have := HJ8.out; first | omega | exact Nat.le_refl _⟩, ⟨by (with_reducible repeat (first | apply Kd.qF | apply Kd.qE | apply Kd.qH)); exact Kd.qh HO_7.out (fun _ hk => trivial)⟩, ⟨by (with_reducible repeat (first | refine qB ?_ _ | refine qD ?_ | refine qA ?_ _)); exact BK403.out⟩, ⟨bl⟩⟩
        ·replace c41 := Bool.eq_false_iff.mpr c41
         subst c41
         have H1 : (qM.j1 kj8 t420 t419 true) = some r := by rw [if_neg (show ¬ (false = true) by decide)] at H; exact H
         clear H
         have H := H1
         clear H1
         have H' := Aside0.mk H
         clear H
         obtain ⟨Ao45, co45, eo45⟩ := Kd.qo HO427.out
         subst eo45
         obtain ⟨Ao46, co46, eo46⟩ := Kd.qo HO_5.out
         subst eo46
         go_wp2_with (first | ((with_reducible refine qS (f := 7) rfl ?_); refine qt (some 59) rfl rfl Tryd.func7 (by kernel_rfl) rfl #[.slice Ao45 t425.length co45, .slice Ao46 t407.length co46] rfl (by (try simp only [List.map_toArray, List.map_cons, List.map_nil]); first | done | rfl | (simp only [List.length_drop, List.length_take]; rfl)) ?_; (with_reducible refine (qj.calls kj8 _ _ t425 _ _ t407 false _ ?side1 ?side2 ?side3 ?side4 A40.out).mono ?_); (case side1 => repeat (first | exact (Kd.qT HO427.out).2.2 | (with_reducible refine Kd.qz ?_ _) | (with_reducible refine Kd.qy ?_ _) | (with_reducible refine Kd.qNA ?_))); (case side2 => exact (Kd.qT HO427.out).2.1); (case side3 => repeat (first | exact (Kd.qT HO_5.out).2.2 | (with_reducible refine Kd.qz ?_ _) | (with_reducible refine Kd.qy ?_ _) | (with_reducible refine Kd.qNA ?_))); (case side4 => exact (Kd.qT HO_5.out).2.1); rintro e w47 ⟨rfl, hb⟩; refine ⟨_, rfl, ?_⟩; have n0_ := Aside0.mk (Kd.qa (by (with_reducible repeat (first | apply Kd.qF | apply Kd.qE | apply Kd.qH)); exact HO_5.out) hb); have n1_ := Aside0.mk (Kd.qa (by (with_reducible repeat (first | apply Kd.qF | apply Kd.qE | apply Kd.qH)); exact HO_7.out) hb); have n2_ := Aside0.mk (Kd.qa (by (with_reducible repeat (first | apply Kd.qF | apply Kd.qE | apply Kd.qH)); exact HO427.out) hb); have n3_ := Aside0.mk (bb BK403 hb); have n4_ := Aside0.mk (qG bl hb); clear HO_5; clear HO_7; clear HO427; clear BK403; clear HB; have HO_5 := n0_; have HO_7 := n1_; have HO427 := n2_; have BK403 := n3_; have HB := n4_; clear n0_ n1_ n2_ n3_ n4_; (try clear hb); (try clear hb2); (try clear hk); (try clear hi)))
         go_meet
         case rel => exact ⟨_, (true), (by first | rfl | (simp; done) | (simp [*]; done)), H', ⟨by have := HJ8.out; first | omega | exact Nat.le_refl _⟩, ⟨by (with_reducible repeat (first | apply Kd.qF | apply Kd.qE | apply Kd.qH)); exact Kd.qh HO_7.out (fun _ hk => trivial)⟩, ⟨by (with_reducible repeat (first | refine qB ?_ _ | refine qD ?_ | refine qA ?_ _)); exact BK403.out⟩, ⟨bl⟩⟩
       case rest =>
        clear HC34
        try clear c1
        try clear c2
        try clear p2
        try clear c3
        try clear c3b0
        try clear c3b1
        try clear c4
        try clear c5
        try clear c6
        try clear c7
        try clear c8
        try clear c9
        try clear c18
        try clear c25
        try clear c28
        try clear c28b0
        try clear c31
        try clear c31b0
        try clear c31b1
        try clear c41
        try clear hcz11_0
        try clear hcz11_1
        try clear hcz11_2
        try clear hcz14_0
        try clear hcz14_1
        try clear hcz14_2
        try clear hcz37_0
        try clear hcz37_1
        try clear hcz37_2
        try clear hfz11_0
        try clear hfz11_1
        try clear hfz11_2
        try clear hfz14_0
        try clear hfz14_1
        try clear hfz14_2
        try clear hfz37_0
        try clear hfz37_1
        try clear hfz37_2
        try clear p2
        obtain ⟨kq, x65_33, rfl, HA, HJ33, HO_7, BK403, HB⟩ := hcut
        have hl7_33 := (Kd.qT HO_7.out).1
        rw [hl7_33] at HO_7
        (try simp only [hl7_33])
        (try simp only [hl7_33] at BK403)
        cases kq with
        | zero => exact absurd HA.out (by simp [qM.j1])
        | succ kj33 =>
         have H := HA.out
         clear HA
         simp only [qM.j1] at H
         by_cases c48 : x65_33 = true
         ·subst c48
          have H1 : (some false) = some r := by rw [if_pos rfl] at H; exact H
          clear H
          have H := H1
          clear H1
          obtain rfl := Option.some.inj H
          go_wp2
          go_ret
          exact ⟨by first | rfl | (simp [qJ, qI] <;> rfl) | (simp [*, qJ, qI] <;> rfl), bl⟩
         ·replace c48 := Bool.eq_false_iff.mpr c48
          subst c48
          have H1 : ((qr.f kj33 t420 1).bind fun t430 => (if t430 < 0 then (some false) else (if t430 = t419 then (some true) else (some false)))) = some r := by rw [if_neg (show ¬ (false = true) by decide)] at H; exact H
          clear H
          have H := H1
          clear H1
          replace H := Option.bind_eq_some_iff.mp H
          obtain ⟨t430, A490, H⟩ := H
          replace H : (if t430 < 0 then (some false) else (if t430 = t419 then (some true) else (some false))) = some r := H
          have A49 := Aside0.mk A490
          clear A490
          by_cases c50 : t430 < 0
          ·rw [if_pos c50] at H
           have c50b0 : decide (t430 < 0) = true := decide_eq_true c50
           clear c50
           obtain rfl := Option.some.inj H
           go_wp2_with (first | ((with_reducible refine qS (f := 9) rfl ?_); refine qt (some 68) rfl rfl Tryd.func9 (by kernel_rfl) rfl #[.slice Ao35 t420.length co35, .int .i64 1] rfl (by (try simp only [List.map_toArray, List.map_cons, List.map_nil]); first | done | rfl | (simp only [List.length_drop, List.length_take]; rfl)) ?_; (with_reducible refine (qr.calls kj33 _ _ t420 1 t430 _ ?side1 ?side2 A49.out).mono ?_); (case side1 => repeat (first | exact (Kd.qT HO_7.out).2.2 | (with_reducible refine Kd.qz ?_ _) | (with_reducible refine Kd.qy ?_ _) | (with_reducible refine Kd.qNA ?_))); (case side2 => exact (Kd.qT HO_7.out).2.1); rintro e w' ⟨rfl, ⟨nd, rfl⟩⟩; refine ⟨_, rfl, ?_⟩))
           go_ret
           exact ⟨by first | rfl | (simp [qJ, qI] <;> rfl) | (simp [*, qJ, qI] <;> rfl), bl⟩
          ·rw [if_neg c50] at H
           have c50b0 : decide (t430 < 0) = false := decide_eq_false c50
           clear c50
           by_cases c51 : t430 = t419
           ·rw [if_pos c51] at H
            have c51b0 : (t430 == t419) = true := beq_iff_eq.mpr c51
            have c51b1 : (t430 != t419) = false := bne_eq_false_iff_eq.mpr c51
            clear c51
            obtain rfl := Option.some.inj H
            go_wp2_with (first | ((with_reducible refine qS (f := 9) rfl ?_); refine qt (some 68) rfl rfl Tryd.func9 (by kernel_rfl) rfl #[.slice Ao35 t420.length co35, .int .i64 1] rfl (by (try simp only [List.map_toArray, List.map_cons, List.map_nil]); first | done | rfl | (simp only [List.length_drop, List.length_take]; rfl)) ?_; (with_reducible refine (qr.calls kj33 _ _ t420 1 t430 _ ?side1 ?side2 A49.out).mono ?_); (case side1 => repeat (first | exact (Kd.qT HO_7.out).2.2 | (with_reducible refine Kd.qz ?_ _) | (with_reducible refine Kd.qy ?_ _) | (with_reducible refine Kd.qNA ?_))); (case side2 => exact (Kd.qT HO_7.out).2.1); rintro e w' ⟨rfl, ⟨nd, rfl⟩⟩; refine ⟨_, rfl, ?_⟩))
            go_ret
            exact ⟨by first | rfl | (simp [qJ, qI] <;> rfl) | (simp [*, qJ, qI] <;> rfl), bl⟩
           ·rw [if_neg c51] at H
            have c51b0 : (t430 == t419) = false := beq_eq_false_iff_ne.mpr c51
            have c51b1 : (t430 != t419) = true := bne_iff_ne.mpr c51
            obtain rfl := Option.some.inj H
            go_wp2_with (first | ((with_reducible refine qS (f := 9) rfl ?_); refine qt (some 68) rfl rfl Tryd.func9 (by kernel_rfl) rfl #[.slice Ao35 t420.length co35, .int .i64 1] rfl (by (try simp only [List.map_toArray, List.map_cons, List.map_nil]); first | done | rfl | (simp only [List.length_drop, List.length_take]; rfl)) ?_; (with_reducible refine (qr.calls kj33 _ _ t420 1 t430 _ ?side1 ?side2 A49.out).mono ?_); (case side1 => repeat (first | exact (Kd.qT HO_7.out).2.2 | (with_reducible refine Kd.qz ?_ _) | (with_reducible refine Kd.qy ?_ _) | (with_reducible refine Kd.qNA ?_))); (case side2 => exact (Kd.qT HO_7.out).2.1); rintro e w' ⟨rfl, ⟨nd, rfl⟩⟩; refine ⟨_, rfl, ?_⟩))
            go_ret
            exact ⟨by first | rfl | (simp [qJ, qI] <;> rfl) | (simp [*, qJ, qI] <;> rfl), bl⟩
      ·rw [if_neg c31] at H
       have c31b0 : (t421 == t419) = false := beq_eq_false_iff_ne.mpr c31
       have c31b1 : (t421 != t419) = true := bne_iff_ne.mpr c31
       obtain rfl := Option.some.inj H
       obtain ⟨Ao52, co52, eo52⟩ := Kd.qo HO_7.out
       subst eo52
       go_wp2_with (first | ((with_reducible refine qS (f := 8) rfl ?_); refine qt (some 41) rfl rfl Tryd.func8 (by kernel_rfl) rfl #[.slice Ao52 t414.length co52, .int .i64 1] rfl (by (try simp only [List.map_toArray, List.map_cons, List.map_nil]); first | done | rfl | (simp only [List.length_drop, List.length_take]; rfl)) ?_; (with_reducible refine (qx.calls kj8 (fun k_ => some k_ = (.slice Ao52 t414.length co52 : Value).ownBlock) (.slice Ao52 t414.length co52) t414 1 t419 t420 w _ ?side1 ?side2 A26.out).mono ?_); (case side1 => repeat (first | (with_reducible first | exact HB.out | apply qv | apply qu | apply qm | refine qVA ?_ GE403.out) | exact HB.out)); (case side2 => exact Kd.qRC rfl HO_7.out); rintro e w53 ⟨rfl, hy0, hb, hkp⟩; refine ⟨_, rfl, ?_⟩; have n0_ := Aside0.mk (Kd.qh (ok' := fun k_ => some k_ ≠ (.slice Ao52 t414.length co52 : Value).ownBlock) (Kd.qXC (HO_5.out) hkp (fun k_ hk_ hs_ => (hk_) hs_)) (fun k_ hk_ => hk_.1)); have n1_ := Aside0.mk (Kd.qhC rfl hy0 (fun k_ e_ => HO_7.out.1 k_ e_)); have n2_ := Aside0.mk (qIC (by (with_reducible repeat (first | refine qB ?_ _ | refine qD ?_ | refine qA ?_ _)); exact BK403.out) hkp (fun hs_ => (fun e_ => (Kd.R_ne HO_7.out BK403.out (by decide)) e_) hs_)); have n3_ := Aside0.mk (hb); clear HO_5; clear HO_7; clear BK403; clear HB; have HO_5 := n0_; have HO_7 := n1_; have BK403 := n2_; have HB := n3_; clear n0_ n1_ n2_ n3_; (try clear hb); (try clear hkp); (try clear hy0)) | ((with_reducible refine qS (f := 9) rfl ?_); refine qt (some 44) rfl rfl Tryd.func9 (by kernel_rfl) rfl #[.slice Ao52 t420.length co52, .int .i64 1] rfl (by (try simp only [List.map_toArray, List.map_cons, List.map_nil]); first | done | (rw [show t420.length = t414.length from (Kd.qT HO_7.out).1.symm] <;> rfl) | rfl | (simp only [List.length_drop, List.length_take]; rfl)) ?_; (with_reducible refine (qr.calls kj8 _ _ t420 1 t421 _ ?side1 ?side2 A27.out).mono ?_); (case side1 => repeat (first | exact (Kd.qT HO_7.out).2.2 | (with_reducible refine Kd.qz ?_ _) | (with_reducible refine Kd.qy ?_ _) | (with_reducible refine Kd.qNA ?_))); (case side2 => rw [show t420.length = t414.length from (Kd.qT HO_7.out).1.symm]; exact (Kd.qT HO_7.out).2.1); rintro e w' ⟨rfl, ⟨nd, rfl⟩⟩; refine ⟨_, rfl, ?_⟩))
       go_ret
       exact ⟨by first | rfl | (simp [qJ, qI] <;> rfl) | (simp [*, qJ, qI] <;> rfl), bl⟩
def qM.Pure : Prop := ∀ (a0 : ByteArray) (a1_0 : Int) (a1_1 : Int) (a1_2 : Int), a0.size ≤ 140737488351232 → (Lit.int .i64 a1_0).wf = true → (Lit.int .i64 a1_1).wf = true → (Lit.int .i64 a1_2).wf = true → ∃ k, qM.f k a0 a1_0 a1_1 a1_2 = some true
end Go.Proofs.YtdagdhmcebeadaaDoor.P
namespace Go.Proofs.YtdagdhmcebeadaaDoor
open Go.ChangeShapes Go.WideShapes Go.Deep Go.RowKit Go.Proofs.YtdagdhmcebeadaaDoorW.PrintWords
set_option linter.unusedVariables false
set_option linter.unusedSimpArgs false
theorem list_of_3 : ∀ zs : List Int, zs.length = 3 → ∃ x0 x1 x2 : Int, zs = [x0, x1, x2]
 | [x0, x1, x2], _ => ⟨x0, x1, x2, rfl⟩
def laidB (P : Program) : List Field → Nat → Nat → Bool
 | [], o, n => decide (o = n)
 | f :: fs, o, n => decide (f.offset = o) && laidB P fs (o + P.cellsOf f.type) n
def flatB (P : Program) : Nat → TypeId → Bool
 | 0, _ => false
 | m + 1, t => match P.underlying t with
  | some (.int .i64) => decide (P.cellsOf t = 1)
  | some (.struct fs) => laidB P fs.toList 0 (P.cellsOf t) && fs.toList.all fun f => flatB P m f.type
  | _ => false
section
variable {H : Type} {enc : TypeId × Value → H} {P : Program} {w : World} {base : Nat} {spare : Nat → Bool} {held : Bool}
theorem fields_flat {n : Nat} (cs : List Value) (rd : TypeId → List Value → Option (DataW H × List MemPlace)) :
  ∀ (fs : List Field) (o : Nat) (xs : List (DataW H × List MemPlace)), laidB P fs o n = true → xs.length = fs.length →
   (∀ (i : Nat) (f : Field), fs[i]? = some f → rd f.type ((cs.drop f.offset).take (P.cellsOf f.type)) = xs[i]?) →
   (∀ f ∈ fs, ∀ cs' x, rd f.type cs' = some x → cs'.length = P.cellsOf f.type ∧ ∃ zs : List Int, cs' = zs.map (Value.int .i64) ∧ ∀ z ∈ zs, (Lit.int .i64 z).wf = true) →
   o ≤ n ∧ ∃ zs : List Int, (cs.drop o).take (n - o) = zs.map (Value.int .i64) ∧ ∀ z ∈ zs, (Lit.int .i64 z).wf = true
 | [], o, xs, hl, hx, hr, hi => by
  have : o = n := by simpa [laidB] using hl
  subst this
  exact ⟨Nat.le_refl _, [], by simp, by simp⟩
 | f :: fs, o, xs, hl, hx, hr, hi => by
  simp only [laidB, Bool.and_eq_true, decide_eq_true_eq] at hl
  obtain ⟨ho, hl⟩ := hl
  match xs, hx with
  | x :: xs, hx =>
   have h0 := hr 0 f rfl
   rw [ho] at h0
   obtain ⟨hlen, zs, hz, hw⟩ := hi f (by simp) _ x h0
   obtain ⟨hle, ws, hw2, hw3⟩ := fields_flat cs rd fs (o + P.cellsOf f.type) xs hl (by simpa using hx) (fun i g hg => by have := hr (i + 1) g (by simpa using hg); simpa using this) (fun g hg => hi g (by simp [hg]))
   refine ⟨by omega, zs ++ ws, ?_, fun z hz' => ?_⟩
   ·rw [List.map_append, ← hz, ← hw2, ← List.drop_drop, show n - o = P.cellsOf f.type + (n - (o + P.cellsOf f.type)) by omega, List.take_add]
   ·rcases List.mem_append.1 hz' with h | h
    ·exact hw z h
    ·exact hw3 z h
theorem trod_flat (m : Nat) : ∀ {t : TypeId} {fuel : Nat} {cs : List Value} {x : DataW H × List MemPlace}, flatB P m t = true → DataW.trod enc P w base spare held fuel t cs = some x → (∃ k, P.underlying t = some (.int k)) → cs.length = 1 ∧ ∃ zs : List Int, cs = zs.map (Value.int .i64) ∧ ∀ z ∈ zs, (Lit.int .i64 z).wf = true := by
 intro t fuel cs x hf h ⟨k, hk⟩
 cases m with
 | zero => simp [flatB] at hf
 | succ m =>
  unfold flatB at hf
  rw [hk] at hf
  have : k = .i64 := by
   cases k <;> first | rfl | (simp at hf)
  subst this
  obtain ⟨n, rfl, _, hw⟩ := DataW.trod_int hk h
  exact ⟨rfl, [n], rfl, by simpa using hw⟩
theorem trod_flat_all (m : Nat) : ∀ {t : TypeId} {fuel : Nat} {cs : List Value} {x : DataW H × List MemPlace}, flatB P m t = true → DataW.trod enc P w base spare held fuel t cs = some x →
  cs.length = P.cellsOf t ∧ ∃ zs : List Int, cs = zs.map (Value.int .i64) ∧ ∀ z ∈ zs, (Lit.int .i64 z).wf = true := by
 induction m with
 | zero => intro t fuel cs x hf h; simp [flatB] at hf
 | succ m ih =>
  intro t fuel cs x hf h
  have hf0 := hf
  unfold flatB at hf
  split at hf
  ·rename_i hu
   obtain ⟨hl, hz⟩ := trod_flat (m + 1) hf0 h ⟨_, hu⟩
   exact ⟨by rw [hl, of_decide_eq_true hf], hz⟩
  ·rename_i fs hu
   rw [Bool.and_eq_true, List.all_eq_true] at hf
   obtain ⟨hl, ha⟩ := hf
   obtain ⟨xs, n, _, _, hlen, hxl, hg⟩ := DataW.trod_struct hu h
   obtain ⟨_, zs, hz, hw⟩ := fields_flat (n := P.cellsOf t) cs (fun t cs => DataW.trod enc P w base spare held n t cs) fs.toList 0 xs hl (by simpa using hxl)
    (fun i f hf => hg i f (by simpa using hf)) (fun f hf cs' x hx => ih (ha f hf) hx)
   refine ⟨hlen, zs, ?_, hw⟩
   rw [← hz, List.drop_zero, Nat.sub_zero, ← hlen, List.take_length]
  ·cases hf
theorem open_flat {r : Reach} {b0 m : Nat} {t : TypeId} {fs : Array Field} {v : Value} {d : DataW H} {p : List MemPlace} (hu : P.underlying t = some (.struct fs)) (hf : flatB P m t = true)
  (hv : Value.okWide P w r b0 t v) (h : DataW.Trod enc P w base spare held t v d p) : ∃ zs : List Int, v = .agg (zs.map (Value.int .i64)).toArray ∧ zs.length = P.cellsOf t ∧ ∀ z ∈ zs, (Lit.int .i64 z).wf = true := by
 obtain ⟨cs, rfl, hsz⟩ := okWide_struct hu hv
 obtain ⟨fuel, hf'⟩ := h
 obtain ⟨hl, zs, hz, hw⟩ := trod_flat_all m hf hf'
 simp only [Value.cells] at hz hl
 refine ⟨zs, ?_, by rw [← hl, hz, List.length_map], hw⟩
 rw [← hz]
end
end Go.Proofs.YtdagdhmcebeadaaDoor
namespace Go.Proofs.YtdagdhmcebeadaaDoor
open Go.RowKit Go.Proofs.YtdagdhmcebeadaaDoorW.PrintWords Go.Proofs.YtdagdhmcebeadaaDoorW.PrintLast
set_option linter.unusedVariables false
set_option linter.unusedSimpArgs false
def sp (c : UInt8) : List UInt8 → List UInt8 × List (List UInt8)
 | [] => ([], [])
 | b :: r => if b = c then ([], (sp c r).1 :: (sp c r).2) else (b :: (sp c r).1, (sp c r).2)
theorem splitK_sp (c : UInt8) (l : List UInt8) : Lib.splitK [c] 0 (Lib.count l [c]) l = (sp c l).1 :: (sp c l).2 := by
 induction l with
 | nil =>
  have : Lib.count [] [c] = 0 := by rw [Lib.count_one]; rfl
  rw [this]; rfl
 | cons b l ih =>
  by_cases h : b = c
  ·subst h
   have hix : Lib.index (b :: l) [b] = 0 := by rw [Lib.index]; simp [List.isPrefixOf]
   rw [Lib.count_cons_eq, show 1 + Lib.count l [b] = Lib.count l [b] + 1 by omega, Lib.splitK, hix]
   simp only [sp, if_true]
   rw [if_neg (by decide), ← ih]
   rfl
  ·have hp : ([c] : List UInt8).isPrefixOf (b :: l) = false := by simp [List.isPrefixOf, Ne.symm h]
   have hix : Lib.index (b :: l) [c] = if Lib.index l [c] == -1 then -1 else Lib.index l [c] + 1 := by rw [Lib.index, hp]; simp
   rw [Lib.count_cons_ne b c l h]
   simp only [sp, if_neg h]
   by_cases hm : Lib.index l [c] = -1
   ·have h0 : Lib.count l [c] = 0 := Lib.count_miss hm
    rw [h0] at ih ⊢
    simp only [Lib.splitK] at ih ⊢
    injection ih with e1 e2
    rw [← e1, ← e2]
   ·have hge := Lib.index_ge l [c]
    obtain ⟨j, hj⟩ : ∃ j : Nat, Lib.index l [c] = j := ⟨(Lib.index l [c]).toNat, by omega⟩
    have hc := Lib.count_hit (sub := [c]) (by simp) hj
    obtain ⟨k, hk⟩ : ∃ k, Lib.count l [c] = k + 1 := ⟨Lib.count l [c] - 1, by omega⟩
    rw [hk] at ih ⊢
    have hne : ¬ ((j : Int) == -1) = true := by intro e; have := beq_iff_eq.1 e; omega
    have hne' : ¬ ((j : Int) + 1 == -1) = true := by intro e; have := beq_iff_eq.1 e; omega
    rw [Lib.splitK, hj, if_neg hne] at ih
    rw [Lib.splitK, hix, hj, if_neg hne, if_neg hne']
    have e1 : ((j : Int) + 1).toNat = j + 1 := by omega
    rw [e1]
    simp only [Int.toNat_natCast, Nat.add_zero, List.length_singleton] at ih ⊢
    injection ih with i1 i2
    rw [← i1, ← i2]
    rfl
theorem split_sp (a : ByteArray) (c : UInt8) : (Lib.splitB ⟨#[c]⟩ 0 (Lib.countB a ⟨#[c]⟩) a).map (·.data.toList) = (sp c a.data.toList).1 :: (sp c a.data.toList).2 := by
 rw [Lib.splitB_data]
 exact splitK_sp c a.data.toList
theorem qLC (c : UInt8) (l : List UInt8) : l.length = (sp c l).1.length + ((sp c l).2.map List.length).sum + (sp c l).2.length := by
 induction l with
 | nil => rfl
 | cons b l ih =>
  by_cases h : b = c
  ·simp only [sp, if_pos h, List.length_cons, List.length_nil, List.map_cons, List.sum_cons]; omega
  ·simp only [sp, if_neg h, List.length_cons]; omega
theorem sp_all (c : UInt8) (p : UInt8 → Bool) (l : List UInt8) (hp : p c = false) : ((sp c l).1.all p && (sp c l).2.all (·.all p)) = l.all fun b => b == c || p b := by
 induction l with
 | nil => rfl
 | cons b l ih =>
  by_cases h : b = c
  ·subst h
   simp only [sp, if_true, List.all_nil, Bool.true_and, List.all_cons, ih, beq_self_eq_true, Bool.true_or]
  ·have : (b == c) = false := by simpa using h
   simp only [sp, if_neg h, List.all_cons, Bool.and_assoc, ih, this, Bool.false_or]
theorem qFB {p : UInt8 → Bool} {e : UInt8} (he : p e = false) : ∀ l : List UInt8, e ∈ l → e ∈ l.dropWhile p
 | [], h => h
 | b :: l, h => by
  rw [List.dropWhile_cons]
  split
  ·rename_i hb
   rcases List.mem_cons.1 h with rfl | h
   ·rw [he] at hb; cases hb
   ·exact qFB he l h
  ·exact h
theorem dropWhile_all {p : UInt8 → Bool} : ∀ l : List UInt8, l.all p = true → l.dropWhile p = []
 | [], _ => rfl
 | b :: l, h => by
  rw [List.all_cons, Bool.and_eq_true] at h
  rw [List.dropWhile_cons, if_pos h.1]
  exact dropWhile_all l h.2
theorem trimS_nil (l cs : List UInt8) : (Lib.trimS l cs = []) ↔ l.all (cs.contains ·) = true := by
 unfold Lib.trimS Lib.trimLeftS Lib.trimRightS
 constructor
 ·intro h
  rw [List.all_eq_true]
  intro e he
  cases hc : cs.contains e with
  | true => rfl
  | false =>
   have h1 := qFB (p := (cs.contains ·)) (e := e) hc l.reverse (by simpa using he)
   have h2 := qFB (p := (cs.contains ·)) (e := e) hc (l.reverse.dropWhile (cs.contains ·)).reverse (by simpa using h1)
   rw [h] at h2; cases h2
 ·intro h
  rw [dropWhile_all l.reverse (by rw [List.all_reverse]; exact h)]
  rfl
end Go.Proofs.YtdagdhmcebeadaaDoor
namespace Go.Proofs.YtdagdhmcebeadaaDoor
open Go.RowKit Go.Proofs.YtdagdhmcebeadaaDoor.P Go.Proofs.YtdagdhmcebeadaaDoorW.PrintWords Go.Proofs.YtdagdhmcebeadaaDoorW.PrintLast
set_option linter.unusedVariables false
set_option linter.unusedSimpArgs false
theorem qwB (n a b : Int) : qXA.f n a b = some (decide (a ≤ n) && decide (n ≤ b)) := by
 unfold qXA.f
 by_cases h : a ≤ n
 ·rw [if_pos h, decide_eq_true h, Bool.true_and]
 ·rw [if_neg h, decide_eq_false h, Bool.false_and]
theorem qgC (l : List ByteArray) (i : Nat) (h : i < l.length) : rdOf ByteArray.empty l (i : Int) = l[i] := by
 unfold rdOf
 rw [Int.toNat_natCast, List.getD_eq_getElem?_getD, List.getElem?_eq_getElem h]; rfl
theorem qQB (s : ByteArray) : s.data.toList.length = s.size := by rw [Array.length_toList]; rfl
theorem gr_bt (s : ByteArray) (i : Nat) (h : i < s.data.toList.length) : bt s (i : Int) = ((s.data.toList[i]).toNat : Int) := by
 have h' : i < s.size := by rw [← qQB]; exact h
 unfold bt
 rw [dif_pos (by simpa using h')]
 simp only [Int.toNat_natCast, Array.getElem_toList]
 rfl
def fitR (C : List UInt8) (w : Nat) (r : List UInt8) : Bool := decide (r.length = w) && r.all (C.contains ·)
def szR (w h : Nat) : Bool := decide (1 ≤ h) && decide (h ≤ 7) && decide (1 ≤ w) && decide (w ≤ 7) && decide (w * h ≤ 36)
theorem rowsOf_loop (C : ByteArray) (hC : C.size < 100) (hA : (C.data.toList.all fun b => decide (b.toNat < 128)) = true) (w : Nat) (hw : w ≤ 4294967281) (L : List ByteArray) (hL : L.length ≤ 4294967281) (hs : ∀ x ∈ L, x.size ≤ 4294967281) (d : Nat) : ∀ i : Nat, i ≤ L.length → L.length - i = d →
  Ev (fun k => qOA.l0 k C (w : Int) L (L.length : Int) (i : Int)) (if (L.drop i).all (fun x => fitR C.data.toList w x.data.toList) then (L, szR w L.length) else ([], false)) := by
 induction d with
 | zero =>
  intro i hi hd
  refine Ev.step (f := fun k => _) (fun k => by rw [qOA.l0]) ?_
  refine Ev.neg (by omega) (Ev.bindc (qwB _ _ _) ?_)
  rw [List.drop_eq_nil_of_le (by omega), List.all_nil, if_pos rfl]
  by_cases h1 : 1 ≤ L.length ∧ L.length ≤ 7
  ·have e1 : (decide ((1 : Int) ≤ (L.length : Int)) && decide ((L.length : Int) ≤ 7)) = true := by rw [decide_eq_true (by omega), decide_eq_true (by omega)]; rfl
   refine Ev.pos e1 (Ev.bindc (qwB _ _ _) ?_)
   by_cases h2 : 1 ≤ w ∧ w ≤ 7
   ·have e2 : (decide ((1 : Int) ≤ (w : Int)) && decide ((w : Int) ≤ 7)) = true := by rw [decide_eq_true (by omega), decide_eq_true (by omega)]; rfl
    refine Ev.pos e2 (Ev.some_ ?_)
    have hm : w * L.length ≤ 7 * 7 := Nat.mul_le_mul h2.2 h1.2
    have hc : ((w : Int) * (L.length : Int)) = ((w * L.length : Nat) : Int) := by push_cast; rfl
    rw [hc]
    generalize hn : w * L.length = n at *
    have ew : wrap64 (n : Int) = (n : Int) := by unfold wrap64; omega
    rw [ew]
    have : szR w L.length = decide (n ≤ 36) := by
     unfold szR
     rw [hn, decide_eq_true h1.1, decide_eq_true h1.2, decide_eq_true h2.1, decide_eq_true h2.2]; rfl
    rw [this]
    congr 1
    exact decide_eq_decide.2 (by omega)
   ·refine Ev.neg (by simp only [Bool.and_eq_true, decide_eq_true_eq]; omega) (Ev.some_ ?_)
    have : szR w L.length = false := by
     unfold szR
     simp only [Bool.and_eq_false_iff, decide_eq_false_iff_not]; omega
    rw [this]
  ·refine Ev.neg (by simp only [Bool.and_eq_true, decide_eq_true_eq]; omega) (Ev.some_ ?_)
   have : szR w L.length = false := by
    unfold szR
    simp only [Bool.and_eq_false_iff, decide_eq_false_iff_not]; omega
   rw [this]
 | succ d ih =>
  intro i hi hd
  have h : i < L.length := by omega
  refine Ev.step (f := fun k => _) (fun k => by rw [qOA.l0]) ?_
  refine Ev.pos (by omega) (Ev.pos (by omega) (Ev.pos (by omega) ?_))
  rw [qgC L i h, List.drop_eq_getElem_cons h, List.all_cons, show wrap64 ((i : Int) + 1) = ((i + 1 : Nat) : Int) by unfold wrap64; omega]
  have hsz := hs _ (List.getElem_mem h)
  have ihh := ih (i + 1) (by omega) (by omega)
  generalize L[i] = x at *
  by_cases hx : x.size = w
  ·refine Ev.pos (by omega) (Ev.bindc (show qmA.f x C = some _ from by unfold qmA.f; rw [if_pos ⟨by omega, by omega, hA⟩]) ?_)
   have ht : (⟨(Lib.trimS x.data.toList C.data.toList).toArray⟩ : ByteArray).toList = Lib.trimS x.data.toList C.data.toList := by
    rw [Lib.toList_data]
   by_cases hal : x.data.toList.all (C.data.toList.contains ·) = true
   ·refine Ev.pos (by rw [ht]; exact (trimS_nil _ _).2 hal) ?_
    have : fitR C.data.toList w x.data.toList = true := by
     unfold fitR
     rw [hal, Bool.and_true, decide_eq_true (by rw [qQB]; exact hx)]
    rw [this, Bool.true_and]
    exact ihh
   ·refine Ev.neg (by rw [ht]; exact fun e => hal ((trimS_nil _ _).1 e)) (Ev.some_ ?_)
    have : fitR C.data.toList w x.data.toList = false := by
     unfold fitR
     rw [Bool.eq_false_iff.2 hal, Bool.and_false]
    rw [this]; rfl
  ·refine Ev.neg (by omega) (Ev.some_ ?_)
   have : fitR C.data.toList w x.data.toList = false := by
    unfold fitR
    rw [decide_eq_false (by rw [qQB]; exact hx), Bool.false_and]
   rw [this]; rfl
def rowsT (a : ByteArray) : List ByteArray := Lib.splitB ⟨#[47]⟩ 0 (Lib.countB a ⟨#[47]⟩) a
theorem qWB (a : ByteArray) : (rowsT a).map (·.data.toList) = (sp 47 a.data.toList).1 :: (sp 47 a.data.toList).2 := split_sp a 47
def wideT (a : ByteArray) : Nat := (sp 47 a.data.toList).1.length
def highT (a : ByteArray) : Nat := (sp 47 a.data.toList).2.length + 1
theorem qTB (a : ByteArray) : (rowsT a).length = highT a := by
 have := congrArg List.length (qWB a)
 simpa [highT] using this
def rowsFit (C : List UInt8) (a : ByteArray) : Bool := ((sp 47 a.data.toList).1 :: (sp 47 a.data.toList).2).all (fitR C (wideT a))
theorem sum_le_mem (l : List Nat) : ∀ x ∈ l, x ≤ l.sum := by
 induction l with
 | nil => intro x h; cases h
 | cons b l ih =>
  intro x h
  rw [List.sum_cons]
  rcases List.mem_cons.1 h with rfl | h
  ·omega
  ·have := ih x h; omega
theorem rowsT_size (a : ByteArray) : ∀ x ∈ rowsT a, x.size ≤ a.size := by
 intro x hx
 have h1 : x.data.toList ∈ (rowsT a).map (·.data.toList) := List.mem_map_of_mem hx
 rw [qWB] at h1
 have h2 := qLC 47 a.data.toList
 rw [qQB] at h2
 rw [← qQB x]
 rcases List.mem_cons.1 h1 with h | h
 ·rw [h]; omega
 ·have := sum_le_mem _ _ (List.mem_map_of_mem (f := List.length) h); omega
theorem rowsOf_ev (a C : ByteArray) (ha : a.size ≤ 1048576) (hC : C.size < 100) (hA : (C.data.toList.all fun b => decide (b.toNat < 128)) = true) :
  Ev (fun k => qOA.f k a C) (if rowsFit C.data.toList a then (rowsT a, szR (wideT a) (highT a)) else ([], false)) := by
 unfold qOA.f
 refine Ev.bindc (show strings_Split.f a ⟨#[47]⟩ = some (rowsT a) from by unfold strings_Split.f; rw [if_pos ⟨by omega, by decide⟩]; rfl) ?_
 have hlen := qTB a
 have hl2 := qLC 47 a.data.toList
 rw [qQB] at hl2
 have hh : highT a ≤ a.size + 1 := by unfold highT; omega
 have h0 : 0 < (rowsT a).length := by rw [hlen]; unfold highT; omega
 refine Ev.pos (by omega) ?_
 have e0 : rdOf ByteArray.empty (rowsT a) 0 = (rowsT a)[0] := qgC (rowsT a) 0 h0
 have e1 : ((rowsT a)[0]).size = wideT a := by
  have := qWB a
  have h2 : ((rowsT a).map (·.data.toList))[0]'(by simpa using h0) = (sp 47 a.data.toList).1 := by
   simp only [this, List.getElem_cons_zero]
  rw [List.getElem_map] at h2
  rw [← qQB, h2]; rfl
 rw [e0, e1]
 have hw : wideT a ≤ a.size := by rw [← e1]; exact rowsT_size a _ (List.getElem_mem h0)
 have := rowsOf_loop C hC hA (wideT a) (by omega) (rowsT a) (by omega) (fun x hx => by have := rowsT_size a x hx; omega) (rowsT a).length 0 (by omega) (by omega)
 rw [List.drop_zero] at this
 have e2 : (rowsT a).all (fun x => fitR C.data.toList (wideT a) x.data.toList) = rowsFit C.data.toList a := by
  unfold rowsFit
  rw [← qWB, List.all_map]; rfl
 rw [e2] at this
 rw [← hlen]
 exact this
abbrev RdG := Int × Int × List Int × Bool
def badG : RdG := (0, 0, [], false)
def finG (ho w h : Nat) (cs : List Int) : RdG := if 7 < w then badG else if 7 < h then badG else if 36 < cs.length then badG else if 1 < ho then badG else ((w : Int), (h : Int), cs, true)
def runG : List UInt8 → Nat → Nat → Nat → Nat → List Int → RdG
 | [], x, ho, w, h, cs => if (0 < h ∧ x ≠ w) ∨ x = 0 then badG else finG ho x (h + 1) cs
 | c :: r, x, ho, w, h, cs =>
  if c = 47 then (if (0 < h ∧ x ≠ w) ∨ x = 0 then badG else runG r 0 ho x (h + 1) cs)
  else if c = 46 ∨ c = 35 ∨ c = 45 then runG r (x + 1) ho w h (cs ++ [(c.toNat : Int)])
  else if c = 111 then runG r (x + 1) (ho + 1) w h (cs ++ [(c.toNat : Int)])
  else badG
theorem u8eq (c : UInt8) (n : Nat) (hn : n < 256) : ((c.toNat : Int) = (n : Int)) ↔ c = UInt8.ofNat n := by
 constructor
 ·intro h
  have : c.toNat = n := by omega
  rw [← this]; simp
 ·intro h
  subst h
  simp; omega
theorem bx_end (a : ByteArray) (ha : a.size ≤ 42) (ho w h : Nat) (cs : List Int) : Ev (fun k => qc.l0 k a 0 (ho : Int) ((a.size : Int) + 1) (w : Int) (h : Int) cs) (finG ho w h cs) := by
 refine Ev.step (f := fun k => _) (fun k => by rw [qc.l0]) ?_
 refine Ev.neg (by omega) ?_
 unfold finG
 by_cases h1 : 7 < w
 ·rw [if_pos h1]; exact Ev.pos (by omega) (Ev.now _)
 rw [if_neg h1]; refine Ev.neg (by omega) ?_
 by_cases h2 : 7 < h
 ·rw [if_pos h2]; exact Ev.pos (by omega) (Ev.now _)
 rw [if_neg h2]; refine Ev.neg (by omega) ?_
 by_cases h3 : 36 < cs.length
 ·rw [if_pos h3]; exact Ev.pos (by omega) (Ev.now _)
 rw [if_neg h3]; refine Ev.neg (by omega) ?_
 by_cases h4 : 1 < ho
 ·rw [if_pos h4]; exact Ev.pos (by omega) (Ev.now _)
 rw [if_neg h4]; exact Ev.neg (by omega) (Ev.now _)
theorem bx_sep (a : ByteArray) (i x ho w h : Nat) (cs : List Int) (hx : x ≤ 100) (hh : h ≤ 100) (hi : i ≤ 100) (R : RdG)
  (hR : Ev (fun k => qc.l0 k a 0 (ho : Int) ((i : Int) + 1) (x : Int) ((h + 1 : Nat) : Int) cs) R) :
  Ev (fun k => qc.j1 k a (x : Int) (ho : Int) (i : Int) false (w : Int) (h : Int) cs) (if (0 < h ∧ x ≠ w) ∨ x = 0 then badG else R) := by
 have w1 : wrap64 ((i : Int) + 1) = (i : Int) + 1 := by unfold wrap64; omega
 have w2 : wrap64 ((h : Int) + 1) = ((h + 1 : Nat) : Int) := by unfold wrap64; omega
 refine Ev.step (f := fun k => _) (fun k => by rw [qc.j1]) ?_
 refine Ev.neg (by decide) ?_
 rw [w1, w2]
 by_cases h1 : 0 < h
 ·refine Ev.pos (by omega) ?_
  by_cases h2 : x = w
  ·refine Ev.pos (by omega) ?_
   by_cases h3 : x = 0
   ·rw [if_pos (.inr h3)]; exact Ev.pos (by omega) (Ev.now _)
   ·rw [if_neg (by omega)]; exact Ev.neg (by omega) hR
  ·rw [if_pos (.inl ⟨h1, h2⟩)]; exact Ev.neg (by omega) (Ev.now _)
 ·refine Ev.neg (by omega) ?_
  by_cases h3 : x = 0
  ·rw [if_pos (.inr h3)]; exact Ev.pos (by omega) (Ev.now _)
  ·rw [if_neg (by omega)]; exact Ev.neg (by omega) hR
theorem bx_loop (a : ByteArray) (ha : a.size ≤ 42) (d : Nat) : ∀ (i x ho w h : Nat) (cs : List Int), i ≤ a.size → a.size - i = d → x ≤ i → ho ≤ i → h ≤ i → cs.length ≤ i →
  Ev (fun k => qc.l0 k a (x : Int) (ho : Int) (i : Int) (w : Int) (h : Int) cs) (runG (a.data.toList.drop i) x ho w h cs) := by
 have hsz := qQB a
 induction d with
 | zero =>
  intro i x ho w h cs hi hd hx hho hh hc
  obtain rfl : i = a.size := by omega
  refine Ev.step (f := fun k => _) (fun k => by rw [qc.l0]) ?_
  refine Ev.pos (by omega) (Ev.neg (by omega) ?_)
  rw [List.drop_eq_nil_of_le (by omega), runG]
  exact bx_sep a a.size x ho w h cs (by omega) (by omega) (by omega) _ (bx_end a ha ho x (h + 1) cs)
 | succ d ih =>
  intro i x ho w h cs hi hd hx hho hh hc
  have hl : i < a.data.toList.length := by omega
  have e1 : ((i : Int) + 1) = ((i + 1 : Nat) : Int) := by omega
  have w1 : wrap64 ((i : Int) + 1) = ((i + 1 : Nat) : Int) := by unfold wrap64; omega
  have w2 : wrap64 ((x : Int) + 1) = ((x + 1 : Nat) : Int) := by unfold wrap64; omega
  have w3 : wrap64 ((ho : Int) + 1) = ((ho + 1 : Nat) : Int) := by unfold wrap64; omega
  have hdr := List.drop_eq_getElem_cons hl
  obtain ⟨c, hcc, hb⟩ : ∃ c, a.data.toList[i] = c ∧ bt a (i : Int) = (c.toNat : Int) := ⟨_, rfl, gr_bt a i hl⟩
  rw [hcc] at hdr
  clear hcc
  have HB := Lib.hid hb
  have HW1 := Lib.hid w1
  have HW2 := Lib.hid w2
  have HW3 := Lib.hid w3
  have HD := Lib.hid hdr
  clear hb w1 w2 w3 hdr
  refine Ev.step (f := fun k => _) (fun k => by rw [qc.l0]) ?_
  refine Ev.pos (by omega) (Ev.pos (by omega) (Ev.pos (by omega) ?_))
  rw [HD.out, HB.out, runG]
  by_cases h47 : c = 47
  ·rw [show ((c.toNat : Int) != 47) = false by subst h47; rfl, if_pos h47]
   clear HB HD h47
   refine bx_sep a i x ho w h cs (by omega) (by omega) (by omega) _ ?_
   rw [e1]
   exact ih (i + 1) 0 ho x (h + 1) cs (by omega) (by omega) (by omega) (by omega) (by omega) (by omega)
  ·rw [show ((c.toNat : Int) != 47) = true by
    rw [bne_iff_ne]; intro e; exact h47 ((u8eq c 47 (by decide)).1 e), if_neg h47]
   have go1 := ih (i + 1) (x + 1) ho w h (cs ++ [(c.toNat : Int)]) (by omega) (by omega) (by omega) (by omega) (by omega) (by simp; omega)
   have go2 := ih (i + 1) (x + 1) (ho + 1) w h (cs ++ [(c.toNat : Int)]) (by omega) (by omega) (by omega) (by omega) (by omega) (by simp; omega)
   have step : ∀ R, (c = 46 ∨ c = 35 ∨ c = 45) → Ev (fun k => qc.l0 k a ((x + 1 : Nat) : Int) (ho : Int) ((i + 1 : Nat) : Int) (w : Int) (h : Int) (cs ++ [(c.toNat : Int)])) R →
     Ev (fun k => qc.j2 k a (x : Int) (ho : Int) (i : Int) (c.toNat : Int) true (w : Int) (h : Int) cs) R := fun R _ hR => by
    refine Ev.step (f := fun k => _) (fun k => by rw [qc.j2]) ?_
    refine Ev.pos rfl (Ev.pos (by omega) (Ev.pos (by omega) (Ev.pos (by omega) ?_)))
    rw [HW1.out, HW2.out, HB.out]
    exact hR
   refine Ev.step (f := fun k => _) (fun k => by rw [qc.j1]) ?_
   refine Ev.pos rfl (Ev.pos (by omega) (Ev.pos (by omega) ?_))
   rw [HB.out]
   by_cases h46 : c = 46
   ·rw [if_pos (.inl h46)]
    refine Ev.pos (by subst h46; rfl) ?_
    rw [show ((c.toNat : Int) == 46) = true by subst h46; rfl]
    exact step _ (.inl h46) go1
   ·refine Ev.neg (fun e => h46 ((u8eq c 46 (by decide)).1 e)) ?_
    by_cases h35 : c = 35
    ·rw [if_pos (.inr (.inl h35))]
     refine Ev.pos (by subst h35; rfl) ?_
     rw [show ((c.toNat : Int) == 35) = true by subst h35; rfl]
     exact step _ (.inr (.inl h35)) go1
    ·refine Ev.neg (fun e => h35 ((u8eq c 35 (by decide)).1 e)) ?_
     by_cases h45 : c = 45
     ·rw [if_pos (.inr (.inr h45)), show ((c.toNat : Int) == 45) = true by subst h45; rfl]
      exact step _ (.inr (.inr h45)) go1
     ·rw [if_neg (by simp [h46, h35, h45]), show ((c.toNat : Int) == 45) = false by
       rw [beq_eq_false_iff_ne]; intro e; exact h45 ((u8eq c 45 (by decide)).1 e)]
      refine Ev.step (f := fun k => _) (fun k => by rw [qc.j2]) ?_
      refine Ev.neg (by decide) ?_
      by_cases h111 : c = 111
      ·rw [if_pos h111]
       refine Ev.pos (by subst h111; rfl) (Ev.pos (by omega) (Ev.pos (by omega) (Ev.pos (by omega) ?_)))
       rw [HW1.out, HW2.out, HW3.out, HB.out]
       exact go2
      ·rw [if_neg h111]
       exact Ev.neg (fun e => h111 ((u8eq c 111 (by decide)).1 e)) (Ev.now _)
def cG : List UInt8 := [46, 35, 45, 111]
def numsOf (l : List UInt8) : List Int := l.map fun c => (c.toNat : Int)
def flatT (l : List UInt8) : List UInt8 := (sp 47 l).1 ++ (sp 47 l).2.flatten
theorem runG_eq (l : List UInt8) : ∀ (x ho w h : Nat) (cs : List Int), runG l x ho w h cs =
  if (l.all (fun b => b == 47 || cG.contains b)) = true ∧ x + (sp 47 l).1.length ≠ 0 ∧ (0 < h → x + (sp 47 l).1.length = w) ∧ (∀ r ∈ (sp 47 l).2, r.length = x + (sp 47 l).1.length)
  then finG (ho + l.count 111) (x + (sp 47 l).1.length) (h + ((sp 47 l).2.length + 1)) (cs ++ numsOf (flatT l)) else badG := by
 induction l with
 | nil =>
  intro x ho w h cs
  rw [runG]
  simp only [sp, List.all_nil, List.length_nil, Nat.add_zero, List.count_nil, flatT, List.flatten_nil, List.append_nil, numsOf, List.map_nil, Nat.zero_add]
  by_cases hb : (0 < h ∧ x ≠ w) ∨ x = 0
  ·rw [if_pos hb, if_neg (by rintro ⟨_, h1, h2, _⟩; exact hb.elim (fun h34 => h34.2 (h2 h34.1)) h1)]
  ·rw [if_neg hb, if_pos ⟨trivial, fun e => hb (.inr e), fun h3 => Classical.byContradiction fun h4 => hb (.inl ⟨h3, h4⟩), by simp⟩]
 | cons c r ih =>
  intro x ho w h cs
  rw [runG]
  by_cases h47 : c = 47
  ·subst h47
   rw [if_pos rfl]
   simp only [sp, if_true, List.all_cons, beq_self_eq_true, Bool.true_or, Bool.true_and, List.length_nil, Nat.add_zero, List.count_cons_of_ne (show ((47 : UInt8) ≠ 111) by decide), flatT, List.nil_append, List.flatten_cons, List.length_cons]
   by_cases hb : (0 < h ∧ x ≠ w) ∨ x = 0
   ·rw [if_pos hb, if_neg (by rintro ⟨_, h1, h2, _⟩; exact hb.elim (fun h34 => h34.2 (h2 h34.1)) h1)]
   ·rw [if_neg hb, ih]
    have hx0 : x ≠ 0 := fun e => hb (.inr e)
    have hxw : 0 < h → x = w := fun h3 => Classical.byContradiction fun h4 => hb (.inl ⟨h3, h4⟩)
    by_cases hg : (r.all (fun b => b == 47 || cG.contains b)) = true ∧ ∀ q ∈ (sp 47 r).1 :: (sp 47 r).2, q.length = x
    ·have hf : (sp 47 r).1.length = x := hg.2 _ (List.mem_cons_self)
     rw [if_pos ⟨hg.1, by omega, fun _ => by omega, fun q hq => by have := hg.2 q (List.mem_cons_of_mem _ hq); omega⟩, if_pos ⟨hg.1, hx0, hxw, hg.2⟩]
     congr 1
     ·omega
     ·omega
    ·rw [if_neg, if_neg]
     ·rintro ⟨h1, _, _, h4⟩; exact hg ⟨h1, h4⟩
     ·rintro ⟨h1, _, h3, h4⟩
      have h5 := h3 (by omega)
      refine hg ⟨h1, fun q hq => ?_⟩
      rcases List.mem_cons.1 hq with rfl | hq
      ·omega
      ·have := h4 q hq; omega
  ·rw [if_neg h47]
   have e47 : (c == 47) = false := by simpa using h47
   simp only [sp, if_neg h47, List.all_cons, e47, Bool.false_or, List.length_cons]
   have hsh : x + ((sp 47 r).1.length + 1) = x + 1 + (sp 47 r).1.length := by omega
   by_cases h3 : c = 46 ∨ c = 35 ∨ c = 45
   ·have hc : cG.contains c = true := by rcases h3 with rfl | rfl | rfl <;> decide
    have hn : c ≠ 111 := by rcases h3 with rfl | rfl | rfl <;> decide
    rw [if_pos h3, ih, hc, Bool.true_and, hsh, List.count_cons_of_ne hn]
    simp only [flatT, sp, if_neg h47, numsOf, List.cons_append, List.map_cons, List.append_assoc, List.nil_append]
   ·rw [if_neg h3]
    by_cases h111 : c = 111
    ·subst h111
     rw [if_pos rfl, ih, show cG.contains 111 = true by decide, Bool.true_and, hsh, List.count_cons_self]
     simp only [flatT, sp, if_neg h47, numsOf, List.cons_append, List.map_cons, List.append_assoc, List.nil_append, show ho + (r.count 111 + 1) = ho + 1 + r.count 111 by omega]
    ·rw [if_neg h111, if_neg]
     rintro ⟨h1, _⟩
     have : cG.contains c = false := by
      simp only [cG, List.contains_cons, List.contains_nil, Bool.or_false, Bool.or_eq_false_iff, beq_eq_false_iff_ne]
      exact ⟨fun e => h3 (.inl e), fun e => h3 (.inr (.inl e)), fun e => h3 (.inr (.inr e)), h111⟩
     rw [this] at h1; simp at h1
theorem qVC (f : Nat) : ∀ (L : List (List UInt8)), (∀ r ∈ L, r.length = f) → L.flatten.length = f * L.length ∧ (L.map List.length).sum = f * L.length
 | [], _ => by simp
 | a :: L, h => by
  obtain ⟨h1, h2⟩ := qVC f L (fun r hr => h r (List.mem_cons_of_mem _ hr))
  have h3 := h a List.mem_cons_self
  simp only [List.flatten_cons, List.length_append, List.map_cons, List.sum_cons, List.length_cons, h1, h2, h3, Nat.mul_add, Nat.mul_one]
  omega
def groundB (a : ByteArray) : Bool := rowsFit cG a && szR (wideT a) (highT a) && decide (a.data.toList.count 111 ≤ 1)
theorem qaB (a : ByteArray) : rowsFit cG a = true ↔ (a.data.toList.all (fun b => b == 47 || cG.contains b)) = true ∧ ∀ r ∈ (sp 47 a.data.toList).2, r.length = wideT a := by
 have hs := sp_all 47 (cG.contains ·) a.data.toList (by decide)
 unfold rowsFit
 rw [← hs, List.all_cons]
 unfold fitR wideT
 simp only [Bool.and_eq_true, decide_eq_true_eq, List.all_eq_true, true_and]
 constructor
 ·rintro ⟨h1, h2⟩
  exact ⟨⟨h1, fun r hr => (h2 r hr).2⟩, fun r hr => (h2 r hr).1⟩
 ·rintro ⟨⟨h1, h2⟩, h3⟩
  exact ⟨h1, fun r hr => ⟨h3 r hr, h2 r hr⟩⟩
theorem bxRead_ev (a : ByteArray) : Ev (fun k => qc.f k a) (if groundB a then ((wideT a : Int), (highT a : Int), numsOf (flatT a.data.toList), true) else badG) := by
 have hl := qLC 47 a.data.toList
 rw [qQB] at hl
 unfold qc.f
 by_cases h42 : a.size ≤ 42
 ·refine Ev.neg (by omega) ?_
  have := bx_loop a h42 a.size 0 0 0 0 0 [] (by omega) (by omega) (by omega) (by omega) (by omega) (by simp)
  rw [List.drop_zero, runG_eq] at this
  simp only [Nat.zero_add, List.nil_append, Nat.lt_irrefl, false_implies, true_and] at this
  have e : (if (a.data.toList.all (fun b => b == 47 || cG.contains b)) = true ∧ (sp 47 a.data.toList).1.length ≠ 0 ∧ (∀ r ∈ (sp 47 a.data.toList).2, r.length = (sp 47 a.data.toList).1.length) then finG (a.data.toList.count 111) (sp 47 a.data.toList).1.length ((sp 47 a.data.toList).2.length + 1) (numsOf (flatT a.data.toList)) else badG) = (if groundB a then ((wideT a : Int), (highT a : Int), numsOf (flatT a.data.toList), true) else badG) := by
   have hw : (sp 47 a.data.toList).1.length = wideT a := rfl
   have hh : (sp 47 a.data.toList).2.length + 1 = highT a := rfl
   rw [hw, hh]
   unfold groundB
   by_cases hr : rowsFit cG a = true
   ·obtain ⟨h1, h2⟩ := (qaB a).1 hr
    obtain ⟨f1, f2⟩ := qVC (wideT a) (sp 47 a.data.toList).2 h2
    have hfl : (numsOf (flatT a.data.toList)).length = wideT a * highT a := by
     simp only [numsOf, List.length_map, flatT, List.length_append, f1, hw, ← hh, Nat.mul_add, Nat.mul_one]; omega
    rw [hr, Bool.true_and]
    by_cases h0 : wideT a ≠ 0
    ·rw [if_pos ⟨h1, h0, h2⟩]
     unfold finG szR
     rw [hfl]
     have hh1 : 1 ≤ highT a := by omega
     rw [decide_eq_true hh1, Bool.true_and, decide_eq_true (show 1 ≤ wideT a by omega)]
     by_cases a1 : 7 < wideT a
     ·rw [if_pos a1, decide_eq_false (show ¬ wideT a ≤ 7 by omega)]; simp
     rw [if_neg a1, decide_eq_true (show wideT a ≤ 7 by omega)]
     by_cases a2 : 7 < highT a
     ·rw [if_pos a2, decide_eq_false (show ¬ highT a ≤ 7 by omega)]; simp
     rw [if_neg a2, decide_eq_true (show highT a ≤ 7 by omega)]
     by_cases a3 : 36 < wideT a * highT a
     ·rw [if_pos a3, decide_eq_false (show ¬ wideT a * highT a ≤ 36 by omega)]; simp
     rw [if_neg a3, decide_eq_true (show wideT a * highT a ≤ 36 by omega)]
     by_cases a4 : 1 < a.data.toList.count 111
     ·rw [if_pos a4, decide_eq_false (by omega)]; simp
     ·rw [if_neg a4, decide_eq_true (by omega)]; simp
    ·rw [if_neg (fun h => h0 h.2.1)]
     have : szR (wideT a) (highT a) = false := by
      unfold szR
      simp only [Bool.and_eq_false_iff, decide_eq_false_iff_not]; omega
     rw [this]; simp
   ·rw [if_neg (fun h => hr ((qaB a).2 ⟨h.1, h.2.2⟩)), Bool.eq_false_iff.2 hr]; simp
  rw [e] at this
  exact this
 ·refine Ev.pos (by omega) (Ev.some_ ?_)
  have : groundB a = false := by
   cases hg : groundB a with
   | false => rfl
   | true =>
    unfold groundB szR at hg
    simp only [Bool.and_eq_true, decide_eq_true_eq] at hg
    obtain ⟨⟨hr, ⟨⟨⟨g1, g2⟩, g3⟩, g4⟩, g5⟩, _⟩ := hg
    obtain ⟨h1, h2⟩ := (qaB a).1 hr
    obtain ⟨f1, f2⟩ := qVC (wideT a) (sp 47 a.data.toList).2 h2
    rw [f2] at hl
    have hw : (sp 47 a.data.toList).1.length = wideT a := rfl
    have hh : (sp 47 a.data.toList).2.length + 1 = highT a := rfl
    have : wideT a * highT a = wideT a + wideT a * (sp 47 a.data.toList).2.length := by rw [← hh, Nat.mul_add, Nat.mul_one]; omega
    omega
  rw [this]; rfl
theorem ground_ev (a : ByteArray) (ha : a.size ≤ 1048576) : ∃ rows : List ByteArray, Ev (fun k => qvA.f k a) (rows, groundB a) ∧ (groundB a = true → rows = rowsT a) := by
 have h := rowsOf_ev a ⟨#[46, 35, 45, 111]⟩ ha (by decide) (by decide)
 have hc : (⟨#[46, 35, 45, 111]⟩ : ByteArray).data.toList = cG := rfl
 rw [hc] at h
 unfold qvA.f
 unfold groundB
 cases hr : rowsFit cG a with
 | false =>
  rw [hr, if_neg (by decide)] at h
  exact ⟨[], Ev.bind h (Ev.neg (by simp) (Ev.now _)), fun e => by cases e⟩
 | true =>
  rw [hr, if_pos rfl] at h
  refine ⟨rowsT a, Ev.bind h ?_, fun _ => rfl⟩
  cases hz : szR (wideT a) (highT a) with
  | false => exact Ev.neg (by simp) (Ev.now _)
  | true =>
   refine Ev.pos rfl (Ev.bindc (show qaA.f a ⟨#[111]⟩ = some _ from rfl) (Ev.some_ ?_))
   show (rowsT a, _) = _
   congr 1
   unfold Lib.countByte
   simp only [Bool.true_and]
   exact decide_eq_decide.2 (by omega)
theorem qfB (n a b : Int) : qIA.f n a b = some (decide (a ≤ n) && decide (n ≤ b)) := by
 unfold qIA.f
 by_cases h : n ≥ a
 ·rw [if_pos h, decide_eq_true (show a ≤ n from h), Bool.true_and]
 ·rw [if_neg h, decide_eq_false (show ¬ a ≤ n from h), Bool.false_and]
def rowsL (a : ByteArray) : List (List UInt8) := (sp 47 a.data.toList).1 :: (sp 47 a.data.toList).2
theorem flat_get (w : Nat) : ∀ (L : List (List UInt8)) (i j : Nat), (∀ r ∈ L, r.length = w) → i < L.length → j < w → L.flatten[i * w + j]? = (L[i]?.bind fun r => r[j]?)
 | [], i, j, _, hi, _ => by simp at hi
 | r :: L, 0, j, h, _, hj => by
  have := h r List.mem_cons_self
  simp only [List.flatten_cons, Nat.zero_mul, Nat.zero_add, List.getElem?_cons_zero, Option.bind_some]
  rw [List.getElem?_append_left (by omega)]
 | r :: L, i + 1, j, h, hi, hj => by
  have h1 := h r List.mem_cons_self
  have ih := flat_get w L i j (fun q hq => h q (List.mem_cons_of_mem _ hq)) (by simpa using hi) hj
  simp only [List.flatten_cons, List.getElem?_cons_succ]
  have e : (i + 1) * w + j = r.length + (i * w + j) := by rw [Nat.add_mul, h1]; omega
  rw [e, List.getElem?_append_right (by omega), Nat.add_sub_cancel_left]
  exact ih
structure Gnd (a : ByteArray) : Prop where
 w1 : 1 ≤ wideT a
 w7 : wideT a ≤ 7
 h1 : 1 ≤ highT a
 h7 : highT a ≤ 7
 rows : ∀ r ∈ rowsL a, r.length = wideT a
theorem qSC {a : ByteArray} (h : groundB a = true) : Gnd a := by
 unfold groundB szR at h
 simp only [Bool.and_eq_true, decide_eq_true_eq] at h
 obtain ⟨⟨hr, ⟨⟨⟨g1, g2⟩, g3⟩, g4⟩, g5⟩, _⟩ := h
 obtain ⟨_, h2⟩ := (qaB a).1 hr
 exact ⟨g3, g4, g1, g2, fun r hr => by
  rcases List.mem_cons.1 hr with rfl | hr
  ·rfl
  ·exact h2 r hr⟩
theorem qdB (a : ByteArray) : (rowsL a).length = highT a := rfl
theorem rowsT_get (a : ByteArray) (i : Nat) (h : i < (rowsT a).length) (h' : i < (rowsL a).length) : ((rowsT a)[i]).data.toList = (rowsL a)[i] := by
 have := qWB a
 have e : ((rowsT a).map (·.data.toList))[i]'(by simpa using h) = (rowsL a)[i] := by
  simp only [this]; rfl
 rwa [List.getElem_map] at e
theorem flatT_eq (a : ByteArray) : flatT a.data.toList = (rowsL a).flatten := rfl
def hasB (a : ByteArray) (x y : Int) : Bool := decide (0 ≤ y) && decide (y ≤ (highT a : Int) - 1) && (decide (0 ≤ x) && decide (x ≤ (wideT a : Int) - 1))
def cellU (a : ByteArray) (x y : Int) : UInt8 := ((rowsL a).getD y.toNat []).getD x.toNat 0
def cellN (a : ByteArray) (x y : Int) : Int := ((cellU a x y).toNat : Int)
theorem qvB (a : ByteArray) (x y : Int) : hasB a x y = true ↔ (0 ≤ y ∧ y < (highT a : Int)) ∧ (0 ≤ x ∧ x < (wideT a : Int)) := by
 unfold hasB
 simp only [Bool.and_eq_true, decide_eq_true_eq]
 omega
theorem gr_size {a : ByteArray} (g : Gnd a) (i : Nat) (h : i < (rowsT a).length) : ((rowsT a)[i]).size = wideT a := by
 have h' : i < (rowsL a).length := by rw [qdB, ← qTB]; exact h
 rw [← qQB, rowsT_get a i h h']
 exact g.rows _ (List.getElem_mem h')
theorem qmC {a : ByteArray} (g : Gnd a) (x y : Int) : qMA.f (rowsT a) x y = some (hasB a x y) := by
 have hl := qTB a
 have h0 : 0 < (rowsT a).length := by rw [hl]; exact g.h1
 have e0 : rdOf ByteArray.empty (rowsT a) 0 = (rowsT a)[0] := qgC (rowsT a) 0 h0
 have e1 := gr_size g 0 h0
 have g1 := g.h7
 have g2 := g.w7
 unfold qMA.f
 rw [qwB, hl, e0, e1]
 have w1 : wrap64 ((highT a : Int) - 1) = (highT a : Int) - 1 := by unfold wrap64; omega
 have w2 : wrap64 ((wideT a : Int) - 1) = (wideT a : Int) - 1 := by unfold wrap64; omega
 rw [w1, w2]
 simp only [Option.bind_some]
 have g0 := g.h1
 unfold hasB
 by_cases h : (decide (0 ≤ y) && decide (y ≤ (highT a : Int) - 1)) = true
 ·rw [if_pos h, if_pos (by omega), qwB, h, Bool.true_and]; rfl
 ·rw [if_neg h, Bool.eq_false_iff.2 h, Bool.false_and]
theorem at_eq {a : ByteArray} (g : Gnd a) (x y : Int) (h : hasB a x y = true) : qTA.f (rowsT a) x y = some (cellN a x y) := by
 obtain ⟨⟨h1, h2⟩, h3, h4⟩ := (qvB a x y).1 h
 obtain ⟨i, rfl⟩ := Int.eq_ofNat_of_zero_le h1
 obtain ⟨j, rfl⟩ := Int.eq_ofNat_of_zero_le h3
 have hl := qTB a
 have hi : i < (rowsT a).length := by omega
 have hi' : i < (rowsL a).length := by rw [qdB]; omega
 have hs := gr_size g i hi
 have hr := rowsT_get a i hi hi'
 have hw := g.rows _ (List.getElem_mem hi')
 unfold qTA.f
 rw [qmC g, h, qgC (rowsT a) i hi]
 simp only [Option.bind_some, if_true]
 rw [if_pos (by omega), if_pos (by omega), if_pos (by omega), if_pos (by rw [hs]; omega)]
 have hj : j < ((rowsT a)[i]).data.toList.length := by rw [qQB, hs]; omega
 rw [gr_bt _ j hj]
 congr 1
 unfold cellN cellU
 have e : (rowsL a).getD i [] = (rowsL a)[i] := by rw [List.getD_eq_getElem?_getD, List.getElem?_eq_getElem hi']; rfl
 have e2 : ((rowsT a)[i]).data.toList[j] = ((rowsL a)[i])[j]'(by rw [← hr]; exact hj) := by simp only [hr]
 rw [e2, Int.toNat_natCast, Int.toNat_natCast, e, List.getD_eq_getElem?_getD, List.getElem?_eq_getElem (by rw [← hr]; exact hj)]
 rfl
theorem boCell_eq {a : ByteArray} (g : Gnd a) (cs : List Int) (x y : Int) : qpA.f (wideT a : Int) (highT a : Int) cs x y = some (hasB a x y) := by
 have g1 := g.h7
 have g2 := g.w7
 unfold qpA.f
 have w1 : wrap64 ((highT a : Int) - 1) = (highT a : Int) - 1 := by unfold wrap64; omega
 have w2 : wrap64 ((wideT a : Int) - 1) = (wideT a : Int) - 1 := by unfold wrap64; omega
 rw [w1, w2, qfB, qfB]
 simp only [Option.bind_some]
 unfold hasB
 by_cases h : (decide (0 ≤ x) && decide (x ≤ (wideT a : Int) - 1)) = true
 ·rw [if_pos h, h, Bool.and_true]
 ·rw [if_neg h, Bool.eq_false_iff.2 h, Bool.and_false]
theorem spec_at {a : ByteArray} (g : Gnd a) (x y : Int) (h : hasB a x y = true) :
  0 ≤ wrap64 (wrap64 (y * (wideT a : Int)) + x) ∧ wrap64 (wrap64 (y * (wideT a : Int)) + x) < ((numsOf (flatT a.data.toList)).length : Int) ∧ rd (numsOf (flatT a.data.toList)) (wrap64 (wrap64 (y * (wideT a : Int)) + x)) = cellN a x y := by
 obtain ⟨⟨h1, h2⟩, h3, h4⟩ := (qvB a x y).1 h
 obtain ⟨i, rfl⟩ := Int.eq_ofNat_of_zero_le h1
 obtain ⟨j, rfl⟩ := Int.eq_ofNat_of_zero_le h3
 have g1 := g.h7
 have g2 := g.w7
 have hi' : i < (rowsL a).length := by rw [qdB]; omega
 have hf := flat_get (wideT a) (rowsL a) i j g.rows hi' (by omega)
 have hw := g.rows _ (List.getElem_mem hi')
 have hj : j < ((rowsL a)[i]).length := by omega
 rw [List.getElem?_eq_getElem hi', Option.bind_some, List.getElem?_eq_getElem hj] at hf
 have hm : i * wideT a ≤ 7 * 7 := Nat.mul_le_mul (by omega) g2
 have ec : ((i : Int) * (wideT a : Int)) = ((i * wideT a : Nat) : Int) := by push_cast; rfl
 rw [ec]
 have e : wrap64 (wrap64 ((i * wideT a : Nat) : Int) + (j : Int)) = ((i * wideT a + j : Nat) : Int) := by
  generalize i * wideT a = m at *
  unfold wrap64; omega
 rw [e, flatT_eq]
 obtain ⟨hlt, hv⟩ := List.getElem?_eq_some_iff.1 hf
 refine ⟨by omega, ?_, ?_⟩
 ·unfold numsOf
  rw [List.length_map]; omega
 ·unfold rd numsOf cellN cellU
  rw [Int.toNat_natCast, List.getD_eq_getElem?_getD, List.getElem?_map, hf, Int.toNat_natCast, Int.toNat_natCast, List.getD_eq_getElem?_getD (l := rowsL a), List.getElem?_eq_getElem hi']
  simp only [Option.map_some, Option.getD_some]
  rw [List.getD_eq_getElem?_getD, List.getElem?_eq_getElem hj]
  rfl
def okC (a : ByteArray) (x y : Int) : Bool := hasB a x y && !(cellN a x y == 35)
theorem isBox1_eq {a : ByteArray} (g : Gnd a) (x y : Int) : qtB.f (rowsT a) x y = some (!okC a x y) := by
 unfold qtB.f okC
 rw [qmC g, Option.bind_some]
 cases h : hasB a x y with
 | true => rw [if_pos rfl, at_eq g x y h]; simp
 | false => rw [if_neg (by decide)]; rfl
def cellsB (x y p : Int) : List (Int × Int) := if p = 1 then [(x, y), (wrap64 (x + 1), y)] else if p = 2 then [(x, y), (x, wrap64 (y + 1))] else [(x, y)]
def boxB (a : ByteArray) (x y p : Int) : Bool := (decide (0 ≤ p) && decide (p ≤ 2)) && !(decide (p = 0) && cellN a x y == 45) && (cellsB x y p).all fun c => okC a c.1 c.2
theorem qHC {a : ByteArray} {x y p : Int} (h : boxB a x y p = true) : hasB a x y = true := by
 unfold boxB at h
 simp only [Bool.and_eq_true] at h
 have h2 := h.2
 unfold cellsB at h2
 have : okC a x y = true := by
  split at h2
  ·simp only [List.all_cons, Bool.and_eq_true] at h2; exact h2.1
  ·split at h2
   ·simp only [List.all_cons, Bool.and_eq_true] at h2; exact h2.1
   ·simp only [List.all_cons, Bool.and_eq_true] at h2; exact h2.1
 unfold okC at this
 simp only [Bool.and_eq_true] at this
 exact this.1
theorem qoC {a : ByteArray} (g : Gnd a) (l : List S94) : qwA.f l (rowsT a) = some (!(l.all fun c => okC a c.f0 c.f1)) := by
 unfold qwA.f
 rw [if_pos (by rw [List.all_eq_true]; intro c _; rw [isBox1_eq g]; rfl)]
 congr 1
 induction l with
 | nil => rfl
 | cons c l ih =>
  rw [List.any_cons, List.all_cons, ih, isBox1_eq g]
  simp
theorem qFC {a : ByteArray} (g : Gnd a) (b : Bool) (x y p : Int) : Ev (fun k => qe.j0 k b (rowsT a) x y p) (!b && (cellsB x y p).all fun c => okC a c.1 c.2) := by
 refine Ev.step (f := fun k => _) (fun k => by rw [qe.j0]) ?_
 cases b with
 | true => exact Ev.pos rfl (Ev.now _)
 | false =>
  refine Ev.neg (by decide) ?_
  unfold qrA.f cellsB
  by_cases h1 : p = 1
  ·rw [if_pos h1, if_pos h1]
   refine Ev.bindc rfl (Ev.bindc (qoC g _) (Ev.some_ ?_))
   simp
  ·rw [if_neg h1, if_neg h1]
   by_cases h2 : p = 2
   ·rw [if_pos h2, if_pos h2]
    refine Ev.bindc rfl (Ev.bindc (qoC g _) (Ev.some_ ?_))
    simp
   ·rw [if_neg h2, if_neg h2]
    refine Ev.bindc rfl (Ev.bindc (qoC g _) (Ev.some_ ?_))
    simp
theorem isBox_ev {a : ByteArray} (g : Gnd a) (x y p : Int) : Ev (fun k => qe.f k (rowsT a) x y p) (boxB a x y p) := by
 unfold qe.f
 refine Ev.bindc (qwB _ _ _) ?_
 cases hp : (decide (0 ≤ p) && decide (p ≤ 2)) with
 | false =>
  refine Ev.neg (by decide) ?_
  have e : boxB a x y p = false := by unfold boxB; rw [hp]; rfl
  rw [e]
  exact qFC g true x y p
 | true =>
  refine Ev.pos rfl (Ev.bindc (qmC g x y) ?_)
  cases hh : hasB a x y with
  | false =>
   refine Ev.neg (by decide) ?_
   have e : boxB a x y p = false := by
    cases hb : boxB a x y p with
    | false => rfl
    | true => rw [qHC hb] at hh; cases hh
   rw [e]
   exact qFC g true x y p
  | true =>
   refine Ev.pos rfl ?_
   by_cases h0 : p = 0
   ·refine Ev.pos h0 (Ev.bindc (at_eq g x y hh) ?_)
    have := qFC g (cellN a x y == 45) x y p
    have e : boxB a x y p = (!(cellN a x y == 45) && (cellsB x y p).all fun c => okC a c.1 c.2) := by
     unfold boxB; rw [hp, Bool.true_and, decide_eq_true h0, Bool.true_and]
    rw [e]
    exact this
   ·refine Ev.neg h0 ?_
    have := qFC g false x y p
    have e : boxB a x y p = (!false && (cellsB x y p).all fun c => okC a c.1 c.2) := by
     unfold boxB; rw [hp, Bool.true_and, decide_eq_false h0, Bool.false_and]
    rw [e]
    exact this
theorem qxB {a : ByteArray} (g : Gnd a) (q : Nat) (cl : List Int) (hq : q + 1 < cl.length) (hc : cl.length ≤ 4) (x y p : Int) (R : Bool)
  (hR : Ev (fun k => qi.l0 k ((q + 2 : Nat) : Int) cl (wideT a : Int) (highT a : Int) (numsOf (flatT a.data.toList)) x y p) R) :
  Ev (fun k => qi.l0 k (q : Int) cl (wideT a : Int) (highT a : Int) (numsOf (flatT a.data.toList)) x y p) (okC a cl[q] cl[q + 1] && R) := by
 have w1 : wrap64 ((q : Int) + 1) = ((q + 1 : Nat) : Int) := by unfold wrap64; omega
 have w2 : wrap64 ((q : Int) + 2) = ((q + 2 : Nat) : Int) := by unfold wrap64; omega
 have r0 : rd cl (q : Int) = cl[q] := by unfold rd; rw [Int.toNat_natCast, List.getD_eq_getElem?_getD, List.getElem?_eq_getElem (by omega)]; rfl
 have r1 : rd cl ((q + 1 : Nat) : Int) = cl[q + 1] := by unfold rd; rw [Int.toNat_natCast, List.getD_eq_getElem?_getD, List.getElem?_eq_getElem (by omega)]; rfl
 refine Ev.step (f := fun k => _) (fun k => by rw [qi.l0]) ?_
 rw [w1, w2, r0, r1]
 generalize cl[q] = u
 generalize cl[q + 1] = v
 refine Ev.pos (by omega) (Ev.pos (by omega) (Ev.pos (by omega) (Ev.pos (by omega) (Ev.bindc (boCell_eq g _ u v) ?_))))
 unfold okC
 cases hh : hasB a u v with
 | false => exact Ev.neg (by decide) (Ev.now _)
 | true =>
  obtain ⟨s1, s2, s3⟩ := spec_at g u v hh
  refine Ev.pos rfl (Ev.pos s1 (Ev.pos s2 ?_))
  rw [s3]
  by_cases h35 : cellN a u v = 35
  ·refine Ev.pos h35 (Ev.some_ ?_)
   rw [h35]; rfl
  ·refine Ev.neg h35 ?_
   have : (cellN a u v == 35) = false := by simpa using h35
   rw [this]
   exact hR
theorem qaC {a : ByteArray} (g : Gnd a) (cl : List Int) (x y p : Int) (hh : hasB a x y = true) :
  Ev (fun k => qi.l0 k (cl.length : Int) cl (wideT a : Int) (highT a : Int) (numsOf (flatT a.data.toList)) x y p) (!(decide (p = 0) && cellN a x y == 45)) := by
 refine Ev.step (f := fun k => _) (fun k => by rw [qi.l0]) ?_
 refine Ev.neg (by omega) ?_
 obtain ⟨s1, s2, s3⟩ := spec_at g x y hh
 by_cases h0 : p = 0
 ·refine Ev.pos h0 (Ev.pos s1 (Ev.pos s2 (Ev.some_ ?_)))
  rw [s3, decide_eq_true h0, Bool.true_and]; rfl
 ·refine Ev.neg h0 (Ev.some_ ?_)
  rw [decide_eq_false h0]; rfl
theorem bx_fail {a : ByteArray} (g : Gnd a) (t : List Int) (ht : t.length ≤ 2) (x y x' y' p : Int) (hh : hasB a x y = false) :
  Ev (fun k => qi.l0 k 0 (x :: y :: t) (wideT a : Int) (highT a : Int) (numsOf (flatT a.data.toList)) x' y' p) false := by
 have w1 : wrap64 (0 + 1) = 1 := by unfold wrap64; omega
 have r0 : rd (x :: y :: t) 0 = x := rfl
 have r1 : rd (x :: y :: t) 1 = y := rfl
 have hl : ((x :: y :: t).length : Int) = (t.length : Int) + 2 := by simp; omega
 refine Ev.step (f := fun k => _) (fun k => by rw [qi.l0]) ?_
 rw [w1, r0, r1, hl]
 refine Ev.pos (by omega) (Ev.pos (by omega) (Ev.pos (by omega) (Ev.pos (by omega) (Ev.bindc (boCell_eq g _ x y) ?_))))
 rw [hh]
 exact Ev.neg (by decide) (Ev.now _)
def tailI (x y p : Int) : List Int := if p = 1 then [wrap64 (x + 1), y] else if p = 2 then [x, wrap64 (y + 1)] else []
theorem bxCells_eq (x y p : Int) : qfA.f x y p = some (x :: y :: tailI x y p) := by
 unfold qfA.f tailI
 by_cases h1 : p = 1
 ·simp [h1]
 ·by_cases h2 : p = 2
  ·simp [h2]
  ·simp [h1, h2]
theorem bxPose_eq (x y p : Int) : quA.f x y p = some ((decide (0 ≤ x) && decide (x ≤ 6)) && ((decide (0 ≤ y) && decide (y ≤ 6)) && (decide (0 ≤ p) && decide (p ≤ 2)))) := by
 unfold quA.f
 rw [qfB, qfB, qfB]
 simp only [Option.bind_some]
 cases (decide (0 ≤ x) && decide (x ≤ 6)) <;> cases (decide (0 ≤ y) && decide (y ≤ 6)) <;> rfl
theorem bxGood_ev {a : ByteArray} (g : Gnd a) (x y p : Int) : Ev (fun k => qi.f k (wideT a : Int) (highT a : Int) (numsOf (flatT a.data.toList)) x y p) (boxB a x y p) := by
 have g1 := g.h7
 have g2 := g.w7
 have hno : hasB a x y = false → boxB a x y p = false := fun hh => by
  cases hb : boxB a x y p with
  | false => rfl
  | true => rw [qHC hb] at hh; cases hh
 unfold qi.f
 refine Ev.bindc (bxPose_eq x y p) ?_
 cases hp : (decide (0 ≤ p) && decide (p ≤ 2)) with
 | false =>
  rw [Bool.and_false, Bool.and_false]
  refine Ev.neg (by decide) (Ev.some_ ?_)
  unfold boxB; rw [hp]; rfl
 | true =>
  rw [Bool.and_true]
  by_cases hxy : ((decide (0 ≤ x) && decide (x ≤ 6)) && (decide (0 ≤ y) && decide (y ≤ 6))) = true
  ·rw [hxy]
   refine Ev.pos rfl (Ev.bindc (bxCells_eq x y p) ?_)
   have e : boxB a x y p = ((cellsB x y p).all (fun c => okC a c.1 c.2) && !(decide (p = 0) && cellN a x y == 45)) := by
    unfold boxB; rw [hp, Bool.true_and, Bool.and_comm]
   cases hh : hasB a x y with
   | false =>
    rw [hno hh]
    refine bx_fail g _ ?_ x y x y p hh
    unfold tailI
    split
    ·simp
    ·split <;> simp
   | true =>
    rw [e]
    unfold tailI cellsB
    by_cases h1 : p = 1
    ·simp only [if_pos h1]
     have := qxB g 0 [x, y, wrap64 (x + 1), y] (by simp) (by simp) x y p _ (qxB g 2 [x, y, wrap64 (x + 1), y] (by simp) (by simp) x y p _ (qaC g [x, y, wrap64 (x + 1), y] x y p hh))
     simpa [Bool.and_assoc] using this
    ·by_cases h2 : p = 2
     ·simp only [if_neg h1, if_pos h2]
      have := qxB g 0 [x, y, x, wrap64 (y + 1)] (by simp) (by simp) x y p _ (qxB g 2 [x, y, x, wrap64 (y + 1)] (by simp) (by simp) x y p _ (qaC g [x, y, x, wrap64 (y + 1)] x y p hh))
      simpa [Bool.and_assoc] using this
     ·simp only [if_neg h1, if_neg h2]
      have := qxB g 0 [x, y] (by simp) (by simp) x y p _ (qaC g [x, y] x y p hh)
      simpa [Bool.and_assoc] using this
  ·rw [Bool.eq_false_iff.2 hxy]
   refine Ev.neg (by decide) (Ev.some_ ?_)
   refine (hno ?_).symm
   cases hh : hasB a x y with
   | false => rfl
   | true =>
    exfalso
    apply hxy
    obtain ⟨⟨h1, h2⟩, h3, h4⟩ := (qvB a x y).1 hh
    simp only [Bool.and_eq_true, decide_eq_true_eq]
    omega
def askB (a : ByteArray) (x y p : Int) : Bool := groundB a && boxB a x y p
theorem qbB {a : ByteArray} {x y p : Int} (h : askB a x y p = true) : groundB a = true := by
 unfold askB at h
 rw [Bool.and_eq_true] at h
 exact h.1
theorem onGround_ev (a : ByteArray) (x y p : Int) (ha : a.size ≤ 1048576) : ∃ rows : List ByteArray, Ev (fun k => qhA.f k a x y p) (rows, askB a x y p) ∧ (askB a x y p = true → rows = rowsT a) := by
 obtain ⟨rows, h1, hr⟩ := ground_ev a ha
 unfold qhA.f askB
 cases hg : groundB a with
 | false =>
  rw [hg] at h1
  exact ⟨rows, Ev.bind h1 (Ev.neg (by simp) (Ev.now _)), fun h => by cases h⟩
 | true =>
  have g := qSC hg
  have e := hr hg
  subst e
  rw [hg] at h1
  exact ⟨rowsT a, Ev.bind h1 (Ev.pos rfl (Ev.bind (isBox_ev g x y p) (Ev.now _))), fun _ => rfl⟩
theorem bxAsked_ev (a : ByteArray) (x y p : Int) : ∃ (w h : Int) (cs : List Int), Ev (fun k => qJA.f k a x y p) (w, h, cs, askB a x y p) ∧ (askB a x y p = true → w = (wideT a : Int) ∧ h = (highT a : Int) ∧ cs = numsOf (flatT a.data.toList)) := by
 have h2 := bxRead_ev a
 unfold qJA.f askB
 cases hg : groundB a with
 | false =>
  rw [hg, if_neg (by decide)] at h2
  exact ⟨_, _, _, Ev.bind h2 (Ev.neg (by simp [badG]) (Ev.now _)), fun h => by cases h⟩
 | true =>
  have g := qSC hg
  rw [hg, if_pos rfl] at h2
  exact ⟨_, _, _, Ev.bind h2 (Ev.pos rfl (Ev.bind (bxGood_ev g x y p) (Ev.now _))), fun _ => ⟨rfl, rfl, rfl⟩⟩
def dirN (d : Nat) : Int := if d = 0 then 110 else if d = 1 then 101 else if d = 2 then 115 else 119
def nextB (x y : Int) (d : Nat) : Int × Int := if d = 0 then (x, wrap64 (y - 1)) else if d = 1 then (wrap64 (x + 1), y) else if d = 2 then (x, wrap64 (y + 1)) else (wrap64 (x - 1), y)
def tipB (x y p : Int) (d : Nat) : Int × Int × Int :=
 if p = 0 then (if d = 0 then (x, wrap64 (y - 2), 2) else if d = 1 then (wrap64 (x + 1), y, 1) else if d = 2 then (x, wrap64 (y + 1), 2) else (wrap64 (x - 2), y, 1))
 else if p = 1 then (if d = 1 then (wrap64 (x + 2), y, 0) else if d = 3 then (wrap64 (x - 1), y, 0) else ((nextB x y d).1, (nextB x y d).2, 1))
 else if p = 2 then (if d = 0 then (x, wrap64 (y - 1), 0) else if d = 2 then (x, wrap64 (y + 2), 0) else ((nextB x y d).1, (nextB x y d).2, 2))
 else ((nextB x y d).1, (nextB x y d).2, p)
theorem four {d : Nat} (h : d < 4) : d = 0 ∨ d = 1 ∨ d = 2 ∨ d = 3 := by omega
theorem specNext (x y : Int) (d : Nat) (h : d < 4) : qjA.f x y (d : Int) = some (nextB x y d) := by
 rcases four h with rfl | rfl | rfl | rfl <;> simp [qjA.f, nextB]
theorem implNext (x y : Int) (d : Nat) (h : d < 4) : qJB.f x y (dirN d) = some (nextB x y d) := by
 rcases four h with rfl | rfl | rfl | rfl <;> simp [qJB.f, nextB, dirN]
theorem specTip_ev (x y p : Int) (d : Nat) (h : d < 4) : Ev (fun k => qV.f k x y p (d : Int)) (tipB x y p d) := by
 refine Ev.at_ 8 fun k => ?_
 have hn := specNext x y d h
 by_cases p0 : p = 0
 ·subst p0
  rcases four h with rfl | rfl | rfl | rfl <;> simp [qV.f, qV.j0, qV.j1, qV.j2, tipB]
 by_cases p1 : p = 1
 ·subst p1
  rcases four h with rfl | rfl | rfl | rfl <;> simp at hn <;> simp [qV.f, qV.j0, qV.j1, qV.j2, qV.j3, qV.j4, qV.j5, tipB, hn]
 by_cases p2 : p = 2
 ·subst p2
  rcases four h with rfl | rfl | rfl | rfl <;> simp at hn <;> simp [qV.f, qV.j0, qV.j1, qV.j2, qV.j3, qV.j4, qV.j5, tipB, hn]
 ·simp [qV.f, qV.j0, qV.j1, qV.j2, qV.j3, qV.j4, qV.j5, tipB, hn, p0, p1, p2]
theorem implTip_ev (x y p : Int) (d : Nat) (h : d < 4) : Ev (fun k => qX.f k x y p (dirN d)) (tipB x y p d) := by
 refine Ev.at_ 5 fun k => ?_
 have hn := implNext x y d h
 by_cases p0 : p = 0
 ·subst p0
  rcases four h with rfl | rfl | rfl | rfl <;> simp [qX.f, qX.j0, qX.j1, qX.j2, tipB, dirN]
 by_cases p1 : p = 1
 ·subst p1
  rcases four h with rfl | rfl | rfl | rfl <;> simp [dirN] at hn <;> simp [qX.f, qX.j0, qX.j1, qX.j2, tipB, dirN, hn, nextB]
 by_cases p2 : p = 2
 ·subst p2
  rcases four h with rfl | rfl | rfl | rfl <;> simp [dirN] at hn <;> simp [qX.f, qX.j0, qX.j1, qX.j2, tipB, dirN, hn, nextB]
 ·rcases four h with rfl | rfl | rfl | rfl <;> simp [dirN] at hn <;> simp [qX.f, qX.j0, qX.j1, qX.j2, tipB, dirN, hn, p0, p1, p2]
def canB (a : ByteArray) (t : Int × Int × Int) : Bool := boxB a t.1 t.2.1 t.2.2
theorem rollBox_ev {a : ByteArray} (g : Gnd a) (x y p : Int) (d : Nat) (h : d < 4) : Ev (fun k => qPA.f k (rowsT a) x y p (dirN d)) ((tipB x y p d).1, (tipB x y p d).2.1, (tipB x y p d).2.2, canB a (tipB x y p d)) := by
 unfold qPA.f
 exact Ev.bind (implTip_ev x y p d h) (Ev.bind (isBox_ev g _ _ _) (Ev.now _))
theorem bxRoll_ev {a : ByteArray} (g : Gnd a) (x y p : Int) (d : Nat) (h : d < 4) : Ev (fun k => qoA.f k (wideT a : Int) (highT a : Int) (numsOf (flatT a.data.toList)) x y p (d : Int)) (if canB a (tipB x y p d) = true then ((tipB x y p d).1, (tipB x y p d).2.1, (tipB x y p d).2.2, true) else (0, 0, 0, false)) := by
 unfold qoA.f
 refine Ev.bind (specTip_ev x y p d h) (Ev.bind (bxGood_ev g _ _ _) ?_)
 show Ev (fun k => if canB a (tipB x y p d) = true then _ else _) _
 cases hc : canB a (tipB x y p d) with
 | true => exact Ev.pos rfl (by rw [if_pos rfl]; exact Ev.now _)
 | false => exact Ev.neg (by decide) (by rw [if_neg (by decide)]; exact Ev.now _)
def dirsB : ByteArray := ⟨#[110, 101, 115, 119]⟩
theorem bt_dirs (d : Nat) (h : d < 4) : bt (⟨#[110, 101, 115, 119]⟩ : ByteArray) (d : Int) = dirN d := by
 rcases four h with rfl | rfl | rfl | rfl <;> decide +kernel
def dir1 (d : Nat) : ByteArray := dirsB.extract d (d + 1)
theorem qOC (d : Nat) (h : d < 4) : (dir1 d).size = 1 := by
 rcases four h with rfl | rfl | rfl | rfl <;> decide +kernel
end Go.Proofs.YtdagdhmcebeadaaDoor
set_option linter.unusedSectionVars false
namespace Go.Proofs.YtdagdhmcebeadaaDoor.Bfs
section
variable {α β : Type} [DecidableEq α]
def put (L : List (α × β)) (y : Option α) (p : β) : List (α × β) := match y with
 | none => L
 | some y => if y ∈ L.map Prod.fst then L else L ++ [(y, p)]
def puts (L : List (α × β)) : List (Option α × β) → List (α × β)
 | [] => L
 | (y, p) :: r => puts (put L y p) r
variable (next : Nat → α → β → List (Option α × β))
def round (i : Nat) (L : List (α × β)) : List (α × β) := match L[i]? with
 | none => L
 | some x => puts L (next i x.1 x.2)
def run : Nat → Nat → List (α × β) → List (α × β)
 | 0, _, L => L
 | n + 1, i, L => if i < L.length then run n (i + 1) (round next i L) else L
theorem put_met {L : List (α × β)} {y : α} (h : y ∈ L.map Prod.fst) (p : β) : put L (some y) p = L := if_pos h
theorem put_new {L : List (α × β)} {y : α} (h : ¬ y ∈ L.map Prod.fst) (p : β) : put L (some y) p = L ++ [(y, p)] := if_neg h
theorem put_prefix (L : List (α × β)) (y : Option α) (p : β) : L <+: put L y p := by
 unfold put
 split
 ·exact List.prefix_refl _
 ·split
  ·exact List.prefix_refl _
  ·exact List.prefix_append _ _
theorem puts_prefix (l : List (Option α × β)) : ∀ L : List (α × β), L <+: puts L l := by
 induction l with
 | nil => intro L; exact List.prefix_refl _
 | cons x l ih => intro L; exact (put_prefix L x.1 x.2).trans (ih _)
theorem round_prefix (i : Nat) (L : List (α × β)) : L <+: round next i L := by
 unfold round
 split
 ·exact List.prefix_refl _
 ·exact puts_prefix _ _
theorem put_nodup {L : List (α × β)} (h : (L.map Prod.fst).Nodup) (y : Option α) (p : β) : ((put L y p).map Prod.fst).Nodup := by
 unfold put
 split
 ·exact h
 ·rename_i y
  split
  ·exact h
  ·rename_i hy
   rw [List.map_append, List.nodup_append]
   refine ⟨h, by simp, ?_⟩
   intro a ha b hb e
   simp at hb
   subst hb
   subst e
   exact hy ha
theorem puts_nodup (l : List (Option α × β)) : ∀ {L : List (α × β)}, (L.map Prod.fst).Nodup → ((puts L l).map Prod.fst).Nodup := by
 induction l with
 | nil => intro L h; exact h
 | cons x l ih => intro L h; exact ih (put_nodup h _ _)
theorem round_nodup {L : List (α × β)} (h : (L.map Prod.fst).Nodup) (i : Nat) : ((round next i L).map Prod.fst).Nodup := by
 unfold round
 split
 ·exact h
 ·exact puts_nodup _ h
theorem run_nodup : ∀ (n i : Nat) {L : List (α × β)}, (L.map Prod.fst).Nodup → ((run next n i L).map Prod.fst).Nodup
 | 0, _, L, h => h
 | n + 1, i, L, h => by
  unfold run
  split
  ·exact run_nodup n (i + 1) (round_nodup next h i)
  ·exact h
theorem put_all {Q : α × β → Prop} {L : List (α × β)} (h : ∀ x ∈ L, Q x) (y : Option α) (p : β) (hy : ∀ z, y = some z → Q (z, p)) : ∀ x ∈ put L y p, Q x := by
 unfold put
 split
 ·exact h
 ·rename_i z
  split
  ·exact h
  ·intro x hx
   rcases List.mem_append.1 hx with hx | hx
   ·exact h x hx
   ·simp at hx; subst hx; exact hy z rfl
theorem qDC {Q : α × β → Prop} : ∀ (l : List (Option α × β)) {L : List (α × β)}, (∀ x ∈ L, Q x) → (∀ s ∈ l, ∀ z, s.1 = some z → Q (z, s.2)) → ∀ x ∈ puts L l, Q x
 | [], L, h, _ => h
 | s :: l, L, h, hs => qDC l (put_all h s.1 s.2 (hs s (by simp))) (fun t ht => hs t (by simp [ht]))
theorem round_all {Q : α × β → Prop} (hn : ∀ i x p, Q (x, p) → ∀ s ∈ next i x p, ∀ z, s.1 = some z → Q (z, s.2)) (i : Nat) {L : List (α × β)} (h : ∀ x ∈ L, Q x) : ∀ x ∈ round next i L, Q x := by
 unfold round
 split
 ·exact h
 ·rename_i x hx
  exact qDC _ h (hn i x.1 x.2 (h x (List.mem_of_getElem? hx)))
theorem run_all {Q : α × β → Prop} (hn : ∀ i x p, Q (x, p) → ∀ s ∈ next i x p, ∀ z, s.1 = some z → Q (z, s.2)) : ∀ (n i : Nat) {L : List (α × β)}, (∀ x ∈ L, Q x) → ∀ x ∈ run next n i L, Q x
 | 0, _, L, h => h
 | n + 1, i, L, h => by
  unfold run
  split
  ·exact run_all hn n (i + 1) (round_all next hn i h)
  ·exact h
theorem nodup_len {U : List α} : ∀ {l : List α}, l.Nodup → (∀ x ∈ l, x ∈ U) → l.length ≤ U.length := by
 intro l
 induction l generalizing U with
 | nil => intro _ _; simp
 | cons a l ih =>
  intro hn hu
  obtain ⟨h1, h2⟩ := List.nodup_cons.1 hn
  have ha : a ∈ U := hu a (by simp)
  have := ih (U := U.erase a) h2 (fun x hx => by
   have hne : x ≠ a := fun e => h1 (e ▸ hx)
   exact (List.mem_erase_of_ne hne).2 (hu x (by simp [hx])))
  rw [List.length_erase_of_mem ha] at this
  have : 0 < U.length := List.length_pos_of_mem ha
  simp only [List.length_cons]
  omega
end
end Go.Proofs.YtdagdhmcebeadaaDoor.Bfs
namespace Go.Proofs.YtdagdhmcebeadaaDoor
open Go.RowKit Go.Proofs.YtdagdhmcebeadaaDoor.P Go.Proofs.YtdagdhmcebeadaaDoorW.PrintWords Go.Proofs.YtdagdhmcebeadaaDoorW.PrintLast
set_option linter.unusedVariables false
set_option linter.unusedSimpArgs false
abbrev BX' := S27
theorem qnC {a b : BX'} (h0 : a.f0 = b.f0) (h1 : a.f1 = b.f1) (h2 : a.f2 = b.f2) : a = b := by
 cases a; cases b; simp only at h0 h1 h2; subst h0; subst h1; subst h2; rfl
instance bxDec : DecidableEq BX' := fun a b =>
 if h : a.f0 = b.f0 ∧ a.f1 = b.f1 ∧ a.f2 = b.f2 then isTrue (qnC h.1 h.2.1 h.2.2) else isFalse (fun e => h (by subst e; exact ⟨rfl, rfl, rfl⟩))
def mkX (t : Int × Int × Int) : BX' := ⟨t.1, t.2.1, t.2.2⟩
abbrev tipX (b : BX') (d : Nat) : Int × Int × Int := tipB b.f0 b.f1 b.f2 d
def goodX (a : ByteArray) (b : BX') : Bool := boxB a b.f0 b.f1 b.f2
def stepsB (a : ByteArray) (b : BX') (w : ByteArray) : Nat → Nat → List (Option BX' × ByteArray)
 | 0, _ => []
 | n + 1, d => (if canB a (tipX b d) = true then some (mkX (tipX b d)) else none, w ++ dir1 d) :: stepsB a b w n (d + 1)
def nextX (a : ByteArray) (_ : Nat) (b : BX') (w : ByteArray) : List (Option BX' × ByteArray) := stepsB a b w 4 0
def places : List BX' := (List.range 7).flatMap fun (x : Nat) => (List.range 7).flatMap fun (y : Nat) => (List.range 3).map fun (p : Nat) => (⟨(x : Int), (y : Int), (p : Int)⟩ : BX')
theorem places_len : places.length = 147 := by decide +kernel
theorem mem_places {b : BX'} (h0 : 0 ≤ b.f0 ∧ b.f0 < 7) (h1 : 0 ≤ b.f1 ∧ b.f1 < 7) (h2 : 0 ≤ b.f2 ∧ b.f2 < 3) : b ∈ places := by
 obtain ⟨x, y, p⟩ := b
 simp only at h0 h1 h2
 obtain ⟨x, rfl⟩ := Int.eq_ofNat_of_zero_le h0.1
 obtain ⟨y, rfl⟩ := Int.eq_ofNat_of_zero_le h1.1
 obtain ⟨p, rfl⟩ := Int.eq_ofNat_of_zero_le h2.1
 unfold places
 rw [List.mem_flatMap]
 refine ⟨x, List.mem_range.2 (by omega), ?_⟩
 rw [List.mem_flatMap]
 refine ⟨y, List.mem_range.2 (by omega), ?_⟩
 rw [List.mem_map]
 exact ⟨p, List.mem_range.2 (by omega), rfl⟩
theorem good_place {a : ByteArray} (g : Gnd a) {b : BX'} (h : goodX a b = true) : b ∈ places := by
 have g1 := g.w7
 have g2 := g.h7
 obtain ⟨⟨h1, h2⟩, h3, h4⟩ := (qvB a _ _).1 (qHC h)
 have h5 : 0 ≤ b.f2 ∧ b.f2 ≤ 2 := by
  unfold goodX boxB at h
  simp only [Bool.and_eq_true, decide_eq_true_eq] at h
  exact h.1.1
 exact mem_places (by omega) (by omega) (by omega)
theorem steps_len (a : ByteArray) (b : BX') (w : ByteArray) : ∀ (n d : Nat), d + n = 4 → ∀ s ∈ stepsB a b w n d, s.2.size = w.size + 1
 | 0, _, _, s, hs => by cases hs
 | n + 1, d, hd, s, hs => by
  rcases List.mem_cons.1 hs with rfl | hs
  ·show (w ++ dir1 d).size = _
   rw [ByteArray.size_append, qOC d (by omega)]
  ·exact steps_len a b w n (d + 1) (by omega) s hs
theorem qzB (a : ByteArray) (b : BX') (w : ByteArray) : ∀ (n d : Nat), ∀ s ∈ stepsB a b w n d, ∀ z, s.1 = some z → goodX a z = true
 | 0, _, s, hs, z, hz => by cases hs
 | n + 1, d, s, hs, z, hz => by
  rcases List.mem_cons.1 hs with rfl | hs
  ·simp only at hz
   split at hz
   ·rename_i hc
    cases hz
    exact hc
   ·cases hz
  ·exact qzB a b w n (d + 1) s hs z hz
structure Found (a : ByteArray) (L : List (BX' × ByteArray)) : Prop where
 nodup : (L.map Prod.fst).Nodup
 good : ∀ x ∈ L, goodX a x.1 = true
theorem Found.len {a : ByteArray} (g : Gnd a) {L : List (BX' × ByteArray)} (h : Found a L) : L.length ≤ 147 := by
 have := Bfs.nodup_len (U := places) h.nodup (fun x hx => by
  obtain ⟨y, hy, rfl⟩ := List.mem_map.1 hx
  exact good_place g (h.good y hy))
 rw [places_len, List.length_map] at this
 exact this
theorem Found.put {a : ByteArray} {L : List (BX' × ByteArray)} (h : Found a L) (y : Option BX') (p : ByteArray) (hy : ∀ z, y = some z → goodX a z = true) : Found a (Bfs.put L y p) :=
 ⟨Bfs.put_nodup h.nodup y p, Bfs.put_all (Q := fun x => goodX a x.1 = true) h.good y p hy⟩
theorem Found.puts {a : ByteArray} {L : List (BX' × ByteArray)} (h : Found a L) (l : List (Option BX' × ByteArray)) (hl : ∀ s ∈ l, ∀ z, s.1 = some z → goodX a z = true) : Found a (Bfs.puts L l) :=
 ⟨Bfs.puts_nodup l h.nodup, Bfs.qDC (Q := fun x => goodX a x.1 = true) l h.good hl⟩
theorem Found.round {a : ByteArray} {L : List (BX' × ByteArray)} (h : Found a L) (i : Nat) : Found a (Bfs.round (nextX a) i L) :=
 ⟨Bfs.round_nodup _ h.nodup i, Bfs.round_all (nextX a) (Q := fun x => goodX a x.1 = true) (fun i x p _ s hs z hz => qzB a x p 4 0 s hs z hz) i h.good⟩
theorem Found.run {a : ByteArray} {L : List (BX' × ByteArray)} (h : Found a L) (n i : Nat) : Found a (Bfs.run (nextX a) n i L) :=
 ⟨Bfs.run_nodup _ n i h.nodup, Bfs.run_all (nextX a) (Q := fun x => goodX a x.1 = true) (fun i x p _ s hs z hz => qzB a x p 4 0 s hs z hz) n i h.good⟩
theorem rdX (l : List BX') (t : BX') (i : Nat) (h : l[i]? = some t) : qK l (i : Int) = t := by
 unfold qK
 rw [Int.toNat_natCast, List.getD_eq_getElem?_getD, h]; rfl
theorem rdW (l : List ByteArray) (t : ByteArray) (i : Nat) (h : l[i]? = some t) : rdOf ByteArray.empty l (i : Int) = t := by
 unfold rdOf
 rw [Int.toNat_natCast, List.getD_eq_getElem?_getD, h]; rfl
abbrev bxs (L : List (BX' × ByteArray)) : List BX' := L.map Prod.fst
abbrev wds (L : List (BX' × ByteArray)) : List ByteArray := L.map Prod.snd
theorem put_get {L : List (BX' × ByteArray)} {i : Nat} {x : BX' × ByteArray} (h : L[i]? = some x) (y : Option BX') (p : ByteArray) : (Bfs.put L y p)[i]? = some x := by
 obtain ⟨t, ht⟩ := Bfs.put_prefix L y p
 rw [← ht, List.getElem?_append_left (List.getElem?_eq_some_iff.1 h).1]
 exact h
theorem spec_found (csN : List Int) (W H at_ d : Int) (B : List BX') (hB : B.length ≤ 147) (ws : List ByteArray) (z : BX') (R : List BX' × List ByteArray × Bool) :
  ∀ (l : List BX') (j : Nat) (f : Bool), B.drop j = l → j ≤ B.length →
   (∀ f', (f' = (f || decide (z ∈ l))) → Ev (fun k => qZ.l2 k at_ d f' B (B.length : Int) (B.length : Int) W H csN B ws z.f0 z.f1 z.f2) R) →
   Ev (fun k => qZ.l2 k at_ d f B (B.length : Int) (j : Int) W H csN B ws z.f0 z.f1 z.f2) R
 | [], j, f, hd, hj, h => by
  have := Sorts.qRB hd
  obtain rfl : j = B.length := by omega
  exact h f (by simp)
 | b :: l, j, f, hd, hj, h => by
  obtain ⟨hlt, hc, hd'⟩ := Sorts.qHB hd
  have e := rdX B b j (by rw [← hc]; exact List.getElem?_eq_getElem hlt)
  have ih := fun f' hf => spec_found csN W H at_ d B hB ws z R l (j + 1) f' hd' (by omega) hf
  have w : wrap64 ((j : Int) + 1) = ((j + 1 : Nat) : Int) := by unfold wrap64; omega
  clear hd hd' hc
  refine Ev.step (f := fun k => _) (fun k => by rw [qZ.l2]) ?_
  rw [w, e]
  refine Ev.pos (by omega) (Ev.pos (by omega) (Ev.pos (by omega) ?_))
  cases f with
  | true =>
   refine Ev.pos rfl (ih true fun f' hf => h f' ?_)
   rw [hf]; rfl
  | false =>
   refine Ev.neg (by decide) ?_
   have hq : (b.f0 == z.f0 && (b.f1 == z.f1 && b.f2 == z.f2)) = decide (z = b) := by
    by_cases hzb : z = b
    ·subst hzb; simp
    ·rw [decide_eq_false hzb]
     cases hx : (b.f0 == z.f0 && (b.f1 == z.f1 && b.f2 == z.f2)) with
     | false => rfl
     | true =>
      simp only [Bool.and_eq_true, beq_iff_eq] at hx
      exact absurd (qnC hx.1.symm hx.2.1.symm hx.2.2.symm) hzb
   rw [hq]
   refine ih _ fun f' hf => h f' ?_
   rw [hf, Bool.false_or]
   by_cases hzb : z = b
   ·subst hzb; simp
   ·simp [hzb]
theorem qpB {a : ByteArray} (g : Gnd a) (at_ : Nat) (R : List BX' × List ByteArray × Bool) : ∀ (n d : Nat) (L : List (BX' × ByteArray)) (b : BX') (w : ByteArray), d + n = 4 → L[at_]? = some (b, w) → Found a L → w.size ≤ 147 →
  (Ev (fun k => qZ.l0 k ((at_ + 1 : Nat) : Int) (wideT a : Int) (highT a : Int) (numsOf (flatT a.data.toList)) (bxs (Bfs.puts L (stepsB a b w n d))) (wds (Bfs.puts L (stepsB a b w n d)))) R) →
  Ev (fun k => qZ.l1 k (at_ : Int) (d : Int) (wideT a : Int) (highT a : Int) (numsOf (flatT a.data.toList)) (bxs L) (wds L)) R
 | 0, d, L, b, w, hd, hat, hF, hw, h => by
  have hl := hF.len g
  have hlt := (List.getElem?_eq_some_iff.1 hat).1
  have w1 : wrap64 ((at_ : Int) + 1) = ((at_ + 1 : Nat) : Int) := by unfold wrap64; omega
  refine Ev.step (f := fun k => _) (fun k => by rw [qZ.l1]) ?_
  rw [w1]
  refine Ev.neg (by omega) (Ev.neg (by rw [List.length_map]; omega) h)
 | n + 1, d, L, b, w, hd, hat, hF, hw, h => by
  have hl := hF.len g
  have hlt := (List.getElem?_eq_some_iff.1 hat).1
  have w1 : wrap64 ((d : Int) + 1) = ((d + 1 : Nat) : Int) := by unfold wrap64; omega
  have eb := rdX (bxs L) b at_ (by rw [List.getElem?_map, hat]; rfl)
  have ew := rdW (wds L) w at_ (by rw [List.getElem?_map, hat]; rfl)
  have hr := bxRoll_ev g b.f0 b.f1 b.f2 d (by omega)
  have h1 := qOC d (by omega)
  refine Ev.step (f := fun k => _) (fun k => by rw [qZ.l1]) ?_
  rw [w1, eb]
  refine Ev.pos (by omega) (Ev.pos (by omega) (Ev.pos (by rw [List.length_map]; omega) (Ev.bind hr ?_)))
  rw [stepsB] at h
  have hp := fun y hy => hF.put (a := a) y (w ++ dir1 d) hy
  cases hc : canB a (tipX b d) with
  | false =>
   rw [if_neg (by decide)]
   rw [hc, if_neg (by decide)] at h
   refine Ev.neg (by decide) ?_
   exact qpB g at_ R n (d + 1) L b w (by omega) hat hF hw h
  | true =>
   rw [if_pos rfl]
   rw [hc, if_pos rfl] at h
   refine Ev.pos rfl ?_
   show Ev (fun k => qZ.l2 k (at_ : Int) (d : Int) false (bxs L) ((bxs L).length : Int) ((0 : Nat) : Int) (wideT a : Int) (highT a : Int) (numsOf (flatT a.data.toList)) (bxs L) (wds L) (mkX (tipX b d)).f0 (mkX (tipX b d)).f1 (mkX (tipX b d)).f2) R
   refine spec_found _ _ _ _ _ (bxs L) (by rw [List.length_map]; exact hl) (wds L) (mkX (tipX b d)) R (bxs L) 0 false rfl (by omega) fun f' hf => ?_
   rw [Bool.false_or] at hf
   refine Ev.step (f := fun k => _) (fun k => by rw [qZ.l2]) ?_
   rw [w1, ew]
   refine Ev.neg (by omega) ?_
   by_cases hm : mkX (tipX b d) ∈ bxs L
   ·rw [decide_eq_true hm] at hf
    subst hf
    have e : Bfs.put L (some (mkX (tipX b d))) (w ++ dir1 d) = L := Bfs.put_met hm _
    rw [Bfs.puts, e] at h
    exact Ev.pos rfl (qpB g at_ R n (d + 1) L b w (by omega) hat hF hw h)
   ·rw [decide_eq_false hm] at hf
    subst hf
    have e : Bfs.put L (some (mkX (tipX b d))) (w ++ dir1 d) = L ++ [(mkX (tipX b d), w ++ dir1 d)] := Bfs.put_new hm _
    have hF2 := hp (some (mkX (tipX b d))) (fun z hz => by cases hz; exact hc)
    have hg2 := put_get hat (some (mkX (tipX b d))) (w ++ dir1 d)
    rw [Bfs.puts, e] at h
    rw [e] at hF2 hg2
    refine Ev.neg (by decide) (Ev.pos (by rw [List.length_map]; omega) (Ev.pos (by omega) (Ev.pos (by rw [List.length_map]; omega) (Ev.bindc (show qBB.f = some dirsB from rfl) (Ev.pos (by omega) (Ev.pos (by omega) (Ev.pos (by rw [show dirsB.size = 4 from rfl]; omega) ?_)))))))
    rw [Int.toNat_natCast, Int.toNat_natCast]
    refine Ev.pos (by show w.size + (dir1 d).size ≤ _; omega) (Ev.pos (by rw [List.length_map]; omega) ?_)
    have := qpB g at_ R n (d + 1) (L ++ [(mkX (tipX b d), w ++ dir1 d)]) b w (by omega) hg2 hF2 hw h
    rw [show bxs (L ++ [(mkX (tipX b d), w ++ dir1 d)]) = bxs L ++ [mkX (tipX b d)] by simp [bxs], show wds (L ++ [(mkX (tipX b d), w ++ dir1 d)]) = wds L ++ [w ++ dir1 d] by simp [wds]] at this
    exact this
def Short (L : List (BX' × ByteArray)) (n : Nat) : Prop := ∀ x ∈ L, x.2.size ≤ n
theorem Short.round {a : ByteArray} {L : List (BX' × ByteArray)} {i : Nat} (h : Short L i) : Short (Bfs.round (nextX a) i L) (i + 1) := by
 unfold Bfs.round
 split
 ·exact fun x hx => Nat.le_succ_of_le (h x hx)
 ·rename_i x hx
  have hxs := h x (List.mem_of_getElem? hx)
  refine Bfs.qDC (Q := fun y => y.2.size ≤ i + 1) _ (fun y hy => Nat.le_succ_of_le (h y hy)) ?_
  intro s hs z hz
  have := steps_len a x.1 x.2 4 0 rfl s hs
  show s.2.size ≤ _
  omega
theorem qBC {a : ByteArray} {L : List (BX' × ByteArray)} {i : Nat} {b : BX'} {w : ByteArray} (h : L[i]? = some (b, w)) : Bfs.round (nextX a) i L = Bfs.puts L (stepsB a b w 4 0) := by
 unfold Bfs.round; rw [h]; rfl
theorem spec_run {a : ByteArray} (g : Gnd a) : ∀ (n i : Nat) (L : List (BX' × ByteArray)), Found a L → Short L i → i ≤ L.length → 147 ≤ i + n →
  Ev (fun k => qZ.l0 k (i : Int) (wideT a : Int) (highT a : Int) (numsOf (flatT a.data.toList)) (bxs L) (wds L)) (bxs (Bfs.run (nextX a) n i L), wds (Bfs.run (nextX a) n i L), true)
 | 0, i, L, hF, hS, hi, hn => by
  have hl := hF.len g
  refine Ev.step (f := fun k => _) (fun k => by rw [qZ.l0]) ?_
  exact Ev.neg (by rw [List.length_map]; omega) (Ev.now _)
 | n + 1, i, L, hF, hS, hi, hn => by
  have hl := hF.len g
  refine Ev.step (f := fun k => _) (fun k => by rw [qZ.l0]) ?_
  rw [Bfs.run]
  by_cases hlt : i < L.length
  ·rw [if_pos hlt]
   refine Ev.pos (by rw [List.length_map]; omega) ?_
   have hat : L[i]? = some (L[i].1, L[i].2) := List.getElem?_eq_getElem hlt
   have ih := spec_run g n (i + 1) (Bfs.round (nextX a) i L) (hF.round i) hS.round (by have := (Bfs.round_prefix (nextX a) i L).length_le; omega) (by omega)
   rw [qBC hat] at ih
   rw [qBC hat]
   exact qpB g i _ 4 0 L _ _ rfl hat hF (by have := hS _ (List.getElem_mem hlt); omega) ih
  ·rw [if_neg hlt]
   exact Ev.neg (by rw [List.length_map]; omega) (Ev.now _)
def reachX (a : ByteArray) (x y p : Int) : List (BX' × ByteArray) := Bfs.run (nextX a) 147 0 [(⟨x, y, p⟩, ⟨#[]⟩)]
theorem qoB {a : ByteArray} {x y p : Int} (h : boxB a x y p = true) : Found a [(⟨x, y, p⟩, ⟨#[]⟩)] := ⟨by simp, fun z hz => by rw [List.mem_singleton] at hz; subst hz; exact h⟩
theorem short_start (b : BX') : Short [(b, (⟨#[]⟩ : ByteArray))] 0 := fun z hz => by rw [List.mem_singleton] at hz; subst hz; exact Nat.le_refl _
theorem qcC {a : ByteArray} {x y p : Int} (h : askB a x y p = true) : boxB a x y p = true := by
 unfold askB at h
 rw [Bool.and_eq_true] at h
 exact h.2
theorem bxReached_ev (a : ByteArray) (x y p : Int) : ∃ (w h : Int) (cs : List Int), Ev (fun k => qbA.f k a x y p) (if askB a x y p = true then (w, h, cs, bxs (reachX a x y p), wds (reachX a x y p), true) else (w, h, cs, [], [], false)) ∧ (askB a x y p = true → w = (wideT a : Int) ∧ h = (highT a : Int) ∧ cs = numsOf (flatT a.data.toList)) := by
 obtain ⟨w, h, cs, h2, hs⟩ := bxAsked_ev a x y p
 refine ⟨w, h, cs, ?_, hs⟩
 unfold qbA.f
 refine Ev.bind h2 ?_
 cases hb : askB a x y p with
 | false =>
  rw [if_neg (by decide)]
  exact Ev.neg (by simp) (Ev.now _)
 | true =>
  obtain ⟨rfl, rfl, rfl⟩ := hs hb
  rw [if_pos rfl]
  refine Ev.pos rfl ?_
  have := spec_run (qSC (qbB hb)) 147 0 [(⟨x, y, p⟩, ⟨#[]⟩)] (qoB (qcC hb)) (short_start _) (by simp) (by omega)
  unfold qZ.f
  exact Ev.bind this (Ev.now _)
theorem impl_index (z : BX') (B : List BX') (hB : B.length ≤ 147) : ∀ (l : List BX') (j : Nat), B.drop j = l → j ≤ B.length → ∃ r : Int, Ev (fun k => qf.l0 k B (B.length : Int) (j : Int) z.f0 z.f1 z.f2) r ∧ (decide (r ≥ 0) = decide (z ∈ l))
 | [], j, hd, hj => by
  have := Sorts.qRB hd
  refine ⟨-1, Ev.step (f := fun k => _) (fun k => by rw [qf.l0]) ?_, by simp⟩
  exact Ev.neg (by omega) (Ev.now _)
 | b :: l, j, hd, hj => by
  obtain ⟨hlt, hc, hd'⟩ := Sorts.qHB hd
  have e := rdX B b j (by rw [← hc]; exact List.getElem?_eq_getElem hlt)
  obtain ⟨r, h1, h2⟩ := impl_index z B hB l (j + 1) hd' (by omega)
  have w : wrap64 ((j : Int) + 1) = ((j + 1 : Nat) : Int) := by unfold wrap64; omega
  clear hd hd' hc
  by_cases hzb : z = b
  ·subst hzb
   refine ⟨(j : Int), Ev.step (f := fun k => _) (fun k => by rw [qf.l0]) ?_, ?_⟩
   ·rw [w, e]
    exact Ev.pos (by omega) (Ev.pos (by omega) (Ev.pos (by omega) (Ev.pos (by simp) (Ev.now _))))
   ·rw [decide_eq_true (by omega), decide_eq_true (by simp)]
  ·refine ⟨r, Ev.step (f := fun k => _) (fun k => by rw [qf.l0]) ?_, ?_⟩
   ·rw [w, e]
    refine Ev.pos (by omega) (Ev.pos (by omega) (Ev.pos (by omega) (Ev.neg ?_ h1)))
    intro hx
    simp only [Bool.and_eq_true, beq_iff_eq] at hx
    exact hzb (qnC hx.1 hx.2.1 hx.2.2)
   ·rw [h2]
    simp [hzb]
theorem impl_contains (z : BX') (B : List BX') (hB : B.length ≤ 147) : Ev (fun k => qn.f k B z.f0 z.f1 z.f2) (decide (z ∈ B)) := by
 obtain ⟨r, h1, h2⟩ := impl_index z B hB B 0 rfl (by omega)
 unfold qn.f qf.f
 exact Ev.bind h1 (Ev.some_ h2)
theorem quB {a : ByteArray} (g : Gnd a) (at_ : Nat) (R : List BX' × List ByteArray × Bool) : ∀ (n d : Nat) (L : List (BX' × ByteArray)) (b : BX') (w : ByteArray), d + n = 4 → L[at_]? = some (b, w) → Found a L → w.size ≤ 147 →
  (Ev (fun k => qP.l0 k (bxs (Bfs.puts L (stepsB a b w n d))) (wds (Bfs.puts L (stepsB a b w n d))) ((at_ + 1 : Nat) : Int) (rowsT a)) R) →
  Ev (fun k => qP.l1 k (bxs L) (wds L) (at_ : Int) (rowsT a) (d : Int)) R
 | 0, d, L, b, w, hd, hat, hF, hw, h => by
  have hl := hF.len g
  have hlt := (List.getElem?_eq_some_iff.1 hat).1
  have w1 : wrap64 ((at_ : Int) + 1) = ((at_ + 1 : Nat) : Int) := by unfold wrap64; omega
  refine Ev.step (f := fun k => _) (fun k => by rw [qP.l1]) ?_
  rw [w1]
  exact Ev.neg (by omega) h
 | n + 1, d, L, b, w, hd, hat, hF, hw, h => by
  have hl := hF.len g
  have hlt := (List.getElem?_eq_some_iff.1 hat).1
  have w1 : wrap64 ((d : Int) + 1) = ((d + 1 : Nat) : Int) := by unfold wrap64; omega
  have eb := rdX (bxs L) b at_ (by rw [List.getElem?_map, hat]; rfl)
  have ew := rdW (wds L) w at_ (by rw [List.getElem?_map, hat]; rfl)
  have hr := rollBox_ev g b.f0 b.f1 b.f2 d (by omega)
  have h1 := qOC d (by omega)
  refine Ev.step (f := fun k => _) (fun k => by rw [qP.l1]) ?_
  rw [w1, eb, bt_dirs d (by omega), ew]
  refine Ev.pos (by omega) (Ev.pos (by omega) (Ev.pos (by rw [List.length_map]; omega) (Ev.pos (by omega) (Ev.bind hr ?_))))
  rw [stepsB] at h
  have hp := fun y hy => hF.put (a := a) y (w ++ dir1 d) hy
  cases hc : canB a (tipX b d) with
  | false =>
   rw [hc, if_neg (by decide)] at h
   refine Ev.neg (by simp) ?_
   exact quB g at_ R n (d + 1) L b w (by omega) hat hF hw h
  | true =>
   rw [hc, if_pos rfl] at h
   refine Ev.pos rfl ?_
   refine Ev.bind (impl_contains (mkX (tipX b d)) (bxs L) (by rw [List.length_map]; exact hl)) ?_
   by_cases hm : mkX (tipX b d) ∈ bxs L
   ·rw [decide_eq_true hm]
    have e : Bfs.put L (some (mkX (tipX b d))) (w ++ dir1 d) = L := Bfs.put_met hm _
    rw [Bfs.puts, e] at h
    exact Ev.pos rfl (quB g at_ R n (d + 1) L b w (by omega) hat hF hw h)
   ·rw [decide_eq_false hm]
    have e : Bfs.put L (some (mkX (tipX b d))) (w ++ dir1 d) = L ++ [(mkX (tipX b d), w ++ dir1 d)] := Bfs.put_new hm _
    have hF2 := hp (some (mkX (tipX b d))) (fun z hz => by cases hz; exact hc)
    have hg2 := put_get hat (some (mkX (tipX b d))) (w ++ dir1 d)
    rw [Bfs.puts, e] at h
    rw [e] at hF2 hg2
    refine Ev.neg (by decide) (Ev.bindc rfl (Ev.pos (by rw [List.length_map, List.length_singleton]; omega) (Ev.pos (by rw [List.length_map]; omega) (Ev.pos (by omega) (Ev.pos (by omega) ?_)))))
    rw [Int.toNat_natCast, Int.toNat_natCast]
    refine Ev.pos (by show w.size + (dir1 d).size ≤ _; omega) (Ev.bindc rfl (Ev.pos (by rw [List.length_map, List.length_singleton]; omega) ?_))
    have := quB g at_ R n (d + 1) (L ++ [(mkX (tipX b d), w ++ dir1 d)]) b w (by omega) hg2 hF2 hw h
    rw [show bxs (L ++ [(mkX (tipX b d), w ++ dir1 d)]) = bxs L ++ [mkX (tipX b d)] by simp [bxs], show wds (L ++ [(mkX (tipX b d), w ++ dir1 d)]) = wds L ++ [w ++ dir1 d] by simp [wds]] at this
    exact this
theorem impl_run {a : ByteArray} (g : Gnd a) : ∀ (n i : Nat) (L : List (BX' × ByteArray)), Found a L → Short L i → i ≤ L.length → 147 ≤ i + n →
  Ev (fun k => qP.l0 k (bxs L) (wds L) (i : Int) (rowsT a)) (bxs (Bfs.run (nextX a) n i L), wds (Bfs.run (nextX a) n i L), true)
 | 0, i, L, hF, hS, hi, hn => by
  have hl := hF.len g
  refine Ev.step (f := fun k => _) (fun k => by rw [qP.l0]) ?_
  refine Ev.neg (by rw [List.length_map]; omega) (Ev.some_ ?_)
  rw [decide_eq_true (by rw [List.length_map]; omega)]; rfl
 | n + 1, i, L, hF, hS, hi, hn => by
  have hl := hF.len g
  refine Ev.step (f := fun k => _) (fun k => by rw [qP.l0]) ?_
  rw [Bfs.run]
  by_cases hlt : i < L.length
  ·rw [if_pos hlt]
   refine Ev.pos (by rw [List.length_map]; omega) ?_
   have hat : L[i]? = some (L[i].1, L[i].2) := List.getElem?_eq_getElem hlt
   have ih := impl_run g n (i + 1) (Bfs.round (nextX a) i L) (hF.round i) hS.round (by have := (Bfs.round_prefix (nextX a) i L).length_le; omega) (by omega)
   rw [qBC hat] at ih
   rw [qBC hat]
   exact quB g i _ 4 0 L _ _ rfl hat hF (by have := hS _ (List.getElem_mem hlt); omega) ih
  ·rw [if_neg hlt]
   refine Ev.neg (by rw [List.length_map]; omega) (Ev.some_ ?_)
   rw [decide_eq_true (by rw [List.length_map]; omega)]
theorem boxWords_ev (a : ByteArray) (x y p : Int) (ha : a.size ≤ 1048576) : Ev (fun k => qP.f k a x y p) (if askB a x y p = true then (bxs (reachX a x y p), wds (reachX a x y p), true) else ([], [], false)) := by
 obtain ⟨rows, h1, hr⟩ := onGround_ev a x y p ha
 unfold qP.f
 refine Ev.bind h1 ?_
 cases hb : askB a x y p with
 | false =>
  rw [if_neg (by decide)]
  exact Ev.neg (by simp) (Ev.now _)
 | true =>
  have e := hr hb
  subst e
  rw [if_pos rfl]
  refine Ev.pos rfl ?_
  exact impl_run (qSC (qbB hb)) 147 0 [(⟨x, y, p⟩, ⟨#[]⟩)] (qoB (qcC hb)) (short_start _) (by simp) (by omega)
theorem reachX_found {a : ByteArray} {x y p : Int} (h : askB a x y p = true) : Found a (reachX a x y p) := (qoB (qcC h)).run _ _
theorem reachX_len {a : ByteArray} {x y p : Int} (h : askB a x y p = true) : (reachX a x y p).length ≤ 147 := (reachX_found h).len (qSC (qbB h))
def rankX (b : BX') : Int := (b.f1 * 7 + b.f0) * 3 + b.f2
def InX (b : BX') : Prop := (0 ≤ b.f0 ∧ b.f0 < 7) ∧ (0 ≤ b.f1 ∧ b.f1 < 7) ∧ 0 ≤ b.f2 ∧ b.f2 < 3
theorem good_in {a : ByteArray} (g : Gnd a) {b : BX'} (h : goodX a b = true) : InX b := by
 have g1 := g.w7
 have g2 := g.h7
 obtain ⟨⟨h1, h2⟩, h3, h4⟩ := (qvB a _ _).1 (qHC h)
 have h5 : 0 ≤ b.f2 ∧ b.f2 ≤ 2 := by
  unfold goodX boxB at h
  simp only [Bool.and_eq_true, decide_eq_true_eq] at h
  exact h.1.1
 exact ⟨by omega, by omega, by omega⟩
theorem rank_eq {b : BX'} (hb : InX b) : qcA.f b.f0 b.f1 b.f2 = some (rankX b) := by
 unfold InX at hb
 unfold qcA.f rankX
 have w1 : wrap64 (b.f1 * 7) = b.f1 * 7 := by unfold wrap64; omega
 have w2 : wrap64 (b.f1 * 7 + b.f0) = b.f1 * 7 + b.f0 := by unfold wrap64; omega
 have w3 : wrap64 ((b.f1 * 7 + b.f0) * 3) = (b.f1 * 7 + b.f0) * 3 := by unfold wrap64; omega
 have w4 : wrap64 ((b.f1 * 7 + b.f0) * 3 + b.f2) = (b.f1 * 7 + b.f0) * 3 + b.f2 := by unfold wrap64; omega
 rw [w1, w2, w3, w4]
def z0 : BX' := ⟨0, 0, 0⟩
def boxAt (B : List BX') (i : Int) : BX' := B.getD i.toNat z0
def ltI (B : List BX') (i j : Int) : Bool := decide (rankX (boxAt B i) < rankX (boxAt B j))
def ltX (b c : BX') : Bool := decide (rankX b < rankX c)
theorem qWC (B : List BX') (i : Int) : qK B i = boxAt B i := rfl
theorem boxAt_get (B : List BX') (i : Nat) {b : BX'} (h : B[i]? = some b) : boxAt B (i : Int) = b := by
 unfold boxAt
 rw [Int.toNat_natCast, List.getD_eq_getElem?_getD, h]; rfl
theorem boxAt_mem (B : List BX') (i : Int) (h0 : 0 ≤ i) (h1 : i < (B.length : Int)) : boxAt B i ∈ B := by
 have h : i.toNat < B.length := by omega
 unfold boxAt
 rw [List.getD_eq_getElem?_getD, List.getElem?_eq_getElem h]
 exact List.getElem_mem h
theorem own_eq (l : List Int) (h : l.length ≤ 1000) : qeA.f l = some l := by
 unfold qeA.f
 simp only [Option.bind_some, List.length_nil, List.nil_append]
 rw [if_pos (by omega)]
theorem order_ins (B : List BX') (ws : List ByteArray) (hB : ∀ b ∈ B, InX b) (hn : B.length ≤ 147) (at_ : Nat) (hat : at_ < B.length) (acc : List Int) (hacc : ∀ i ∈ acc, 0 ≤ i ∧ i < (B.length : Int)) (hlen : acc.length ≤ 147) (R : List Int) :
  ∀ (rest : List Int) (j : Nat), acc.drop j = rest → j ≤ acc.length → Sorts.less (ltI B) (at_ : Int) acc = j + Sorts.less (ltI B) (at_ : Int) rest →
   Ev (fun k => qb.l0 k (Sorts.ins (ltI B) (at_ : Int) acc) B (B.length : Int) ((at_ + 1 : Nat) : Int) B ws) R →
   Ev (fun k => qb.l1 k acc (at_ : Int) (j : Int) B (B.length : Int) (at_ : Int) B ws (boxAt B (at_ : Int)).f0 (boxAt B (at_ : Int)).f1 (boxAt B (at_ : Int)).f2) R
 | [], j, hd, hj, hs, h => by
  have hjl := Sorts.qRB hd
  have HS := Lib.hid hs
  clear hs hd
  have w : wrap64 ((at_ : Int) + 1) = ((at_ + 1 : Nat) : Int) := by unfold wrap64; omega
  have hs' : Sorts.less (ltI B) (at_ : Int) acc = j := HS.out
  rw [Sorts.qkC, hs'] at h
  clear hs'
  refine Ev.step (f := fun k => _) (fun k => by rw [qb.l1]) ?_
  rw [w]
  refine Ev.neg (by omega) (Ev.pos (by omega) (Ev.pos (by omega) ?_))
  rw [Int.toNat_natCast]
  refine Ev.bindc (own_eq _ (by rw [List.length_take]; omega)) (Ev.pos (by rw [List.length_take]; omega) (Ev.bindc rfl (Ev.bindc rfl (Ev.pos (by rw [List.length_append, List.length_take, List.length_drop, List.length_singleton]; omega) ?_))))
  rw [List.append_assoc]
  exact h
 | x :: rest, j, hd, hj, hs, h => by
  obtain ⟨hlt, hc, hd'⟩ := Sorts.qHB hd
  have hx := hacc x (by rw [← hc]; exact List.getElem_mem _)
  have ex := rd_is acc j hlt hc
  have HS := Lib.hid hs
  clear hc hd hs
  have w1 : wrap64 ((j : Int) + 1) = ((j + 1 : Nat) : Int) := by unfold wrap64; omega
  have w : wrap64 ((at_ : Int) + 1) = ((at_ + 1 : Nat) : Int) := by unfold wrap64; omega
  have r1 := rank_eq (hB _ (boxAt_mem B x hx.1 hx.2))
  have r2 := rank_eq (hB _ (boxAt_mem B (at_ : Int) (by omega) (by omega)))
  refine Ev.step (f := fun k => _) (fun k => by rw [qb.l1]) ?_
  rw [w, w1, ex, qWC]
  refine Ev.pos (by omega) (Ev.pos (by omega) (Ev.pos (by omega) (Ev.pos (by omega) (Ev.bindc r1 (Ev.bindc r2 ?_)))))
  by_cases hlt2 : rankX (boxAt B x) < rankX (boxAt B (at_ : Int))
  ·refine Ev.pos hlt2 (order_ins B ws hB hn at_ hat acc hacc hlen R rest (j + 1) hd' (by omega) ?_ h)
   have e : ltI B x (at_ : Int) = true := decide_eq_true hlt2
   rw [HS.out, Sorts.less, if_pos e]; omega
  ·refine Ev.neg hlt2 ?_
   have e : ltI B x (at_ : Int) = false := decide_eq_false hlt2
   have hs' : Sorts.less (ltI B) (at_ : Int) acc = j := by
    rw [HS.out, Sorts.less, e]; simp
   rw [Sorts.qkC, hs'] at h
   clear hs'
   refine Ev.pos (by omega) ?_
   rw [Int.toNat_natCast]
   refine Ev.bindc (own_eq _ (by rw [List.length_take]; omega)) (Ev.pos (by rw [List.length_take]; omega) (Ev.bindc rfl (Ev.bindc rfl (Ev.pos (by rw [List.length_append, List.length_take, List.length_drop, List.length_singleton]; omega) ?_))))
   rw [List.append_assoc]
   exact h
theorem order_run (B : List BX') (ws : List ByteArray) (hB : ∀ b ∈ B, InX b) (hn : B.length ≤ 147) : ∀ (d at_ : Nat) (acc : List Int), B.length = at_ + d → (∀ i ∈ acc, 0 ≤ i ∧ i < (B.length : Int)) → acc.length = at_ →
  Ev (fun k => qb.l0 k acc B (B.length : Int) (at_ : Int) B ws) (Sorts.insAll (ltI B) acc ((List.range' at_ d).map fun (i : Nat) => (i : Int)))
 | 0, at_, acc, hd, hacc, hl => by
  refine Ev.step (f := fun k => _) (fun k => by rw [qb.l0]) ?_
  exact Ev.neg (by omega) (Ev.now _)
 | d + 1, at_, acc, hd, hacc, hl => by
  refine Ev.step (f := fun k => _) (fun k => by rw [qb.l0]) ?_
  refine Ev.pos (by omega) (Ev.pos (by omega) (Ev.pos (by omega) ?_))
  rw [qWC, List.range'_succ, List.map_cons, Sorts.insAll]
  have hp := Sorts.qGC (ltI B) (at_ : Int) acc
  have ih := order_run B ws hB hn d (at_ + 1) (Sorts.ins (ltI B) (at_ : Int) acc) (by omega) (fun i hi => by
   rcases List.mem_cons.1 (hp.mem_iff.1 hi) with rfl | hi
   ·omega
   ·exact hacc i hi) (by rw [hp.length_eq, List.length_cons, hl])
  exact order_ins B ws hB hn at_ (by omega) acc hacc (by omega) _ acc 0 rfl (by omega) (by omega) ih
def orderI (B : List BX') : List Int := Sorts.insAll (ltI B) [] ((List.range' 0 B.length).map fun (i : Nat) => (i : Int))
theorem order_ev (B : List BX') (ws : List ByteArray) (hB : ∀ b ∈ B, InX b) (hn : B.length ≤ 147) : Ev (fun k => qb.f k B ws) (orderI B) := by
 unfold qb.f orderI
 exact order_run B ws hB hn B.length 0 [] (by omega) (by simp) rfl
theorem orderI_perm (B : List BX') : (orderI B).Perm ((List.range' 0 B.length).map fun (i : Nat) => (i : Int)) := by
 have := Sorts.qnB (ltI B) ((List.range' 0 B.length).map fun (i : Nat) => (i : Int)) []
 rw [List.append_nil] at this
 exact this
theorem orderI_mem {B : List BX'} {i : Int} (h : i ∈ orderI B) : 0 ≤ i ∧ i < (B.length : Int) := by
 obtain ⟨n, hn, rfl⟩ := List.mem_map.1 ((orderI_perm B).mem_iff.1 h)
 rw [List.mem_range'_1] at hn
 omega
theorem orderI_length (B : List BX') : (orderI B).length = B.length := by rw [(orderI_perm B).length_eq]; simp
theorem map_idx (B : List BX') : ((List.range' 0 B.length).map fun (i : Nat) => (i : Int)).map (boxAt B) = B := by
 rw [List.map_map]
 apply List.ext_getElem
 ·simp
 ·intro i h1 h2
  simp only [List.getElem_map, List.getElem_range', Function.comp]
  have : 0 + 1 * i = i := by omega
  rw [this]
  exact boxAt_get B i (List.getElem?_eq_getElem h2)
theorem ins_map {α β : Type} (f : α → β) (lt : β → β → Bool) (x : α) : ∀ l : List α, (Sorts.ins (fun a b => lt (f a) (f b)) x l).map f = Sorts.ins lt (f x) (l.map f)
 | [] => rfl
 | y :: l => by
  unfold Sorts.ins
  by_cases h : lt (f y) (f x) = true
  ·rw [if_pos h]
   show f y :: (Sorts.ins (fun a b => lt (f a) (f b)) x l).map f = (if lt (f y) (f x) = true then f y :: Sorts.ins lt (f x) (l.map f) else f x :: f y :: l.map f)
   rw [if_pos h, ins_map f lt x l]
  ·rw [if_neg h]
   show f x :: f y :: l.map f = (if lt (f y) (f x) = true then f y :: Sorts.ins lt (f x) (l.map f) else f x :: f y :: l.map f)
   rw [if_neg h]
theorem insAll_map {α β : Type} (f : α → β) (lt : β → β → Bool) : ∀ (l acc : List α), (Sorts.insAll (fun a b => lt (f a) (f b)) acc l).map f = Sorts.insAll lt (acc.map f) (l.map f)
 | [], acc => rfl
 | x :: l, acc => by
  rw [Sorts.insAll, insAll_map f lt l, ins_map, List.map_cons, Sorts.insAll]
theorem orderI_boxes (B : List BX') : (orderI B).map (boxAt B) = Sorts.insAll ltX [] B := by
 unfold orderI
 have := insAll_map (boxAt B) ltX ((List.range' 0 B.length).map fun (i : Nat) => (i : Int)) []
 rw [map_idx] at this
 exact this
theorem weakX : Sorts.Weak ltX := Sorts.Weak.of_rank rankX
def ordX (b c : BX') : Int := lexI [b.f1, b.f0, b.f2] [c.f1, c.f0, c.f2]
theorem ordX_neg {b c : BX'} (hb : InX b) (hc : InX c) : ordX b c < 0 ↔ rankX b < rankX c := by
 unfold InX at hb hc
 unfold ordX rankX
 simp only [lexI]
 have c1 := qkB b.f1 c.f1
 have c2 := qkB b.f0 c.f0
 have c3 := qkB b.f2 c.f2
 have d1 := qXB b.f1 c.f1
 have d2 := qXB b.f0 c.f0
 have d3 := qXB b.f2 c.f2
 generalize cmpI b.f1 c.f1 = u at *
 generalize cmpI b.f0 c.f0 = v at *
 generalize cmpI b.f2 c.f2 = z at *
 split
 ·split
  ·split <;> omega
  ·omega
 ·omega
abbrev XB := S27
theorem rdXB (l : List XB) (i : Nat) (h : i < l.length) : qK l (i : Int) = l[i] := by
 unfold qK
 rw [Int.toNat_natCast, List.getD_eq_getElem?_getD, List.getElem?_eq_getElem h]; rfl
theorem rdXB_set (l : List XB) (i : Nat) (v : XB) (h : i < l.length) : qK (l.set i v) (i : Int) = v := by
 rw [rdXB _ i (by rw [List.length_set]; exact h), List.getElem_set_self]
theorem eqBox_rfl (a b c : Int) : qGB.f a b c a b c = some true := by
 unfold qGB.f
 simp
theorem eqBoxS_loop (a : List XB) (ha : a.length ≤ 140737488355328) (d : Nat) : ∀ i : Nat, i ≤ a.length → a.length - i = d → Ev (fun k => qj.l0 k a a (i : Int)) true := by
 induction d with
 | zero =>
  intro i hi hd
  exact Ev.step (f := fun k => _) (fun k => by rw [qj.l0]) (Ev.neg (by omega) (Ev.now _))
 | succ d ih =>
  intro i hi hd
  refine Ev.step (f := fun k => _) (fun k => by rw [qj.l0]) (Ev.pos (by omega) (Ev.pos (by omega) (Ev.pos (by omega) (Ev.bindc (eqBox_rfl _ _ _) (Ev.pos rfl ?_)))))
  rw [show wrap64 ((i : Int) + 1) = ((i + 1 : Nat) : Int) by unfold wrap64; omega]
  exact ih (i + 1) (by omega) (by omega)
theorem eqBoxS_refl (a : List XB) (ha : a.length ≤ 140737488355328) : Ev (fun k => qj.f k a a) true := by
 unfold qj.f
 exact Ev.pos rfl (eqBoxS_loop a ha a.length 0 (by omega) (by omega))
def markX (j : Nat) : XB := ⟨1 + 3 * (j : Int), 2 + 3 * (j : Int), 3 + 3 * (j : Int)⟩
def marksX (n : Nat) : List XB := (List.range n).map markX
theorem qgA (n : Nat) : (marksX n).length = n := by simp [marksX]
theorem marksX_succ (n : Nat) : marksX (n + 1) = marksX n ++ [markX n] := by simp [marksX, List.range_succ]
theorem markBoxS_loop (l : List XB) (ha : l.length ≤ 2000000) (d : Nat) : ∀ i : Nat, i ≤ l.length → l.length - i = d →
  Ev (fun k => qx.l0 k (marksX i ++ l.drop i) (1 + 3 * (i : Int)) (i : Int)) (1 + 3 * (l.length : Int), marksX l.length) := by
 induction d with
 | zero =>
  intro i hi hd
  obtain rfl : i = l.length := by omega
  refine Ev.step (f := fun k => _) (fun k => by rw [qx.l0]) (Ev.neg ?_ (Ev.some_ ?_))
  ·simp [qgA]
  ·simp
 | succ d ih =>
  intro i hi hd
  refine Ev.step (f := fun k => _) (fun k => by rw [qx.l0]) (Ev.pos ?_ (Ev.pos (by omega) ?_))
  ·simp [qgA]; omega
  ·have hl : i < (marksX i ++ l.drop i).length := by simp [qgA]; omega
   have w0 : wrap64 ((i : Int) + 1) = ((i + 1 : Nat) : Int) := by unfold wrap64; omega
   have w1 : wrap64 (1 + 3 * (i : Int) + 1) = 2 + 3 * (i : Int) := by unfold wrap64; omega
   have w2 : wrap64 (2 + 3 * (i : Int) + 1) = 3 + 3 * (i : Int) := by unfold wrap64; omega
   have w3 : wrap64 (3 + 3 * (i : Int) + 1) = 1 + 3 * ((i + 1 : Nat) : Int) := by unfold wrap64; omega
   have e : (marksX i ++ l.drop i).set i (markX i) = marksX (i + 1) ++ l.drop (i + 1) := by
    rw [List.set_append_right _ _ (by rw [qgA]; omega), qgA, Nat.sub_self, List.drop_eq_getElem_cons (show i < l.length by omega), List.set_cons_zero, marksX_succ, List.append_assoc]
    rfl
   simp only [Option.bind_some, Int.toNat_natCast, w0, w1, w2, w3]
   simp only [rdXB_set _ _ _ hl, List.set_set]
   have := ih (i + 1) (by omega) (by omega)
   rw [← e] at this
   exact this
theorem markBoxS_ev (l : List XB) (ha : l.length ≤ 2000000) : Ev (fun k => qx.f k l 1) (1 + 3 * (l.length : Int), marksX l.length) := by
 have := markBoxS_loop l ha l.length 0 (by omega) (by omega)
 simpa [marksX, qx.f] using this
theorem heldBoxS_loop (n : Nat) (hn : n ≤ 2000000) (d : Nat) : ∀ i : Nat, i ≤ n → n - i = d → Ev (fun k => qr.l0 k (marksX n) (1 + 3 * (i : Int)) (i : Int)) (1 + 3 * (n : Int)) := by
 induction d with
 | zero =>
  intro i hi hd
  obtain rfl : i = n := by omega
  exact Ev.step (f := fun k => _) (fun k => by rw [qr.l0]) (Ev.neg (by rw [qgA]; omega) (Ev.now _))
 | succ d ih =>
  intro i hi hd
  have w0 : wrap64 ((i : Int) + 1) = ((i + 1 : Nat) : Int) := by unfold wrap64; omega
  have w1 : wrap64 (1 + 3 * (i : Int) + 1) = 2 + 3 * (i : Int) := by unfold wrap64; omega
  have w2 : wrap64 (2 + 3 * (i : Int) + 1) = 3 + 3 * (i : Int) := by unfold wrap64; omega
  have w3 : wrap64 (3 + 3 * (i : Int) + 1) = 1 + 3 * ((i + 1 : Nat) : Int) := by unfold wrap64; omega
  have hr : qK (marksX n) (i : Int) = markX i := by
   rw [rdXB _ i (by rw [qgA]; omega)]
   unfold marksX
   rw [List.getElem_map, List.getElem_range]
  refine Ev.step (f := fun k => _) (fun k => by rw [qr.l0]) (Ev.pos (by rw [qgA]; omega) (Ev.pos (by omega) ?_))
  simp only [w0, w1, w2, w3, hr]
  exact Ev.pos rfl (Ev.pos rfl (Ev.pos rfl (ih (i + 1) (by omega) (by omega))))
theorem heldBoxS_ev (n : Nat) (hn : n ≤ 2000000) : Ev (fun k => qr.f k (marksX n) 1) (1 + 3 * (n : Int)) := by
 have := heldBoxS_loop n hn n 0 (by omega) (by omega)
 simpa [qr.f] using this
end Go.Proofs.YtdagdhmcebeadaaDoor
namespace Go.Proofs.YtdagdhmcebeadaaDoor.Pure
open Go.RowKit Go.Proofs Go.Proofs.YtdagdhmcebeadaaDoor.P Go.Proofs.YtdagdhmcebeadaaDoorW.PrintWords Go.Proofs.YtdagdhmcebeadaaDoorW.PrintLast
set_option linter.unusedVariables false
set_option linter.unusedSimpArgs false
theorem sp_loop (B : List BX') (ws : List ByteArray) (hn : B.length ≤ 147) (O : List Int) (hO : ∀ i ∈ O, 0 ≤ i ∧ i < (B.length : Int)) (hOl : O.length ≤ 147) : ∀ (l : List Int) (j : Nat) (acc : List BX'), O.drop j = l → j ≤ O.length → acc.length ≤ j →
  Ev (fun k => ql.l0 k acc O (O.length : Int) (j : Int) B ws) (acc ++ l.map (boxAt B), true)
 | [], j, acc, hd, hj, ha => by
  have := Sorts.qRB hd
  refine Ev.step (f := fun k => _) (fun k => by rw [ql.l0]) ?_
  rw [List.map_nil, List.append_nil]
  exact Ev.neg (by omega) (Ev.now _)
 | i :: l, j, acc, hd, hj, ha => by
  obtain ⟨hlt, hc, hd'⟩ := Sorts.qHB hd
  have hi := hO i (by rw [← hc]; exact List.getElem_mem _)
  have ei := rd_is O j hlt hc
  have ih := fun acc' ha' => sp_loop B ws hn O hO hOl l (j + 1) acc' hd' (by omega) ha'
  clear hd hd' hc
  have w : wrap64 ((j : Int) + 1) = ((j + 1 : Nat) : Int) := by unfold wrap64; omega
  refine Ev.step (f := fun k => _) (fun k => by rw [ql.l0]) ?_
  rw [w, ei, qWC, List.map_cons]
  refine Ev.pos (by omega) (Ev.pos (by omega) (Ev.pos (by omega) (Ev.pos (by omega) (Ev.pos (by omega) (Ev.pos (by omega) ?_)))))
  have := ih (acc ++ [boxAt B i]) (by rw [List.length_append, List.length_singleton]; omega)
  rw [List.append_assoc] at this
  exact this
theorem weakB : Sorts.Weak (ltOf ordB) where
 asym := fun a b h => by rw [ltB_true] at h; rw [qeB]; omega
 trans := fun a b c h1 h2 => by rw [qeB] at *; omega
theorem same_order (B : List BX') (hB : ∀ b ∈ B, InX b) : (B.mergeSort fun x y => !(ltOf ordB) y x) = Sorts.insAll ltX [] B := by
 have hp : (Sorts.insAll ltX [] B).Perm B := by
  have := Sorts.qnB ltX B []
  rwa [List.append_nil] at this
 have h1 : (Sorts.insAll ltX [] B).Pairwise (fun a b => (ltOf ordB) b a = false) := by
  refine List.Pairwise.imp_of_mem ?_ (Sorts.insAll_sorted weakX B [] List.Pairwise.nil)
  intro u v hu hv huv
  have hub := hB u (hp.mem_iff.1 hu)
  have hvb := hB v (hp.mem_iff.1 hv)
  have h2 : ¬ rankX v < rankX u := by simpa [ltX] using huv
  unfold ltOf
  rw [decide_eq_false_iff_not]
  exact fun h3 => h2 ((ordX_neg hvb hub).1 h3)
 refine Sorts.one (lt := ltOf ordB) (Sorts.sorted_sorted weakB B) h1 ((Sorts.sorted_perm _ B).trans hp.symm) ?_
 intro a _ b _ h3 h4
 exact totB a b h3 h4
theorem both (a : ByteArray) (x y p : Int) (ha : a.size ≤ 1048576) : ∃ r : List BX' × Bool, r.1.length ≤ 147 ∧ Ev (fun k => ql.f k a x y p) r ∧ Ev (fun k => qw.f k a x y p) r := by
 have h1 := boxWords_ev a x y p ha
 obtain ⟨w, h, cs, h2, h2'⟩ := bxReached_ev a x y p
 unfold ql.f qw.f
 cases hb : askB a x y p with
 | false =>
  rw [hb, if_neg (by decide)] at h1 h2
  exact ⟨([], false), by simp, Ev.bind h2 (Ev.neg (by simp) (Ev.now _)), Ev.bind h1 (Ev.neg (by simp) (Ev.now _))⟩
 | true =>
  rw [hb, if_pos rfl] at h1 h2
  have g := qSC (qbB hb)
  have hF := reachX_found hb
  have hn := reachX_len hb
  have hI : ∀ b ∈ bxs (reachX a x y p), InX b := fun b hm => by
   obtain ⟨z, hz, rfl⟩ := List.mem_map.1 hm
   exact good_in g (hF.good z hz)
  generalize reachX a x y p = L at *
  have hnb : (bxs L).length ≤ 147 := by rw [List.length_map]; exact hn
  have ho := order_ev (bxs L) (wds L) hI hnb
  have hOl := orderI_length (bxs L)
  have s1 := sp_loop (bxs L) (wds L) hnb (orderI (bxs L)) (fun i hi => orderI_mem hi) (by omega) (orderI (bxs L)) 0 [] rfl (by omega) (Nat.le_refl _)
  rw [List.nil_append, orderI_boxes, ← same_order (bxs L) hI] at s1
  have s2 : qUB.f (bxs L) = some ((bxs L).mergeSort fun x y => !(ltOf ordB) y x) := by unfold qUB.f; rw [if_pos (by omega)]
  refine ⟨((bxs L).mergeSort (fun x y => !(ltOf ordB) y x), true), by rw [List.length_mergeSort]; exact hnb, Ev.bind h2 (Ev.pos rfl (Ev.bind ho s1)), Ev.bind h1 (Ev.pos rfl (Ev.bindc s2 (Ev.now _)))⟩
theorem FnExactBoxesReached : qM.Pure := by
 intro a x y p _ _ _ _
 refine Ev.rounds (r := true) ?_
 unfold qM.f qSA.f
 simp only [Option.bind_some]
 by_cases ha : (a.size : Int) > 1048576
 ·exact Ev.pos ha (Ev.now _)
 refine Ev.neg ha ?_
 obtain ⟨r, hl0, hs, hi⟩ := both a x y p (by omega)
 have hl : r.1.length ≤ 140737488355328 := by omega
 have hl2 : r.1.length ≤ 2000000 := by omega
 refine Ev.bind hs (Ev.bind hi (Ev.bind (eqBoxS_refl _ hl) (Ev.pos rfl ?_)))
 refine Ev.step (f := fun k => _) (fun k => by rw [qM.j0]) (Ev.neg (by simp) ?_)
 refine Ev.bind (markBoxS_ev _ hl2) (Ev.bind (heldBoxS_ev _ hl2) (Ev.neg (by omega) (Ev.pos rfl ?_)))
 unfold qSA.f
 simp only [Option.bind_some]
 refine Ev.bind hi (Ev.bind (eqBoxS_refl _ hl) (Ev.pos rfl ?_))
 refine Ev.step (f := fun k => _) (fun k => by rw [qM.j1]) (Ev.neg (by simp) ?_)
 exact Ev.bind (heldBoxS_ev _ hl2) (Ev.neg (by omega) (Ev.pos rfl (Ev.now _)))
end Go.Proofs.YtdagdhmcebeadaaDoor.Pure
