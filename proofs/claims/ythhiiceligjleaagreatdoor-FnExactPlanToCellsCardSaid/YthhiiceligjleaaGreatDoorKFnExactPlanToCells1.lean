/- The program's PlanToCells returns what the reference's returns, for all texts, dice and cells (the law lets longer ones by). No further condition. -/
import Derived.Test.YthhiiceligjleaaGreatDoorKFnExactPlanToCells0
import Derived.StillTailTactics

namespace Go.Proofs.YthhiiceligjleaaGreatDoor.P
open Go.RowKit Go.Proofs.YthhiiceligjleaaGreatDoorW.PrintWords Go.Proofs.YthhiiceligjleaaGreatDoorW.PrintLast Go.Proofs.YthhiiceligjleaaGreatDoorW.PrintMore
attribute [local go_sem] qh qf qr qq qZ qY qg qe
set_option linter.unusedVariables false
set_option linter.unusedSimpArgs false
def qyB.f (a0_0 : Int) (a0_1 : Int) (a0_2 : Int) (a0_3 : Int) (a0_4 : Int) (a0_5 : Int) (a1_0 : Int) (a1_1 : Int) (a1_2 : Int) (a1_3 : Int) (a1_4 : Int) (a1_5 : Int) : Option (Bool) := if a0_0 = a1_0 then (if a0_1 = a1_1 then (if a0_2 = a1_2 then (if a0_3 = a1_3 then (if a0_4 = a1_4 then (if a0_5 = a1_5 then (some true) else (some false)) else (some false)) else (some false)) else (some false)) else (some false)) else (some false)
set_option maxHeartbeats 8000000 in
set_option maxRecDepth 100000 in
theorem qyB.calls (a0_0 : Int) (a0_1 : Int) (a0_2 : Int) (a0_3 : Int) (a0_4 : Int) (a0_5 : Int) (a1_0 : Int) (a1_1 : Int) (a1_2 : Int) (a1_3 : Int) (a1_4 : Int) (a1_5 : Int) (r : Bool) (w : World) (h : qyB.f a0_0 a0_1 a0_2 a0_3 a0_4 a0_5 a1_0 a1_1 a1_2 a1_3 a1_4 a1_5 = some r) :
  Calls Tryz.prog 56 #[.agg #[.int .i64 a0_0, .int .i64 a0_1, .int .i64 a0_2, .int .i64 a0_3, .int .i64 a0_4, .int .i64 a0_5], .agg #[.int .i64 a1_0, .int .i64 a1_1, .int .i64 a1_2, .int .i64 a1_3, .int .i64 a1_4, .int .i64 a1_5]] w fun e w' => e = .returned (.bool r) ∧ Below w.heap.size w w' := by
 have hu51 := Tryz.underlying51
 have HB := aM (Below.refl w.heap.size w)
 have H : (if a0_0 = a1_0 then (if a0_1 = a1_1 then (if a0_2 = a1_2 then (if a0_3 = a1_3 then (if a0_4 = a1_4 then (if a0_5 = a1_5 then (some true) else (some false)) else (some false)) else (some false)) else (some false)) else (some false)) else (some false)) = some r := h
 clear h
 by_cases c3 : a0_0 = a1_0
 ·rw [if_pos c3] at H
  have c3b0 := beq_iff_eq.mpr c3
  have c3b1 := bne_eq_false_iff_eq.mpr c3
  clear c3
  by_cases c4 : a0_1 = a1_1
  ·rw [if_pos c4] at H
   have c4b0 := beq_iff_eq.mpr c4
   have c4b1 := bne_eq_false_iff_eq.mpr c4
   clear c4
   by_cases c5 : a0_2 = a1_2
   ·rw [if_pos c5] at H
    have c5b0 := beq_iff_eq.mpr c5
    have c5b1 := bne_eq_false_iff_eq.mpr c5
    clear c5
    by_cases c6 : a0_3 = a1_3
    ·rw [if_pos c6] at H
     have c6b0 := beq_iff_eq.mpr c6
     have c6b1 := bne_eq_false_iff_eq.mpr c6
     clear c6
     by_cases c7 : a0_4 = a1_4
     ·rw [if_pos c7] at H
      have c7b0 := beq_iff_eq.mpr c7
      have c7b1 := bne_eq_false_iff_eq.mpr c7
      clear c7
      by_cases c8 : a0_5 = a1_5
      ·rw [if_pos c8] at H
       have c8b0 := beq_iff_eq.mpr c8
       have c8b1 := bne_eq_false_iff_eq.mpr c8
       clear c8
       obtain rfl := Option.some.inj H
       go_enter Tryz.func56, Tryz.ntmps56
       go_wp2_with (first | ((with_reducible refine qH (N := 2) rfl ?_); refine bE (N := 2) (cs := #[.int .i64 a0_0, .int .i64 a0_1, .int .i64 a0_2, .int .i64 a0_3, .int .i64 a0_4, .int .i64 a0_5]) (t := 51) ?_; intro gb483 hg w9 hbox hb; have BK483 := aM (hbox); have GW483 := aM ((gg hg)); have GE483 := aM ((gg hg)); replace HB := aM (qB bl hb); clear hb hbox hg) | ((with_reducible refine qH (N := 3) rfl ?_); refine bE (N := 3) (cs := #[.int .i64 a1_0, .int .i64 a1_1, .int .i64 a1_2, .int .i64 a1_3, .int .i64 a1_4, .int .i64 a1_5]) (t := 51) ?_; intro gb484 hg w10 hbox hb; have BK484 := aM (hbox); have GW484 := aM ((gg hg)); have GE484 := aM ((gg hg)); have NB483_484 := aM ((nl BK483 hg)); have NB484_483 := aM ((nr BK483 hg)); replace BK483 := aM (bb BK483 hb); replace HB := aM (qB bl hb); clear hb hbox hg; have hnb11 := NB483_484.out; have hnc11 := NB484_483.out; (refine cb6 BK483 ?_; intro _ _ _ _ _ _); (refine cz6 BK483 ?_; intro _ _ _ _ _ _); (refine cb6 BK484 ?_; intro _ _ _ _ _ _); (refine cz6 BK484 ?_; intro _ _ _ _ _ _)))
       go_ret
       exact ⟨sR, bl⟩
      ·rw [if_neg c8] at H
       have c8b0 := beq_eq_false_iff_ne.mpr c8
       have c8b1 := bne_iff_ne.mpr c8
       obtain rfl := Option.some.inj H
       go_enter Tryz.func56, Tryz.ntmps56
       go_wp2_with (first | ((with_reducible refine qH (N := 2) rfl ?_); refine bE (N := 2) (cs := #[.int .i64 a0_0, .int .i64 a0_1, .int .i64 a0_2, .int .i64 a0_3, .int .i64 a0_4, .int .i64 a0_5]) (t := 51) ?_; intro gb483 hg w14 hbox hb; have BK483 := aM (hbox); have GW483 := aM ((gg hg)); have GE483 := aM ((gg hg)); replace HB := aM (qB bl hb); clear hb hbox hg) | ((with_reducible refine qH (N := 3) rfl ?_); refine bE (N := 3) (cs := #[.int .i64 a1_0, .int .i64 a1_1, .int .i64 a1_2, .int .i64 a1_3, .int .i64 a1_4, .int .i64 a1_5]) (t := 51) ?_; intro gb484 hg w15 hbox hb; have BK484 := aM (hbox); have GW484 := aM ((gg hg)); have GE484 := aM ((gg hg)); have NB483_484 := aM ((nl BK483 hg)); have NB484_483 := aM ((nr BK483 hg)); replace BK483 := aM (bb BK483 hb); replace HB := aM (qB bl hb); clear hb hbox hg; have hnb16 := NB483_484.out; have hnc16 := NB484_483.out; (refine cb6 BK483 ?_; intro _ _ _ _ _ _); (refine cz6 BK483 ?_; intro _ _ _ _ _ _); (refine cb6 BK484 ?_; intro _ _ _ _ _ _); (refine cz6 BK484 ?_; intro _ _ _ _ _ _)))
       go_ret
       exact ⟨sR, bl⟩
     ·rw [if_neg c7] at H
      have c7b0 := beq_eq_false_iff_ne.mpr c7
      have c7b1 := bne_iff_ne.mpr c7
      obtain rfl := Option.some.inj H
      go_enter Tryz.func56, Tryz.ntmps56
      go_wp2_with (first | ((with_reducible refine qH (N := 2) rfl ?_); refine bE (N := 2) (cs := #[.int .i64 a0_0, .int .i64 a0_1, .int .i64 a0_2, .int .i64 a0_3, .int .i64 a0_4, .int .i64 a0_5]) (t := 51) ?_; intro gb483 hg w19 hbox hb; have BK483 := aM (hbox); have GW483 := aM ((gg hg)); have GE483 := aM ((gg hg)); replace HB := aM (qB bl hb); clear hb hbox hg) | ((with_reducible refine qH (N := 3) rfl ?_); refine bE (N := 3) (cs := #[.int .i64 a1_0, .int .i64 a1_1, .int .i64 a1_2, .int .i64 a1_3, .int .i64 a1_4, .int .i64 a1_5]) (t := 51) ?_; intro gb484 hg w20 hbox hb; have BK484 := aM (hbox); have GW484 := aM ((gg hg)); have GE484 := aM ((gg hg)); have NB483_484 := aM ((nl BK483 hg)); have NB484_483 := aM ((nr BK483 hg)); replace BK483 := aM (bb BK483 hb); replace HB := aM (qB bl hb); clear hb hbox hg; have hnb21 := NB483_484.out; have hnc21 := NB484_483.out; (refine cb6 BK483 ?_; intro _ _ _ _ _ _); (refine cz6 BK483 ?_; intro _ _ _ _ _ _); (refine cb6 BK484 ?_; intro _ _ _ _ _ _); (refine cz6 BK484 ?_; intro _ _ _ _ _ _)))
      go_ret
      exact ⟨sR, bl⟩
    ·rw [if_neg c6] at H
     have c6b0 := beq_eq_false_iff_ne.mpr c6
     have c6b1 := bne_iff_ne.mpr c6
     obtain rfl := Option.some.inj H
     go_enter Tryz.func56, Tryz.ntmps56
     go_wp2_with (first | ((with_reducible refine qH (N := 2) rfl ?_); refine bE (N := 2) (cs := #[.int .i64 a0_0, .int .i64 a0_1, .int .i64 a0_2, .int .i64 a0_3, .int .i64 a0_4, .int .i64 a0_5]) (t := 51) ?_; intro gb483 hg w24 hbox hb; have BK483 := aM (hbox); have GW483 := aM ((gg hg)); have GE483 := aM ((gg hg)); replace HB := aM (qB bl hb); clear hb hbox hg) | ((with_reducible refine qH (N := 3) rfl ?_); refine bE (N := 3) (cs := #[.int .i64 a1_0, .int .i64 a1_1, .int .i64 a1_2, .int .i64 a1_3, .int .i64 a1_4, .int .i64 a1_5]) (t := 51) ?_; intro gb484 hg w25 hbox hb; have BK484 := aM (hbox); have GW484 := aM ((gg hg)); have GE484 := aM ((gg hg)); have NB483_484 := aM ((nl BK483 hg)); have NB484_483 := aM ((nr BK483 hg)); replace BK483 := aM (bb BK483 hb); replace HB := aM (qB bl hb); clear hb hbox hg; have hnb26 := NB483_484.out; have hnc26 := NB484_483.out; (refine cb6 BK483 ?_; intro _ _ _ _ _ _); (refine cz6 BK483 ?_; intro _ _ _ _ _ _); (refine cb6 BK484 ?_; intro _ _ _ _ _ _); (refine cz6 BK484 ?_; intro _ _ _ _ _ _)))
     go_ret
     exact ⟨sR, bl⟩
   ·rw [if_neg c5] at H
    have c5b0 := beq_eq_false_iff_ne.mpr c5
    have c5b1 := bne_iff_ne.mpr c5
    obtain rfl := Option.some.inj H
    go_enter Tryz.func56, Tryz.ntmps56
    go_wp2_with (first | ((with_reducible refine qH (N := 2) rfl ?_); refine bE (N := 2) (cs := #[.int .i64 a0_0, .int .i64 a0_1, .int .i64 a0_2, .int .i64 a0_3, .int .i64 a0_4, .int .i64 a0_5]) (t := 51) ?_; intro gb483 hg w29 hbox hb; have BK483 := aM (hbox); have GW483 := aM ((gg hg)); have GE483 := aM ((gg hg)); replace HB := aM (qB bl hb); clear hb hbox hg) | ((with_reducible refine qH (N := 3) rfl ?_); refine bE (N := 3) (cs := #[.int .i64 a1_0, .int .i64 a1_1, .int .i64 a1_2, .int .i64 a1_3, .int .i64 a1_4, .int .i64 a1_5]) (t := 51) ?_; intro gb484 hg w30 hbox hb; have BK484 := aM (hbox); have GW484 := aM ((gg hg)); have GE484 := aM ((gg hg)); have NB483_484 := aM ((nl BK483 hg)); have NB484_483 := aM ((nr BK483 hg)); replace BK483 := aM (bb BK483 hb); replace HB := aM (qB bl hb); clear hb hbox hg; have hnb31 := NB483_484.out; have hnc31 := NB484_483.out; (refine cb6 BK483 ?_; intro _ _ _ _ _ _); (refine cz6 BK483 ?_; intro _ _ _ _ _ _); (refine cb6 BK484 ?_; intro _ _ _ _ _ _); (refine cz6 BK484 ?_; intro _ _ _ _ _ _)))
    go_ret
    exact ⟨sR, bl⟩
  ·rw [if_neg c4] at H
   have c4b0 := beq_eq_false_iff_ne.mpr c4
   have c4b1 := bne_iff_ne.mpr c4
   obtain rfl := Option.some.inj H
   go_enter Tryz.func56, Tryz.ntmps56
   go_wp2_with (first | ((with_reducible refine qH (N := 2) rfl ?_); refine bE (N := 2) (cs := #[.int .i64 a0_0, .int .i64 a0_1, .int .i64 a0_2, .int .i64 a0_3, .int .i64 a0_4, .int .i64 a0_5]) (t := 51) ?_; intro gb483 hg w34 hbox hb; have BK483 := aM (hbox); have GW483 := aM ((gg hg)); have GE483 := aM ((gg hg)); replace HB := aM (qB bl hb); clear hb hbox hg) | ((with_reducible refine qH (N := 3) rfl ?_); refine bE (N := 3) (cs := #[.int .i64 a1_0, .int .i64 a1_1, .int .i64 a1_2, .int .i64 a1_3, .int .i64 a1_4, .int .i64 a1_5]) (t := 51) ?_; intro gb484 hg w35 hbox hb; have BK484 := aM (hbox); have GW484 := aM ((gg hg)); have GE484 := aM ((gg hg)); have NB483_484 := aM ((nl BK483 hg)); have NB484_483 := aM ((nr BK483 hg)); replace BK483 := aM (bb BK483 hb); replace HB := aM (qB bl hb); clear hb hbox hg; have hnb36 := NB483_484.out; have hnc36 := NB484_483.out; (refine cb6 BK483 ?_; intro _ _ _ _ _ _); (refine cz6 BK483 ?_; intro _ _ _ _ _ _); (refine cb6 BK484 ?_; intro _ _ _ _ _ _); (refine cz6 BK484 ?_; intro _ _ _ _ _ _)))
   go_ret
   exact ⟨sR, bl⟩
 ·rw [if_neg c3] at H
  have c3b0 := beq_eq_false_iff_ne.mpr c3
  have c3b1 := bne_iff_ne.mpr c3
  obtain rfl := Option.some.inj H
  go_enter Tryz.func56, Tryz.ntmps56
  go_wp2_with (first | ((with_reducible refine qH (N := 2) rfl ?_); refine bE (N := 2) (cs := #[.int .i64 a0_0, .int .i64 a0_1, .int .i64 a0_2, .int .i64 a0_3, .int .i64 a0_4, .int .i64 a0_5]) (t := 51) ?_; intro gb483 hg w39 hbox hb; have BK483 := aM (hbox); have GW483 := aM ((gg hg)); have GE483 := aM ((gg hg)); replace HB := aM (qB bl hb); clear hb hbox hg) | ((with_reducible refine qH (N := 3) rfl ?_); refine bE (N := 3) (cs := #[.int .i64 a1_0, .int .i64 a1_1, .int .i64 a1_2, .int .i64 a1_3, .int .i64 a1_4, .int .i64 a1_5]) (t := 51) ?_; intro gb484 hg w40 hbox hb; have BK484 := aM (hbox); have GW484 := aM ((gg hg)); have GE484 := aM ((gg hg)); have NB483_484 := aM ((nl BK483 hg)); have NB484_483 := aM ((nr BK483 hg)); replace BK483 := aM (bb BK483 hb); replace HB := aM (qB bl hb); clear hb hbox hg; have hnb41 := NB483_484.out; have hnc41 := NB484_483.out; (refine cb6 BK483 ?_; intro _ _ _ _ _ _); (refine cz6 BK483 ?_; intro _ _ _ _ _ _); (refine cb6 BK484 ?_; intro _ _ _ _ _ _); (refine cz6 BK484 ?_; intro _ _ _ _ _ _)))
  go_ret
  exact ⟨sR, bl⟩
def qdB.f (a0_0 : Int) (a0_1 : Int) (a0_2 : Int) (a0_3 : Int) (a0_4 : Int) (a0_5 : Int) (a0_6 : Int) (a0_7 : Int) (a1_0 : Int) (a1_1 : Int) (a1_2 : Int) (a1_3 : Int) (a1_4 : Int) (a1_5 : Int) (a1_6 : Int) (a1_7 : Int) : Option (Bool) := if a0_0 = a1_0 then (if a0_1 = a1_1 then ((qyB.f a0_2 a0_3 a0_4 a0_5 a0_6 a0_7 a1_2 a1_3 a1_4 a1_5 a1_6 a1_7).bind fun t487 => (if t487 = true then (some true) else (some false))) else (some false)) else (some false)
set_option maxHeartbeats 8000000 in
set_option maxRecDepth 100000 in
theorem qdB.calls (a0_0 : Int) (a0_1 : Int) (a0_2 : Int) (a0_3 : Int) (a0_4 : Int) (a0_5 : Int) (a0_6 : Int) (a0_7 : Int) (a1_0 : Int) (a1_1 : Int) (a1_2 : Int) (a1_3 : Int) (a1_4 : Int) (a1_5 : Int) (a1_6 : Int) (a1_7 : Int) (r : Bool) (w : World) (h : qdB.f a0_0 a0_1 a0_2 a0_3 a0_4 a0_5 a0_6 a0_7 a1_0 a1_1 a1_2 a1_3 a1_4 a1_5 a1_6 a1_7 = some r) :
  Calls Tryz.prog 29 #[.agg #[.int .i64 a0_0, .int .i64 a0_1, .int .i64 a0_2, .int .i64 a0_3, .int .i64 a0_4, .int .i64 a0_5, .int .i64 a0_6, .int .i64 a0_7], .agg #[.int .i64 a1_0, .int .i64 a1_1, .int .i64 a1_2, .int .i64 a1_3, .int .i64 a1_4, .int .i64 a1_5, .int .i64 a1_6, .int .i64 a1_7]] w fun e w' => e = .returned (.bool r) ∧ Below w.heap.size w w' := by
 have hu53 := Tryz.underlying53
 have hu51 := Tryz.underlying51
 have HB := aM (Below.refl w.heap.size w)
 have H : (if a0_0 = a1_0 then (if a0_1 = a1_1 then ((qyB.f a0_2 a0_3 a0_4 a0_5 a0_6 a0_7 a1_2 a1_3 a1_4 a1_5 a1_6 a1_7).bind fun t487 => (if t487 = true then (some true) else (some false))) else (some false)) else (some false)) = some r := h
 clear h
 by_cases c3 : a0_0 = a1_0
 ·rw [if_pos c3] at H
  have c3b0 := beq_iff_eq.mpr c3
  have c3b1 := bne_eq_false_iff_eq.mpr c3
  clear c3
  by_cases c4 : a0_1 = a1_1
  ·rw [if_pos c4] at H
   have c4b0 := beq_iff_eq.mpr c4
   have c4b1 := bne_eq_false_iff_eq.mpr c4
   clear c4
   replace H := bO H
   obtain ⟨t487, A5, H⟩ := H
   by_cases c6 : t487 = true
   ·subst c6
    replace H := iT H
    obtain rfl := Option.some.inj H
    go_enter Tryz.func29, Tryz.ntmps29
    go_wp2_with (first | ((with_reducible refine qH (N := 2) rfl ?_); refine bE (N := 2) (cs := #[.int .i64 a0_0, .int .i64 a0_1, .int .i64 a0_2, .int .i64 a0_3, .int .i64 a0_4, .int .i64 a0_5, .int .i64 a0_6, .int .i64 a0_7]) (t := 53) ?_; intro gb485 hg w7 hbox hb; have BK485 := aM (hbox); have GW485 := aM ((gg hg)); have GE485 := aM ((gg hg)); replace HB := aM (qB bl hb); clear hb hbox hg) | ((with_reducible refine qH (N := 3) rfl ?_); refine bE (N := 3) (cs := #[.int .i64 a1_0, .int .i64 a1_1, .int .i64 a1_2, .int .i64 a1_3, .int .i64 a1_4, .int .i64 a1_5, .int .i64 a1_6, .int .i64 a1_7]) (t := 53) ?_; intro gb486 hg w8 hbox hb; have BK486 := aM (hbox); have GW486 := aM ((gg hg)); have GE486 := aM ((gg hg)); have NB485_486 := aM ((nl BK485 hg)); have NB486_485 := aM ((nr BK485 hg)); replace BK485 := aM (bb BK485 hb); replace HB := aM (qB bl hb); clear hb hbox hg; have hnb9 := NB485_486.out; have hnc9 := NB486_485.out; (refine cb8 BK485 ?_; intro _ _ _ _ _ _ _ _); (refine cz8 BK485 ?_; intro _ _ _ _ _ _ _ _); (refine cb8 BK486 ?_; intro _ _ _ _ _ _ _ _); (refine cz8 BK486 ?_; intro _ _ _ _ _ _ _ _)) | ((with_reducible refine qE (f := 56) rfl ?_); refine qm (some 19) rfl rfl Tryz.func56 (by kernel_rfl) rfl #[.agg #[.int .i64 a0_2, .int .i64 a0_3, .int .i64 a0_4, .int .i64 a0_5, .int .i64 a0_6, .int .i64 a0_7], .agg #[.int .i64 a1_2, .int .i64 a1_3, .int .i64 a1_4, .int .i64 a1_5, .int .i64 a1_6, .int .i64 a1_7]] rfl gA ?_; (with_reducible refine (qyB.calls a0_2 a0_3 a0_4 a0_5 a0_6 a0_7 a1_2 a1_3 a1_4 a1_5 a1_6 a1_7 true _ A5.out).mono ?_); rintro e w12 ⟨rfl, hb⟩; refine ⟨_, rfl, ?_⟩; replace BK485 := aM (bb BK485 hb); replace BK486 := aM (bb BK486 hb); replace HB := aM (qB bl hb); (try clear hb); (try clear hb2); (try clear hk); (try clear hi)))
    go_ret
    exact ⟨sR, bl⟩
   ·replace c6 := Bool.eq_false_iff.mpr c6
    subst c6
    replace H := iF H
    obtain rfl := Option.some.inj H
    go_enter Tryz.func29, Tryz.ntmps29
    go_wp2_with (first | ((with_reducible refine qH (N := 2) rfl ?_); refine bE (N := 2) (cs := #[.int .i64 a0_0, .int .i64 a0_1, .int .i64 a0_2, .int .i64 a0_3, .int .i64 a0_4, .int .i64 a0_5, .int .i64 a0_6, .int .i64 a0_7]) (t := 53) ?_; intro gb485 hg w13 hbox hb; have BK485 := aM (hbox); have GW485 := aM ((gg hg)); have GE485 := aM ((gg hg)); replace HB := aM (qB bl hb); clear hb hbox hg) | ((with_reducible refine qH (N := 3) rfl ?_); refine bE (N := 3) (cs := #[.int .i64 a1_0, .int .i64 a1_1, .int .i64 a1_2, .int .i64 a1_3, .int .i64 a1_4, .int .i64 a1_5, .int .i64 a1_6, .int .i64 a1_7]) (t := 53) ?_; intro gb486 hg w14 hbox hb; have BK486 := aM (hbox); have GW486 := aM ((gg hg)); have GE486 := aM ((gg hg)); have NB485_486 := aM ((nl BK485 hg)); have NB486_485 := aM ((nr BK485 hg)); replace BK485 := aM (bb BK485 hb); replace HB := aM (qB bl hb); clear hb hbox hg; have hnb15 := NB485_486.out; have hnc15 := NB486_485.out; (refine cb8 BK485 ?_; intro _ _ _ _ _ _ _ _); (refine cz8 BK485 ?_; intro _ _ _ _ _ _ _ _); (refine cb8 BK486 ?_; intro _ _ _ _ _ _ _ _); (refine cz8 BK486 ?_; intro _ _ _ _ _ _ _ _)) | ((with_reducible refine qE (f := 56) rfl ?_); refine qm (some 19) rfl rfl Tryz.func56 (by kernel_rfl) rfl #[.agg #[.int .i64 a0_2, .int .i64 a0_3, .int .i64 a0_4, .int .i64 a0_5, .int .i64 a0_6, .int .i64 a0_7], .agg #[.int .i64 a1_2, .int .i64 a1_3, .int .i64 a1_4, .int .i64 a1_5, .int .i64 a1_6, .int .i64 a1_7]] rfl gA ?_; (with_reducible refine (qyB.calls a0_2 a0_3 a0_4 a0_5 a0_6 a0_7 a1_2 a1_3 a1_4 a1_5 a1_6 a1_7 false _ A5.out).mono ?_); rintro e w18 ⟨rfl, hb⟩; refine ⟨_, rfl, ?_⟩; replace BK485 := aM (bb BK485 hb); replace BK486 := aM (bb BK486 hb); replace HB := aM (qB bl hb); (try clear hb); (try clear hb2); (try clear hk); (try clear hi)))
    go_ret
    exact ⟨sR, bl⟩
  ·rw [if_neg c4] at H
   have c4b0 := beq_eq_false_iff_ne.mpr c4
   have c4b1 := bne_iff_ne.mpr c4
   obtain rfl := Option.some.inj H
   go_enter Tryz.func29, Tryz.ntmps29
   go_wp2_with (first | ((with_reducible refine qH (N := 2) rfl ?_); refine bE (N := 2) (cs := #[.int .i64 a0_0, .int .i64 a0_1, .int .i64 a0_2, .int .i64 a0_3, .int .i64 a0_4, .int .i64 a0_5, .int .i64 a0_6, .int .i64 a0_7]) (t := 53) ?_; intro gb485 hg w19 hbox hb; have BK485 := aM (hbox); have GW485 := aM ((gg hg)); have GE485 := aM ((gg hg)); replace HB := aM (qB bl hb); clear hb hbox hg) | ((with_reducible refine qH (N := 3) rfl ?_); refine bE (N := 3) (cs := #[.int .i64 a1_0, .int .i64 a1_1, .int .i64 a1_2, .int .i64 a1_3, .int .i64 a1_4, .int .i64 a1_5, .int .i64 a1_6, .int .i64 a1_7]) (t := 53) ?_; intro gb486 hg w20 hbox hb; have BK486 := aM (hbox); have GW486 := aM ((gg hg)); have GE486 := aM ((gg hg)); have NB485_486 := aM ((nl BK485 hg)); have NB486_485 := aM ((nr BK485 hg)); replace BK485 := aM (bb BK485 hb); replace HB := aM (qB bl hb); clear hb hbox hg; have hnb21 := NB485_486.out; have hnc21 := NB486_485.out; (refine cb8 BK485 ?_; intro _ _ _ _ _ _ _ _); (refine cz8 BK485 ?_; intro _ _ _ _ _ _ _ _); (refine cb8 BK486 ?_; intro _ _ _ _ _ _ _ _); (refine cz8 BK486 ?_; intro _ _ _ _ _ _ _ _)))
   go_ret
   exact ⟨sR, bl⟩
 ·rw [if_neg c3] at H
  have c3b0 := beq_eq_false_iff_ne.mpr c3
  have c3b1 := bne_iff_ne.mpr c3
  obtain rfl := Option.some.inj H
  go_enter Tryz.func29, Tryz.ntmps29
  go_wp2_with (first | ((with_reducible refine qH (N := 2) rfl ?_); refine bE (N := 2) (cs := #[.int .i64 a0_0, .int .i64 a0_1, .int .i64 a0_2, .int .i64 a0_3, .int .i64 a0_4, .int .i64 a0_5, .int .i64 a0_6, .int .i64 a0_7]) (t := 53) ?_; intro gb485 hg w24 hbox hb; have BK485 := aM (hbox); have GW485 := aM ((gg hg)); have GE485 := aM ((gg hg)); replace HB := aM (qB bl hb); clear hb hbox hg) | ((with_reducible refine qH (N := 3) rfl ?_); refine bE (N := 3) (cs := #[.int .i64 a1_0, .int .i64 a1_1, .int .i64 a1_2, .int .i64 a1_3, .int .i64 a1_4, .int .i64 a1_5, .int .i64 a1_6, .int .i64 a1_7]) (t := 53) ?_; intro gb486 hg w25 hbox hb; have BK486 := aM (hbox); have GW486 := aM ((gg hg)); have GE486 := aM ((gg hg)); have NB485_486 := aM ((nl BK485 hg)); have NB486_485 := aM ((nr BK485 hg)); replace BK485 := aM (bb BK485 hb); replace HB := aM (qB bl hb); clear hb hbox hg; have hnb26 := NB485_486.out; have hnc26 := NB486_485.out; (refine cb8 BK485 ?_; intro _ _ _ _ _ _ _ _); (refine cz8 BK485 ?_; intro _ _ _ _ _ _ _ _); (refine cb8 BK486 ?_; intro _ _ _ _ _ _ _ _); (refine cz8 BK486 ?_; intro _ _ _ _ _ _ _ _)))
  go_ret
  exact ⟨sR, bl⟩
def qk.l0 : Nat → List (S53) → List (S53) → Int → Option (Bool)
 | 0, _, _, _ => none
 | k + 1, x0, x1, x5 => if x5 < (x0.length : Int) then (if 0 ≤ x5 then (if x5 < (x1.length : Int) then ((qdB.f ((qA x0 x5).f0) ((qA x0 x5).f1) ((qA x0 x5).f2.f0) ((qA x0 x5).f2.f1) ((qA x0 x5).f2.f2) ((qA x0 x5).f2.f3) ((qA x0 x5).f2.f4) ((qA x0 x5).f2.f5) ((qA x1 x5).f0) ((qA x1 x5).f1) ((qA x1 x5).f2.f0) ((qA x1 x5).f2.f1) ((qA x1 x5).f2.f2) ((qA x1 x5).f2.f3) ((qA x1 x5).f2.f4) ((qA x1 x5).f2.f5)).bind fun t490 => (if t490 = true then (qk.l0 k x0 x1 (wrap64 (x5 + 1))) else (some false))) else (none)) else (none)) else (some true)
def qk.f (k : Nat) (l0 : List (S53)) (l1 : List (S53)) : Option (Bool) := if (l0.length : Int) = (l1.length : Int) then (qk.l0 k l0 l1 0) else (some false)
def qk.T6 : Bool × List (List Nat × List Nat) := (true, [([], []), ([], []), ([0, 1], [0, 1]), ([2], [2]), ([], []), ([], []), ([4, 5], [4, 5]), ([6], [6]), ([3, 7], [3, 7]), ([8], [8])])
def qk.B6 : List Nat := [0, 0, 3, 7, 0, 0, 48, 112, 255, 511]
theorem qk.tab6 : rtab .any (opsOf Tryz.f10 6) = qk.T6 := by kernel_rfl
theorem qk.bits6 : waitsOk qk.T6.2 qk.B6 = true := by kernel_rfl
set_option maxHeartbeats 8000000 in
set_option maxRecDepth 100000 in
theorem qk.calls (k : Nat) (A0 : Option Addr) (c0 : Nat) (l0 : List (S53)) (A1 : Option Addr) (c1 : Nat) (l1 : List (S53)) (r : Bool) (w : World) (hr0 : Kd.C k53 w A0 l0.length l0) (hc0 : l0.length ≤ c0) (hr1 : Kd.C k53 w A1 l1.length l1) (hc1 : l1.length ≤ c1) (h : qk.f k l0 l1 = some r) :
  Calls Tryz.prog 10 #[.slice A0 l0.length c0, .slice A1 l1.length c1] w fun e w' => e = .returned (.bool r) ∧ Below w.heap.size w w' := by
 have hu53 := Tryz.underlying53
 have HR0 := aM hr0
 have HC0 := aM hc0
 clear hr0 hc0
 have HR1 := aM hr1
 have HC1 := aM hc1
 clear hr1 hc1
 have HB := aM (Below.refl w.heap.size w)
 have H : (if (l0.length : Int) = (l1.length : Int) then (qk.l0 k l0 l1 0) else (some false)) = some r := h
 clear h
 by_cases c3 : (l0.length : Int) = (l1.length : Int)
 ·rw [if_pos c3] at H
  have c3b0 := beq_iff_eq.mpr c3
  have c3b1 := bne_eq_false_iff_eq.mpr c3
  have c3b2 : (l0.length == l1.length) = true := by first | simpa using c3 | (simp at c3 ⊢; omega)
  clear c3
  have H' := aM H
  clear H
  go_enter Tryz.func10, Tryz.ntmps10
  go_wp2
  go_loopg [5] k (fun kq v5 w' => ∃ (x5_1 : Int), v5 = .int .i64 x5_1 ∧ Aside0 (qk.l0 kq l0 l1 x5_1 = some r) ∧ Aside0 (kq ≤ k) ∧ Aside0 (Below w.heap.size w w'))
  case atStart => exact ⟨(0), sD, H', ⟨Nat.le_refl _⟩, ⟨bl⟩⟩
  case round =>
   clear H'; (try clear c1); (try clear p2); (try clear c3); (try clear c3b0); (try clear c3b1); (try clear c3b2)
   obtain ⟨x5_1, rfl, HA, HK1, HB⟩ := hrel
   cases gk with
   | zero => exact absurd HA.out (by simp [qk.l0])
   | succ k1 =>
    have H := HA.out
    clear HA
    simp only [qk.l0] at H
    by_cases c4 : x5_1 < (l0.length : Int)
    ·rw [if_pos c4] at H
     have c4b0 := decide_eq_true c4
     clear c4
     by_cases c5 : 0 ≤ x5_1
     case neg => exact nN c5 H
     rw [if_pos c5] at H
     have c5b0 := decide_eq_true c5
     clear c5
     by_cases c6 : x5_1 < (l1.length : Int)
     case neg => exact nN c6 H
     rw [if_pos c6] at H
     have c6b0 := decide_eq_true c6
     clear c6
     replace H := bO H
     obtain ⟨t490, A7, H⟩ := H
     by_cases c8 : t490 = true
     ·subst c8
      replace H := iT H
      have H' := aM H
      clear H
      try go_wp2
      replace HB := aM (qi HB.out)
      have p488 : 0 ≤ (x5_1 : Int) := of_decide_eq_true am
      have q488 : x5_1 < (l0.length : Int) := of_decide_eq_true am
      obtain ⟨ad488, e488, hx488_0, hx488_1, hx488_2, hx488_3, hx488_4, hx488_5, hx488_6, hx488_7⟩ := qYB HR0.out x5_1 p488 q488
      have hw488_7 := hx488_7
      have hw488_6 := hx488_6
      have hw488_5 := hx488_5
      have hw488_4 := hx488_4
      have hw488_3 := hx488_3
      have hw488_2 := hx488_2
      have hw488_1 := hx488_1
      have hw488_0 := hx488_0
      cases e488
      replace hx488_0 := hB HB hx488_0
      replace hx488_1 := hB HB hx488_1
      replace hx488_2 := hB HB hx488_2
      replace hx488_3 := hB HB hx488_3
      replace hx488_4 := hB HB hx488_4
      replace hx488_5 := hB HB hx488_5
      replace hx488_6 := hB HB hx488_6
      replace hx488_7 := hB HB hx488_7
      replace p488 := eq_true p488
      replace q488 := eq_true q488
      have p489 : 0 ≤ (x5_1 : Int) := of_decide_eq_true am
      have q489 : x5_1 < (l1.length : Int) := of_decide_eq_true am
      obtain ⟨ad489, e489, hx489_0, hx489_1, hx489_2, hx489_3, hx489_4, hx489_5, hx489_6, hx489_7⟩ := qYB HR1.out x5_1 p489 q489
      have hw489_7 := hx489_7
      have hw489_6 := hx489_6
      have hw489_5 := hx489_5
      have hw489_4 := hx489_4
      have hw489_3 := hx489_3
      have hw489_2 := hx489_2
      have hw489_1 := hx489_1
      have hw489_0 := hx489_0
      cases e489
      replace hx489_0 := hB HB hx489_0
      replace hx489_1 := hB HB hx489_1
      replace hx489_2 := hB HB hx489_2
      replace hx489_3 := hB HB hx489_3
      replace hx489_4 := hB HB hx489_4
      replace hx489_5 := hB HB hx489_5
      replace hx489_6 := hB HB hx489_6
      replace hx489_7 := hB HB hx489_7
      replace p489 := eq_true p489
      replace q489 := eq_true q489
      refine qJB (n := 10) (S := fun w' => w'.cell? (ad488.add ((x5_1).toNat * 8)) = some (.int .i64 ((qA l0 x5_1).f0)) ∧ w'.cell? ⟨(ad488.add ((x5_1).toNat * 8)).block, (ad488.add ((x5_1).toNat * 8)).off + 1, none⟩ = some (.int .i64 ((qA l0 x5_1).f1)) ∧ w'.cell? ⟨(ad488.add ((x5_1).toNat * 8)).block, (ad488.add ((x5_1).toNat * 8)).off + 2, none⟩ = some (.int .i64 ((qA l0 x5_1).f2.f0)) ∧ w'.cell? ⟨(ad488.add ((x5_1).toNat * 8)).block, (ad488.add ((x5_1).toNat * 8)).off + 3, none⟩ = some (.int .i64 ((qA l0 x5_1).f2.f1)) ∧ w'.cell? ⟨(ad488.add ((x5_1).toNat * 8)).block, (ad488.add ((x5_1).toNat * 8)).off + 4, none⟩ = some (.int .i64 ((qA l0 x5_1).f2.f2)) ∧ w'.cell? ⟨(ad488.add ((x5_1).toNat * 8)).block, (ad488.add ((x5_1).toNat * 8)).off + 5, none⟩ = some (.int .i64 ((qA l0 x5_1).f2.f3)) ∧ w'.cell? ⟨(ad488.add ((x5_1).toNat * 8)).block, (ad488.add ((x5_1).toNat * 8)).off + 6, none⟩ = some (.int .i64 ((qA l0 x5_1).f2.f4)) ∧ w'.cell? ⟨(ad488.add ((x5_1).toNat * 8)).block, (ad488.add ((x5_1).toNat * 8)).off + 7, none⟩ = some (.int .i64 ((qA l0 x5_1).f2.f5)) ∧ w'.cell? (ad489.add ((x5_1).toNat * 8)) = some (.int .i64 ((qA l1 x5_1).f0)) ∧ w'.cell? ⟨(ad489.add ((x5_1).toNat * 8)).block, (ad489.add ((x5_1).toNat * 8)).off + 1, none⟩ = some (.int .i64 ((qA l1 x5_1).f1)) ∧ w'.cell? ⟨(ad489.add ((x5_1).toNat * 8)).block, (ad489.add ((x5_1).toNat * 8)).off + 2, none⟩ = some (.int .i64 ((qA l1 x5_1).f2.f0)) ∧ w'.cell? ⟨(ad489.add ((x5_1).toNat * 8)).block, (ad489.add ((x5_1).toNat * 8)).off + 3, none⟩ = some (.int .i64 ((qA l1 x5_1).f2.f1)) ∧ w'.cell? ⟨(ad489.add ((x5_1).toNat * 8)).block, (ad489.add ((x5_1).toNat * 8)).off + 4, none⟩ = some (.int .i64 ((qA l1 x5_1).f2.f2)) ∧ w'.cell? ⟨(ad489.add ((x5_1).toNat * 8)).block, (ad489.add ((x5_1).toNat * 8)).off + 5, none⟩ = some (.int .i64 ((qA l1 x5_1).f2.f3)) ∧ w'.cell? ⟨(ad489.add ((x5_1).toNat * 8)).block, (ad489.add ((x5_1).toNat * 8)).off + 6, none⟩ = some (.int .i64 ((qA l1 x5_1).f2.f4)) ∧ w'.cell? ⟨(ad489.add ((x5_1).toNat * 8)).block, (ad489.add ((x5_1).toNat * 8)).off + 7, none⟩ = some (.int .i64 ((qA l1 x5_1).f2.f5))) (ds := []) #[false, false, false, false, false, false, false, false, false, false] (by kernel_rfl) rfl rfl ⟨(hB HB hw488_0 :), (hB HB hw488_1 :), (hB HB hw488_2 :), (hB HB hw488_3 :), (hB HB hw488_4 :), (hB HB hw488_5 :), (hB HB hw488_6 :), (hB HB hw488_7 :), (hB HB hw489_0 :), (hB HB hw489_1 :), (hB HB hw489_2 :), (hB HB hw489_3 :), (hB HB hw489_4 :), (hB HB hw489_5 :), (hB HB hw489_6 :), (hB HB hw489_7 :)⟩ (fun hHeld => ?_); refine qNA qk.tab6 qk.bits6 (fun HT_ HW_ => ?_)
      generalize wr.drew = w9 at HB hx488_0 hx488_1 hx488_2 hx488_3 hx488_4 hx488_5 hx488_6 hx488_7 hx489_0 hx489_1 hx489_2 hx489_3 hx489_4 hx489_5 hx489_6 hx489_7 hHeld ⊢
      refine pS (i := 0) (N := some 17) #[true, false, false, false, false, false, false, false, false, false] HT_ ?_
      refine pS (i := 1) (N := some 18) #[true, true, false, false, false, false, false, false, false, false] HT_ ?_
      refine pS (i := 2) (N := some 19) #[true, true, true, false, false, false, false, false, false, false] HT_ ?_
      refine pS (i := 4) (N := some 21) #[true, true, true, false, true, false, false, false, false, false] HT_ ?_
      refine pS (i := 5) (N := some 22) #[true, true, true, false, true, true, false, false, false, false] HT_ ?_
      refine pS (i := 6) (N := some 23) #[true, true, true, false, true, true, true, false, false, false] HT_ ?_
      refine tS (i := 3) (N := some 20) #[true, true, true, true, true, true, true, false, false, false] HT_ HW_ hHeld ?_
      refine tS (i := 7) (N := some 24) #[true, true, true, true, true, true, true, true, false, false] HT_ HW_ hHeld ?_
      refine one_ (i := 8) (N := some 25) #[true, true, true, true, true, true, true, true, true, false] rfl rfl (qcA HT_.out (by kernel_rfl)) (by decide) (fun K hK => ?_)
      refine goes_ Tryz.func29 (by kernel_rfl) rfl #[.agg #[.int .i64 ((qA l0 x5_1).f0), .int .i64 ((qA l0 x5_1).f1), .int .i64 ((qA l0 x5_1).f2.f0), .int .i64 ((qA l0 x5_1).f2.f1), .int .i64 ((qA l0 x5_1).f2.f2), .int .i64 ((qA l0 x5_1).f2.f3), .int .i64 ((qA l0 x5_1).f2.f4), .int .i64 ((qA l0 x5_1).f2.f5)], .agg #[.int .i64 ((qA l1 x5_1).f0), .int .i64 ((qA l1 x5_1).f1), .int .i64 ((qA l1 x5_1).f2.f0), .int .i64 ((qA l1 x5_1).f2.f1), .int .i64 ((qA l1 x5_1).f2.f2), .int .i64 ((qA l1 x5_1).f2.f3), .int .i64 ((qA l1 x5_1).f2.f4), .int .i64 ((qA l1 x5_1).f2.f5)]] (by rfl) rfl rfl gA ?_
      with_reducible refine (qdB.calls ((qA l0 x5_1).f0) ((qA l0 x5_1).f1) ((qA l0 x5_1).f2.f0) ((qA l0 x5_1).f2.f1) ((qA l0 x5_1).f2.f2) ((qA l0 x5_1).f2.f3) ((qA l0 x5_1).f2.f4) ((qA l0 x5_1).f2.f5) ((qA l1 x5_1).f0) ((qA l1 x5_1).f1) ((qA l1 x5_1).f2.f0) ((qA l1 x5_1).f2.f1) ((qA l1 x5_1).f2.f2) ((qA l1 x5_1).f2.f3) ((qA l1 x5_1).f2.f4) ((qA l1 x5_1).f2.f5) true _ A7.out).mono ?_
      rintro e w10 ⟨rfl, hb⟩
      refine ⟨_, rfl, ?_⟩
      replace HB := aM (qB bl hb); (try clear hb); (try clear hb2); (try clear hk); (try clear hi)
      refine hK.out _ _ ⟨(hB HB hw488_0 :), (hB HB hw488_1 :), (hB HB hw488_2 :), (hB HB hw488_3 :), (hB HB hw488_4 :), (hB HB hw488_5 :), (hB HB hw488_6 :), (hB HB hw488_7 :), (hB HB hw489_0 :), (hB HB hw489_1 :), (hB HB hw489_2 :), (hB HB hw489_3 :), (hB HB hw489_4 :), (hB HB hw489_5 :), (hB HB hw489_6 :), (hB HB hw489_7 :)⟩ (fun hHeld => ?_)
      clear hK K
      refine norm_ (a' := ?_) ?_ ?_
      rotate_left
      ·show Act.put _ (some 25) _ = _
       simp only [Act.put, List.setIfInBounds_toArray, List.set_cons_zero, List.set_cons_succ, i64_w, i32_w]
       rfl
      refine pS (i := 9) (N := some 26) #[true, true, true, true, true, true, true, true, true, true] HT_ ?_
      refine done_ (qvA HT_.out (by kernel_rfl)) ?_
      try go_wp2
      go_roundg k1
      case measure => have := HK1.out; omega
      case rel => exact ⟨(wrap64 (x5_1 + 1)), sD, H', ⟨by have := HK1.out; omega⟩, ⟨bl⟩⟩
     ·replace c8 := Bool.eq_false_iff.mpr c8
      subst c8
      replace H := iF H
      obtain rfl := Option.some.inj H
      try go_wp2
      replace HB := aM (qi HB.out)
      have p488 : 0 ≤ (x5_1 : Int) := of_decide_eq_true am
      have q488 : x5_1 < (l0.length : Int) := of_decide_eq_true am
      obtain ⟨ad488, e488, hx488_0, hx488_1, hx488_2, hx488_3, hx488_4, hx488_5, hx488_6, hx488_7⟩ := qYB HR0.out x5_1 p488 q488
      have hw488_7 := hx488_7
      have hw488_6 := hx488_6
      have hw488_5 := hx488_5
      have hw488_4 := hx488_4
      have hw488_3 := hx488_3
      have hw488_2 := hx488_2
      have hw488_1 := hx488_1
      have hw488_0 := hx488_0
      cases e488
      replace hx488_0 := hB HB hx488_0
      replace hx488_1 := hB HB hx488_1
      replace hx488_2 := hB HB hx488_2
      replace hx488_3 := hB HB hx488_3
      replace hx488_4 := hB HB hx488_4
      replace hx488_5 := hB HB hx488_5
      replace hx488_6 := hB HB hx488_6
      replace hx488_7 := hB HB hx488_7
      replace p488 := eq_true p488
      replace q488 := eq_true q488
      have p489 : 0 ≤ (x5_1 : Int) := of_decide_eq_true am
      have q489 : x5_1 < (l1.length : Int) := of_decide_eq_true am
      obtain ⟨ad489, e489, hx489_0, hx489_1, hx489_2, hx489_3, hx489_4, hx489_5, hx489_6, hx489_7⟩ := qYB HR1.out x5_1 p489 q489
      have hw489_7 := hx489_7
      have hw489_6 := hx489_6
      have hw489_5 := hx489_5
      have hw489_4 := hx489_4
      have hw489_3 := hx489_3
      have hw489_2 := hx489_2
      have hw489_1 := hx489_1
      have hw489_0 := hx489_0
      cases e489
      replace hx489_0 := hB HB hx489_0
      replace hx489_1 := hB HB hx489_1
      replace hx489_2 := hB HB hx489_2
      replace hx489_3 := hB HB hx489_3
      replace hx489_4 := hB HB hx489_4
      replace hx489_5 := hB HB hx489_5
      replace hx489_6 := hB HB hx489_6
      replace hx489_7 := hB HB hx489_7
      replace p489 := eq_true p489
      replace q489 := eq_true q489
      refine qJB (n := 10) (S := fun w' => w'.cell? (ad488.add ((x5_1).toNat * 8)) = some (.int .i64 ((qA l0 x5_1).f0)) ∧ w'.cell? ⟨(ad488.add ((x5_1).toNat * 8)).block, (ad488.add ((x5_1).toNat * 8)).off + 1, none⟩ = some (.int .i64 ((qA l0 x5_1).f1)) ∧ w'.cell? ⟨(ad488.add ((x5_1).toNat * 8)).block, (ad488.add ((x5_1).toNat * 8)).off + 2, none⟩ = some (.int .i64 ((qA l0 x5_1).f2.f0)) ∧ w'.cell? ⟨(ad488.add ((x5_1).toNat * 8)).block, (ad488.add ((x5_1).toNat * 8)).off + 3, none⟩ = some (.int .i64 ((qA l0 x5_1).f2.f1)) ∧ w'.cell? ⟨(ad488.add ((x5_1).toNat * 8)).block, (ad488.add ((x5_1).toNat * 8)).off + 4, none⟩ = some (.int .i64 ((qA l0 x5_1).f2.f2)) ∧ w'.cell? ⟨(ad488.add ((x5_1).toNat * 8)).block, (ad488.add ((x5_1).toNat * 8)).off + 5, none⟩ = some (.int .i64 ((qA l0 x5_1).f2.f3)) ∧ w'.cell? ⟨(ad488.add ((x5_1).toNat * 8)).block, (ad488.add ((x5_1).toNat * 8)).off + 6, none⟩ = some (.int .i64 ((qA l0 x5_1).f2.f4)) ∧ w'.cell? ⟨(ad488.add ((x5_1).toNat * 8)).block, (ad488.add ((x5_1).toNat * 8)).off + 7, none⟩ = some (.int .i64 ((qA l0 x5_1).f2.f5)) ∧ w'.cell? (ad489.add ((x5_1).toNat * 8)) = some (.int .i64 ((qA l1 x5_1).f0)) ∧ w'.cell? ⟨(ad489.add ((x5_1).toNat * 8)).block, (ad489.add ((x5_1).toNat * 8)).off + 1, none⟩ = some (.int .i64 ((qA l1 x5_1).f1)) ∧ w'.cell? ⟨(ad489.add ((x5_1).toNat * 8)).block, (ad489.add ((x5_1).toNat * 8)).off + 2, none⟩ = some (.int .i64 ((qA l1 x5_1).f2.f0)) ∧ w'.cell? ⟨(ad489.add ((x5_1).toNat * 8)).block, (ad489.add ((x5_1).toNat * 8)).off + 3, none⟩ = some (.int .i64 ((qA l1 x5_1).f2.f1)) ∧ w'.cell? ⟨(ad489.add ((x5_1).toNat * 8)).block, (ad489.add ((x5_1).toNat * 8)).off + 4, none⟩ = some (.int .i64 ((qA l1 x5_1).f2.f2)) ∧ w'.cell? ⟨(ad489.add ((x5_1).toNat * 8)).block, (ad489.add ((x5_1).toNat * 8)).off + 5, none⟩ = some (.int .i64 ((qA l1 x5_1).f2.f3)) ∧ w'.cell? ⟨(ad489.add ((x5_1).toNat * 8)).block, (ad489.add ((x5_1).toNat * 8)).off + 6, none⟩ = some (.int .i64 ((qA l1 x5_1).f2.f4)) ∧ w'.cell? ⟨(ad489.add ((x5_1).toNat * 8)).block, (ad489.add ((x5_1).toNat * 8)).off + 7, none⟩ = some (.int .i64 ((qA l1 x5_1).f2.f5))) (ds := []) #[false, false, false, false, false, false, false, false, false, false] (by kernel_rfl) rfl rfl ⟨(hB HB hw488_0 :), (hB HB hw488_1 :), (hB HB hw488_2 :), (hB HB hw488_3 :), (hB HB hw488_4 :), (hB HB hw488_5 :), (hB HB hw488_6 :), (hB HB hw488_7 :), (hB HB hw489_0 :), (hB HB hw489_1 :), (hB HB hw489_2 :), (hB HB hw489_3 :), (hB HB hw489_4 :), (hB HB hw489_5 :), (hB HB hw489_6 :), (hB HB hw489_7 :)⟩ (fun hHeld => ?_); refine qNA qk.tab6 qk.bits6 (fun HT_ HW_ => ?_)
      generalize wr.drew = w11 at HB hx488_0 hx488_1 hx488_2 hx488_3 hx488_4 hx488_5 hx488_6 hx488_7 hx489_0 hx489_1 hx489_2 hx489_3 hx489_4 hx489_5 hx489_6 hx489_7 hHeld ⊢
      refine pS (i := 0) (N := some 17) #[true, false, false, false, false, false, false, false, false, false] HT_ ?_
      refine pS (i := 1) (N := some 18) #[true, true, false, false, false, false, false, false, false, false] HT_ ?_
      refine pS (i := 2) (N := some 19) #[true, true, true, false, false, false, false, false, false, false] HT_ ?_
      refine pS (i := 4) (N := some 21) #[true, true, true, false, true, false, false, false, false, false] HT_ ?_
      refine pS (i := 5) (N := some 22) #[true, true, true, false, true, true, false, false, false, false] HT_ ?_
      refine pS (i := 6) (N := some 23) #[true, true, true, false, true, true, true, false, false, false] HT_ ?_
      refine tS (i := 3) (N := some 20) #[true, true, true, true, true, true, true, false, false, false] HT_ HW_ hHeld ?_
      refine tS (i := 7) (N := some 24) #[true, true, true, true, true, true, true, true, false, false] HT_ HW_ hHeld ?_
      refine one_ (i := 8) (N := some 25) #[true, true, true, true, true, true, true, true, true, false] rfl rfl (qcA HT_.out (by kernel_rfl)) (by decide) (fun K hK => ?_)
      refine goes_ Tryz.func29 (by kernel_rfl) rfl #[.agg #[.int .i64 ((qA l0 x5_1).f0), .int .i64 ((qA l0 x5_1).f1), .int .i64 ((qA l0 x5_1).f2.f0), .int .i64 ((qA l0 x5_1).f2.f1), .int .i64 ((qA l0 x5_1).f2.f2), .int .i64 ((qA l0 x5_1).f2.f3), .int .i64 ((qA l0 x5_1).f2.f4), .int .i64 ((qA l0 x5_1).f2.f5)], .agg #[.int .i64 ((qA l1 x5_1).f0), .int .i64 ((qA l1 x5_1).f1), .int .i64 ((qA l1 x5_1).f2.f0), .int .i64 ((qA l1 x5_1).f2.f1), .int .i64 ((qA l1 x5_1).f2.f2), .int .i64 ((qA l1 x5_1).f2.f3), .int .i64 ((qA l1 x5_1).f2.f4), .int .i64 ((qA l1 x5_1).f2.f5)]] (by rfl) rfl rfl gA ?_
      with_reducible refine (qdB.calls ((qA l0 x5_1).f0) ((qA l0 x5_1).f1) ((qA l0 x5_1).f2.f0) ((qA l0 x5_1).f2.f1) ((qA l0 x5_1).f2.f2) ((qA l0 x5_1).f2.f3) ((qA l0 x5_1).f2.f4) ((qA l0 x5_1).f2.f5) ((qA l1 x5_1).f0) ((qA l1 x5_1).f1) ((qA l1 x5_1).f2.f0) ((qA l1 x5_1).f2.f1) ((qA l1 x5_1).f2.f2) ((qA l1 x5_1).f2.f3) ((qA l1 x5_1).f2.f4) ((qA l1 x5_1).f2.f5) false _ A7.out).mono ?_
      rintro e w12 ⟨rfl, hb⟩
      refine ⟨_, rfl, ?_⟩
      replace HB := aM (qB bl hb); (try clear hb); (try clear hb2); (try clear hk); (try clear hi)
      refine hK.out _ _ ⟨(hB HB hw488_0 :), (hB HB hw488_1 :), (hB HB hw488_2 :), (hB HB hw488_3 :), (hB HB hw488_4 :), (hB HB hw488_5 :), (hB HB hw488_6 :), (hB HB hw488_7 :), (hB HB hw489_0 :), (hB HB hw489_1 :), (hB HB hw489_2 :), (hB HB hw489_3 :), (hB HB hw489_4 :), (hB HB hw489_5 :), (hB HB hw489_6 :), (hB HB hw489_7 :)⟩ (fun hHeld => ?_)
      clear hK K
      refine norm_ (a' := ?_) ?_ ?_
      rotate_left
      ·show Act.put _ (some 25) _ = _
       simp only [Act.put, List.setIfInBounds_toArray, List.set_cons_zero, List.set_cons_succ, i64_w, i32_w]
       rfl
      refine pS (i := 9) (N := some 26) #[true, true, true, true, true, true, true, true, true, true] HT_ ?_
      refine done_ (qvA HT_.out (by kernel_rfl)) ?_
      try go_wp2
      go_ret
      exact ⟨sR, bl⟩
    ·rw [if_neg c4] at H
     have c4b0 := decide_eq_false c4
     clear c4
     obtain rfl := Option.some.inj H
     go_wp2
     go_ret
     exact ⟨sR, bl⟩
 ·rw [if_neg c3] at H
  have c3b0 := beq_eq_false_iff_ne.mpr c3
  have c3b1 := bne_iff_ne.mpr c3
  have c3b2 : (l0.length == l1.length) = false := by first | simpa using c3 | (simp at c3 ⊢; omega)
  obtain rfl := Option.some.inj H
  go_enter Tryz.func10, Tryz.ntmps10
  go_wp2
  go_ret
  exact ⟨sR, bl⟩
def qoB.f (l0 : List Int) (a1 : Int) : Option (Int) := if (wrap64 (a1 - (l0.length : Int))) < 0 then (some (-1)) else (some (wrap64 (a1 - (l0.length : Int))))
set_option maxHeartbeats 8000000 in
set_option maxRecDepth 100000 in
theorem qoB.calls (A0 : Option Addr) (c0 : Nat) (l0 : List Int) (a1 : Int) (r : Int) (w : World) (hr0 : Kd.C (Kd.int .i64) w A0 l0.length l0) (hc0 : l0.length ≤ c0) (h : qoB.f l0 a1 = some r) :
  Calls Tryz.prog 31 #[.slice A0 l0.length c0, .int .i64 a1] w fun e w' => e = .returned (.int .i64 r) ∧ Drawn0 w w' := by
 have HR0 := aM hr0
 have HC0 := aM hc0
 clear hr0 hc0
 have H : (if (wrap64 (a1 - (l0.length : Int))) < 0 then (some (-1)) else (some (wrap64 (a1 - (l0.length : Int))))) = some r := h
 clear h
 by_cases c3 : (wrap64 (a1 - (l0.length : Int))) < 0
 ·rw [if_pos c3] at H
  have c3b0 := decide_eq_true c3
  clear c3
  obtain rfl := Option.some.inj H
  go_enter Tryz.func31, Tryz.ntmps31
  go_wp2
  go_ret
  exact ⟨by first | rfl | (simp; done) | (simp [*]; done), dR⟩
 ·rw [if_neg c3] at H
  have c3b0 := decide_eq_false c3
  clear c3
  obtain rfl := Option.some.inj H
  go_enter Tryz.func31, Tryz.ntmps31
  go_wp2
  go_ret
  exact ⟨by first | rfl | (simp; done) | (simp [*]; done), dR⟩
def qJA.l0 : Nat → List (List Int) → Int → Int → Option (Int)
 | 0, _, _, _ => none
 | k + 1, x0, x1, x5 => if x5 < (x0.length : Int) then (if 0 ≤ x5 then ((qoB.f (rd_L7 x0 x5) x1).bind fun t570 => (if t570 < 0 then (some (-1)) else (qJA.l0 k x0 t570 (wrap64 (x5 + 1))))) else (none)) else (some x1)
def qJA.f (k : Nat) (l0 : List (List Int)) (a1 : Int) : Option (Int) := if (wrap64 (a1 - (l0.length : Int))) < 0 then (some (-1)) else (qJA.l0 k l0 (wrap64 (a1 - (l0.length : Int))) 0)
set_option maxHeartbeats 8000000 in
set_option maxRecDepth 100000 in
theorem qJA.calls (k : Nat) (A0 : Option Addr) (c0 : Nat) (l0 : List (List Int)) (a1 : Int) (r : Int) (w : World) (hr0 : Kd.C (Kd.slice 3 (Kd.int .i64)) w A0 l0.length l0) (hc0 : l0.length ≤ c0) (h : qJA.f k l0 a1 = some r) :
  Calls Tryz.prog 13 #[.slice A0 l0.length c0, .int .i64 a1] w fun e w' => e = .returned (.int .i64 r) ∧ Drawn0 w w' := by
 have HR0 := aM hr0
 have HC0 := aM hc0
 clear hr0 hc0
 have H : (if (wrap64 (a1 - (l0.length : Int))) < 0 then (some (-1)) else (qJA.l0 k l0 (wrap64 (a1 - (l0.length : Int))) 0)) = some r := h
 clear h
 by_cases c3 : (wrap64 (a1 - (l0.length : Int))) < 0
 ·rw [if_pos c3] at H
  have c3b0 := decide_eq_true c3
  clear c3
  obtain rfl := Option.some.inj H
  go_enter Tryz.func13, Tryz.ntmps13
  go_wp2
  go_ret
  exact ⟨by first | rfl | (simp; done) | (simp [*]; done), dR⟩
 ·rw [if_neg c3] at H
  have c3b0 := decide_eq_false c3
  clear c3
  have H' := aM H
  clear H
  go_enter Tryz.func13, Tryz.ntmps13
  go_wp2
  go_loopg [1, 5] k (fun kq v1 v5 w' => ∃ (x1_1 : Int) (x5_1 : Int), v1 = .int .i64 x1_1 ∧ v5 = .int .i64 x5_1 ∧ Aside0 (qJA.l0 kq l0 x1_1 x5_1 = some r) ∧ Aside0 (kq ≤ k) ∧ Drawn0 w w')
  case atStart => exact ⟨(wrap64 (a1 - (l0.length : Int))), (0), sD, sD, H', ⟨Nat.le_refl _⟩, dR⟩
  case round =>
   clear H'; (try clear c1); (try clear p2); (try clear c3); (try clear c3b0)
   obtain ⟨x1_1, x5_1, rfl, rfl, HA, HK1, ⟨m1, rfl⟩⟩ := hrel
   cases gk with
   | zero => exact absurd HA.out (by simp [qJA.l0])
   | succ k1 =>
    have H := HA.out
    clear HA
    simp only [qJA.l0] at H
    by_cases c4 : x5_1 < (l0.length : Int)
    ·rw [if_pos c4] at H
     have c4b0 := decide_eq_true c4
     clear c4
     by_cases c5 : 0 ≤ x5_1
     case neg => exact nN c5 H
     rw [if_pos c5] at H
     have c5b0 := decide_eq_true c5
     clear c5
     replace H := bO H
     obtain ⟨t570, A6, H⟩ := H
     by_cases c7 : t570 < 0
     ·rw [if_pos c7] at H
      have c7b0 := decide_eq_true c7
      clear c7
      obtain rfl := Option.some.inj H
      have p569 : 0 ≤ (x5_1 : Int) := of_decide_eq_true am
      have q569 : x5_1 < (l0.length : Int) := of_decide_eq_true am
      obtain ⟨ad569, A569_0, c569_0, e569, hx569_0, hl569_0, hi569_0⟩ := at_L7 HR0.out x5_1 p569 q569
      cases e569
      have HR569_0 := aM hi569_0
      have HC569_0 := aM hl569_0
      clear hi569_0 hl569_0
      replace p569 := eq_true p569
      replace q569 := eq_true q569
      go_wp2_with (first | ((with_reducible refine qE (f := 31) rfl ?_); refine qm (some 23) rfl rfl Tryz.func31 (by kernel_rfl) rfl #[.slice A569_0 (rd_L7 l0 x5_1).length c569_0, .int .i64 x1_1] rfl gA ?_; (with_reducible refine (qoB.calls _ _ (rd_L7 l0 x5_1) x1_1 t570 _ ?side1 ?side2 A6.out).mono ?_); (case side1 => repeat (first | exact HR569_0.out | (with_reducible refine Kd.qL ?_ _) | (with_reducible refine Kd.qK ?_ _) | (with_reducible refine Kd.qX ?_))); (case side2 => exact HC569_0.out); rintro e w' ⟨rfl, ⟨nd, rfl⟩⟩; refine ⟨_, rfl, ?_⟩))
      go_ret
      exact ⟨by first | rfl | (simp; done) | (simp [*]; done), dR⟩
     ·rw [if_neg c7] at H
      have c7b0 := decide_eq_false c7
      clear c7
      have H' := aM H
      clear H
      have p569 : 0 ≤ (x5_1 : Int) := of_decide_eq_true am
      have q569 : x5_1 < (l0.length : Int) := of_decide_eq_true am
      obtain ⟨ad569, A569_0, c569_0, e569, hx569_0, hl569_0, hi569_0⟩ := at_L7 HR0.out x5_1 p569 q569
      cases e569
      have HR569_0 := aM hi569_0
      have HC569_0 := aM hl569_0
      clear hi569_0 hl569_0
      replace p569 := eq_true p569
      replace q569 := eq_true q569
      go_wp2_with (first | ((with_reducible refine qE (f := 31) rfl ?_); refine qm (some 23) rfl rfl Tryz.func31 (by kernel_rfl) rfl #[.slice A569_0 (rd_L7 l0 x5_1).length c569_0, .int .i64 x1_1] rfl gA ?_; (with_reducible refine (qoB.calls _ _ (rd_L7 l0 x5_1) x1_1 t570 _ ?side1 ?side2 A6.out).mono ?_); (case side1 => repeat (first | exact HR569_0.out | (with_reducible refine Kd.qL ?_ _) | (with_reducible refine Kd.qK ?_ _) | (with_reducible refine Kd.qX ?_))); (case side2 => exact HC569_0.out); rintro e w' ⟨rfl, ⟨nd, rfl⟩⟩; refine ⟨_, rfl, ?_⟩))
      go_roundg k1
      case measure => have := HK1.out; omega
      case rel => exact ⟨(t570), (wrap64 (x5_1 + 1)), sD, sD, H', ⟨by have := HK1.out; omega⟩, dR⟩
    ·rw [if_neg c4] at H
     have c4b0 := decide_eq_false c4
     clear c4
     obtain rfl := Option.some.inj H
     go_wp2
     go_ret
     exact ⟨by first | rfl | (simp; done) | (simp [*]; done), dR⟩
def qmA.f (a0 : Int) (a1 : Int) (a2 : Int) : Option (Bool) := if a0 ≥ a1 then (some (decide (a0 ≤ a2))) else (some false)
set_option maxHeartbeats 8000000 in
set_option maxRecDepth 100000 in
theorem qmA.calls (a0 : Int) (a1 : Int) (a2 : Int) (r : Bool) (w : World) (h : qmA.f a0 a1 a2 = some r) :
  Calls Tryz.prog 42 #[.int .i64 a0, .int .i64 a1, .int .i64 a2] w fun e w' => e = .returned (.bool r) ∧ Drawn0 w w' := by
 have H : (if a0 ≥ a1 then (some (decide (a0 ≤ a2))) else (some false)) = some r := h
 clear h
 by_cases c4 : a0 ≥ a1
 ·rw [if_pos c4] at H
  have c4b0 := decide_eq_true c4
  clear c4
  obtain rfl := Option.some.inj H
  go_enter Tryz.func42, Tryz.ntmps42
  go_wp2
  go_ret
  exact ⟨by first | rfl | (simp; done) | (simp [*]; done), dR⟩
 ·rw [if_neg c4] at H
  have c4b0 := decide_eq_false c4
  clear c4
  obtain rfl := Option.some.inj H
  go_enter Tryz.func42, Tryz.ntmps42
  go_wp2
  go_ret
  exact ⟨by first | rfl | (simp; done) | (simp [*]; done), dR⟩
def qGB.f (a0_0 : Int) (a0_1 : Int) (l0_2 : List Int) (a1 : Int) (a2 : Int) : Option (Bool) := (qmA.f a1 0 (wrap64 (a0_0 - 1))).bind fun t102 => (if t102 = true then ((qmA.f a2 0 (wrap64 (a0_1 - 1))).bind fun t103 => (some t103)) else (some false))
set_option maxHeartbeats 8000000 in
set_option maxRecDepth 100000 in
theorem qGB.calls (a0_0 : Int) (a0_1 : Int) (A0_2 : Option Addr) (c0_2 : Nat) (l0_2 : List Int) (a1 : Int) (a2 : Int) (r : Bool) (w : World) (hr0_2 : Kd.C (Kd.int .u8) w A0_2 l0_2.length l0_2) (hc0_2 : l0_2.length ≤ c0_2) (h : qGB.f a0_0 a0_1 l0_2 a1 a2 = some r) :
  Calls Tryz.prog 32 #[.agg #[.int .i64 a0_0, .int .i64 a0_1, .slice A0_2 l0_2.length c0_2], .int .i64 a1, .int .i64 a2] w fun e w' => e = .returned (.bool r) ∧ Below w.heap.size w w' := by
 have hu40 := Tryz.underlying40
 have HR0_2 := aM hr0_2
 have HC0_2 := aM hc0_2
 clear hr0_2 hc0_2
 have HB := aM (Below.refl w.heap.size w)
 have H : ((qmA.f a1 0 (wrap64 (a0_0 - 1))).bind fun t102 => (if t102 = true then ((qmA.f a2 0 (wrap64 (a0_1 - 1))).bind fun t103 => (some t103)) else (some false))) = some r := h
 clear h
 replace H := bO H
 obtain ⟨t102, A4, H⟩ := H
 by_cases c5 : t102 = true
 ·subst c5
  replace H := iT H
  replace H := bO H
  obtain ⟨t103, A6, H⟩ := H
  obtain rfl := Option.some.inj H
  go_enter Tryz.func32, Tryz.ntmps32
  go_wp2_with (first | ((with_reducible refine qH (N := 3) rfl ?_); refine bE (N := 3) (cs := #[.int .i64 a0_0, .int .i64 a0_1, .slice A0_2 l0_2.length c0_2]) (t := 40) ?_; intro gb101 hg w7 hbox hb; have BK101 := aM (hbox); have GW101 := aM ((gg hg)); have GE101 := aM ((gg hg)); replace HB := aM (qB bl hb); clear hb hbox hg; (refine cb3 BK101 ?_; intro _ _ _); (refine cz3 BK101 ?_; intro _ _ _)) | ((with_reducible refine qE (f := 42) rfl ?_); refine qm (some 11) rfl rfl Tryz.func42 (by kernel_rfl) rfl #[.int .i64 a1, .int .i64 0, .int .i64 (wrap64 (a0_0 - 1))] rfl gA ?_; (with_reducible refine (qmA.calls a1 0 (wrap64 (a0_0 - 1)) true _ A4.out).mono ?_); rintro e w' ⟨rfl, ⟨nd, rfl⟩⟩; refine ⟨_, rfl, ?_⟩) | (go_at_call 42; (with_reducible refine (qmA.calls a2 0 (wrap64 (a0_1 - 1)) t103 _ A6.out).mono ?_); rintro e w' ⟨rfl, ⟨nd, rfl⟩⟩))
  go_ret
  exact ⟨sR, bl⟩
 ·replace c5 := Bool.eq_false_iff.mpr c5
  subst c5
  replace H := iF H
  obtain rfl := Option.some.inj H
  go_enter Tryz.func32, Tryz.ntmps32
  go_wp2_with (first | ((with_reducible refine qH (N := 3) rfl ?_); refine bE (N := 3) (cs := #[.int .i64 a0_0, .int .i64 a0_1, .slice A0_2 l0_2.length c0_2]) (t := 40) ?_; intro gb101 hg w9 hbox hb; have BK101 := aM (hbox); have GW101 := aM ((gg hg)); have GE101 := aM ((gg hg)); replace HB := aM (qB bl hb); clear hb hbox hg; (refine cb3 BK101 ?_; intro _ _ _); (refine cz3 BK101 ?_; intro _ _ _)) | ((with_reducible refine qE (f := 42) rfl ?_); refine qm (some 11) rfl rfl Tryz.func42 (by kernel_rfl) rfl #[.int .i64 a1, .int .i64 0, .int .i64 (wrap64 (a0_0 - 1))] rfl gA ?_; (with_reducible refine (qmA.calls a1 0 (wrap64 (a0_0 - 1)) false _ A4.out).mono ?_); rintro e w' ⟨rfl, ⟨nd, rfl⟩⟩; refine ⟨_, rfl, ?_⟩))
  go_ret
  exact ⟨sR, bl⟩
def qpA.f (a0_0 : Int) (a0_1 : Int) (l0_2 : List Int) (a1 : Int) (a2 : Int) : Option (Bool) := (qGB.f a0_0 a0_1 l0_2 a1 a2).bind fun t105 => (if t105 = true then (if 0 ≤ (wrap64 ((wrap64 (a2 * a0_0)) + a1)) then (if (wrap64 ((wrap64 (a2 * a0_0)) + a1)) < (l0_2.length : Int) then (some ((rd l0_2 (wrap64 ((wrap64 (a2 * a0_0)) + a1))) == 46)) else (none)) else (none)) else (some false))
set_option maxHeartbeats 8000000 in
set_option maxRecDepth 100000 in
theorem qpA.calls (a0_0 : Int) (a0_1 : Int) (A0_2 : Option Addr) (c0_2 : Nat) (l0_2 : List Int) (a1 : Int) (a2 : Int) (r : Bool) (w : World) (hr0_2 : Kd.C (Kd.int .u8) w A0_2 l0_2.length l0_2) (hc0_2 : l0_2.length ≤ c0_2) (h : qpA.f a0_0 a0_1 l0_2 a1 a2 = some r) :
  Calls Tryz.prog 60 #[.agg #[.int .i64 a0_0, .int .i64 a0_1, .slice A0_2 l0_2.length c0_2], .int .i64 a1, .int .i64 a2] w fun e w' => e = .returned (.bool r) ∧ Below w.heap.size w w' := by
 have hu40 := Tryz.underlying40
 have HR0_2 := aM hr0_2
 have HC0_2 := aM hc0_2
 clear hr0_2 hc0_2
 have HB := aM (Below.refl w.heap.size w)
 have H : ((qGB.f a0_0 a0_1 l0_2 a1 a2).bind fun t105 => (if t105 = true then (if 0 ≤ (wrap64 ((wrap64 (a2 * a0_0)) + a1)) then (if (wrap64 ((wrap64 (a2 * a0_0)) + a1)) < (l0_2.length : Int) then (some ((rd l0_2 (wrap64 ((wrap64 (a2 * a0_0)) + a1))) == 46)) else (none)) else (none)) else (some false))) = some r := h
 clear h
 replace H := bO H
 obtain ⟨t105, A4, H⟩ := H
 by_cases c5 : t105 = true
 ·subst c5
  replace H := iT H
  obtain ⟨ji6, hji6⟩ : ∃ j_ : Int, (wrap64 ((wrap64 (a2 * a0_0)) + a1)) = j_ := ⟨_, rfl⟩
  replace H : (if 0 ≤ (ji6) then (if (ji6) < (l0_2.length : Int) then (some ((rd l0_2 (ji6)) == 46)) else (none)) else (none)) = some r := by first | (rw [hji6] at H; exact H) | (simp only [hji6] at H ⊢; exact H)
  (try rw [hji6] at A4)
  have hji6w : (IntKind.i64.wrap ((wrap64 (a2 * a0_0)) + a1)) = ji6 := (i64_w _).trans hji6
  by_cases c7 : 0 ≤ (ji6)
  case neg => exact nN c7 H
  rw [if_pos c7] at H
  have c7b0 := decide_eq_true c7
  clear c7
  by_cases c8 : (ji6) < (l0_2.length : Int)
  case neg => exact nN c8 H
  rw [if_pos c8] at H
  have c8b0 := decide_eq_true c8
  clear c8
  obtain rfl := Option.some.inj H
  go_enter Tryz.func60, Tryz.ntmps60
  go_wp2_with (first | ((with_reducible refine qH (N := 3) rfl ?_); refine bE (N := 3) (cs := #[.int .i64 a0_0, .int .i64 a0_1, .slice A0_2 l0_2.length c0_2]) (t := 40) ?_; intro gb104 hg w9 hbox hb; have BK104 := aM (hbox); have GW104 := aM ((gg hg)); have GE104 := aM ((gg hg)); replace HB := aM (qB bl hb); clear hb hbox hg; (refine cb3 BK104 ?_; intro _ _ _); (refine cz3 BK104 ?_; intro _ _ _)) | ((with_reducible refine qE (f := 32) rfl ?_); refine qm (some 10) rfl rfl Tryz.func32 (by kernel_rfl) rfl #[.agg #[.int .i64 a0_0, .int .i64 a0_1, .slice A0_2 l0_2.length c0_2], .int .i64 a1, .int .i64 a2] rfl gA ?_; (with_reducible refine (qGB.calls a0_0 a0_1 _ _ l0_2 a1 a2 true _ ?side1 ?side2 A4.out).mono ?_); (case side1 => repeat (first | exact (Kd.qV HR0_2.out HB.out) | (with_reducible refine Kd.qL ?_ _) | (with_reducible refine Kd.qK ?_ _) | (with_reducible refine Kd.qX ?_))); (case side2 => exact HC0_2.out); rintro e w11 ⟨rfl, hb⟩; refine ⟨_, rfl, ?_⟩; replace BK104 := aM (bb BK104 hb); replace HB := aM (qB bl hb); (try clear hb); (try clear hb2); (try clear hk); (try clear hi); (refine cb3 BK104 ?_; intro _ _ _); (refine cz3 BK104 ?_; intro _ _ _); have p106 : 0 ≤ ((ji6) : Int) := of_decide_eq_true am; have q106 : (ji6) < (l0_2.length : Int) := of_decide_eq_true am; obtain ⟨ad106, e106, hx106_0⟩ := Kd.qHB HR0_2.out (ji6) p106 q106; cases e106; replace hx106_0 := hB HB hx106_0; replace p106 := eq_true p106; replace q106 := eq_true q106))
  go_ret
  exact ⟨by first | rfl | (simp [qmC, qlC] <;> rfl) | (simp only [← hji6]; first | rfl | (simp [qmC, qlC] <;> rfl)) | (simp [*, qmC, qlC] <;> rfl), bl⟩
 ·replace c5 := Bool.eq_false_iff.mpr c5
  subst c5
  replace H := iF H
  obtain rfl := Option.some.inj H
  go_enter Tryz.func60, Tryz.ntmps60
  go_wp2_with (first | ((with_reducible refine qH (N := 3) rfl ?_); refine bE (N := 3) (cs := #[.int .i64 a0_0, .int .i64 a0_1, .slice A0_2 l0_2.length c0_2]) (t := 40) ?_; intro gb104 hg w13 hbox hb; have BK104 := aM (hbox); have GW104 := aM ((gg hg)); have GE104 := aM ((gg hg)); replace HB := aM (qB bl hb); clear hb hbox hg; (refine cb3 BK104 ?_; intro _ _ _); (refine cz3 BK104 ?_; intro _ _ _)) | ((with_reducible refine qE (f := 32) rfl ?_); refine qm (some 10) rfl rfl Tryz.func32 (by kernel_rfl) rfl #[.agg #[.int .i64 a0_0, .int .i64 a0_1, .slice A0_2 l0_2.length c0_2], .int .i64 a1, .int .i64 a2] rfl gA ?_; (with_reducible refine (qGB.calls a0_0 a0_1 _ _ l0_2 a1 a2 false _ ?side1 ?side2 A4.out).mono ?_); (case side1 => repeat (first | exact (Kd.qV HR0_2.out HB.out) | (with_reducible refine Kd.qL ?_ _) | (with_reducible refine Kd.qK ?_ _) | (with_reducible refine Kd.qX ?_))); (case side2 => exact HC0_2.out); rintro e w15 ⟨rfl, hb⟩; refine ⟨_, rfl, ?_⟩; replace BK104 := aM (bb BK104 hb); replace HB := aM (qB bl hb); (try clear hb); (try clear hb2); (try clear hk); (try clear hi)))
  go_ret
  exact ⟨sR, bl⟩
def qnA.l0 : Nat → Int → Int → List Int → Int → Int → Option (Bool)
 | 0, _, _, _, _, _ => none
 | k + 1, x1, x2, x9, x10, x11 => if x11 < x10 then (if 0 ≤ x11 then (if x11 < (x9.length : Int) then ((qmA.f (rd x9 x11) x1 x2).bind fun t108 => (if t108 = true then (qnA.l0 k x1 x2 x9 x10 (wrap64 (x11 + 1))) else (some false))) else (none)) else (none)) else (some true)
def qnA.f (k : Nat) (l0 : List Int) (a1 : Int) (a2 : Int) : Option (Bool) := qnA.l0 k a1 a2 l0 (l0.length : Int) 0
set_option maxHeartbeats 8000000 in
set_option maxRecDepth 100000 in
theorem qnA.calls (k : Nat) (A0 : Option Addr) (c0 : Nat) (l0 : List Int) (a1 : Int) (a2 : Int) (r : Bool) (w : World) (hr0 : Kd.C (Kd.int .i64) w A0 l0.length l0) (hc0 : l0.length ≤ c0) (h : qnA.f k l0 a1 a2 = some r) :
  Calls Tryz.prog 77 #[.slice A0 l0.length c0, .int .i64 a1, .int .i64 a2] w fun e w' => e = .returned (.bool r) ∧ Drawn0 w w' := by
 have HR0 := aM hr0
 have HC0 := aM hc0
 clear hr0 hc0
 have H : (qnA.l0 k a1 a2 l0 (l0.length : Int) 0) = some r := h
 clear h
 have H' := aM H
 clear H
 go_enter Tryz.func77, Tryz.ntmps77
 go_wp2
 go_loopg [11] k (fun kq v11 w' => ∃ (x11_1 : Int), v11 = .int .i64 x11_1 ∧ Aside0 (qnA.l0 kq a1 a2 l0 (l0.length : Int) x11_1 = some r) ∧ Aside0 (kq ≤ k) ∧ Drawn0 w w')
 case atStart => exact ⟨(0), sD, H', ⟨Nat.le_refl _⟩, dR⟩
 case round =>
  clear H'; (try clear p2)
  obtain ⟨x11_1, rfl, HA, HK1, ⟨m1, rfl⟩⟩ := hrel
  cases gk with
  | zero => exact absurd HA.out (by simp [qnA.l0])
  | succ k1 =>
   have H := HA.out
   clear HA
   simp only [qnA.l0] at H
   by_cases c4 : x11_1 < (l0.length : Int)
   ·rw [if_pos c4] at H
    have c4b0 := decide_eq_true c4
    clear c4
    by_cases c5 : 0 ≤ x11_1
    case neg => exact nN c5 H
    rw [if_pos c5] at H
    have c5b0 := decide_eq_true c5
    clear c5
    by_cases c6 : x11_1 < (l0.length : Int)
    case neg => exact nN c6 H
    rw [if_pos c6] at H
    have c6b0 := decide_eq_true c6
    clear c6
    replace H := bO H
    obtain ⟨t108, A7, H⟩ := H
    by_cases c8 : t108 = true
    ·subst c8
     replace H := iT H
     have H' := aM H
     clear H
     have p107 : 0 ≤ (x11_1 : Int) := of_decide_eq_true am
     have q107 : x11_1 < (l0.length : Int) := of_decide_eq_true am
     obtain ⟨ad107, e107, hx107_0⟩ := Kd.qHB HR0.out x11_1 p107 q107
     cases e107
     replace p107 := eq_true p107
     replace q107 := eq_true q107
     go_wp2_with (first | ((with_reducible refine qE (f := 42) rfl ?_); refine qm (some 18) rfl rfl Tryz.func42 (by kernel_rfl) rfl #[.int .i64 (rd l0 x11_1), .int .i64 a1, .int .i64 a2] rfl gA ?_; (with_reducible refine (qmA.calls (rd l0 x11_1) a1 a2 true _ A7.out).mono ?_); rintro e w' ⟨rfl, ⟨nd, rfl⟩⟩; refine ⟨_, rfl, ?_⟩))
     go_roundg k1
     case measure => have := HK1.out; omega
     case rel => exact ⟨(wrap64 (x11_1 + 1)), sD, H', ⟨by have := HK1.out; omega⟩, dR⟩
    ·replace c8 := Bool.eq_false_iff.mpr c8
     subst c8
     replace H := iF H
     obtain rfl := Option.some.inj H
     have p107 : 0 ≤ (x11_1 : Int) := of_decide_eq_true am
     have q107 : x11_1 < (l0.length : Int) := of_decide_eq_true am
     obtain ⟨ad107, e107, hx107_0⟩ := Kd.qHB HR0.out x11_1 p107 q107
     cases e107
     replace p107 := eq_true p107
     replace q107 := eq_true q107
     go_wp2_with (first | ((with_reducible refine qE (f := 42) rfl ?_); refine qm (some 18) rfl rfl Tryz.func42 (by kernel_rfl) rfl #[.int .i64 (rd l0 x11_1), .int .i64 a1, .int .i64 a2] rfl gA ?_; (with_reducible refine (qmA.calls (rd l0 x11_1) a1 a2 false _ A7.out).mono ?_); rintro e w' ⟨rfl, ⟨nd, rfl⟩⟩; refine ⟨_, rfl, ?_⟩))
     go_ret
     exact ⟨by first | rfl | (simp; done) | (simp [*]; done), dR⟩
   ·rw [if_neg c4] at H
    have c4b0 := decide_eq_false c4
    clear c4
    obtain rfl := Option.some.inj H
    go_wp2
    go_ret
    exact ⟨by first | rfl | (simp; done) | (simp [*]; done), dR⟩
def qQA.f (a0_0 : Int) (a0_1 : Int) (a0_2 : Int) (a0_3 : Int) (a0_4 : Int) (a0_5 : Int) : Option (List Int) := some (([a0_0, a0_1, a0_2, a0_3, a0_4, a0_5] : List Int))
set_option maxHeartbeats 8000000 in
set_option maxRecDepth 100000 in
theorem qQA.calls (a0_0 : Int) (a0_1 : Int) (a0_2 : Int) (a0_3 : Int) (a0_4 : Int) (a0_5 : Int) (r : List Int) (w : World) (h : qQA.f a0_0 a0_1 a0_2 a0_3 a0_4 a0_5 = some r) :
  Calls Tryz.prog 78 #[.agg #[.int .i64 a0_0, .int .i64 a0_1, .int .i64 a0_2, .int .i64 a0_3, .int .i64 a0_4, .int .i64 a0_5]] w fun e w' => ∃ v0_ : Value, e = .returned (v0_) ∧ Kd.R (Kd.int .i64) 3 w' w.heap.size (fun _ => True) v0_ r ∧ Below w.heap.size w w' := by
 have hu51 := Tryz.underlying51
 have HB := aM (Below.refl w.heap.size w)
 have H : (some (([a0_0, a0_1, a0_2, a0_3, a0_4, a0_5] : List Int))) = some r := h
 clear h
 obtain ⟨y110, hy110⟩ : ∃ y_ : List Int, y_ = (([a0_0, a0_1, a0_2, a0_3, a0_4, a0_5] : List Int)) := ⟨_, rfl⟩
 replace H : (some y110) = some r := by first | (rw [hy110]; with_reducible exact H) | (have H2_ := (Option.bind_some _ _).symm.trans H; rw [hy110]; with_reducible exact H2_) | (have H2_ := (Option.bind_some _ _).symm.trans H; with_reducible exact H2_) | with_reducible exact H | (rw [hy110]; exact H) | exact H
 have Ny110 := aM hy110
 clear hy110
 obtain rfl := Option.some.inj H
 go_enter Tryz.func78, Tryz.ntmps78
 go_wp2_with (first | ((with_reducible refine qH (N := 1) rfl ?_); refine bE (N := 1) (cs := #[.int .i64 a0_0, .int .i64 a0_1, .int .i64 a0_2, .int .i64 a0_3, .int .i64 a0_4, .int .i64 a0_5]) (t := 51) ?_; intro gb109 hg w2 hbox hb; have BK109 := aM (hbox); have GW109 := aM ((gg hg)); have GE109 := aM ((gg hg)); replace HB := aM (qB bl hb); clear hb hbox hg; (refine cb6 BK109 ?_; intro _ _ _ _ _ _); (refine cz6 BK109 ?_; intro _ _ _ _ _ _)) | ((with_reducible refine qH (N := 15) rfl ?_); refine Kd.R_lit (Kd.int .i64) _ 3 ?hg (N := 15) ?hd (xs := ([a0_0, a0_1, a0_2, a0_3, a0_4, a0_5] : List Int)) (inner := [.int .i64 a0_0, .int .i64 a0_1, .int .i64 a0_2, .int .i64 a0_3, .int .i64 a0_4, .int .i64 a0_5]) (ok := fun _ => True) (okp := fun _ => True) ?hr ?hp (fun _ hk => hk) trivial (Below.refl _ _) (Nat.le_refl _) (by simp) ?_; (case hd => rfl); (case hg => rfl); (case hr => exact gS); (case hp => exact (Reps.one (show Kd.M (Kd.int .i64) _ _ _ a0_0 [.int .i64 a0_0] from rfl) (Reps.one (show Kd.M (Kd.int .i64) _ _ _ a0_1 [.int .i64 a0_1] from rfl) (Reps.one (show Kd.M (Kd.int .i64) _ _ _ a0_2 [.int .i64 a0_2] from rfl) (Reps.one (show Kd.M (Kd.int .i64) _ _ _ a0_3 [.int .i64 a0_3] from rfl) (Reps.one (show Kd.M (Kd.int .i64) _ _ _ a0_4 [.int .i64 a0_4] from rfl) (Reps.one (show Kd.M (Kd.int .i64) _ _ _ a0_5 [.int .i64 a0_5] from rfl) (Reps.none _ _)))))))); intro v111 w4 ho5 hb hg_ hnew_; clear hg_ hnew_; (first | rw [← Ny110.out] at ho5 | (simp only [Int.reduceToNat] at ho5; rw [← Ny110.out] at ho5)); have HO112 := aM (Kd.qz ho5 (qJ bl)); replace BK109 := aM (bb BK109 hb); replace HB := aM (qB bl hb); clear hb ho5))
 go_ret
 exact ⟨_, sR, by (with_reducible repeat (first | apply Kd.qQ | apply Kd.qR | apply Kd.qS)); exact HO112.out, bl⟩
def qnB.f (k : Nat) (a0_0 : Int) (a0_1 : Int) (a0_2 : Int) (a0_3 : Int) (a0_4 : Int) (a0_5 : Int) : Option (Bool) := (qQA.f a0_0 a0_1 a0_2 a0_3 a0_4 a0_5).bind fun t114 => ((qnA.f k t114 0 9).bind fun t117 => (some t117))
set_option maxHeartbeats 8000000 in
set_option maxRecDepth 100000 in
theorem qnB.calls (k : Nat) (a0_0 : Int) (a0_1 : Int) (a0_2 : Int) (a0_3 : Int) (a0_4 : Int) (a0_5 : Int) (r : Bool) (w : World) (h : qnB.f k a0_0 a0_1 a0_2 a0_3 a0_4 a0_5 = some r) :
  Calls Tryz.prog 61 #[.agg #[.int .i64 a0_0, .int .i64 a0_1, .int .i64 a0_2, .int .i64 a0_3, .int .i64 a0_4, .int .i64 a0_5]] w fun e w' => e = .returned (.bool r) ∧ Below w.heap.size w w' := by
 have hu51 := Tryz.underlying51
 have HB := aM (Below.refl w.heap.size w)
 have H : ((qQA.f a0_0 a0_1 a0_2 a0_3 a0_4 a0_5).bind fun t114 => ((qnA.f k t114 0 9).bind fun t117 => (some t117))) = some r := h
 clear h
 replace H := bO H
 obtain ⟨t114, A2, H⟩ := H
 replace H := bO H
 obtain ⟨t117, A3, H⟩ := H
 obtain rfl := Option.some.inj H
 go_enter Tryz.func61, Tryz.ntmps61
 go_wp2_with (first | ((with_reducible refine qH (N := 1) rfl ?_); refine bE (N := 1) (cs := #[.int .i64 a0_0, .int .i64 a0_1, .int .i64 a0_2, .int .i64 a0_3, .int .i64 a0_4, .int .i64 a0_5]) (t := 51) ?_; intro gb113 hg w4 hbox hb; have BK113 := aM (hbox); have GW113 := aM ((gg hg)); have GE113 := aM ((gg hg)); replace HB := aM (qB bl hb); clear hb hbox hg; (refine cb6 BK113 ?_; intro _ _ _ _ _ _); (refine cz6 BK113 ?_; intro _ _ _ _ _ _)) | ((with_reducible refine qE (f := 78) rfl ?_); refine qm (some 4) rfl rfl Tryz.func78 (by kernel_rfl) rfl #[.agg #[.int .i64 a0_0, .int .i64 a0_1, .int .i64 a0_2, .int .i64 a0_3, .int .i64 a0_4, .int .i64 a0_5]] rfl gA ?_; (with_reducible refine (qQA.calls a0_0 a0_1 a0_2 a0_3 a0_4 a0_5 t114 _ A2.out).mono ?_); rintro e w6 ⟨v115, rfl, ho0, hb⟩; refine ⟨_, rfl, ?_⟩; have HO116 := aM (Kd.qz ho0 (qJ bl)); replace BK113 := aM (bb BK113 hb); replace HB := aM (qB bl hb); (try clear hb); (try clear hb2); (try clear hk); (try clear hi); (try clear ho0); obtain ⟨Ao7, co7, eo7⟩ := Kd.qDA HO116.out; subst eo7) | ((with_reducible refine qE (f := 77) rfl ?_); refine qm (some 5) rfl rfl Tryz.func77 (by kernel_rfl) rfl #[.slice Ao7 t114.length co7, .int .i64 0, .int .i64 9] rfl gA ?_; (with_reducible refine (qnA.calls k _ _ t114 0 9 t117 _ ?side1 ?side2 A3.out).mono ?_); (case side1 => repeat (first | exact (Kd.qO HO116.out).2.2 | (with_reducible refine Kd.qL ?_ _) | (with_reducible refine Kd.qK ?_ _) | (with_reducible refine Kd.qX ?_))); (case side2 => exact (Kd.qO HO116.out).2.1); rintro e w' ⟨rfl, ⟨nd, rfl⟩⟩; refine ⟨_, rfl, ?_⟩))
 go_ret
 exact ⟨sR, bl⟩
def qRB.f (k : Nat) (a0_0 : Int) (a0_1 : Int) (l0_2 : List Int) (a1_0 : Int) (a1_1 : Int) (a1_2 : Int) (a1_3 : Int) (a1_4 : Int) (a1_5 : Int) (a1_6 : Int) (a1_7 : Int) : Option (Bool) := (qpA.f a0_0 a0_1 l0_2 a1_0 a1_1).bind fun t120 => (if t120 = true then ((qnB.f k a1_2 a1_3 a1_4 a1_5 a1_6 a1_7).bind fun t121 => (some t121)) else (some false))
set_option maxHeartbeats 8000000 in
set_option maxRecDepth 100000 in
theorem qRB.calls (k : Nat) (a0_0 : Int) (a0_1 : Int) (A0_2 : Option Addr) (c0_2 : Nat) (l0_2 : List Int) (a1_0 : Int) (a1_1 : Int) (a1_2 : Int) (a1_3 : Int) (a1_4 : Int) (a1_5 : Int) (a1_6 : Int) (a1_7 : Int) (r : Bool) (w : World) (hr0_2 : Kd.C (Kd.int .u8) w A0_2 l0_2.length l0_2) (hc0_2 : l0_2.length ≤ c0_2) (h : qRB.f k a0_0 a0_1 l0_2 a1_0 a1_1 a1_2 a1_3 a1_4 a1_5 a1_6 a1_7 = some r) :
  Calls Tryz.prog 43 #[.agg #[.int .i64 a0_0, .int .i64 a0_1, .slice A0_2 l0_2.length c0_2], .agg #[.int .i64 a1_0, .int .i64 a1_1, .int .i64 a1_2, .int .i64 a1_3, .int .i64 a1_4, .int .i64 a1_5, .int .i64 a1_6, .int .i64 a1_7]] w fun e w' => e = .returned (.bool r) ∧ Below w.heap.size w w' := by
 have hu40 := Tryz.underlying40
 have hu53 := Tryz.underlying53
 have hu51 := Tryz.underlying51
 have HR0_2 := aM hr0_2
 have HC0_2 := aM hc0_2
 clear hr0_2 hc0_2
 have HB := aM (Below.refl w.heap.size w)
 have H : ((qpA.f a0_0 a0_1 l0_2 a1_0 a1_1).bind fun t120 => (if t120 = true then ((qnB.f k a1_2 a1_3 a1_4 a1_5 a1_6 a1_7).bind fun t121 => (some t121)) else (some false))) = some r := h
 clear h
 replace H := bO H
 obtain ⟨t120, A3, H⟩ := H
 by_cases c4 : t120 = true
 ·subst c4
  replace H := iT H
  replace H := bO H
  obtain ⟨t121, A5, H⟩ := H
  obtain rfl := Option.some.inj H
  go_enter Tryz.func43, Tryz.ntmps43
  go_wp2_with (first | ((with_reducible refine qH (N := 2) rfl ?_); refine bE (N := 2) (cs := #[.int .i64 a0_0, .int .i64 a0_1, .slice A0_2 l0_2.length c0_2]) (t := 40) ?_; intro gb118 hg w6 hbox hb; have BK118 := aM (hbox); have GW118 := aM ((gg hg)); have GE118 := aM ((gg hg)); replace HB := aM (qB bl hb); clear hb hbox hg) | ((with_reducible refine qH (N := 3) rfl ?_); refine bE (N := 3) (cs := #[.int .i64 a1_0, .int .i64 a1_1, .int .i64 a1_2, .int .i64 a1_3, .int .i64 a1_4, .int .i64 a1_5, .int .i64 a1_6, .int .i64 a1_7]) (t := 53) ?_; intro gb119 hg w7 hbox hb; have BK119 := aM (hbox); have GW119 := aM ((gg hg)); have GE119 := aM ((gg hg)); have NB118_119 := aM ((nl BK118 hg)); have NB119_118 := aM ((nr BK118 hg)); replace BK118 := aM (bb BK118 hb); replace HB := aM (qB bl hb); clear hb hbox hg; have hnb8 := NB118_119.out; have hnc8 := NB119_118.out; (refine cb3 BK118 ?_; intro _ _ _); (refine cz3 BK118 ?_; intro _ _ _); (refine cb8 BK119 ?_; intro _ _ _ _ _ _ _ _); (refine cz8 BK119 ?_; intro _ _ _ _ _ _ _ _)) | ((with_reducible refine qE (f := 60) rfl ?_); refine qm (some 10) rfl rfl Tryz.func60 (by kernel_rfl) rfl #[.agg #[.int .i64 a0_0, .int .i64 a0_1, .slice A0_2 l0_2.length c0_2], .int .i64 a1_0, .int .i64 a1_1] rfl gA ?_; (with_reducible refine (qpA.calls a0_0 a0_1 _ _ l0_2 a1_0 a1_1 true _ ?side1 ?side2 A3.out).mono ?_); (case side1 => repeat (first | exact (Kd.qV HR0_2.out HB.out) | (with_reducible refine Kd.qL ?_ _) | (with_reducible refine Kd.qK ?_ _) | (with_reducible refine Kd.qX ?_))); (case side2 => exact HC0_2.out); rintro e w11 ⟨rfl, hb⟩; refine ⟨_, rfl, ?_⟩; replace BK118 := aM (bb BK118 hb); replace BK119 := aM (bb BK119 hb); replace HB := aM (qB bl hb); (try clear hb); (try clear hb2); (try clear hk); (try clear hi); (refine cb8 BK119 ?_; intro _ _ _ _ _ _ _ _); (refine cz8 BK119 ?_; intro _ _ _ _ _ _ _ _)) | (go_at_call 61; (with_reducible refine (qnB.calls k a1_2 a1_3 a1_4 a1_5 a1_6 a1_7 t121 _ A5.out).mono ?_); rintro e w13 ⟨rfl, hb⟩; replace BK118 := aM (bb BK118 hb); replace BK119 := aM (bb BK119 hb); replace HB := aM (qB bl hb); (try clear hb); (try clear hb2); (try clear hk); (try clear hi)))
  go_ret
  exact ⟨sR, bl⟩
 ·replace c4 := Bool.eq_false_iff.mpr c4
  subst c4
  replace H := iF H
  obtain rfl := Option.some.inj H
  go_enter Tryz.func43, Tryz.ntmps43
  go_wp2_with (first | ((with_reducible refine qH (N := 2) rfl ?_); refine bE (N := 2) (cs := #[.int .i64 a0_0, .int .i64 a0_1, .slice A0_2 l0_2.length c0_2]) (t := 40) ?_; intro gb118 hg w14 hbox hb; have BK118 := aM (hbox); have GW118 := aM ((gg hg)); have GE118 := aM ((gg hg)); replace HB := aM (qB bl hb); clear hb hbox hg) | ((with_reducible refine qH (N := 3) rfl ?_); refine bE (N := 3) (cs := #[.int .i64 a1_0, .int .i64 a1_1, .int .i64 a1_2, .int .i64 a1_3, .int .i64 a1_4, .int .i64 a1_5, .int .i64 a1_6, .int .i64 a1_7]) (t := 53) ?_; intro gb119 hg w15 hbox hb; have BK119 := aM (hbox); have GW119 := aM ((gg hg)); have GE119 := aM ((gg hg)); have NB118_119 := aM ((nl BK118 hg)); have NB119_118 := aM ((nr BK118 hg)); replace BK118 := aM (bb BK118 hb); replace HB := aM (qB bl hb); clear hb hbox hg; have hnb16 := NB118_119.out; have hnc16 := NB119_118.out; (refine cb3 BK118 ?_; intro _ _ _); (refine cz3 BK118 ?_; intro _ _ _); (refine cb8 BK119 ?_; intro _ _ _ _ _ _ _ _); (refine cz8 BK119 ?_; intro _ _ _ _ _ _ _ _)) | ((with_reducible refine qE (f := 60) rfl ?_); refine qm (some 10) rfl rfl Tryz.func60 (by kernel_rfl) rfl #[.agg #[.int .i64 a0_0, .int .i64 a0_1, .slice A0_2 l0_2.length c0_2], .int .i64 a1_0, .int .i64 a1_1] rfl gA ?_; (with_reducible refine (qpA.calls a0_0 a0_1 _ _ l0_2 a1_0 a1_1 false _ ?side1 ?side2 A3.out).mono ?_); (case side1 => repeat (first | exact (Kd.qV HR0_2.out HB.out) | (with_reducible refine Kd.qL ?_ _) | (with_reducible refine Kd.qK ?_ _) | (with_reducible refine Kd.qX ?_))); (case side2 => exact HC0_2.out); rintro e w19 ⟨rfl, hb⟩; refine ⟨_, rfl, ?_⟩; replace BK118 := aM (bb BK118 hb); replace BK119 := aM (bb BK119 hb); replace HB := aM (qB bl hb); (try clear hb); (try clear hb2); (try clear hk); (try clear hi)))
  go_ret
  exact ⟨sR, bl⟩
def qVA.l0 : Nat → Int → Int → List (S53) → Int → Int → Option (Int)
 | 0, _, _, _, _, _ => none
 | k + 1, x1, x2, x9, x10, x11 => if x11 < x10 then (if 0 ≤ x11 then (if x11 < (x9.length : Int) then (if ((qA x9 x11).f0) = x1 then (if ((qA x9 x11).f1) = x2 then (some x11) else (qVA.l0 k x1 x2 x9 x10 (wrap64 (x11 + 1)))) else (qVA.l0 k x1 x2 x9 x10 (wrap64 (x11 + 1)))) else (none)) else (none)) else (some (-1))
def qVA.f (k : Nat) (l0 : List (S53)) (a1 : Int) (a2 : Int) : Option (Int) := qVA.l0 k a1 a2 l0 (l0.length : Int) 0
set_option maxHeartbeats 8000000 in
set_option maxRecDepth 100000 in
theorem qVA.calls (k : Nat) (A0 : Option Addr) (c0 : Nat) (l0 : List (S53)) (a1 : Int) (a2 : Int) (r : Int) (w : World) (hr0 : Kd.C k53 w A0 l0.length l0) (hc0 : l0.length ≤ c0) (h : qVA.f k l0 a1 a2 = some r) :
  Calls Tryz.prog 44 #[.slice A0 l0.length c0, .int .i64 a1, .int .i64 a2] w fun e w' => e = .returned (.int .i64 r) ∧ Below w.heap.size w w' := by
 have hu53 := Tryz.underlying53
 have HR0 := aM hr0
 have HC0 := aM hc0
 clear hr0 hc0
 have HB := aM (Below.refl w.heap.size w)
 have H : (qVA.l0 k a1 a2 l0 (l0.length : Int) 0) = some r := h
 clear h
 have H' := aM H
 clear H
 go_enter Tryz.func44, Tryz.ntmps44
 go_wp2
 go_loopg [11] k (fun kq v11 w' => ∃ (x11_1 : Int), v11 = .int .i64 x11_1 ∧ Aside0 (qVA.l0 kq a1 a2 l0 (l0.length : Int) x11_1 = some r) ∧ Aside0 (kq ≤ k) ∧ Aside0 (Below w.heap.size w w'))
 case atStart => exact ⟨(0), sD, H', ⟨Nat.le_refl _⟩, ⟨bl⟩⟩
 case round =>
  clear H'; (try clear p2)
  obtain ⟨x11_1, rfl, HA, HK1, HB⟩ := hrel
  cases gk with
  | zero => exact absurd HA.out (by simp [qVA.l0])
  | succ k1 =>
   have H := HA.out
   clear HA
   simp only [qVA.l0] at H
   by_cases c4 : x11_1 < (l0.length : Int)
   ·rw [if_pos c4] at H
    have c4b0 := decide_eq_true c4
    clear c4
    by_cases c5 : 0 ≤ x11_1
    case neg => exact nN c5 H
    rw [if_pos c5] at H
    have c5b0 := decide_eq_true c5
    clear c5
    by_cases c6 : x11_1 < (l0.length : Int)
    case neg => exact nN c6 H
    rw [if_pos c6] at H
    have c6b0 := decide_eq_true c6
    clear c6
    by_cases c7 : ((qA l0 x11_1).f0) = a1
    ·rw [if_pos c7] at H
     have c7b0 := beq_iff_eq.mpr c7
     have c7b1 := bne_eq_false_iff_eq.mpr c7
     clear c7
     by_cases c8 : ((qA l0 x11_1).f1) = a2
     ·rw [if_pos c8] at H
      have c8b0 := beq_iff_eq.mpr c8
      have c8b1 := bne_eq_false_iff_eq.mpr c8
      clear c8
      obtain rfl := Option.some.inj H
      have p122 : 0 ≤ (x11_1 : Int) := of_decide_eq_true am
      have q122 : x11_1 < (l0.length : Int) := of_decide_eq_true am
      obtain ⟨ad122, e122, hx122_0, hx122_1, hx122_2, hx122_3, hx122_4, hx122_5, hx122_6, hx122_7⟩ := qYB HR0.out x11_1 p122 q122
      cases e122
      replace hx122_0 := hB HB hx122_0
      replace hx122_1 := hB HB hx122_1
      replace hx122_2 := hB HB hx122_2
      replace hx122_3 := hB HB hx122_3
      replace hx122_4 := hB HB hx122_4
      replace hx122_5 := hB HB hx122_5
      replace hx122_6 := hB HB hx122_6
      replace hx122_7 := hB HB hx122_7
      replace p122 := eq_true p122
      replace q122 := eq_true q122
      go_wp2_with (first | ((with_reducible refine qH (N := 8) rfl ?_); refine bE (N := 8) (cs := #[.int .i64 0, .int .i64 0, .int .i64 0, .int .i64 0, .int .i64 0, .int .i64 0, .int .i64 0, .int .i64 0]) (t := 53) ?_; intro gb123 hg w9 hbox hb; have BK123 := aM (hbox); have GW123 := aM ((gg hg)); have GE123 := aM ((gg hg)); replace HB := aM (qB bl hb); clear hb hbox hg; (refine cb8 BK123 ?_; intro _ _ _ _ _ _ _ _); (refine cz8 BK123 ?_; intro _ _ _ _ _ _ _ _)))
      go_ret
      exact ⟨sR, bl⟩
     ·rw [if_neg c8] at H
      have c8b0 := beq_eq_false_iff_ne.mpr c8
      have c8b1 := bne_iff_ne.mpr c8
      have H' := aM H
      clear H
      have p122 : 0 ≤ (x11_1 : Int) := of_decide_eq_true am
      have q122 : x11_1 < (l0.length : Int) := of_decide_eq_true am
      obtain ⟨ad122, e122, hx122_0, hx122_1, hx122_2, hx122_3, hx122_4, hx122_5, hx122_6, hx122_7⟩ := qYB HR0.out x11_1 p122 q122
      cases e122
      replace hx122_0 := hB HB hx122_0
      replace hx122_1 := hB HB hx122_1
      replace hx122_2 := hB HB hx122_2
      replace hx122_3 := hB HB hx122_3
      replace hx122_4 := hB HB hx122_4
      replace hx122_5 := hB HB hx122_5
      replace hx122_6 := hB HB hx122_6
      replace hx122_7 := hB HB hx122_7
      replace p122 := eq_true p122
      replace q122 := eq_true q122
      go_wp2_with (first | ((with_reducible refine qH (N := 8) rfl ?_); refine bE (N := 8) (cs := #[.int .i64 0, .int .i64 0, .int .i64 0, .int .i64 0, .int .i64 0, .int .i64 0, .int .i64 0, .int .i64 0]) (t := 53) ?_; intro gb123 hg w11 hbox hb; have BK123 := aM (hbox); have GW123 := aM ((gg hg)); have GE123 := aM ((gg hg)); replace HB := aM (qB bl hb); clear hb hbox hg; (refine cb8 BK123 ?_; intro _ _ _ _ _ _ _ _); (refine cz8 BK123 ?_; intro _ _ _ _ _ _ _ _)))
      go_roundg k1
      case measure => have := HK1.out; omega
      case rel => exact ⟨(wrap64 (x11_1 + 1)), sD, H', ⟨by have := HK1.out; omega⟩, ⟨bl⟩⟩
    ·rw [if_neg c7] at H
     have c7b0 := beq_eq_false_iff_ne.mpr c7
     have c7b1 := bne_iff_ne.mpr c7
     have H' := aM H
     clear H
     have p122 : 0 ≤ (x11_1 : Int) := of_decide_eq_true am
     have q122 : x11_1 < (l0.length : Int) := of_decide_eq_true am
     obtain ⟨ad122, e122, hx122_0, hx122_1, hx122_2, hx122_3, hx122_4, hx122_5, hx122_6, hx122_7⟩ := qYB HR0.out x11_1 p122 q122
     cases e122
     replace hx122_0 := hB HB hx122_0
     replace hx122_1 := hB HB hx122_1
     replace hx122_2 := hB HB hx122_2
     replace hx122_3 := hB HB hx122_3
     replace hx122_4 := hB HB hx122_4
     replace hx122_5 := hB HB hx122_5
     replace hx122_6 := hB HB hx122_6
     replace hx122_7 := hB HB hx122_7
     replace p122 := eq_true p122
     replace q122 := eq_true q122
     go_wp2_with (first | ((with_reducible refine qH (N := 8) rfl ?_); refine bE (N := 8) (cs := #[.int .i64 0, .int .i64 0, .int .i64 0, .int .i64 0, .int .i64 0, .int .i64 0, .int .i64 0, .int .i64 0]) (t := 53) ?_; intro gb123 hg w13 hbox hb; have BK123 := aM (hbox); have GW123 := aM ((gg hg)); have GE123 := aM ((gg hg)); replace HB := aM (qB bl hb); clear hb hbox hg; (refine cb8 BK123 ?_; intro _ _ _ _ _ _ _ _); (refine cz8 BK123 ?_; intro _ _ _ _ _ _ _ _)))
     go_roundg k1
     case measure => have := HK1.out; omega
     case rel => exact ⟨(wrap64 (x11_1 + 1)), sD, H', ⟨by have := HK1.out; omega⟩, ⟨bl⟩⟩
   ·rw [if_neg c4] at H
    have c4b0 := decide_eq_false c4
    clear c4
    obtain rfl := Option.some.inj H
    go_wp2
    go_ret
    exact ⟨sR, bl⟩
def qu.l0 : Nat → List (S53) → List (S53) → Int → Int → Int → Int → List Int → Option (Bool)
 | 0, _, _, _, _, _, _, _ => none
 | k + 1, x1, x11, x12, x13, x125000, x125001, x125002 => if x13 < x12 then (if 0 ≤ x13 then (if x13 < (x11.length : Int) then ((qRB.f k x125000 x125001 x125002 ((qA x11 x13).f0) ((qA x11 x13).f1) ((qA x11 x13).f2.f0) ((qA x11 x13).f2.f1) ((qA x11 x13).f2.f2) ((qA x11 x13).f2.f3) ((qA x11 x13).f2.f4) ((qA x11 x13).f2.f5)).bind fun t128 => (if t128 = true then (if x13 ≤ (x1.length : Int) then ((qVA.f k (x1.take (x13 : Int).toNat) ((qA x11 x13).f0) ((qA x11 x13).f1)).bind fun t133 => (if t133 ≥ 0 then (some false) else (qu.l0 k x1 x11 x12 (wrap64 (x13 + 1)) x125000 x125001 x125002))) else (none)) else (some false))) else (none)) else (none)) else (some true)
def qu.f (k : Nat) (a0_0 : Int) (a0_1 : Int) (l0_2 : List Int) (l1 : List (S53)) : Option (Bool) := (qmA.f (l1.length : Int) 1 3).bind fun t125 => (if t125 = true then (qu.l0 k l1 l1 (l1.length : Int) 0 a0_0 a0_1 l0_2) else (some false))
def qu.T6 : Bool × List (List Nat × List Nat) := (true, [([], []), ([], []), ([0, 1], [0, 1]), ([2], [2]), ([3, 2], [3]), ([4], [4]), ([4], [4]), ([5, 6, 4], [4, 5, 6]), ([4], [4]), ([8, 4], [4, 8]), ([4], [4]), ([10, 4], [4, 10]), ([7, 9, 11, 4, 4], [4, 7, 9, 11]), ([12, 4], [4, 12]), ([4, 13], [4, 13])])
def qu.B6 : List Nat := [0, 0, 3, 7, 15, 31, 31, 127, 31, 287, 31, 1055, 4095, 8191, 16383]
theorem qu.tab6 : rtab .any (opsOf Tryz.f19 6) = qu.T6 := by kernel_rfl
theorem qu.bits6 : waitsOk qu.T6.2 qu.B6 = true := by kernel_rfl
set_option maxHeartbeats 8000000 in
set_option maxRecDepth 100000 in
theorem qu.calls (k : Nat) (a0_0 : Int) (a0_1 : Int) (A0_2 : Option Addr) (c0_2 : Nat) (l0_2 : List Int) (A1 : Option Addr) (c1 : Nat) (l1 : List (S53)) (r : Bool) (w : World) (hr0_2 : Kd.C (Kd.int .u8) w A0_2 l0_2.length l0_2) (hc0_2 : l0_2.length ≤ c0_2) (hr1 : Kd.C k53 w A1 l1.length l1) (hc1 : l1.length ≤ c1) (h : qu.f k a0_0 a0_1 l0_2 l1 = some r) :
  Calls Tryz.prog 19 #[.agg #[.int .i64 a0_0, .int .i64 a0_1, .slice A0_2 l0_2.length c0_2], .slice A1 l1.length c1] w fun e w' => e = .returned (.bool r) ∧ Below w.heap.size w w' := by
 have hu40 := Tryz.underlying40
 have hu53 := Tryz.underlying53
 have HR0_2 := aM hr0_2
 have HC0_2 := aM hc0_2
 clear hr0_2 hc0_2
 have HR1 := aM hr1
 have HC1 := aM hc1
 clear hr1 hc1
 have HB := aM (Below.refl w.heap.size w)
 have H : ((qmA.f (l1.length : Int) 1 3).bind fun t125 => (if t125 = true then (qu.l0 k l1 l1 (l1.length : Int) 0 a0_0 a0_1 l0_2) else (some false))) = some r := h
 clear h
 replace H := bO H
 obtain ⟨t125, A3, H⟩ := H
 by_cases c4 : t125 = true
 ·subst c4
  replace H := iT H
  have H' := aM H
  clear H
  go_enter Tryz.func19, Tryz.ntmps19
  go_wp2_with (first | ((with_reducible refine qH (N := 2) rfl ?_); refine bE (N := 2) (cs := #[.int .i64 a0_0, .int .i64 a0_1, .slice A0_2 l0_2.length c0_2]) (t := 40) ?_; intro gb124 hg w5 hbox hb; have BK124 := aM (hbox); have GW124 := aM ((gg hg)); have GE124 := aM ((gg hg)); replace HB := aM (qB bl hb); clear hb hbox hg) | ((with_reducible refine qE (f := 42) rfl ?_); refine qm (some 9) rfl rfl Tryz.func42 (by kernel_rfl) rfl #[.int .i64 (l1.length : Int), .int .i64 1, .int .i64 3] rfl gA ?_; (with_reducible refine (qmA.calls (l1.length : Int) 1 3 true _ A3.out).mono ?_); rintro e w' ⟨rfl, ⟨nd, rfl⟩⟩; refine ⟨_, rfl, ?_⟩))
  go_loopg [13] k (fun kq v13 w' => ∃ (x13_1 : Int), v13 = .int .i64 x13_1 ∧ Aside0 (qu.l0 kq l1 l1 (l1.length : Int) x13_1 a0_0 a0_1 l0_2 = some r) ∧ Aside0 (kq ≤ k) ∧ Aside0 (w'.heap[gb124]? = some (.cells #[.int .i64 a0_0, .int .i64 a0_1, (.slice A0_2 l0_2.length c0_2)] 40 (0, 0))) ∧ Aside0 (Below w.heap.size w w'))
  case atStart => exact ⟨(0), sD, H', ⟨Nat.le_refl _⟩, ⟨rB BK124⟩, ⟨bl⟩⟩
  case round =>
   clear H'; (try clear c1); (try clear p2); (try clear c4)
   obtain ⟨x13_1, rfl, HA, HK1, BK124, HB⟩ := hrel
   cases gk with
   | zero => exact absurd HA.out (by simp [qu.l0])
   | succ k1 =>
    have H := HA.out
    clear HA
    simp only [qu.l0] at H
    by_cases c6 : x13_1 < (l1.length : Int)
    ·rw [if_pos c6] at H
     have c6b0 := decide_eq_true c6
     clear c6
     by_cases c7 : 0 ≤ x13_1
     case neg => exact nN c7 H
     rw [if_pos c7] at H
     have c7b0 := decide_eq_true c7
     clear c7
     by_cases c8 : x13_1 < (l1.length : Int)
     case neg => exact nN c8 H
     rw [if_pos c8] at H
     have c8b0 := decide_eq_true c8
     clear c8
     replace H := bO H
     obtain ⟨t128, A9, H⟩ := H
     by_cases c10 : t128 = true
     ·subst c10
      replace H := iT H
      have c11b0 := eq_true (of_decide_eq_true am : 0 ≤ x13_1)
      by_cases c12 : x13_1 ≤ (l1.length : Int)
      case neg => exact nN c12 H
      rw [if_pos c12] at H
      have c12b0 := eq_true c12
      have c12b1 := decide_eq_true c12
      clear c12
      obtain ⟨y129, hy129⟩ : ∃ y_ : List (S53), y_ = (l1.take (x13_1 : Int).toNat) := ⟨_, rfl⟩
      replace H : ((qVA.f k1 y129 ((qA l1 x13_1).f0) ((qA l1 x13_1).f1)).bind fun t133 => (if t133 ≥ 0 then (some false) else (qu.l0 k1 l1 l1 (l1.length : Int) (wrap64 (x13_1 + 1)) a0_0 a0_1 l0_2))) = some r := by first | (rw [hy129]; with_reducible exact H) | (have H2_ := (Option.bind_some _ _).symm.trans H; rw [hy129]; with_reducible exact H2_) | (have H2_ := (Option.bind_some _ _).symm.trans H; with_reducible exact H2_) | with_reducible exact H | (rw [hy129]; exact H) | exact H
      have Ny129 := aM hy129
      clear hy129
      replace H := bO H
      obtain ⟨t133, A13, H⟩ := H
      by_cases c14 : t133 ≥ 0
      ·rw [if_pos c14] at H
       have c14b0 := decide_eq_true c14
       clear c14
       obtain rfl := Option.some.inj H
       have p126 : 0 ≤ (x13_1 : Int) := of_decide_eq_true am
       have q126 : x13_1 < (l1.length : Int) := of_decide_eq_true am
       obtain ⟨ad126, e126, hx126_0, hx126_1, hx126_2, hx126_3, hx126_4, hx126_5, hx126_6, hx126_7⟩ := qYB HR1.out x13_1 p126 q126
       cases e126
       replace hx126_0 := hB HB hx126_0
       replace hx126_1 := hB HB hx126_1
       replace hx126_2 := hB HB hx126_2
       replace hx126_3 := hB HB hx126_3
       replace hx126_4 := hB HB hx126_4
       replace hx126_5 := hB HB hx126_5
       replace hx126_6 := hB HB hx126_6
       replace hx126_7 := hB HB hx126_7
       replace p126 := eq_true p126
       replace q126 := eq_true q126
       try go_wp2_with (first | ((with_reducible refine qH (N := 6) rfl ?_); refine bE (N := 6) (cs := #[.int .i64 0, .int .i64 0, .int .i64 0, .int .i64 0, .int .i64 0, .int .i64 0, .int .i64 0, .int .i64 0]) (t := 53) ?_; intro gb127 hg w15 hbox hb; have BK127 := aM (hbox); have GW127 := aM ((gg hg)); have GE127 := aM ((gg hg)); have NB124_127 := aM ((nl BK124 hg)); have NB127_124 := aM ((nr BK124 hg)); replace BK124 := aM (bb BK124 hb); replace HB := aM (qB bl hb); clear hb hbox hg; have hnb16 := NB127_124.out; have hnc16 := NB124_127.out; (refine cb8 BK127 ?_; intro _ _ _ _ _ _ _ _); (refine cz8 BK127 ?_; intro _ _ _ _ _ _ _ _)))
       have n0_ : Aside0 (((((((((w15.setCell ⟨gb127, 0, none⟩ (.int .i64 ((qA l1 x13_1).f0))).setCell ⟨gb127, 1, none⟩ (.int .i64 ((qA l1 x13_1).f1))).setCell ⟨gb127, 2, none⟩ (.int .i64 ((qA l1 x13_1).f2.f0))).setCell ⟨gb127, 3, none⟩ (.int .i64 ((qA l1 x13_1).f2.f1))).setCell ⟨gb127, 4, none⟩ (.int .i64 ((qA l1 x13_1).f2.f2))).setCell ⟨gb127, 5, none⟩ (.int .i64 ((qA l1 x13_1).f2.f3))).setCell ⟨gb127, 6, none⟩ (.int .i64 ((qA l1 x13_1).f2.f4))).setCell ⟨gb127, 7, none⟩ (.int .i64 ((qA l1 x13_1).f2.f5))).heap[gb124]? = some (.cells #[.int .i64 a0_0, .int .i64 a0_1, .slice A0_2 l0_2.length c0_2] 40 (0, 0))) := ⟨bF BK124 NB124_127⟩
       have n1_ : Aside0 (((((((((w15.setCell ⟨gb127, 0, none⟩ (.int .i64 ((qA l1 x13_1).f0))).setCell ⟨gb127, 1, none⟩ (.int .i64 ((qA l1 x13_1).f1))).setCell ⟨gb127, 2, none⟩ (.int .i64 ((qA l1 x13_1).f2.f0))).setCell ⟨gb127, 3, none⟩ (.int .i64 ((qA l1 x13_1).f2.f1))).setCell ⟨gb127, 4, none⟩ (.int .i64 ((qA l1 x13_1).f2.f2))).setCell ⟨gb127, 5, none⟩ (.int .i64 ((qA l1 x13_1).f2.f3))).setCell ⟨gb127, 6, none⟩ (.int .i64 ((qA l1 x13_1).f2.f4))).setCell ⟨gb127, 7, none⟩ (.int .i64 ((qA l1 x13_1).f2.f5))).heap[gb127]? = some (.cells #[.int .i64 ((qA l1 x13_1).f0), .int .i64 ((qA l1 x13_1).f1), .int .i64 ((qA l1 x13_1).f2.f0), .int .i64 ((qA l1 x13_1).f2.f1), .int .i64 ((qA l1 x13_1).f2.f2), .int .i64 ((qA l1 x13_1).f2.f3), .int .i64 ((qA l1 x13_1).f2.f4), .int .i64 ((qA l1 x13_1).f2.f5)] 53 (0, 0))) := ⟨by (with_reducible repeat (first | refine qG ?_ _ | refine qD ?_ | refine qF ?_ _)); exact bP8 BK127⟩
       have n2_ : Aside0 (Below w.heap.size w ((((((((w15.setCell ⟨gb127, 0, none⟩ (.int .i64 ((qA l1 x13_1).f0))).setCell ⟨gb127, 1, none⟩ (.int .i64 ((qA l1 x13_1).f1))).setCell ⟨gb127, 2, none⟩ (.int .i64 ((qA l1 x13_1).f2.f0))).setCell ⟨gb127, 3, none⟩ (.int .i64 ((qA l1 x13_1).f2.f1))).setCell ⟨gb127, 4, none⟩ (.int .i64 ((qA l1 x13_1).f2.f2))).setCell ⟨gb127, 5, none⟩ (.int .i64 ((qA l1 x13_1).f2.f3))).setCell ⟨gb127, 6, none⟩ (.int .i64 ((qA l1 x13_1).f2.f4))).setCell ⟨gb127, 7, none⟩ (.int .i64 ((qA l1 x13_1).f2.f5)))) := ⟨bl⟩
       (try clear BK124); (try clear BK127); (try clear HB)
       generalize ((((((((w15.setCell ⟨gb127, 0, none⟩ (.int .i64 ((qA l1 x13_1).f0))).setCell ⟨gb127, 1, none⟩ (.int .i64 ((qA l1 x13_1).f1))).setCell ⟨gb127, 2, none⟩ (.int .i64 ((qA l1 x13_1).f2.f0))).setCell ⟨gb127, 3, none⟩ (.int .i64 ((qA l1 x13_1).f2.f1))).setCell ⟨gb127, 4, none⟩ (.int .i64 ((qA l1 x13_1).f2.f2))).setCell ⟨gb127, 5, none⟩ (.int .i64 ((qA l1 x13_1).f2.f3))).setCell ⟨gb127, 6, none⟩ (.int .i64 ((qA l1 x13_1).f2.f4))).setCell ⟨gb127, 7, none⟩ (.int .i64 ((qA l1 x13_1).f2.f5))) = w18 at n0_ n1_ n2_ ⊢
       have BK124 := n0_
       have BK127 := n1_
       have HB := n2_
       clear n0_ n1_ n2_
       replace BK124 := aM (qD BK124.out)
       replace BK127 := aM (qD BK127.out)
       replace HB := aM (qi HB.out)
       refine qJB (n := 15) (S := fun w' => w'.cell? ⟨gb124, 0, none⟩ = some (.int .i64 a0_0) ∧ w'.cell? ⟨gb124, 1, none⟩ = some (.int .i64 a0_1) ∧ w'.cell? ⟨gb124, 2, none⟩ = some (.slice A0_2 l0_2.length c0_2) ∧ w'.cell? ⟨gb127, 0, none⟩ = some (.int .i64 ((qA l1 x13_1).f0)) ∧ w'.cell? ⟨gb127, 1, none⟩ = some (.int .i64 ((qA l1 x13_1).f1)) ∧ w'.cell? ⟨gb127, 2, none⟩ = some (.int .i64 ((qA l1 x13_1).f2.f0)) ∧ w'.cell? ⟨gb127, 3, none⟩ = some (.int .i64 ((qA l1 x13_1).f2.f1)) ∧ w'.cell? ⟨gb127, 4, none⟩ = some (.int .i64 ((qA l1 x13_1).f2.f2)) ∧ w'.cell? ⟨gb127, 5, none⟩ = some (.int .i64 ((qA l1 x13_1).f2.f3)) ∧ w'.cell? ⟨gb127, 6, none⟩ = some (.int .i64 ((qA l1 x13_1).f2.f4)) ∧ w'.cell? ⟨gb127, 7, none⟩ = some (.int .i64 ((qA l1 x13_1).f2.f5))) (ds := []) #[false, false, false, false, false, false, false, false, false, false, false, false, false, false, false] (by kernel_rfl) rfl rfl ⟨bc BK124 0, bc BK124 1, bc BK124 2, bc BK127 0, bc BK127 1, bc BK127 2, bc BK127 3, bc BK127 4, bc BK127 5, bc BK127 6, bc BK127 7⟩ (fun hHeld => ?_); refine qNA qu.tab6 qu.bits6 (fun HT_ HW_ => ?_)
       generalize w18.drew = w19 at BK124 BK127 HB hHeld ⊢
       refine tS (i := 0) (N := some 18) #[true, false, false, false, false, false, false, false, false, false, false, false, false, false, false] HT_ HW_ hHeld ?_
       refine tS (i := 1) (N := some 19) #[true, true, false, false, false, false, false, false, false, false, false, false, false, false, false] HT_ HW_ hHeld ?_
       refine one_ (i := 2) (N := some 20) #[true, true, true, false, false, false, false, false, false, false, false, false, false, false, false] rfl rfl (qcA HT_.out (by kernel_rfl)) (by decide) (fun K hK => ?_)
       refine goes_ Tryz.func43 (by kernel_rfl) rfl #[.agg #[.int .i64 a0_0, .int .i64 a0_1, .slice A0_2 l0_2.length c0_2], .agg #[.int .i64 ((qA l1 x13_1).f0), .int .i64 ((qA l1 x13_1).f1), .int .i64 ((qA l1 x13_1).f2.f0), .int .i64 ((qA l1 x13_1).f2.f1), .int .i64 ((qA l1 x13_1).f2.f2), .int .i64 ((qA l1 x13_1).f2.f3), .int .i64 ((qA l1 x13_1).f2.f4), .int .i64 ((qA l1 x13_1).f2.f5)]] (by rfl) rfl rfl gA ?_
       with_reducible refine (qRB.calls k1 a0_0 a0_1 _ _ l0_2 ((qA l1 x13_1).f0) ((qA l1 x13_1).f1) ((qA l1 x13_1).f2.f0) ((qA l1 x13_1).f2.f1) ((qA l1 x13_1).f2.f2) ((qA l1 x13_1).f2.f3) ((qA l1 x13_1).f2.f4) ((qA l1 x13_1).f2.f5) true _ ?side1 ?side2 A9.out).mono ?_
       (case side1 => repeat (first | exact (Kd.qV HR0_2.out HB.out) | (with_reducible refine Kd.qL ?_ _) | (with_reducible refine Kd.qK ?_ _) | (with_reducible refine Kd.qX ?_)))
       (case side2 => exact HC0_2.out)
       rintro e w20 ⟨rfl, hb⟩
       refine ⟨_, rfl, ?_⟩
       replace BK124 := aM (bb BK124 hb)
       replace BK127 := aM (bb BK127 hb)
       replace HB := aM (qB bl hb); (try clear hb); (try clear hb2); (try clear hk); (try clear hi)
       have q21 : (x13_1 : Int) ≤ ((l1.length : Int) : Int) := of_decide_eq_true am
       obtain ⟨i021, hi021, _, hsz21, _⟩ := info_parts info53
       have hroom21 : l1.length ≤ c1 := HC1.out
       have hC21 : Kd.C k53 _ (some ad126) l1.length l1 := HR1.out
       have hcut21 := qEE (P := Tryz.prog) 26 53 .i64 Tryz.underlying26 hi021 (some ad126) l1.length c1 x13_1 (of_decide_eq_true am) q21 hroom21
       have hr21 := Kd.qgC (m := (x13_1 : Int).toNat) hC21 (by omega)
       have hy21 : y129.length = (x13_1 : Int).toNat := (by rw [Ny129.out, List.length_take]; omega)
       rw [← Ny129.out] at hr21
       rw [← hy21] at hcut21
       have HR132 := aM hr21
       have HC132 := aM (show y129.length ≤ c1 from by omega)
       clear hr21 hC21 hroom21 hi021 hsz21
       have KY21 := aM hy21
       clear hy21
       replace q21 := eq_true q21
       refine hK.out _ _ ⟨bc BK124 0, bc BK124 1, bc BK124 2, bc BK127 0, bc BK127 1, bc BK127 2, bc BK127 3, bc BK127 4, bc BK127 5, bc BK127 6, bc BK127 7⟩ (fun hHeld => ?_)
       clear hK K
       refine norm_ (a' := ?_) ?_ ?_
       rotate_left
       ·show Act.put _ (some 20) _ = _
        simp only [Act.put, List.setIfInBounds_toArray, List.set_cons_zero, List.set_cons_succ, i64_w, i32_w]
        rfl
       refine pS (i := 3) (N := some 21) #[true, true, true, true, false, false, false, false, false, false, false, false, false, false, false] HT_ ?_
       refine pS (i := 4) (N := some 22) #[true, true, true, true, true, false, false, false, false, false, false, false, false, false, false] HT_ ?_
       refine pS (i := 5) (N := some 23) #[true, true, true, true, true, true, false, false, false, false, false, false, false, false, false] HT_ ?_
       refine pS (i := 6) (N := some 24) #[true, true, true, true, true, true, true, false, false, false, false, false, false, false, false] HT_ ?_
       refine pS (i := 7) (N := some 25) #[true, true, true, true, true, true, true, true, false, false, false, false, false, false, false] HT_ ?_
       refine pS (i := 8) (N := some 26) #[true, true, true, true, true, true, true, true, true, false, false, false, false, false, false] HT_ ?_
       refine pS (i := 10) (N := some 28) #[true, true, true, true, true, true, true, true, true, false, true, false, false, false, false] HT_ ?_
       refine tS (i := 9) (N := some 27) #[true, true, true, true, true, true, true, true, true, true, true, false, false, false, false] HT_ HW_ hHeld ?_
       refine tS (i := 11) (N := some 29) #[true, true, true, true, true, true, true, true, true, true, true, true, false, false, false] HT_ HW_ hHeld ?_
       refine one_ (i := 12) (N := some 30) #[true, true, true, true, true, true, true, true, true, true, true, true, true, false, false] rfl rfl (qcA HT_.out (by kernel_rfl)) (by decide) (fun K hK => ?_)
       refine goes_ Tryz.func44 (by kernel_rfl) rfl #[.slice (some ad126) y129.length c1, .int .i64 ((qA l1 x13_1).f0), .int .i64 ((qA l1 x13_1).f1)] (by rfl) rfl rfl gA ?_
       with_reducible refine (qVA.calls k1 _ _ y129 ((qA l1 x13_1).f0) ((qA l1 x13_1).f1) t133 _ ?side1 ?side2 A13.out).mono ?_
       (case side1 => repeat (first | exact (Kd.qV HR132.out HB.out) | (with_reducible refine Kd.qL ?_ _) | (with_reducible refine Kd.qK ?_ _) | (with_reducible refine Kd.qX ?_)))
       (case side2 => exact HC132.out)
       rintro e w22 ⟨rfl, hb⟩
       refine ⟨_, rfl, ?_⟩
       replace BK124 := aM (bb BK124 hb)
       replace BK127 := aM (bb BK127 hb)
       replace HB := aM (qB bl hb); (try clear hb); (try clear hb2); (try clear hk); (try clear hi)
       refine hK.out _ _ ⟨bc BK124 0, bc BK124 1, bc BK124 2, bc BK127 0, bc BK127 1, bc BK127 2, bc BK127 3, bc BK127 4, bc BK127 5, bc BK127 6, bc BK127 7⟩ (fun hHeld => ?_)
       clear hK K
       refine norm_ (a' := ?_) ?_ ?_
       rotate_left
       ·show Act.put _ (some 30) _ = _
        simp only [Act.put, List.setIfInBounds_toArray, List.set_cons_zero, List.set_cons_succ, i64_w, i32_w]
        rfl
       refine pS (i := 13) (N := some 31) #[true, true, true, true, true, true, true, true, true, true, true, true, true, true, false] HT_ ?_
       refine pS (i := 14) (N := some 32) #[true, true, true, true, true, true, true, true, true, true, true, true, true, true, true] HT_ ?_
       refine done_ (qvA HT_.out (by kernel_rfl)) ?_
       try go_wp2
       go_ret
       exact ⟨sR, bl⟩
      ·rw [if_neg c14] at H
       have c14b0 := decide_eq_false c14
       clear c14
       have H' := aM H
       clear H
       have p126 : 0 ≤ (x13_1 : Int) := of_decide_eq_true am
       have q126 : x13_1 < (l1.length : Int) := of_decide_eq_true am
       obtain ⟨ad126, e126, hx126_0, hx126_1, hx126_2, hx126_3, hx126_4, hx126_5, hx126_6, hx126_7⟩ := qYB HR1.out x13_1 p126 q126
       cases e126
       replace hx126_0 := hB HB hx126_0
       replace hx126_1 := hB HB hx126_1
       replace hx126_2 := hB HB hx126_2
       replace hx126_3 := hB HB hx126_3
       replace hx126_4 := hB HB hx126_4
       replace hx126_5 := hB HB hx126_5
       replace hx126_6 := hB HB hx126_6
       replace hx126_7 := hB HB hx126_7
       replace p126 := eq_true p126
       replace q126 := eq_true q126
       try go_wp2_with (first | ((with_reducible refine qH (N := 6) rfl ?_); refine bE (N := 6) (cs := #[.int .i64 0, .int .i64 0, .int .i64 0, .int .i64 0, .int .i64 0, .int .i64 0, .int .i64 0, .int .i64 0]) (t := 53) ?_; intro gb127 hg w23 hbox hb; have BK127 := aM (hbox); have GW127 := aM ((gg hg)); have GE127 := aM ((gg hg)); have NB124_127 := aM ((nl BK124 hg)); have NB127_124 := aM ((nr BK124 hg)); replace BK124 := aM (bb BK124 hb); replace HB := aM (qB bl hb); clear hb hbox hg; have hnb24 := NB127_124.out; have hnc24 := NB124_127.out; (refine cb8 BK127 ?_; intro _ _ _ _ _ _ _ _); (refine cz8 BK127 ?_; intro _ _ _ _ _ _ _ _)))
       have n0_ : Aside0 (((((((((w23.setCell ⟨gb127, 0, none⟩ (.int .i64 ((qA l1 x13_1).f0))).setCell ⟨gb127, 1, none⟩ (.int .i64 ((qA l1 x13_1).f1))).setCell ⟨gb127, 2, none⟩ (.int .i64 ((qA l1 x13_1).f2.f0))).setCell ⟨gb127, 3, none⟩ (.int .i64 ((qA l1 x13_1).f2.f1))).setCell ⟨gb127, 4, none⟩ (.int .i64 ((qA l1 x13_1).f2.f2))).setCell ⟨gb127, 5, none⟩ (.int .i64 ((qA l1 x13_1).f2.f3))).setCell ⟨gb127, 6, none⟩ (.int .i64 ((qA l1 x13_1).f2.f4))).setCell ⟨gb127, 7, none⟩ (.int .i64 ((qA l1 x13_1).f2.f5))).heap[gb124]? = some (.cells #[.int .i64 a0_0, .int .i64 a0_1, .slice A0_2 l0_2.length c0_2] 40 (0, 0))) := ⟨bF BK124 NB124_127⟩
       have n1_ : Aside0 (((((((((w23.setCell ⟨gb127, 0, none⟩ (.int .i64 ((qA l1 x13_1).f0))).setCell ⟨gb127, 1, none⟩ (.int .i64 ((qA l1 x13_1).f1))).setCell ⟨gb127, 2, none⟩ (.int .i64 ((qA l1 x13_1).f2.f0))).setCell ⟨gb127, 3, none⟩ (.int .i64 ((qA l1 x13_1).f2.f1))).setCell ⟨gb127, 4, none⟩ (.int .i64 ((qA l1 x13_1).f2.f2))).setCell ⟨gb127, 5, none⟩ (.int .i64 ((qA l1 x13_1).f2.f3))).setCell ⟨gb127, 6, none⟩ (.int .i64 ((qA l1 x13_1).f2.f4))).setCell ⟨gb127, 7, none⟩ (.int .i64 ((qA l1 x13_1).f2.f5))).heap[gb127]? = some (.cells #[.int .i64 ((qA l1 x13_1).f0), .int .i64 ((qA l1 x13_1).f1), .int .i64 ((qA l1 x13_1).f2.f0), .int .i64 ((qA l1 x13_1).f2.f1), .int .i64 ((qA l1 x13_1).f2.f2), .int .i64 ((qA l1 x13_1).f2.f3), .int .i64 ((qA l1 x13_1).f2.f4), .int .i64 ((qA l1 x13_1).f2.f5)] 53 (0, 0))) := ⟨by (with_reducible repeat (first | refine qG ?_ _ | refine qD ?_ | refine qF ?_ _)); exact bP8 BK127⟩
       have n2_ : Aside0 (Below w.heap.size w ((((((((w23.setCell ⟨gb127, 0, none⟩ (.int .i64 ((qA l1 x13_1).f0))).setCell ⟨gb127, 1, none⟩ (.int .i64 ((qA l1 x13_1).f1))).setCell ⟨gb127, 2, none⟩ (.int .i64 ((qA l1 x13_1).f2.f0))).setCell ⟨gb127, 3, none⟩ (.int .i64 ((qA l1 x13_1).f2.f1))).setCell ⟨gb127, 4, none⟩ (.int .i64 ((qA l1 x13_1).f2.f2))).setCell ⟨gb127, 5, none⟩ (.int .i64 ((qA l1 x13_1).f2.f3))).setCell ⟨gb127, 6, none⟩ (.int .i64 ((qA l1 x13_1).f2.f4))).setCell ⟨gb127, 7, none⟩ (.int .i64 ((qA l1 x13_1).f2.f5)))) := ⟨bl⟩
       (try clear BK124); (try clear BK127); (try clear HB)
       generalize ((((((((w23.setCell ⟨gb127, 0, none⟩ (.int .i64 ((qA l1 x13_1).f0))).setCell ⟨gb127, 1, none⟩ (.int .i64 ((qA l1 x13_1).f1))).setCell ⟨gb127, 2, none⟩ (.int .i64 ((qA l1 x13_1).f2.f0))).setCell ⟨gb127, 3, none⟩ (.int .i64 ((qA l1 x13_1).f2.f1))).setCell ⟨gb127, 4, none⟩ (.int .i64 ((qA l1 x13_1).f2.f2))).setCell ⟨gb127, 5, none⟩ (.int .i64 ((qA l1 x13_1).f2.f3))).setCell ⟨gb127, 6, none⟩ (.int .i64 ((qA l1 x13_1).f2.f4))).setCell ⟨gb127, 7, none⟩ (.int .i64 ((qA l1 x13_1).f2.f5))) = w26 at n0_ n1_ n2_ ⊢
       have BK124 := n0_
       have BK127 := n1_
       have HB := n2_
       clear n0_ n1_ n2_
       replace BK124 := aM (qD BK124.out)
       replace BK127 := aM (qD BK127.out)
       replace HB := aM (qi HB.out)
       refine qJB (n := 15) (S := fun w' => w'.cell? ⟨gb124, 0, none⟩ = some (.int .i64 a0_0) ∧ w'.cell? ⟨gb124, 1, none⟩ = some (.int .i64 a0_1) ∧ w'.cell? ⟨gb124, 2, none⟩ = some (.slice A0_2 l0_2.length c0_2) ∧ w'.cell? ⟨gb127, 0, none⟩ = some (.int .i64 ((qA l1 x13_1).f0)) ∧ w'.cell? ⟨gb127, 1, none⟩ = some (.int .i64 ((qA l1 x13_1).f1)) ∧ w'.cell? ⟨gb127, 2, none⟩ = some (.int .i64 ((qA l1 x13_1).f2.f0)) ∧ w'.cell? ⟨gb127, 3, none⟩ = some (.int .i64 ((qA l1 x13_1).f2.f1)) ∧ w'.cell? ⟨gb127, 4, none⟩ = some (.int .i64 ((qA l1 x13_1).f2.f2)) ∧ w'.cell? ⟨gb127, 5, none⟩ = some (.int .i64 ((qA l1 x13_1).f2.f3)) ∧ w'.cell? ⟨gb127, 6, none⟩ = some (.int .i64 ((qA l1 x13_1).f2.f4)) ∧ w'.cell? ⟨gb127, 7, none⟩ = some (.int .i64 ((qA l1 x13_1).f2.f5))) (ds := []) #[false, false, false, false, false, false, false, false, false, false, false, false, false, false, false] (by kernel_rfl) rfl rfl ⟨bc BK124 0, bc BK124 1, bc BK124 2, bc BK127 0, bc BK127 1, bc BK127 2, bc BK127 3, bc BK127 4, bc BK127 5, bc BK127 6, bc BK127 7⟩ (fun hHeld => ?_); refine qNA qu.tab6 qu.bits6 (fun HT_ HW_ => ?_)
       generalize w26.drew = w27 at BK124 BK127 HB hHeld ⊢
       refine tS (i := 0) (N := some 18) #[true, false, false, false, false, false, false, false, false, false, false, false, false, false, false] HT_ HW_ hHeld ?_
       refine tS (i := 1) (N := some 19) #[true, true, false, false, false, false, false, false, false, false, false, false, false, false, false] HT_ HW_ hHeld ?_
       refine one_ (i := 2) (N := some 20) #[true, true, true, false, false, false, false, false, false, false, false, false, false, false, false] rfl rfl (qcA HT_.out (by kernel_rfl)) (by decide) (fun K hK => ?_)
       refine goes_ Tryz.func43 (by kernel_rfl) rfl #[.agg #[.int .i64 a0_0, .int .i64 a0_1, .slice A0_2 l0_2.length c0_2], .agg #[.int .i64 ((qA l1 x13_1).f0), .int .i64 ((qA l1 x13_1).f1), .int .i64 ((qA l1 x13_1).f2.f0), .int .i64 ((qA l1 x13_1).f2.f1), .int .i64 ((qA l1 x13_1).f2.f2), .int .i64 ((qA l1 x13_1).f2.f3), .int .i64 ((qA l1 x13_1).f2.f4), .int .i64 ((qA l1 x13_1).f2.f5)]] (by rfl) rfl rfl gA ?_
       with_reducible refine (qRB.calls k1 a0_0 a0_1 _ _ l0_2 ((qA l1 x13_1).f0) ((qA l1 x13_1).f1) ((qA l1 x13_1).f2.f0) ((qA l1 x13_1).f2.f1) ((qA l1 x13_1).f2.f2) ((qA l1 x13_1).f2.f3) ((qA l1 x13_1).f2.f4) ((qA l1 x13_1).f2.f5) true _ ?side1 ?side2 A9.out).mono ?_
       (case side1 => repeat (first | exact (Kd.qV HR0_2.out HB.out) | (with_reducible refine Kd.qL ?_ _) | (with_reducible refine Kd.qK ?_ _) | (with_reducible refine Kd.qX ?_)))
       (case side2 => exact HC0_2.out)
       rintro e w28 ⟨rfl, hb⟩
       refine ⟨_, rfl, ?_⟩
       replace BK124 := aM (bb BK124 hb)
       replace BK127 := aM (bb BK127 hb)
       replace HB := aM (qB bl hb); (try clear hb); (try clear hb2); (try clear hk); (try clear hi)
       have q29 : (x13_1 : Int) ≤ ((l1.length : Int) : Int) := of_decide_eq_true am
       obtain ⟨i029, hi029, _, hsz29, _⟩ := info_parts info53
       have hroom29 : l1.length ≤ c1 := HC1.out
       have hC29 : Kd.C k53 _ (some ad126) l1.length l1 := HR1.out
       have hcut29 := qEE (P := Tryz.prog) 26 53 .i64 Tryz.underlying26 hi029 (some ad126) l1.length c1 x13_1 (of_decide_eq_true am) q29 hroom29
       have hr29 := Kd.qgC (m := (x13_1 : Int).toNat) hC29 (by omega)
       have hy29 : y129.length = (x13_1 : Int).toNat := (by rw [Ny129.out, List.length_take]; omega)
       rw [← Ny129.out] at hr29
       rw [← hy29] at hcut29
       have HR132 := aM hr29
       have HC132 := aM (show y129.length ≤ c1 from by omega)
       clear hr29 hC29 hroom29 hi029 hsz29
       have KY29 := aM hy29
       clear hy29
       replace q29 := eq_true q29
       refine hK.out _ _ ⟨bc BK124 0, bc BK124 1, bc BK124 2, bc BK127 0, bc BK127 1, bc BK127 2, bc BK127 3, bc BK127 4, bc BK127 5, bc BK127 6, bc BK127 7⟩ (fun hHeld => ?_)
       clear hK K
       refine norm_ (a' := ?_) ?_ ?_
       rotate_left
       ·show Act.put _ (some 20) _ = _
        simp only [Act.put, List.setIfInBounds_toArray, List.set_cons_zero, List.set_cons_succ, i64_w, i32_w]
        rfl
       refine pS (i := 3) (N := some 21) #[true, true, true, true, false, false, false, false, false, false, false, false, false, false, false] HT_ ?_
       refine pS (i := 4) (N := some 22) #[true, true, true, true, true, false, false, false, false, false, false, false, false, false, false] HT_ ?_
       refine pS (i := 5) (N := some 23) #[true, true, true, true, true, true, false, false, false, false, false, false, false, false, false] HT_ ?_
       refine pS (i := 6) (N := some 24) #[true, true, true, true, true, true, true, false, false, false, false, false, false, false, false] HT_ ?_
       refine pS (i := 7) (N := some 25) #[true, true, true, true, true, true, true, true, false, false, false, false, false, false, false] HT_ ?_
       refine pS (i := 8) (N := some 26) #[true, true, true, true, true, true, true, true, true, false, false, false, false, false, false] HT_ ?_
       refine pS (i := 10) (N := some 28) #[true, true, true, true, true, true, true, true, true, false, true, false, false, false, false] HT_ ?_
       refine tS (i := 9) (N := some 27) #[true, true, true, true, true, true, true, true, true, true, true, false, false, false, false] HT_ HW_ hHeld ?_
       refine tS (i := 11) (N := some 29) #[true, true, true, true, true, true, true, true, true, true, true, true, false, false, false] HT_ HW_ hHeld ?_
       refine one_ (i := 12) (N := some 30) #[true, true, true, true, true, true, true, true, true, true, true, true, true, false, false] rfl rfl (qcA HT_.out (by kernel_rfl)) (by decide) (fun K hK => ?_)
       refine goes_ Tryz.func44 (by kernel_rfl) rfl #[.slice (some ad126) y129.length c1, .int .i64 ((qA l1 x13_1).f0), .int .i64 ((qA l1 x13_1).f1)] (by rfl) rfl rfl gA ?_
       with_reducible refine (qVA.calls k1 _ _ y129 ((qA l1 x13_1).f0) ((qA l1 x13_1).f1) t133 _ ?side1 ?side2 A13.out).mono ?_
       (case side1 => repeat (first | exact (Kd.qV HR132.out HB.out) | (with_reducible refine Kd.qL ?_ _) | (with_reducible refine Kd.qK ?_ _) | (with_reducible refine Kd.qX ?_)))
       (case side2 => exact HC132.out)
       rintro e w30 ⟨rfl, hb⟩
       refine ⟨_, rfl, ?_⟩
       replace BK124 := aM (bb BK124 hb)
       replace BK127 := aM (bb BK127 hb)
       replace HB := aM (qB bl hb); (try clear hb); (try clear hb2); (try clear hk); (try clear hi)
       refine hK.out _ _ ⟨bc BK124 0, bc BK124 1, bc BK124 2, bc BK127 0, bc BK127 1, bc BK127 2, bc BK127 3, bc BK127 4, bc BK127 5, bc BK127 6, bc BK127 7⟩ (fun hHeld => ?_)
       clear hK K
       refine norm_ (a' := ?_) ?_ ?_
       rotate_left
       ·show Act.put _ (some 30) _ = _
        simp only [Act.put, List.setIfInBounds_toArray, List.set_cons_zero, List.set_cons_succ, i64_w, i32_w]
        rfl
       refine pS (i := 13) (N := some 31) #[true, true, true, true, true, true, true, true, true, true, true, true, true, true, false] HT_ ?_
       refine pS (i := 14) (N := some 32) #[true, true, true, true, true, true, true, true, true, true, true, true, true, true, true] HT_ ?_
       refine done_ (qvA HT_.out (by kernel_rfl)) ?_
       try go_wp2
       go_roundg k1
       case measure => have := HK1.out; omega
       case rel => exact ⟨(wrap64 (x13_1 + 1)), sD, H', ⟨by have := HK1.out; omega⟩, ⟨rB BK124⟩, ⟨bl⟩⟩
     ·replace c10 := Bool.eq_false_iff.mpr c10
      subst c10
      replace H := iF H
      obtain rfl := Option.some.inj H
      have p126 : 0 ≤ (x13_1 : Int) := of_decide_eq_true am
      have q126 : x13_1 < (l1.length : Int) := of_decide_eq_true am
      obtain ⟨ad126, e126, hx126_0, hx126_1, hx126_2, hx126_3, hx126_4, hx126_5, hx126_6, hx126_7⟩ := qYB HR1.out x13_1 p126 q126
      cases e126
      replace hx126_0 := hB HB hx126_0
      replace hx126_1 := hB HB hx126_1
      replace hx126_2 := hB HB hx126_2
      replace hx126_3 := hB HB hx126_3
      replace hx126_4 := hB HB hx126_4
      replace hx126_5 := hB HB hx126_5
      replace hx126_6 := hB HB hx126_6
      replace hx126_7 := hB HB hx126_7
      replace p126 := eq_true p126
      replace q126 := eq_true q126
      try go_wp2_with (first | ((with_reducible refine qH (N := 6) rfl ?_); refine bE (N := 6) (cs := #[.int .i64 0, .int .i64 0, .int .i64 0, .int .i64 0, .int .i64 0, .int .i64 0, .int .i64 0, .int .i64 0]) (t := 53) ?_; intro gb127 hg w31 hbox hb; have BK127 := aM (hbox); have GW127 := aM ((gg hg)); have GE127 := aM ((gg hg)); have NB124_127 := aM ((nl BK124 hg)); have NB127_124 := aM ((nr BK124 hg)); replace BK124 := aM (bb BK124 hb); replace HB := aM (qB bl hb); clear hb hbox hg; have hnb32 := NB127_124.out; have hnc32 := NB124_127.out; (refine cb8 BK127 ?_; intro _ _ _ _ _ _ _ _); (refine cz8 BK127 ?_; intro _ _ _ _ _ _ _ _)))
      have n0_ : Aside0 (((((((((w31.setCell ⟨gb127, 0, none⟩ (.int .i64 ((qA l1 x13_1).f0))).setCell ⟨gb127, 1, none⟩ (.int .i64 ((qA l1 x13_1).f1))).setCell ⟨gb127, 2, none⟩ (.int .i64 ((qA l1 x13_1).f2.f0))).setCell ⟨gb127, 3, none⟩ (.int .i64 ((qA l1 x13_1).f2.f1))).setCell ⟨gb127, 4, none⟩ (.int .i64 ((qA l1 x13_1).f2.f2))).setCell ⟨gb127, 5, none⟩ (.int .i64 ((qA l1 x13_1).f2.f3))).setCell ⟨gb127, 6, none⟩ (.int .i64 ((qA l1 x13_1).f2.f4))).setCell ⟨gb127, 7, none⟩ (.int .i64 ((qA l1 x13_1).f2.f5))).heap[gb124]? = some (.cells #[.int .i64 a0_0, .int .i64 a0_1, .slice A0_2 l0_2.length c0_2] 40 (0, 0))) := ⟨bF BK124 NB124_127⟩
      have n1_ : Aside0 (((((((((w31.setCell ⟨gb127, 0, none⟩ (.int .i64 ((qA l1 x13_1).f0))).setCell ⟨gb127, 1, none⟩ (.int .i64 ((qA l1 x13_1).f1))).setCell ⟨gb127, 2, none⟩ (.int .i64 ((qA l1 x13_1).f2.f0))).setCell ⟨gb127, 3, none⟩ (.int .i64 ((qA l1 x13_1).f2.f1))).setCell ⟨gb127, 4, none⟩ (.int .i64 ((qA l1 x13_1).f2.f2))).setCell ⟨gb127, 5, none⟩ (.int .i64 ((qA l1 x13_1).f2.f3))).setCell ⟨gb127, 6, none⟩ (.int .i64 ((qA l1 x13_1).f2.f4))).setCell ⟨gb127, 7, none⟩ (.int .i64 ((qA l1 x13_1).f2.f5))).heap[gb127]? = some (.cells #[.int .i64 ((qA l1 x13_1).f0), .int .i64 ((qA l1 x13_1).f1), .int .i64 ((qA l1 x13_1).f2.f0), .int .i64 ((qA l1 x13_1).f2.f1), .int .i64 ((qA l1 x13_1).f2.f2), .int .i64 ((qA l1 x13_1).f2.f3), .int .i64 ((qA l1 x13_1).f2.f4), .int .i64 ((qA l1 x13_1).f2.f5)] 53 (0, 0))) := ⟨by (with_reducible repeat (first | refine qG ?_ _ | refine qD ?_ | refine qF ?_ _)); exact bP8 BK127⟩
      have n2_ : Aside0 (Below w.heap.size w ((((((((w31.setCell ⟨gb127, 0, none⟩ (.int .i64 ((qA l1 x13_1).f0))).setCell ⟨gb127, 1, none⟩ (.int .i64 ((qA l1 x13_1).f1))).setCell ⟨gb127, 2, none⟩ (.int .i64 ((qA l1 x13_1).f2.f0))).setCell ⟨gb127, 3, none⟩ (.int .i64 ((qA l1 x13_1).f2.f1))).setCell ⟨gb127, 4, none⟩ (.int .i64 ((qA l1 x13_1).f2.f2))).setCell ⟨gb127, 5, none⟩ (.int .i64 ((qA l1 x13_1).f2.f3))).setCell ⟨gb127, 6, none⟩ (.int .i64 ((qA l1 x13_1).f2.f4))).setCell ⟨gb127, 7, none⟩ (.int .i64 ((qA l1 x13_1).f2.f5)))) := ⟨bl⟩
      (try clear BK124); (try clear BK127); (try clear HB)
      generalize ((((((((w31.setCell ⟨gb127, 0, none⟩ (.int .i64 ((qA l1 x13_1).f0))).setCell ⟨gb127, 1, none⟩ (.int .i64 ((qA l1 x13_1).f1))).setCell ⟨gb127, 2, none⟩ (.int .i64 ((qA l1 x13_1).f2.f0))).setCell ⟨gb127, 3, none⟩ (.int .i64 ((qA l1 x13_1).f2.f1))).setCell ⟨gb127, 4, none⟩ (.int .i64 ((qA l1 x13_1).f2.f2))).setCell ⟨gb127, 5, none⟩ (.int .i64 ((qA l1 x13_1).f2.f3))).setCell ⟨gb127, 6, none⟩ (.int .i64 ((qA l1 x13_1).f2.f4))).setCell ⟨gb127, 7, none⟩ (.int .i64 ((qA l1 x13_1).f2.f5))) = w34 at n0_ n1_ n2_ ⊢
      have BK124 := n0_
      have BK127 := n1_
      have HB := n2_
      clear n0_ n1_ n2_
      replace BK124 := aM (qD BK124.out)
      replace BK127 := aM (qD BK127.out)
      replace HB := aM (qi HB.out)
      refine qJB (n := 15) (S := fun w' => w'.cell? ⟨gb124, 0, none⟩ = some (.int .i64 a0_0) ∧ w'.cell? ⟨gb124, 1, none⟩ = some (.int .i64 a0_1) ∧ w'.cell? ⟨gb124, 2, none⟩ = some (.slice A0_2 l0_2.length c0_2) ∧ w'.cell? ⟨gb127, 0, none⟩ = some (.int .i64 ((qA l1 x13_1).f0)) ∧ w'.cell? ⟨gb127, 1, none⟩ = some (.int .i64 ((qA l1 x13_1).f1)) ∧ w'.cell? ⟨gb127, 2, none⟩ = some (.int .i64 ((qA l1 x13_1).f2.f0)) ∧ w'.cell? ⟨gb127, 3, none⟩ = some (.int .i64 ((qA l1 x13_1).f2.f1)) ∧ w'.cell? ⟨gb127, 4, none⟩ = some (.int .i64 ((qA l1 x13_1).f2.f2)) ∧ w'.cell? ⟨gb127, 5, none⟩ = some (.int .i64 ((qA l1 x13_1).f2.f3)) ∧ w'.cell? ⟨gb127, 6, none⟩ = some (.int .i64 ((qA l1 x13_1).f2.f4)) ∧ w'.cell? ⟨gb127, 7, none⟩ = some (.int .i64 ((qA l1 x13_1).f2.f5))) (ds := []) #[false, false, false, false, false, false, false, false, false, false, false, false, false, false, false] (by kernel_rfl) rfl rfl ⟨bc BK124 0, bc BK124 1, bc BK124 2, bc BK127 0, bc BK127 1, bc BK127 2, bc BK127 3, bc BK127 4, bc BK127 5, bc BK127 6, bc BK127 7⟩ (fun hHeld => ?_); refine qNA qu.tab6 qu.bits6 (fun HT_ HW_ => ?_)
      generalize w34.drew = w35 at BK124 BK127 HB hHeld ⊢
      refine tS (i := 0) (N := some 18) #[true, false, false, false, false, false, false, false, false, false, false, false, false, false, false] HT_ HW_ hHeld ?_
      refine tS (i := 1) (N := some 19) #[true, true, false, false, false, false, false, false, false, false, false, false, false, false, false] HT_ HW_ hHeld ?_
      refine one_ (i := 2) (N := some 20) #[true, true, true, false, false, false, false, false, false, false, false, false, false, false, false] rfl rfl (qcA HT_.out (by kernel_rfl)) (by decide) (fun K hK => ?_)
      refine goes_ Tryz.func43 (by kernel_rfl) rfl #[.agg #[.int .i64 a0_0, .int .i64 a0_1, .slice A0_2 l0_2.length c0_2], .agg #[.int .i64 ((qA l1 x13_1).f0), .int .i64 ((qA l1 x13_1).f1), .int .i64 ((qA l1 x13_1).f2.f0), .int .i64 ((qA l1 x13_1).f2.f1), .int .i64 ((qA l1 x13_1).f2.f2), .int .i64 ((qA l1 x13_1).f2.f3), .int .i64 ((qA l1 x13_1).f2.f4), .int .i64 ((qA l1 x13_1).f2.f5)]] (by rfl) rfl rfl gA ?_
      with_reducible refine (qRB.calls k1 a0_0 a0_1 _ _ l0_2 ((qA l1 x13_1).f0) ((qA l1 x13_1).f1) ((qA l1 x13_1).f2.f0) ((qA l1 x13_1).f2.f1) ((qA l1 x13_1).f2.f2) ((qA l1 x13_1).f2.f3) ((qA l1 x13_1).f2.f4) ((qA l1 x13_1).f2.f5) false _ ?side1 ?side2 A9.out).mono ?_
      (case side1 => repeat (first | exact (Kd.qV HR0_2.out HB.out) | (with_reducible refine Kd.qL ?_ _) | (with_reducible refine Kd.qK ?_ _) | (with_reducible refine Kd.qX ?_)))
      (case side2 => exact HC0_2.out)
      rintro e w36 ⟨rfl, hb⟩
      refine ⟨_, rfl, ?_⟩
      replace BK124 := aM (bb BK124 hb)
      replace BK127 := aM (bb BK127 hb)
      replace HB := aM (qB bl hb); (try clear hb); (try clear hb2); (try clear hk); (try clear hi)
      refine hK.out _ _ ⟨bc BK124 0, bc BK124 1, bc BK124 2, bc BK127 0, bc BK127 1, bc BK127 2, bc BK127 3, bc BK127 4, bc BK127 5, bc BK127 6, bc BK127 7⟩ (fun hHeld => ?_)
      clear hK K
      refine norm_ (a' := ?_) ?_ ?_
      rotate_left
      ·show Act.put _ (some 20) _ = _
       simp only [Act.put, List.setIfInBounds_toArray, List.set_cons_zero, List.set_cons_succ, i64_w, i32_w]
       rfl
      refine pS (i := 3) (N := some 21) #[true, true, true, true, false, false, false, false, false, false, false, false, false, false, false] HT_ ?_
      refine pS (i := 4) (N := some 22) #[true, true, true, true, true, false, false, false, false, false, false, false, false, false, false] HT_ ?_
      refine pure_ (i := 5) (N := some 23) (v := undef) (a' := ?_) #[true, true, true, true, true, true, false, false, false, false, false, false, false, false, false] rfl rfl (qNB HT_.out (by kernel_rfl)) (fun _ _ _ h => h) (Or.inr ⟨by rfl, rfl⟩) ?_ ?_
      rotate_left
      ·simp only [Act.put, List.setIfInBounds_toArray, List.set_cons_zero, List.set_cons_succ, i64_w, i32_w]
       rfl
      refine pure_ (i := 6) (N := some 24) (v := undef) (a' := ?_) #[true, true, true, true, true, true, true, false, false, false, false, false, false, false, false] rfl rfl (qNB HT_.out (by kernel_rfl)) (fun _ _ _ h => h) (Or.inr ⟨by rfl, rfl⟩) ?_ ?_
      rotate_left
      ·simp only [Act.put, List.setIfInBounds_toArray, List.set_cons_zero, List.set_cons_succ, i64_w, i32_w]
       rfl
      refine pure_ (i := 7) (N := some 25) (v := undef) (a' := ?_) #[true, true, true, true, true, true, true, true, false, false, false, false, false, false, false] rfl rfl (qNB HT_.out (by kernel_rfl)) (fun _ _ _ h => h) (Or.inr ⟨by rfl, rfl⟩) ?_ ?_
      rotate_left
      ·simp only [Act.put, List.setIfInBounds_toArray, List.set_cons_zero, List.set_cons_succ, i64_w, i32_w]
       rfl
      refine pure_ (i := 8) (N := some 26) (v := undef) (a' := ?_) #[true, true, true, true, true, true, true, true, true, false, false, false, false, false, false] rfl rfl (qNB HT_.out (by kernel_rfl)) (fun _ _ _ h => h) (Or.inr ⟨by rfl, rfl⟩) ?_ ?_
      rotate_left
      ·simp only [Act.put, List.setIfInBounds_toArray, List.set_cons_zero, List.set_cons_succ, i64_w, i32_w]
       rfl
      refine pure_ (i := 9) (N := some 27) (v := undef) (a' := ?_) #[true, true, true, true, true, true, true, true, true, true, false, false, false, false, false] rfl rfl (qNB HT_.out (by kernel_rfl)) (fun _ _ _ h => h) (Or.inr ⟨by rfl, rfl⟩) ?_ ?_
      rotate_left
      ·simp only [Act.put, List.setIfInBounds_toArray, List.set_cons_zero, List.set_cons_succ, i64_w, i32_w]
       rfl
      refine pure_ (i := 10) (N := some 28) (v := undef) (a' := ?_) #[true, true, true, true, true, true, true, true, true, true, true, false, false, false, false] rfl rfl (qNB HT_.out (by kernel_rfl)) (fun _ _ _ h => h) (Or.inr ⟨by rfl, rfl⟩) ?_ ?_
      rotate_left
      ·simp only [Act.put, List.setIfInBounds_toArray, List.set_cons_zero, List.set_cons_succ, i64_w, i32_w]
       rfl
      refine pure_ (i := 11) (N := some 29) (v := undef) (a' := ?_) #[true, true, true, true, true, true, true, true, true, true, true, true, false, false, false] rfl rfl (qNB HT_.out (by kernel_rfl)) (fun _ _ _ h => h) (Or.inr ⟨by rfl, rfl⟩) ?_ ?_
      rotate_left
      ·simp only [Act.put, List.setIfInBounds_toArray, List.set_cons_zero, List.set_cons_succ, i64_w, i32_w]
       rfl
      refine pure_ (i := 12) (N := some 30) (v := undef) (a' := ?_) #[true, true, true, true, true, true, true, true, true, true, true, true, true, false, false] rfl rfl (qNB HT_.out (by kernel_rfl)) (fun _ _ _ h => h) (Or.inr ⟨by rfl, rfl⟩) ?_ ?_
      rotate_left
      ·simp only [Act.put, List.setIfInBounds_toArray, List.set_cons_zero, List.set_cons_succ, i64_w, i32_w]
       rfl
      refine pure_ (i := 13) (N := some 31) (v := undef) (a' := ?_) #[true, true, true, true, true, true, true, true, true, true, true, true, true, true, false] rfl rfl (qNB HT_.out (by kernel_rfl)) (fun _ _ _ h => h) (Or.inr ⟨by rfl, rfl⟩) ?_ ?_
      rotate_left
      ·simp only [Act.put, List.setIfInBounds_toArray, List.set_cons_zero, List.set_cons_succ, i64_w, i32_w]
       rfl
      refine pS (i := 14) (N := some 32) #[true, true, true, true, true, true, true, true, true, true, true, true, true, true, true] HT_ ?_
      refine done_ (qvA HT_.out (by kernel_rfl)) ?_
      try go_wp2
      go_ret
      exact ⟨sR, bl⟩
    ·rw [if_neg c6] at H
     have c6b0 := decide_eq_false c6
     clear c6
     obtain rfl := Option.some.inj H
     go_wp2
     go_ret
     exact ⟨sR, bl⟩
 ·replace c4 := Bool.eq_false_iff.mpr c4
  subst c4
  replace H := iF H
  obtain rfl := Option.some.inj H
  go_enter Tryz.func19, Tryz.ntmps19
  go_wp2_with (first | ((with_reducible refine qH (N := 2) rfl ?_); refine bE (N := 2) (cs := #[.int .i64 a0_0, .int .i64 a0_1, .slice A0_2 l0_2.length c0_2]) (t := 40) ?_; intro gb124 hg w37 hbox hb; have BK124 := aM (hbox); have GW124 := aM ((gg hg)); have GE124 := aM ((gg hg)); replace HB := aM (qB bl hb); clear hb hbox hg) | ((with_reducible refine qE (f := 42) rfl ?_); refine qm (some 9) rfl rfl Tryz.func42 (by kernel_rfl) rfl #[.int .i64 (l1.length : Int), .int .i64 1, .int .i64 3] rfl gA ?_; (with_reducible refine (qmA.calls (l1.length : Int) 1 3 false _ A3.out).mono ?_); rintro e w' ⟨rfl, ⟨nd, rfl⟩⟩; refine ⟨_, rfl, ?_⟩))
  go_ret
  exact ⟨sR, bl⟩
mutual
def qW.l0 : Nat → ByteArray → Int → Int → Int → Int → List Int → Option (Int × Int × List Int × Bool)
 | 0, _, _, _, _, _, _ => none
 | k + 1, x0, x5, x6, x136000, x136001, x136002 => if x6 ≤ (x0.size : Int) then (if x6 < (x0.size : Int) then (if 0 ≤ x6 then (qW.j1 k x0 x5 x6 ((bt x0 x6) != 47) x136000 x136001 x136002) else (none)) else (qW.j1 k x0 x5 x6 false x136000 x136001 x136002)) else (if x136000 > 7 then (some (0, 0, ([] : List Int), false)) else (if x136001 > 7 then (some (0, 0, ([] : List Int), false)) else (if (x136002.length : Int) > 36 then (some (0, 0, ([] : List Int), false)) else (some (x136000, x136001, x136002, true)))))
def qW.j1 : Nat → ByteArray → Int → Int → Bool → Int → Int → List Int → Option (Int × Int × List Int × Bool)
 | 0, _, _, _, _, _, _, _ => none
 | k + 1, x0, x5, x6, x27, x136000, x136001, x136002 => if x27 = true then (if 0 ≤ x6 then (if x6 < (x0.size : Int) then (if (bt x0 x6) = 46 then (qW.j2 k x0 x5 x6 false x136000 x136001 x136002) else (qW.j2 k x0 x5 x6 ((bt x0 x6) != 35) x136000 x136001 x136002)) else (none)) else (none)) else (if x136001 > 0 then (if x5 = x136000 then (if x5 = 0 then (some (0, 0, ([] : List Int), false)) else (qW.l0 k x0 0 (wrap64 (x6 + 1)) x5 (wrap64 (x136001 + 1)) x136002)) else (some (0, 0, ([] : List Int), false))) else (if x5 = 0 then (some (0, 0, ([] : List Int), false)) else (qW.l0 k x0 0 (wrap64 (x6 + 1)) x5 (wrap64 (x136001 + 1)) x136002)))
def qW.j2 : Nat → ByteArray → Int → Int → Bool → Int → Int → List Int → Option (Int × Int × List Int × Bool)
 | 0, _, _, _, _, _, _, _ => none
 | k + 1, x0, x5, x6, x37, x136000, x136001, x136002 => if x37 = true then (some (0, 0, ([] : List Int), false)) else (if 0 ≤ x6 then (if x6 < (x0.size : Int) then (if x136002.length < 140737488355328 then (qW.l0 k x0 (wrap64 (x5 + 1)) (wrap64 (x6 + 1)) x136000 x136001 (x136002 ++ [bt x0 x6])) else (none)) else (none)) else (none))
end
def qW.f (k : Nat) (a0 : ByteArray) : Option (Int × Int × List Int × Bool) := if (a0.size : Int) > 42 then (some (0, 0, ([] : List Int), false)) else (qW.l0 k a0 0 0 0 0 ([] : List Int))
def qW.T11 : Bool × List (List Nat × List Nat) := (true, [([], []), ([0], [0]), ([], []), ([], []), ([2, 3], [2, 3]), ([4], [4]), ([1, 5], [1, 5]), ([0, 1, 2, 3, 4, 5, 6], []), ([7, 6, 6, 0, 1, 2, 3, 4, 5, 6], [6, 7])])
def qW.B11 : List Nat := [0, 1, 0, 0, 12, 28, 63, 127, 255]
theorem qW.tab11 : rtab .any (opsOf Tryz.f41 11) = qW.T11 := by kernel_rfl
theorem qW.bits11 : waitsOk qW.T11.2 qW.B11 = true := by kernel_rfl
set_option maxHeartbeats 8000000 in
set_option maxRecDepth 100000 in
theorem qW.calls (k : Nat) (a0 : ByteArray) (r1 : Int) (r2 : Int) (r3 : List Int) (r4 : Bool) (w : World) (h : qW.f k a0 = some (r1, r2, r3, r4)) :
  Calls Tryz.prog 41 #[.string a0] w fun e w' => ∃ v2_ : Value, e = .returned (.tuple #[.agg #[.int .i64 r1, .int .i64 r2, v2_], .bool r4]) ∧ Kd.R (Kd.int .u8) 5 w' w.heap.size (fun _ => True) v2_ r3 ∧ Below w.heap.size w w' := by
 have hu40 := Tryz.underlying40
 have HB := aM (Below.refl w.heap.size w)
 have H : (if (a0.size : Int) > 42 then (some (0, 0, ([] : List Int), false)) else (qW.l0 k a0 0 0 0 0 ([] : List Int))) = some (r1, r2, r3, r4) := h
 clear h
 by_cases c2 : (a0.size : Int) > 42
 ·rw [if_pos c2] at H
  have c2b0 := decide_eq_true c2
  have c2b1 : decide (42 < a0.size) = true := decide_eq_true (by omega)
  clear c2
  simp only [Option.some.injEq, Prod.mk.injEq] at H
  obtain ⟨rfl, rfl, rfl, rfl⟩ := H
  go_enter Tryz.func41, Tryz.ntmps41
  go_wp2_with (first | ((with_reducible refine qH (N := 2) rfl ?_); (try (refine qYC (by rfl) ?_; dsimp only)); refine bE (N := 2) (cs := #[.int .i64 0, .int .i64 0, .slice none 0 0]) (t := 40) ?_; intro gb134 hg w3 hbox hb; have BK134 := aM (hbox); have GW134 := aM ((gg hg)); have GE134 := aM ((gg hg)); replace HB := aM (qB bl hb); clear hb hbox hg) | ((with_reducible refine qH (N := 4) rfl ?_); (try (refine qYC (by rfl) ?_; dsimp only)); refine bE (N := 4) (cs := #[.int .i64 0, .int .i64 0, .slice none 0 0]) (t := 40) ?_; intro gb135 hg w4 hbox hb; have BK135 := aM (hbox); have GW135 := aM ((gg hg)); have GE135 := aM ((gg hg)); have NB134_135 := aM ((nl BK134 hg)); have NB135_134 := aM ((nr BK134 hg)); replace BK134 := aM (bb BK134 hb); replace HB := aM (qB bl hb); clear hb hbox hg; have hnb5 := NB135_134.out; have hnc5 := NB134_135.out; (refine cb3 BK135 ?_; intro hcz6_0 hcz6_1 hcz6_2); (refine cz3 BK135 ?_; intro hfz6_0 hfz6_1 hfz6_2); (refine cb3 BK134 ?_; intro hcz7_0 hcz7_1 hcz7_2); (refine cz3 BK134 ?_; intro hfz7_0 hfz7_1 hfz7_2)))
  refine bodyPost_ret (qyA rfl _ _ gb134 40 #[.int .i64 0, .int .i64 0, .slice none 0 0] (0, 0) _ rfl (by (with_reducible repeat (first | refine qG ?_ _ | refine qD ?_ | refine qF ?_ _)); refine qHA (cs := #[.int .i64 0, .int .i64 0, .slice none 0 0]) ?_ 2 _ rfl; (with_reducible repeat (first | refine qG ?_ _ | refine qD ?_ | refine qF ?_ _)); refine qHA (cs := #[.int .i64 0, .int .i64 0, .slice none 0 0]) ?_ 1 _ rfl; (with_reducible repeat (first | refine qG ?_ _ | refine qD ?_ | refine qF ?_ _)); refine qHA (cs := #[.int .i64 0, .int .i64 0, .slice none 0 0]) ?_ 0 _ rfl; (with_reducible repeat (first | refine qG ?_ _ | refine qD ?_ | refine qF ?_ _)); refine qUB ?_ NB134_135.out _; (with_reducible repeat (first | refine qG ?_ _ | refine qD ?_ | refine qF ?_ _)); refine qUB ?_ NB134_135.out _; (with_reducible repeat (first | refine qG ?_ _ | refine qD ?_ | refine qF ?_ _)); refine qUB ?_ NB134_135.out _; (with_reducible repeat (first | refine qG ?_ _ | refine qD ?_ | refine qF ?_ _)); exact BK134.out) Tryz.underlying40 rfl (by kernel_rfl)) rfl ?_
  exact ⟨_, sR, nK, bl⟩
 ·rw [if_neg c2] at H
  have c2b0 := decide_eq_false c2
  have c2b1 : decide (42 < a0.size) = false := decide_eq_false (by omega)
  clear c2
  have H' := aM H
  clear H
  go_enter Tryz.func41, Tryz.ntmps41
  go_wp2_with (first | ((with_reducible refine qH (N := 2) rfl ?_); (try (refine qYC (by rfl) ?_; dsimp only)); refine bE (N := 2) (cs := #[.int .i64 0, .int .i64 0, .slice none 0 0]) (t := 40) ?_; intro gb134 hg w8 hbox hb; have BK134 := aM (hbox); have GW134 := aM ((gg hg)); have GE134 := aM ((gg hg)); replace HB := aM (qB bl hb); clear hb hbox hg) | ((with_reducible refine qH (N := 4) rfl ?_); (try (refine qYC (by rfl) ?_; dsimp only)); refine bE (N := 4) (cs := #[.int .i64 0, .int .i64 0, .slice none 0 0]) (t := 40) ?_; intro gb135 hg w9 hbox hb; have BK135 := aM (hbox); have GW135 := aM ((gg hg)); have GE135 := aM ((gg hg)); have NB134_135 := aM ((nl BK134 hg)); have NB135_134 := aM ((nr BK134 hg)); replace BK134 := aM (bb BK134 hb); replace HB := aM (qB bl hb); clear hb hbox hg; have hnb10 := NB135_134.out; have hnc10 := NB134_135.out; (refine cb3 BK135 ?_; intro hcz11_0 hcz11_1 hcz11_2); (refine cz3 BK135 ?_; intro hfz11_0 hfz11_1 hfz11_2)))
  go_loopg [5, 6] k (fun kq v5 v6 w' => ∃ (x5_1 : Int) (x6_1 : Int) (x135000_1 : Int) (x135001_1 : Int) (x136000_1 : Int) (x136001_1 : Int) (x136002_1 : List Int) (u136002 : Value), v5 = .int .i64 x5_1 ∧ v6 = .int .i64 x6_1 ∧ Aside0 (qW.l0 kq a0 x5_1 x6_1 x136000_1 x136001_1 x136002_1 = some (r1, r2, r3, r4)) ∧ Aside0 (kq ≤ k) ∧ Aside0 (Kd.R (Kd.int .u8) 5 w' w.heap.size (fun _ => True) u136002 x136002_1) ∧ Aside0 (w'.heap[gb134]? = some (.cells #[.int .i64 x135000_1, .int .i64 x135001_1, (.slice none 0 0)] 40 (0, 0))) ∧ Aside0 (w'.heap[gb135]? = some (.cells #[.int .i64 x136000_1, .int .i64 x136001_1, u136002] 40 (0, 0))) ∧ Aside0 (Below w.heap.size w w'))
  case atStart => exact ⟨(0), (0), (0), (0), (0), (0), (([] : List Int)), (.slice none 0 0), sD, sD, H', ⟨Nat.le_refl _⟩, ⟨nK⟩, ⟨bF BK134 NB134_135⟩, ⟨by (with_reducible repeat (first | refine qG ?_ _ | refine qD ?_ | refine qF ?_ _)); exact bP3 BK135⟩, ⟨bl⟩⟩
  case round =>
   clear H'; (try clear c1); (try clear c2); (try clear c2b0); (try clear c2b1); (try clear p2); (try clear c4); (try clear c5); (try clear c10); (try clear hcz11_0 hcz11_1 hcz11_2); (try clear hcz6_0 hcz6_1 hcz6_2); (try clear hcz7_0 hcz7_1 hcz7_2); (try clear hfz11_0 hfz11_1 hfz11_2); (try clear hfz6_0 hfz6_1 hfz6_2); (try clear hfz7_0 hfz7_1 hfz7_2)
   obtain ⟨x5_1, x6_1, x135000_1, x135001_1, x136000_1, x136001_1, x136002_1, u136002, rfl, rfl, HA, HK1, HO_136002, BK134, BK135, HB⟩ := hrel
   cases gk with
   | zero => exact absurd HA.out (by simp [qW.l0])
   | succ k1 =>
    have H := HA.out
    clear HA
    simp only [qW.l0] at H
    by_cases c12 : x6_1 ≤ (a0.size : Int)
    ·rw [if_pos c12] at H
     have c12b0 := decide_eq_true c12
     clear c12
     have HC13 := aM H
     clear H
     go_upto_region 8 with (fail)
     go_cut [27] (fun v27 wc => ∃ (kq : Nat) (x27_12 : Bool), v27 = .bool x27_12 ∧ Aside0 (qW.j1 kq a0 x5_1 x6_1 x27_12 x136000_1 x136001_1 x136002_1 = some (r1, r2, r3, r4)) ∧ Aside0 (kq ≤ k1) ∧ Aside0 (Kd.R (Kd.int .u8) 5 wc w.heap.size (fun _ => True) u136002 x136002_1) ∧ Aside0 (wc.heap[gb134]? = some (.cells #[.int .i64 x135000_1, .int .i64 x135001_1, (.slice none 0 0)] 40 (0, 0))) ∧ Aside0 (wc.heap[gb135]? = some (.cells #[.int .i64 x136000_1, .int .i64 x136001_1, u136002] 40 (0, 0))) ∧ Aside0 (Below w.heap.size w wc))
     case first =>
      have H := HC13.out
      clear HC13
      by_cases c14 : x6_1 < (a0.size : Int)
      ·rw [if_pos c14] at H
       have c14b0 := decide_eq_true c14
       clear c14
       (first | rw [c14b0] | (simp only [i64_w, i32_w]; rw [c14b0]) | skip)
       by_cases c15 : 0 ≤ x6_1
       case neg => exact nN c15 H
       rw [if_pos c15] at H
       have c15b0 := decide_eq_true c15
       clear c15
       have H' := aM H
       clear H
       have p16 : 0 ≤ (x6_1 : Int) := of_decide_eq_true am
       have q16 : x6_1 < (a0.size : Int) := of_decide_eq_true am
       have hx16 := bt_at a0 x6_1
       replace p16 := eq_true p16
       replace q16 := eq_true q16
       go_wp2
       go_meet
       case rel => exact ⟨_, (((bt a0 x6_1) != 47)), sD, H', ⟨by have := HK1.out; first | omega | exact Nat.le_refl _⟩, ⟨rR HO_136002⟩, ⟨rB BK134⟩, ⟨rB BK135⟩, ⟨bl⟩⟩
      ·rw [if_neg c14] at H
       have c14b0 := decide_eq_false c14
       clear c14
       (first | rw [c14b0] | (simp only [i64_w, i32_w]; rw [c14b0]) | skip)
       have H' := aM H
       clear H
       go_wp2
       go_meet
       case rel => exact ⟨_, (false), sD, H', ⟨by have := HK1.out; first | omega | exact Nat.le_refl _⟩, ⟨rR HO_136002⟩, ⟨rB BK134⟩, ⟨rB BK135⟩, ⟨bl⟩⟩
     case rest =>
      clear HC13; (try clear c1); (try clear p1); (try clear q1); (try clear hx1); (try clear c2); (try clear c2b0); (try clear c2b1); (try clear p2); (try clear c4); (try clear c5); (try clear c10); (try clear c12); (try clear c12b0); (try clear c14); (try clear c14b0); (try clear c15); (try clear c15b0); (try clear p16); (try clear q16); (try clear hx16); (try clear hcz11_0 hcz11_1 hcz11_2); (try clear hcz6_0 hcz6_1 hcz6_2); (try clear hcz7_0 hcz7_1 hcz7_2); (try clear hfz11_0 hfz11_1 hfz11_2); (try clear hfz6_0 hfz6_1 hfz6_2); (try clear hfz7_0 hfz7_1 hfz7_2); (try clear p16); (try clear p2); (try clear q16)
      obtain ⟨kq, x27_12, rfl, HA, HJ12, HO_136002, BK134, BK135, HB⟩ := hcut
      cases kq with
      | zero => exact absurd HA.out (by simp [qW.j1])
      | succ kj12 =>
       have H := HA.out
       clear HA
       simp only [qW.j1] at H
       by_cases c17 : x27_12 = true
       ·subst c17
        replace H := iT H
        have HC18 := aM H
        clear H
        go_upto_region 9 with (fail)
        go_cut [37] (fun v37 wc => ∃ (kq : Nat) (x37_17 : Bool), v37 = .bool x37_17 ∧ Aside0 (qW.j2 kq a0 x5_1 x6_1 x37_17 x136000_1 x136001_1 x136002_1 = some (r1, r2, r3, r4)) ∧ Aside0 (kq ≤ kj12) ∧ Aside0 (Kd.R (Kd.int .u8) 5 wc w.heap.size (fun _ => True) u136002 x136002_1) ∧ Aside0 (wc.heap[gb134]? = some (.cells #[.int .i64 x135000_1, .int .i64 x135001_1, (.slice none 0 0)] 40 (0, 0))) ∧ Aside0 (wc.heap[gb135]? = some (.cells #[.int .i64 x136000_1, .int .i64 x136001_1, u136002] 40 (0, 0))) ∧ Aside0 (Below w.heap.size w wc))
        case first =>
         have H := HC18.out
         clear HC18
         by_cases c19 : 0 ≤ x6_1
         case neg => exact nN c19 H
         rw [if_pos c19] at H
         have c19b0 := decide_eq_true c19
         clear c19
         (first | rw [c19b0] | (simp only [i64_w, i32_w]; rw [c19b0]) | skip)
         by_cases c20 : x6_1 < (a0.size : Int)
         case neg => exact nN c20 H
         rw [if_pos c20] at H
         have c20b0 := decide_eq_true c20
         clear c20
         by_cases c22 : (bt a0 x6_1) = 46
         ·rw [if_pos c22] at H
          have c22b0 := beq_iff_eq.mpr c22
          have c22b1 := bne_eq_false_iff_eq.mpr c22
          clear c22
          have H' := aM H
          clear H
          have p21 : 0 ≤ (x6_1 : Int) := of_decide_eq_true am
          have q21 : x6_1 < (a0.size : Int) := of_decide_eq_true am
          have hx21 := bt_at a0 x6_1
          replace p21 := eq_true p21
          replace q21 := eq_true q21
          go_wp2
          go_meet
          case rel => exact ⟨_, (false), sD, H', ⟨by have := HK1.out; have := HJ12.out; first | omega | exact Nat.le_refl _⟩, ⟨rR HO_136002⟩, ⟨rB BK134⟩, ⟨rB BK135⟩, ⟨bl⟩⟩
         ·rw [if_neg c22] at H
          have c22b0 := beq_eq_false_iff_ne.mpr c22
          have c22b1 := bne_iff_ne.mpr c22
          have H' := aM H
          clear H
          have p21 : 0 ≤ (x6_1 : Int) := of_decide_eq_true am
          have q21 : x6_1 < (a0.size : Int) := of_decide_eq_true am
          have hx21 := bt_at a0 x6_1
          replace p21 := eq_true p21
          replace q21 := eq_true q21
          have p23 : 0 ≤ (x6_1 : Int) := of_decide_eq_true am
          have q23 : x6_1 < (a0.size : Int) := of_decide_eq_true am
          have hx23 := bt_at a0 x6_1
          replace p23 := eq_true p23
          replace q23 := eq_true q23
          go_wp2
          go_meet
          case rel => exact ⟨_, (((bt a0 x6_1) != 35)), sD, H', ⟨by have := HK1.out; have := HJ12.out; first | omega | exact Nat.le_refl _⟩, ⟨rR HO_136002⟩, ⟨rB BK134⟩, ⟨rB BK135⟩, ⟨bl⟩⟩
        case rest =>
         clear HC18; (try clear c1); (try clear p1); (try clear q1); (try clear hx1); (try clear c2); (try clear c2b0); (try clear c2b1); (try clear p2); (try clear q2); (try clear hx2); (try clear c4); (try clear c5); (try clear c10); (try clear c12); (try clear c12b0); (try clear c14); (try clear c14b0); (try clear c15); (try clear c15b0); (try clear p16); (try clear q16); (try clear hx16); (try clear c17); (try clear c19); (try clear c19b0); (try clear c20); (try clear c20b0); (try clear p21); (try clear q21); (try clear hx21); (try clear c22); (try clear c22b0); (try clear c22b1); (try clear p23); (try clear q23); (try clear hx23); (try clear hcz11_0 hcz11_1 hcz11_2); (try clear hcz6_0 hcz6_1 hcz6_2); (try clear hcz7_0 hcz7_1 hcz7_2); (try clear hfz11_0 hfz11_1 hfz11_2); (try clear hfz6_0 hfz6_1 hfz6_2); (try clear hfz7_0 hfz7_1 hfz7_2); (try clear p1); (try clear p16); (try clear p2); (try clear p21); (try clear p23); (try clear q1); (try clear q16); (try clear q21); (try clear q23)
         obtain ⟨kq, x37_17, rfl, HA, HJ17, HO_136002, BK134, BK135, HB⟩ := hcut
         cases kq with
         | zero => exact absurd HA.out (by simp [qW.j2])
         | succ kj17 =>
          have H := HA.out
          clear HA
          simp only [qW.j2] at H
          by_cases c24 : x37_17 = true
          ·subst c24
           replace H := iT H
           simp only [Option.some.injEq, Prod.mk.injEq] at H
           obtain ⟨rfl, rfl, rfl, rfl⟩ := H
           have hnb25 := NB134_135.out
           have hnc25 := NB135_134.out
           (refine cb3 BK134 ?_; intro _ _ _)
           (refine cz3 BK134 ?_; intro _ _ _)
           go_wp2
           refine bodyPost_ret (qyA rfl _ _ gb134 40 #[.int .i64 0, .int .i64 0, .slice none 0 0] (0, 0) _ rfl (by (with_reducible repeat (first | refine qG ?_ _ | refine qD ?_ | refine qF ?_ _)); exact bP3 BK134) Tryz.underlying40 rfl (by kernel_rfl)) rfl ?_
           exact ⟨_, sR, nK, bl⟩
          ·replace c24 := Bool.eq_false_iff.mpr c24
           subst c24
           replace H := iF H
           by_cases c27 : 0 ≤ x6_1
           case neg => exact nN c27 H
           rw [if_pos c27] at H
           have c27b0 := decide_eq_true c27
           clear c27
           by_cases c28 : x6_1 < (a0.size : Int)
           case neg => exact nN c28 H
           rw [if_pos c28] at H
           have c28b0 := decide_eq_true c28
           clear c28
           by_cases c30 : x136002_1.length < 140737488355328
           case neg => exact nN c30 H
           rw [if_pos c30] at H
           have LMc30 := aM c30
           clear c30
           obtain ⟨y136, hy136⟩ : ∃ y_ : List Int, y_ = (x136002_1 ++ [bt a0 x6_1]) := ⟨_, rfl⟩
           replace H : (qW.l0 kj17 a0 (wrap64 (x5_1 + 1)) (wrap64 (x6_1 + 1)) x136000_1 x136001_1 y136) = some (r1, r2, r3, r4) := by first | (rw [hy136]; with_reducible exact H) | (have H2_ := (Option.bind_some _ _).symm.trans H; rw [hy136]; with_reducible exact H2_) | (have H2_ := (Option.bind_some _ _).symm.trans H; with_reducible exact H2_) | with_reducible exact H | (rw [hy136]; exact H) | exact H
           have Ny136 := aM hy136
           clear hy136
           have H' := aM H
           clear H
           try go_wp2
           replace HO_136002 := aM (Kd.qS HO_136002.out)
           replace BK134 := aM (qD BK134.out)
           replace BK135 := aM (qD BK135.out)
           replace HB := aM (qi HB.out)
           have p29 : 0 ≤ (x6_1 : Int) := of_decide_eq_true am
           have q29 : x6_1 < (a0.size : Int) := of_decide_eq_true am
           have hx29 := bt_at a0 x6_1
           replace p29 := eq_true p29
           replace q29 := eq_true q29
           refine qJB (n := 9) (S := fun w' => w'.cell? ⟨gb135, 0, none⟩ = some (.int .i64 x136000_1) ∧ w'.cell? ⟨gb135, 1, none⟩ = some (.int .i64 x136001_1) ∧ w'.cell? ⟨gb135, 2, none⟩ = some (u136002)) (ds := [8]) #[false, false, false, false, false, false, false, false, false] (by kernel_rfl) rfl rfl ⟨bc BK135 0, bc BK135 1, bc BK135 2⟩ (fun hHeld => ?_); refine qNA qW.tab11 qW.bits11 (fun HT_ HW_ => ?_)
           generalize wc.drew = w31 at HO_136002 BK134 BK135 HB hHeld ⊢
           refine pS (i := 0) (N := some 39) #[true, false, false, false, false, false, false, false, false] HT_ ?_
           refine pS (i := 2) (N := some 41) #[true, false, true, false, false, false, false, false, false] HT_ ?_
           refine pS (i := 3) (N := some 42) #[true, false, true, true, false, false, false, false, false] HT_ ?_
           refine tS (i := 1) (N := some 40) #[true, true, true, true, false, false, false, false, false] HT_ HW_ hHeld ?_
           refine tS (i := 4) (N := some 43) #[true, true, true, true, true, false, false, false, false] HT_ HW_ hHeld ?_
           refine one_ (i := 5) (N := some 44) #[true, true, true, true, true, true, false, false, false] rfl rfl (qcA HT_.out (by kernel_rfl)) (by decide) (fun K hK => ?_)
           refine qfB (w1 := ?_) (v := ?_) (by rfl) rfl ?_ ?_
           rotate_left 2
           ·go_simp
            constructor
            ·rfl
            ·rfl
           refine hK.out _ _ ⟨(qw (qF BK135.out _) 0).trans rfl, (qw (qF BK135.out _) 1).trans rfl, (qw (qF BK135.out _) 2).trans rfl⟩ (fun hHeld => ?_)
           clear hK K
           refine norm_ (a' := ?_) ?_ ?_
           rotate_left
           ·show Act.put _ (some 44) _ = _
            simp only [Act.put, List.setIfInBounds_toArray, List.set_cons_zero, List.set_cons_succ, i64_w, i32_w]
            rfl
           refine one_ (i := 6) (N := some 45) #[true, true, true, true, true, true, true, false, false] rfl rfl (qcA HT_.out (by kernel_rfl)) (by decide) (fun K hK => ?_)
           refine Kd.R_append_step (Kd.int .u8) (w0 := w) w.heap.size (by rfl) (.tmp 40) (.tmp 44) 38 5 (.int .u8 0) 1 rfl Tryz.underlying38 info5 rfl (by decide) (by omega) u136002 x136002_1 (bt a0 x6_1) [.int .u8 (bt a0 x6_1)] (fun _ => True) (fun _ => False) rfl rfl ?aP (fun _ hk => hk.elim) ?aF ?aO ?aB ?aS ?aL ?_
           (case aP => exact rfl)
           (case aB => exact bl)
           (case aF => exact (fun _ _ => trivial))
           (case aO => exact (rR HO_136002))
           (case aS => exact (qJ bl))
           (case aL => have := LMc30.out; omega)
           intro v137 w32 ho hb hg hat
           rw [← Ny136.out] at ho
           have HO138 := aM (ho)
           replace BK134 := aM (qn (rB BK134) hg (Kd.R_ne HO_136002.out BK134.out (by decide)))
           replace BK135 := aM (qn (rB BK135) hg (Kd.R_ne HO_136002.out BK135.out (by decide)))
           replace HB := aM (hb)
           clear HO_136002
           clear ho hb hg hat
           obtain ⟨Ao33, co33, eo33⟩ := Kd.qDA HO138.out
           (first | subst eo33 | (injection eo33 with f1_ f2_ f3_; have f4_ := f1_.symm; have f5_ := f3_.symm; clear f1_ f2_ f3_; subst f4_; subst f5_))
           refine hK.out _ _ ⟨bc BK135 0, bc BK135 1, bc BK135 2⟩ (fun hHeld => ?_)
           clear hK K
           refine norm_ (a' := ?_) ?_ ?_
           rotate_left
           ·show Act.put _ (some 45) _ = _
            simp only [Act.put, List.setIfInBounds_toArray, List.set_cons_zero, List.set_cons_succ, i64_w, i32_w]
            rfl
           refine pS (i := 7) (N := some 46) #[true, true, true, true, true, true, true, true, false] HT_ ?_
           refine last_ (i := 8) (N := none) #[true, true, true, true, true, true, true, true, true] rfl rfl (qcA HT_.out (by kernel_rfl)) (by decide) (fun K hK => ?_)
           have hs34 : w32.cell? ⟨gb135, 2, none⟩ = some (u136002) := bc BK135 2
           have hfs34 := qb BK135.out 2
           have hns34_0 := NB134_135.out
           have hms34_0 := NB135_134.out
           refine skip_ (w1 := ?_) (by rfl) rfl ?_ ?_
           rotate_left
           ·go_simp
            rfl
           refine hK.out _ _ ?_
           clear hK K
           refine done_ (qvA HT_.out (by kernel_rfl)) ?_
           try go_wp2
           go_roundg kj17
           case measure => have := HK1.out; have := HJ12.out; have := HJ17.out; omega
           case rel => exact ⟨(wrap64 (x5_1 + 1)), (wrap64 (x6_1 + 1)), (x135000_1), (x135001_1), (x136000_1), (x136001_1), (y136), (.slice Ao33 y136.length co33), sD, sD, H', ⟨by have := HK1.out; have := HJ12.out; have := HJ17.out; omega⟩, ⟨by (with_reducible repeat (first | apply Kd.qQ | apply Kd.qR | apply Kd.qS)); exact Kd.qa (Kd.R_far (p := ⟨gb135, 2, none⟩) (Kd.qLB HO138.out BK135.out (by decide)) (fun _ hk => hk.2) (.slice Ao33 y136.length co33)) (fun _ hk => trivial)⟩, ⟨by (with_reducible repeat (first | refine qG ?_ _ | refine qD ?_ | refine qF ?_ _)); refine qUB ?_ NB134_135.out _; (with_reducible repeat (first | refine qG ?_ _ | refine qD ?_ | refine qF ?_ _)); exact BK134.out⟩, ⟨by (with_reducible repeat (first | refine qG ?_ _ | refine qD ?_ | refine qF ?_ _)); refine qHA (cs := #[.int .i64 x136000_1, .int .i64 x136001_1, u136002]) ?_ 2 _ rfl; (with_reducible repeat (first | refine qG ?_ _ | refine qD ?_ | refine qF ?_ _)); exact BK135.out⟩, ⟨bl⟩⟩
       ·replace c17 := Bool.eq_false_iff.mpr c17
        subst c17
        replace H := iF H
        by_cases c35 : x136001_1 > 0
        ·rw [if_pos c35] at H
         have c35b0 := decide_eq_true c35
         clear c35
         by_cases c36 : x5_1 = x136000_1
         ·rw [if_pos c36] at H
          have c36b0 := beq_iff_eq.mpr c36
          have c36b1 := bne_eq_false_iff_eq.mpr c36
          clear c36
          by_cases c37 : x5_1 = 0
          ·rw [if_pos c37] at H
           have c37b0 := beq_iff_eq.mpr c37
           have c37b1 := bne_eq_false_iff_eq.mpr c37
           clear c37
           simp only [Option.some.injEq, Prod.mk.injEq] at H
           obtain ⟨rfl, rfl, rfl, rfl⟩ := H
           have hnb38 := NB135_134.out
           have hnc38 := NB134_135.out
           (refine cb3 BK135 ?_; intro _ _ _)
           (refine cz3 BK135 ?_; intro _ _ _)
           (refine cb3 BK134 ?_; intro _ _ _)
           (refine cz3 BK134 ?_; intro _ _ _)
           go_wp2
           refine bodyPost_ret (qyA rfl _ _ gb134 40 #[.int .i64 0, .int .i64 0, .slice none 0 0] (0, 0) _ rfl (by (with_reducible repeat (first | refine qG ?_ _ | refine qD ?_ | refine qF ?_ _)); exact bP3 BK134) Tryz.underlying40 rfl (by kernel_rfl)) rfl ?_
           exact ⟨_, sR, nK, bl⟩
          ·rw [if_neg c37] at H
           have c37b0 := beq_eq_false_iff_ne.mpr c37
           have c37b1 := bne_iff_ne.mpr c37
           have H' := aM H
           clear H
           have hnb41 := NB135_134.out
           have hnc41 := NB134_135.out
           (refine cb3 BK135 ?_; intro _ _ _)
           (refine cz3 BK135 ?_; intro _ _ _)
           go_wp2
           go_roundg kj12
           case measure => have := HK1.out; have := HJ12.out; omega
           case rel => exact ⟨(0), (wrap64 (x6_1 + 1)), (x135000_1), (x135001_1), (x5_1), (wrap64 (x136001_1 + 1)), (x136002_1), (u136002), sD, sD, H', ⟨by have := HK1.out; have := HJ12.out; omega⟩, ⟨by (with_reducible repeat (first | apply Kd.qQ | apply Kd.qR | apply Kd.qS)); exact Kd.qa (Kd.R_far (p := ⟨gb135, 1, none⟩) (Kd.R_far (p := ⟨gb135, 0, none⟩) (Kd.qLB HO_136002.out BK135.out (by decide)) (fun _ hk => hk.2) (.int .i64 x5_1)) (fun _ hk => hk.2) (.int .i64 (wrap64 (x136001_1 + 1)))) (fun _ hk => trivial)⟩, ⟨bF BK134 NB134_135⟩, ⟨by (with_reducible repeat (first | refine qG ?_ _ | refine qD ?_ | refine qF ?_ _)); refine qHA (cs := #[.int .i64 x5_1, .int .i64 x136001_1, u136002]) ?_ 1 _ rfl; (with_reducible repeat (first | refine qG ?_ _ | refine qD ?_ | refine qF ?_ _)); refine qHA (cs := #[.int .i64 x136000_1, .int .i64 x136001_1, u136002]) ?_ 0 _ rfl; (with_reducible repeat (first | refine qG ?_ _ | refine qD ?_ | refine qF ?_ _)); exact BK135.out⟩, ⟨bl⟩⟩
         ·rw [if_neg c36] at H
          have c36b0 := beq_eq_false_iff_ne.mpr c36
          have c36b1 := bne_iff_ne.mpr c36
          simp only [Option.some.injEq, Prod.mk.injEq] at H
          obtain ⟨rfl, rfl, rfl, rfl⟩ := H
          have hnb43 := NB135_134.out
          have hnc43 := NB134_135.out
          (refine cb3 BK135 ?_; intro _ _ _)
          (refine cz3 BK135 ?_; intro _ _ _)
          (refine cb3 BK134 ?_; intro _ _ _)
          (refine cz3 BK134 ?_; intro _ _ _)
          go_wp2
          refine bodyPost_ret (qyA rfl _ _ gb134 40 #[.int .i64 0, .int .i64 0, .slice none 0 0] (0, 0) _ rfl (by (with_reducible repeat (first | refine qG ?_ _ | refine qD ?_ | refine qF ?_ _)); exact bP3 BK134) Tryz.underlying40 rfl (by kernel_rfl)) rfl ?_
          exact ⟨_, sR, nK, bl⟩
        ·rw [if_neg c35] at H
         have c35b0 := decide_eq_false c35
         clear c35
         by_cases c46 : x5_1 = 0
         ·rw [if_pos c46] at H
          have c46b0 := beq_iff_eq.mpr c46
          have c46b1 := bne_eq_false_iff_eq.mpr c46
          clear c46
          simp only [Option.some.injEq, Prod.mk.injEq] at H
          obtain ⟨rfl, rfl, rfl, rfl⟩ := H
          have hnb47 := NB135_134.out
          have hnc47 := NB134_135.out
          (refine cb3 BK135 ?_; intro _ _ _)
          (refine cz3 BK135 ?_; intro _ _ _)
          (refine cb3 BK134 ?_; intro _ _ _)
          (refine cz3 BK134 ?_; intro _ _ _)
          go_wp2
          refine bodyPost_ret (qyA rfl _ _ gb134 40 #[.int .i64 0, .int .i64 0, .slice none 0 0] (0, 0) _ rfl (by (with_reducible repeat (first | refine qG ?_ _ | refine qD ?_ | refine qF ?_ _)); exact bP3 BK134) Tryz.underlying40 rfl (by kernel_rfl)) rfl ?_
          exact ⟨_, sR, nK, bl⟩
         ·rw [if_neg c46] at H
          have c46b0 := beq_eq_false_iff_ne.mpr c46
          have c46b1 := bne_iff_ne.mpr c46
          have H' := aM H
          clear H
          have hnb50 := NB135_134.out
          have hnc50 := NB134_135.out
          (refine cb3 BK135 ?_; intro _ _ _)
          (refine cz3 BK135 ?_; intro _ _ _)
          go_wp2
          go_roundg kj12
          case measure => have := HK1.out; have := HJ12.out; omega
          case rel => exact ⟨(0), (wrap64 (x6_1 + 1)), (x135000_1), (x135001_1), (x5_1), (wrap64 (x136001_1 + 1)), (x136002_1), (u136002), sD, sD, H', ⟨by have := HK1.out; have := HJ12.out; omega⟩, ⟨by (with_reducible repeat (first | apply Kd.qQ | apply Kd.qR | apply Kd.qS)); exact Kd.qa (Kd.R_far (p := ⟨gb135, 1, none⟩) (Kd.R_far (p := ⟨gb135, 0, none⟩) (Kd.qLB HO_136002.out BK135.out (by decide)) (fun _ hk => hk.2) (.int .i64 x5_1)) (fun _ hk => hk.2) (.int .i64 (wrap64 (x136001_1 + 1)))) (fun _ hk => trivial)⟩, ⟨bF BK134 NB134_135⟩, ⟨by (with_reducible repeat (first | refine qG ?_ _ | refine qD ?_ | refine qF ?_ _)); refine qHA (cs := #[.int .i64 x5_1, .int .i64 x136001_1, u136002]) ?_ 1 _ rfl; (with_reducible repeat (first | refine qG ?_ _ | refine qD ?_ | refine qF ?_ _)); refine qHA (cs := #[.int .i64 x136000_1, .int .i64 x136001_1, u136002]) ?_ 0 _ rfl; (with_reducible repeat (first | refine qG ?_ _ | refine qD ?_ | refine qF ?_ _)); exact BK135.out⟩, ⟨bl⟩⟩
    ·rw [if_neg c12] at H
     have c12b0 := decide_eq_false c12
     clear c12
     by_cases c52 : x136000_1 > 7
     ·rw [if_pos c52] at H
      have c52b0 := decide_eq_true c52
      clear c52
      simp only [Option.some.injEq, Prod.mk.injEq] at H
      obtain ⟨rfl, rfl, rfl, rfl⟩ := H
      have hnb53 := NB135_134.out
      have hnc53 := NB134_135.out
      (refine cb3 BK135 ?_; intro _ _ _)
      (refine cz3 BK135 ?_; intro _ _ _)
      (refine cb3 BK134 ?_; intro _ _ _)
      (refine cz3 BK134 ?_; intro _ _ _)
      go_wp2
      refine bodyPost_ret (qyA rfl _ _ gb134 40 #[.int .i64 0, .int .i64 0, .slice none 0 0] (0, 0) _ rfl (by (with_reducible repeat (first | refine qG ?_ _ | refine qD ?_ | refine qF ?_ _)); exact bP3 BK134) Tryz.underlying40 rfl (by kernel_rfl)) rfl ?_
      exact ⟨_, sR, nK, bl⟩
     ·rw [if_neg c52] at H
      have c52b0 := decide_eq_false c52
      clear c52
      by_cases c56 : x136001_1 > 7
      ·rw [if_pos c56] at H
       have c56b0 := decide_eq_true c56
       clear c56
       simp only [Option.some.injEq, Prod.mk.injEq] at H
       obtain ⟨rfl, rfl, rfl, rfl⟩ := H
       have hnb57 := NB135_134.out
       have hnc57 := NB134_135.out
       (refine cb3 BK135 ?_; intro _ _ _)
       (refine cz3 BK135 ?_; intro _ _ _)
       (refine cb3 BK134 ?_; intro _ _ _)
       (refine cz3 BK134 ?_; intro _ _ _)
       go_wp2
       refine bodyPost_ret (qyA rfl _ _ gb134 40 #[.int .i64 0, .int .i64 0, .slice none 0 0] (0, 0) _ rfl (by (with_reducible repeat (first | refine qG ?_ _ | refine qD ?_ | refine qF ?_ _)); exact bP3 BK134) Tryz.underlying40 rfl (by kernel_rfl)) rfl ?_
       exact ⟨_, sR, nK, bl⟩
      ·rw [if_neg c56] at H
       have c56b0 := decide_eq_false c56
       clear c56
       by_cases c60 : (x136002_1.length : Int) > 36
       ·rw [if_pos c60] at H
        have c60b0 := decide_eq_true c60
        have c60b1 : decide (36 < x136002_1.length) = true := decide_eq_true (by omega)
        clear c60
        simp only [Option.some.injEq, Prod.mk.injEq] at H
        obtain ⟨rfl, rfl, rfl, rfl⟩ := H
        have hnb61 := NB135_134.out
        have hnc61 := NB134_135.out
        (refine cb3 BK135 ?_; intro _ _ _)
        (refine cz3 BK135 ?_; intro _ _ _)
        obtain ⟨Ao63, co63, eo63⟩ := Kd.qDA HO_136002.out
        subst eo63
        (refine cb3 BK134 ?_; intro _ _ _)
        (refine cz3 BK134 ?_; intro _ _ _)
        go_wp2
        refine bodyPost_ret (qyA rfl _ _ gb134 40 #[.int .i64 0, .int .i64 0, .slice none 0 0] (0, 0) _ rfl (by (with_reducible repeat (first | refine qG ?_ _ | refine qD ?_ | refine qF ?_ _)); exact bP3 BK134) Tryz.underlying40 rfl (by kernel_rfl)) rfl ?_
        exact ⟨_, sR, nK, bl⟩
       ·rw [if_neg c60] at H
        have c60b0 := decide_eq_false c60
        have c60b1 : decide (36 < x136002_1.length) = false := decide_eq_false (by omega)
        clear c60
        simp only [Option.some.injEq, Prod.mk.injEq] at H
        obtain ⟨rfl, rfl, rfl, rfl⟩ := H
        have hnb65 := NB135_134.out
        have hnc65 := NB134_135.out
        (refine cb3 BK135 ?_; intro _ _ _)
        (refine cz3 BK135 ?_; intro _ _ _)
        obtain ⟨Ao67, co67, eo67⟩ := Kd.qDA HO_136002.out
        subst eo67
        (refine cb3 BK134 ?_; intro _ _ _)
        (refine cz3 BK134 ?_; intro _ _ _)
        go_wp2
        refine bodyPost_ret (qyA rfl _ _ gb134 40 #[.int .i64 x136000_1, .int .i64 x136001_1, .slice Ao67 x136002_1.length co67] (0, 0) _ rfl (by (with_reducible repeat (first | refine qG ?_ _ | refine qD ?_ | refine qF ?_ _)); exact bP3 BK134) Tryz.underlying40 rfl (by kernel_rfl)) rfl ?_
        exact ⟨_, sR, by (with_reducible repeat (first | apply Kd.qQ | apply Kd.qR | apply Kd.qS)); exact Kd.qa (Kd.R_far (p := ⟨gb134, 2, none⟩) (Kd.R_far (p := ⟨gb134, 1, none⟩) (Kd.R_far (p := ⟨gb134, 0, none⟩) (Kd.qLB HO_136002.out BK134.out (by decide)) (fun _ hk => hk.2) (.int .i64 x136000_1)) (fun _ hk => hk.2) (.int .i64 x136001_1)) (fun _ hk => hk.2) (.slice Ao67 x136002_1.length co67)) (fun _ hk => trivial), bl⟩
def qOA.f (k : Nat) (a0 : ByteArray) (l1 : List (S53)) : Option (Int × Int × List Int × Bool) := (qW.f k a0).bind fun bt140 => (if bt140.2.2.2 = true then ((qu.f k bt140.1 bt140.2.1 bt140.2.2.1 l1).bind fun t147 => (some (bt140.1, bt140.2.1, bt140.2.2.1, t147))) else (some (bt140.1, bt140.2.1, bt140.2.2.1, false)))
def qOA.T2 : Bool × List (List Nat × List Nat) := (true, [([], []), ([], []), ([1], [1]), ([2], [2]), ([2], [2]), ([3, 4, 2, 2], [2, 3, 4]), ([2, 5], [2, 5]), ([0, 5, 0], [0]), ([6, 7, 0, 1, 2, 3, 4, 5, 6, 7], [6])])
def qOA.B2 : List Nat := [0, 0, 2, 6, 6, 30, 62, 63, 255]
theorem qOA.tab2 : rtab .any (opsOf Tryz.f18 2) = qOA.T2 := by kernel_rfl
theorem qOA.bits2 : waitsOk qOA.T2.2 qOA.B2 = true := by kernel_rfl
set_option maxHeartbeats 8000000 in
set_option maxRecDepth 100000 in
theorem qOA.calls (k : Nat) (a0 : ByteArray) (A1 : Option Addr) (c1 : Nat) (l1 : List (S53)) (r1 : Int) (r2 : Int) (r3 : List Int) (r4 : Bool) (w : World) (hr1 : Kd.C k53 w A1 l1.length l1) (hc1 : l1.length ≤ c1) (h : qOA.f k a0 l1 = some (r1, r2, r3, r4)) :
  Calls Tryz.prog 18 #[.string a0, .slice A1 l1.length c1] w fun e w' => ∃ v2_ : Value, e = .returned (.tuple #[.agg #[.int .i64 r1, .int .i64 r2, v2_], .bool r4]) ∧ Kd.R (Kd.int .u8) 5 w' w.heap.size (fun _ => True) v2_ r3 ∧ Below w.heap.size w w' := by
 have hu40 := Tryz.underlying40
 have HR1 := aM hr1
 have HC1 := aM hc1
 clear hr1 hc1
 have HB := aM (Below.refl w.heap.size w)
 have H : ((qW.f k a0).bind fun bt140 => (if bt140.2.2.2 = true then ((qu.f k bt140.1 bt140.2.1 bt140.2.2.1 l1).bind fun t147 => (some (bt140.1, bt140.2.1, bt140.2.2.1, t147))) else (some (bt140.1, bt140.2.1, bt140.2.2.1, false)))) = some (r1, r2, r3, r4) := h
 clear h
 replace H := bO H
 obtain ⟨⟨t140, t141, t142, t145⟩, A3, H⟩ := H
 dsimp only at H A3
 by_cases c4 : t145 = true
 ·subst c4
  replace H := iT H
  replace H := bO H
  obtain ⟨t147, A5, H⟩ := H
  simp only [Option.some.injEq, Prod.mk.injEq] at H
  obtain ⟨rfl, rfl, rfl, rfl⟩ := H
  go_enter Tryz.func18, Tryz.ntmps18
  try go_wp2_with (first | ((with_reducible refine qH (N := 4) rfl ?_); refine bE (N := 4) (cs := #[.int .i64 0, .int .i64 0, .slice none 0 0]) (t := 40) ?_; intro gb139 hg w6 hbox hb; have BK139 := aM (hbox); have GW139 := aM ((gg hg)); have GE139 := aM ((gg hg)); replace HB := aM (qB bl hb); clear hb hbox hg) | ((with_reducible refine qE (f := 41) rfl ?_); refine qm (some 10) rfl rfl Tryz.func41 (by kernel_rfl) rfl #[.string a0] rfl gA ?_; (with_reducible refine (qW.calls k a0 t140 t141 t142 true _ A3.out).mono ?_); rintro e w7 ⟨v143, rfl, ho0, hb⟩; refine ⟨_, rfl, ?_⟩; have HO144 := aM (Kd.qz ho0 (qJ bl)); replace BK139 := aM (bb BK139 hb); replace HB := aM (qB bl hb); (try clear hb); (try clear hb2); (try clear hk); (try clear hi); (try clear ho0)) | ((with_reducible refine qH (N := 6) rfl ?_); refine bE (N := 6) (cs := #[.int .i64 0, .int .i64 0, .slice none 0 0]) (t := 40) ?_; intro gb146 hg w8 hbox hb; have BK146 := aM (hbox); have GW146 := aM ((gg hg)); have GE146 := aM ((gg hg)); have NB139_146 := aM ((nl BK139 hg)); have NB146_139 := aM ((nr BK139 hg)); replace HO144 := aM (Kd.qc (rR HO144) hb); replace BK139 := aM (bb BK139 hb); replace HB := aM (qB bl hb); clear hb hbox hg; have hnb9 := NB146_139.out; have hnc9 := NB139_146.out; (refine cb3 BK146 ?_; intro _ _ _); (refine cz3 BK146 ?_; intro _ _ _); obtain ⟨Ao11, co11, eo11⟩ := Kd.qDA HO144.out; subst eo11))
  have n0_ : Aside0 (Kd.R (Kd.int .u8) 5 (((w8.setCell ⟨gb146, 0, none⟩ (.int .i64 t140)).setCell ⟨gb146, 1, none⟩ (.int .i64 t141)).setCell ⟨gb146, 2, none⟩ (.slice Ao11 t142.length co11)) w.heap.size (fun _ => True) (.slice Ao11 t142.length co11) t142) := ⟨by (with_reducible repeat (first | apply Kd.qQ | apply Kd.qR | apply Kd.qS)); exact Kd.qa (Kd.R_far (p := ⟨gb146, 2, none⟩) (Kd.R_far (p := ⟨gb146, 1, none⟩) (Kd.R_far (p := ⟨gb146, 0, none⟩) (Kd.qLB HO144.out BK146.out (by decide)) (fun _ hk => hk.2) (.int .i64 t140)) (fun _ hk => hk.2) (.int .i64 t141)) (fun _ hk => hk.2) (.slice Ao11 t142.length co11)) (fun _ hk => trivial)⟩
  have n1_ : Aside0 ((((w8.setCell ⟨gb146, 0, none⟩ (.int .i64 t140)).setCell ⟨gb146, 1, none⟩ (.int .i64 t141)).setCell ⟨gb146, 2, none⟩ (.slice Ao11 t142.length co11)).heap[gb139]? = some (.cells #[.int .i64 0, .int .i64 0, .slice none 0 0] 40 (0, 0))) := ⟨bF BK139 NB139_146⟩
  have n2_ : Aside0 ((((w8.setCell ⟨gb146, 0, none⟩ (.int .i64 t140)).setCell ⟨gb146, 1, none⟩ (.int .i64 t141)).setCell ⟨gb146, 2, none⟩ (.slice Ao11 t142.length co11)).heap[gb146]? = some (.cells #[.int .i64 t140, .int .i64 t141, .slice Ao11 t142.length co11] 40 (0, 0))) := ⟨by (with_reducible repeat (first | refine qG ?_ _ | refine qD ?_ | refine qF ?_ _)); exact bP3 BK146⟩
  have n3_ : Aside0 (Below w.heap.size w (((w8.setCell ⟨gb146, 0, none⟩ (.int .i64 t140)).setCell ⟨gb146, 1, none⟩ (.int .i64 t141)).setCell ⟨gb146, 2, none⟩ (.slice Ao11 t142.length co11))) := ⟨bl⟩
  (try clear HO144); (try clear BK139); (try clear BK146); (try clear HB)
  generalize (((w8.setCell ⟨gb146, 0, none⟩ (.int .i64 t140)).setCell ⟨gb146, 1, none⟩ (.int .i64 t141)).setCell ⟨gb146, 2, none⟩ (.slice Ao11 t142.length co11)) = w12 at n0_ n1_ n2_ n3_ ⊢
  have HO144 := n0_
  have BK139 := n1_
  have BK146 := n2_
  have HB := n3_
  clear n0_ n1_ n2_ n3_
  replace HO144 := aM (Kd.qS HO144.out)
  replace BK139 := aM (qD BK139.out)
  replace BK146 := aM (qD BK146.out)
  replace HB := aM (qi HB.out)
  refine qJB (n := 9) (S := fun w' => w'.cell? ⟨gb146, 0, none⟩ = some (.int .i64 t140) ∧ w'.cell? ⟨gb146, 1, none⟩ = some (.int .i64 t141) ∧ w'.cell? ⟨gb146, 2, none⟩ = some (.slice Ao11 t142.length co11)) (ds := []) #[false, false, false, false, false, false, false, false, false] (by kernel_rfl) rfl rfl ⟨bc BK146 0, bc BK146 1, bc BK146 2⟩ (fun hHeld => ?_); refine qNA qOA.tab2 qOA.bits2 (fun HT_ HW_ => ?_)
  generalize w12.drew = w13 at HO144 BK139 BK146 HB hHeld ⊢
  refine pS (i := 1) (N := some 14) #[false, true, false, false, false, false, false, false, false] HT_ ?_
  refine pS (i := 2) (N := some 15) #[false, true, true, false, false, false, false, false, false] HT_ ?_
  refine pS (i := 4) (N := some 17) #[false, true, true, false, true, false, false, false, false] HT_ ?_
  refine tS (i := 0) (N := some 13) #[true, true, true, false, true, false, false, false, false] HT_ HW_ hHeld ?_
  refine tS (i := 3) (N := some 16) #[true, true, true, true, true, false, false, false, false] HT_ HW_ hHeld ?_
  refine one_ (i := 5) (N := some 18) #[true, true, true, true, true, true, false, false, false] rfl rfl (qcA HT_.out (by kernel_rfl)) (by decide) (fun K hK => ?_)
  refine goes_ Tryz.func19 (by kernel_rfl) rfl #[.agg #[.int .i64 t140, .int .i64 t141, .slice Ao11 t142.length co11], .slice A1 l1.length c1] (by rfl) rfl rfl gA ?_
  with_reducible refine (qu.calls k t140 t141 _ _ t142 _ _ l1 t147 _ ?side1 ?side2 ?side3 ?side4 A5.out).mono ?_
  (case side1 => repeat (first | exact (Kd.qO HO144.out).2.2 | (with_reducible refine Kd.qL ?_ _) | (with_reducible refine Kd.qK ?_ _) | (with_reducible refine Kd.qX ?_)))
  (case side2 => exact (Kd.qO HO144.out).2.1)
  (case side3 => repeat (first | exact (Kd.qV HR1.out HB.out) | (with_reducible refine Kd.qL ?_ _) | (with_reducible refine Kd.qK ?_ _) | (with_reducible refine Kd.qX ?_)))
  (case side4 => exact HC1.out)
  rintro e w14 ⟨rfl, hb⟩
  refine ⟨_, rfl, ?_⟩
  replace HO144 := aM (Kd.qc (rR HO144) hb)
  replace BK139 := aM (bb BK139 hb)
  replace BK146 := aM (bb BK146 hb)
  replace HB := aM (qB bl hb); (try clear hb); (try clear hb2); (try clear hk); (try clear hi)
  refine hK.out _ _ ⟨bc BK146 0, bc BK146 1, bc BK146 2⟩ (fun hHeld => ?_)
  clear hK K
  refine norm_ (a' := ?_) ?_ ?_
  rotate_left
  ·show Act.put _ (some 18) _ = _
   simp only [Act.put, List.setIfInBounds_toArray, List.set_cons_zero, List.set_cons_succ, i64_w, i32_w]
   rfl
  refine pS (i := 6) (N := some 19) #[true, true, true, true, true, true, true, false, false] HT_ ?_
  refine one_ (i := 7) (N := none) #[true, true, true, true, true, true, true, true, false] rfl rfl (qcA HT_.out (by kernel_rfl)) (by decide) (fun K hK => ?_)
  have hs15 : w14.cell? ⟨gb139, 0, none⟩ = some (.int .i64 0) := bc BK139 0
  have hfs15 := qb BK139.out 0
  have hns15_1 := NB146_139.out
  have hms15_1 := NB139_146.out
  have hs16 : w14.cell? ⟨gb139, 1, none⟩ = some (.int .i64 0) := bc BK139 1
  have hfs16 := qb BK139.out 1
  have hns16_1 := NB146_139.out
  have hms16_1 := NB139_146.out
  have hs17 : w14.cell? ⟨gb139, 2, none⟩ = some (.slice none 0 0) := bc BK139 2
  have hfs17 := qb BK139.out 2
  have hns17_1 := NB146_139.out
  have hms17_1 := NB139_146.out
  refine skip_ (w1 := ?_) (by rfl) rfl ?_ ?_
  rotate_left
  ·go_simp
   rfl
  refine hK.out _ _ ⟨((qhA (p := ⟨gb139, _, none⟩) NB146_139.out _).trans (((qhA (p := ⟨gb139, _, none⟩) NB146_139.out _).trans (((qhA (p := ⟨gb139, _, none⟩) NB146_139.out _).trans (hHeld.1)))))), ((qhA (p := ⟨gb139, _, none⟩) NB146_139.out _).trans (((qhA (p := ⟨gb139, _, none⟩) NB146_139.out _).trans (((qhA (p := ⟨gb139, _, none⟩) NB146_139.out _).trans (hHeld.2.1)))))), ((qhA (p := ⟨gb139, _, none⟩) NB146_139.out _).trans (((qhA (p := ⟨gb139, _, none⟩) NB146_139.out _).trans (((qhA (p := ⟨gb139, _, none⟩) NB146_139.out _).trans (hHeld.2.2))))))⟩ (fun hHeld => ?_)
  clear hK K
  refine pS (i := 8) (N := some 5) #[true, true, true, true, true, true, true, true, true] HT_ ?_
  refine done_ (qvA HT_.out (by kernel_rfl)) ?_
  try go_wp2
  refine bodyPost_ret (qyA rfl _ _ gb139 40 #[.int .i64 t140, .int .i64 t141, .slice Ao11 t142.length co11] (0, 0) _ rfl (by (with_reducible repeat (first | refine qG ?_ _ | refine qD ?_ | refine qF ?_ _)); exact bP3 BK139) Tryz.underlying40 rfl (by kernel_rfl)) rfl ?_
  exact ⟨_, sR, by (with_reducible repeat (first | apply Kd.qQ | apply Kd.qR | apply Kd.qS)); exact Kd.qa (Kd.R_far (p := ⟨gb139, 2, none⟩) (Kd.R_far (p := ⟨gb139, 1, none⟩) (Kd.R_far (p := ⟨gb139, 0, none⟩) (Kd.qLB HO144.out BK139.out (by decide)) (fun _ hk => hk.2) (.int .i64 t140)) (fun _ hk => hk.2) (.int .i64 t141)) (fun _ hk => hk.2) (.slice Ao11 t142.length co11)) (fun _ hk => trivial), bl⟩
 ·replace c4 := Bool.eq_false_iff.mpr c4
  subst c4
  replace H := iF H
  simp only [Option.some.injEq, Prod.mk.injEq] at H
  obtain ⟨rfl, rfl, rfl, rfl⟩ := H
  go_enter Tryz.func18, Tryz.ntmps18
  try go_wp2_with (first | ((with_reducible refine qH (N := 4) rfl ?_); refine bE (N := 4) (cs := #[.int .i64 0, .int .i64 0, .slice none 0 0]) (t := 40) ?_; intro gb139 hg w18 hbox hb; have BK139 := aM (hbox); have GW139 := aM ((gg hg)); have GE139 := aM ((gg hg)); replace HB := aM (qB bl hb); clear hb hbox hg) | ((with_reducible refine qE (f := 41) rfl ?_); refine qm (some 10) rfl rfl Tryz.func41 (by kernel_rfl) rfl #[.string a0] rfl gA ?_; (with_reducible refine (qW.calls k a0 t140 t141 t142 false _ A3.out).mono ?_); rintro e w19 ⟨v143, rfl, ho0, hb⟩; refine ⟨_, rfl, ?_⟩; have HO144 := aM (Kd.qz ho0 (qJ bl)); replace BK139 := aM (bb BK139 hb); replace HB := aM (qB bl hb); (try clear hb); (try clear hb2); (try clear hk); (try clear hi); (try clear ho0)) | ((with_reducible refine qH (N := 6) rfl ?_); refine bE (N := 6) (cs := #[.int .i64 0, .int .i64 0, .slice none 0 0]) (t := 40) ?_; intro gb146 hg w20 hbox hb; have BK146 := aM (hbox); have GW146 := aM ((gg hg)); have GE146 := aM ((gg hg)); have NB139_146 := aM ((nl BK139 hg)); have NB146_139 := aM ((nr BK139 hg)); replace HO144 := aM (Kd.qc (rR HO144) hb); replace BK139 := aM (bb BK139 hb); replace HB := aM (qB bl hb); clear hb hbox hg; have hnb21 := NB146_139.out; have hnc21 := NB139_146.out; (refine cb3 BK146 ?_; intro _ _ _); (refine cz3 BK146 ?_; intro _ _ _); obtain ⟨Ao23, co23, eo23⟩ := Kd.qDA HO144.out; subst eo23))
  have n0_ : Aside0 (Kd.R (Kd.int .u8) 5 (((w20.setCell ⟨gb146, 0, none⟩ (.int .i64 t140)).setCell ⟨gb146, 1, none⟩ (.int .i64 t141)).setCell ⟨gb146, 2, none⟩ (.slice Ao23 t142.length co23)) w.heap.size (fun _ => True) (.slice Ao23 t142.length co23) t142) := ⟨by (with_reducible repeat (first | apply Kd.qQ | apply Kd.qR | apply Kd.qS)); exact Kd.qa (Kd.R_far (p := ⟨gb146, 2, none⟩) (Kd.R_far (p := ⟨gb146, 1, none⟩) (Kd.R_far (p := ⟨gb146, 0, none⟩) (Kd.qLB HO144.out BK146.out (by decide)) (fun _ hk => hk.2) (.int .i64 t140)) (fun _ hk => hk.2) (.int .i64 t141)) (fun _ hk => hk.2) (.slice Ao23 t142.length co23)) (fun _ hk => trivial)⟩
  have n1_ : Aside0 ((((w20.setCell ⟨gb146, 0, none⟩ (.int .i64 t140)).setCell ⟨gb146, 1, none⟩ (.int .i64 t141)).setCell ⟨gb146, 2, none⟩ (.slice Ao23 t142.length co23)).heap[gb139]? = some (.cells #[.int .i64 0, .int .i64 0, .slice none 0 0] 40 (0, 0))) := ⟨bF BK139 NB139_146⟩
  have n2_ : Aside0 ((((w20.setCell ⟨gb146, 0, none⟩ (.int .i64 t140)).setCell ⟨gb146, 1, none⟩ (.int .i64 t141)).setCell ⟨gb146, 2, none⟩ (.slice Ao23 t142.length co23)).heap[gb146]? = some (.cells #[.int .i64 t140, .int .i64 t141, .slice Ao23 t142.length co23] 40 (0, 0))) := ⟨by (with_reducible repeat (first | refine qG ?_ _ | refine qD ?_ | refine qF ?_ _)); exact bP3 BK146⟩
  have n3_ : Aside0 (Below w.heap.size w (((w20.setCell ⟨gb146, 0, none⟩ (.int .i64 t140)).setCell ⟨gb146, 1, none⟩ (.int .i64 t141)).setCell ⟨gb146, 2, none⟩ (.slice Ao23 t142.length co23))) := ⟨bl⟩
  (try clear HO144); (try clear BK139); (try clear BK146); (try clear HB)
  generalize (((w20.setCell ⟨gb146, 0, none⟩ (.int .i64 t140)).setCell ⟨gb146, 1, none⟩ (.int .i64 t141)).setCell ⟨gb146, 2, none⟩ (.slice Ao23 t142.length co23)) = w24 at n0_ n1_ n2_ n3_ ⊢
  have HO144 := n0_
  have BK139 := n1_
  have BK146 := n2_
  have HB := n3_
  clear n0_ n1_ n2_ n3_
  replace HO144 := aM (Kd.qS HO144.out)
  replace BK139 := aM (qD BK139.out)
  replace BK146 := aM (qD BK146.out)
  replace HB := aM (qi HB.out)
  refine qJB (n := 9) (S := fun w' => w'.cell? ⟨gb146, 0, none⟩ = some (.int .i64 t140) ∧ w'.cell? ⟨gb146, 1, none⟩ = some (.int .i64 t141) ∧ w'.cell? ⟨gb146, 2, none⟩ = some (.slice Ao23 t142.length co23)) (ds := []) #[false, false, false, false, false, false, false, false, false] (by kernel_rfl) rfl rfl ⟨bc BK146 0, bc BK146 1, bc BK146 2⟩ (fun hHeld => ?_); refine qNA qOA.tab2 qOA.bits2 (fun HT_ HW_ => ?_)
  generalize w24.drew = w25 at HO144 BK139 BK146 HB hHeld ⊢
  refine pS (i := 1) (N := some 14) #[false, true, false, false, false, false, false, false, false] HT_ ?_
  refine pS (i := 2) (N := some 15) #[false, true, true, false, false, false, false, false, false] HT_ ?_
  refine pure_ (i := 3) (N := some 16) (v := undef) (a' := ?_) #[false, true, true, true, false, false, false, false, false] rfl rfl (qNB HT_.out (by kernel_rfl)) (fun _ _ _ h => h) (Or.inr ⟨by rfl, rfl⟩) ?_ ?_
  rotate_left
  ·simp only [Act.put, List.setIfInBounds_toArray, List.set_cons_zero, List.set_cons_succ, i64_w, i32_w]
   rfl
  refine pure_ (i := 4) (N := some 17) (v := undef) (a' := ?_) #[false, true, true, true, true, false, false, false, false] rfl rfl (qNB HT_.out (by kernel_rfl)) (fun _ _ _ h => h) (Or.inr ⟨by rfl, rfl⟩) ?_ ?_
  rotate_left
  ·simp only [Act.put, List.setIfInBounds_toArray, List.set_cons_zero, List.set_cons_succ, i64_w, i32_w]
   rfl
  refine pure_ (i := 5) (N := some 18) (v := undef) (a' := ?_) #[false, true, true, true, true, true, false, false, false] rfl rfl (qNB HT_.out (by kernel_rfl)) (fun _ _ _ h => h) (Or.inr ⟨by rfl, rfl⟩) ?_ ?_
  rotate_left
  ·simp only [Act.put, List.setIfInBounds_toArray, List.set_cons_zero, List.set_cons_succ, i64_w, i32_w]
   rfl
  refine pS (i := 6) (N := some 19) #[false, true, true, true, true, true, true, false, false] HT_ ?_
  refine tS (i := 0) (N := some 13) #[true, true, true, true, true, true, true, false, false] HT_ HW_ hHeld ?_
  refine one_ (i := 7) (N := none) #[true, true, true, true, true, true, true, true, false] rfl rfl (qcA HT_.out (by kernel_rfl)) (by decide) (fun K hK => ?_)
  have hs26 : w25.cell? ⟨gb139, 0, none⟩ = some (.int .i64 0) := bc BK139 0
  have hfs26 := qb BK139.out 0
  have hns26_1 := NB146_139.out
  have hms26_1 := NB139_146.out
  have hs27 : w25.cell? ⟨gb139, 1, none⟩ = some (.int .i64 0) := bc BK139 1
  have hfs27 := qb BK139.out 1
  have hns27_1 := NB146_139.out
  have hms27_1 := NB139_146.out
  have hs28 : w25.cell? ⟨gb139, 2, none⟩ = some (.slice none 0 0) := bc BK139 2
  have hfs28 := qb BK139.out 2
  have hns28_1 := NB146_139.out
  have hms28_1 := NB139_146.out
  refine skip_ (w1 := ?_) (by rfl) rfl ?_ ?_
  rotate_left
  ·go_simp
   rfl
  refine hK.out _ _ ⟨((qhA (p := ⟨gb139, _, none⟩) NB146_139.out _).trans (((qhA (p := ⟨gb139, _, none⟩) NB146_139.out _).trans (((qhA (p := ⟨gb139, _, none⟩) NB146_139.out _).trans (hHeld.1)))))), ((qhA (p := ⟨gb139, _, none⟩) NB146_139.out _).trans (((qhA (p := ⟨gb139, _, none⟩) NB146_139.out _).trans (((qhA (p := ⟨gb139, _, none⟩) NB146_139.out _).trans (hHeld.2.1)))))), ((qhA (p := ⟨gb139, _, none⟩) NB146_139.out _).trans (((qhA (p := ⟨gb139, _, none⟩) NB146_139.out _).trans (((qhA (p := ⟨gb139, _, none⟩) NB146_139.out _).trans (hHeld.2.2))))))⟩ (fun hHeld => ?_)
  clear hK K
  refine pS (i := 8) (N := some 5) #[true, true, true, true, true, true, true, true, true] HT_ ?_
  refine done_ (qvA HT_.out (by kernel_rfl)) ?_
  try go_wp2
  refine bodyPost_ret (qyA rfl _ _ gb139 40 #[.int .i64 t140, .int .i64 t141, .slice Ao23 t142.length co23] (0, 0) _ rfl (by (with_reducible repeat (first | refine qG ?_ _ | refine qD ?_ | refine qF ?_ _)); exact bP3 BK139) Tryz.underlying40 rfl (by kernel_rfl)) rfl ?_
  exact ⟨_, sR, by (with_reducible repeat (first | apply Kd.qQ | apply Kd.qR | apply Kd.qS)); exact Kd.qa (Kd.R_far (p := ⟨gb139, 2, none⟩) (Kd.R_far (p := ⟨gb139, 1, none⟩) (Kd.R_far (p := ⟨gb139, 0, none⟩) (Kd.qLB HO144.out BK139.out (by decide)) (fun _ hk => hk.2) (.int .i64 t140)) (fun _ hk => hk.2) (.int .i64 t141)) (fun _ hk => hk.2) (.slice Ao23 t142.length co23)) (fun _ hk => trivial), bl⟩
end Go.Proofs.YthhiiceligjleaaGreatDoor.P
namespace Go.Proofs.YthhiiceligjleaaGreatDoor
open Go.RowKit Go.Proofs.YthhiiceligjleaaGreatDoor.P Go.Proofs.YthhiiceligjleaaGreatDoorW.PrintWords Go.Proofs.YthhiiceligjleaaGreatDoorW.PrintLast
set_option linter.unusedVariables false
set_option linter.unusedSimpArgs false
def PredOn {α : Type} (g : Nat) (lb : Array Value) (enc : α → Value) (p : α → Bool) (l : List α) (w : World) : Prop :=
 ∀ (W : World) (x : α), x ∈ l → Below w.heap.size w W → Calls Tryz.prog g (#[enc x] ++ lb) W fun e w' => e = .returned (.bool (p x)) ∧ Below W.heap.size W w'
theorem PredOn.later {α : Type} {g : Nat} {lb : Array Value} {enc : α → Value} {p : α → Bool} {l : List α} {w w1 : World} (h : PredOn g lb enc p l w) (hb : Below w.heap.size w w1) : PredOn g lb enc p l w1 :=
 fun W x hx hW => h W x hx (qEA hb hb.size hW)
def idxP {α : Type} (p : α → Bool) (l : List α) : Int := match l.findIdx? p with | some i => (i : Int) | none => -1
theorem qXE {α : Type} (p : α → Bool) (l : List α) (k : Nat) (hk : k < l.length) (h0 : ∀ j, (h : j < k) → p (l[j]'(by omega)) = false) (h1 : p l[k] = true) : idxP p l = (k : Int) := by
 unfold idxP
 have : l.findIdx? p = some k := by
  rw [List.findIdx?_eq_some_iff_getElem]
  exact ⟨hk, h1, fun j hj => by rw [h0 j hj]; decide⟩
 rw [this]
theorem qsD {α : Type} (p : α → Bool) (l : List α) (h0 : ∀ j, (h : j < l.length) → p l[j] = false) : idxP p l = -1 := by
 unfold idxP
 have : l.findIdx? p = none := by
  rw [List.findIdx?_eq_none_iff]
  intro x hx
  obtain ⟨j, hj, rfl⟩ := List.getElem_of_mem hx
  exact h0 j hj
 rw [this]
theorem idxP_any {α : Type} (p : α → Bool) (l : List α) : decide (idxP p l ≥ 0) = l.any p := by
 unfold idxP
 cases h : l.findIdx? p with
 | none =>
  rw [List.findIdx?_eq_none_iff] at h
  have : l.any p = false := by rw [List.any_eq_false]; intro x hx; simp [h x hx]
  rw [this]; decide
 | some i =>
  rw [List.findIdx?_eq_some_iff_getElem] at h
  obtain ⟨hi, hp, _⟩ := h
  have : l.any p = true := List.any_eq_true.2 ⟨l[i], List.getElem_mem hi, hp⟩
  rw [this]
  exact decide_eq_true (Int.natCast_nonneg i)
def PredII (g : Nat) (lb : Array Value) (p : List Int → Bool) (l : List (List Int)) (w : World) : Prop :=
 ∀ (W : World) (x : List Int) (A : Option Addr) (c : Nat), x ∈ l → Below w.heap.size w W → x.length ≤ c → Kd.C (Kd.int .i64) W A x.length x → Calls Tryz.prog g (#[.slice A x.length c] ++ lb) W fun e w' => e = .returned (.bool (p x)) ∧ Below W.heap.size W w'
theorem PredII.later {g : Nat} {lb : Array Value} {p : List Int → Bool} {l : List (List Int)} {w w1 : World} (h : PredII g lb p l w) (hb : Below w.heap.size w w1) : PredII g lb p l w1 :=
 fun W x A c hx hW => h W x A c hx (qEA hb hb.size hW)
theorem atII {w : World} {A : Option Addr} {n : Nat} {L : List (List Int)} (h : Kd.C (Kd.slice 3 (Kd.int .i64)) w A n L) (i : Nat) (hi : i < L.length) :
  ∃ ad A1 c, A = some ad ∧ w.cell? (ad.add i) = some (.slice A1 L[i].length c) ∧ L[i].length ≤ c ∧ Kd.C (Kd.int .i64) w A1 L[i].length L[i] := by
 obtain ⟨ad, e, hc⟩ := h.2.2 (by have := h.1; omega)
 obtain ⟨c, hcl, ⟨A1, cc, rfl, hl, hC⟩, hcell⟩ := hc i _ (List.getElem?_eq_getElem hi)
 have h1 := hcell 0 _ rfl
 rw [show (Kd.slice 3 (Kd.int .i64)).sz = 1 from rfl, Nat.mul_one, Nat.add_zero] at h1
 exact ⟨ad, A1, cc, e, h1, hl, hC⟩
set_option maxHeartbeats 1000000 in
theorem indexFunc_II (p : List Int → Bool) (g : Nat) (lb : Array Value) (eg : ∀ args w, (callFunc g args).run Tryz.prog w = .ok (.enter g args) w) (A0 : Option Addr) (c0 : Nat) (l : List (List Int)) (w : World)
  (hr : Kd.C (Kd.slice 3 (Kd.int .i64)) w A0 l.length l) (hp : PredII g lb p l w) :
  Calls Tryz.prog 58 #[.slice A0 l.length c0, .func (.func g) #[] lb] w fun e w' => e = .returned (.int .i64 (idxP p l)) ∧ Below w.heap.size w w' := by
 have HR := Lib.hid hr
 have hn : l.length ≤ 9223372036854775807 := hr.2.1
 clear hr
 go_enter Tryz.func58, Tryz.ntmps58
 go_wp2
 go_loopg [5, 8] l.length (fun gg _ s8 wr => ∃ kk : Nat, kk ≤ l.length ∧ l.length - kk ≤ gg ∧ s8 = .int .i64 kk ∧ Aside0 (Below w.heap.size w wr) ∧ Aside0 (∀ j, (h : j < l.length) → j < kk → p l[j] = false))
 case atStart => exact ⟨0, Nat.zero_le _, by omega, rfl, ⟨Below.refl _ w⟩, ⟨fun j _ hj => absurd hj (Nat.not_lt_zero _)⟩⟩
 case round =>
  obtain ⟨kk, hkk, hg, rfl, BW, A⟩ := hrel
  rename World => wr
  by_cases hlt : kk < l.length
  ·have hltz : (kk : Int) < (l.length : Int) := by omega
   obtain ⟨ad, A1, c1, e, hcell, hle, hC⟩ := atII (Kd.qV HR.out BW.out) kk hlt
   cases e
   have hcall := hp wr l[kk] A1 c1 (List.getElem_mem hlt) BW.out hle hC
   clear hle hC
   generalize hy : l[kk] = y at hcell hcall
   have HY := Lib.hid hy
   clear hy
   cases hq : p y with
   | true =>
    rw [hq] at hcall
    have HQ := Lib.hid hq
    have HC := Lib.hid hcall
    clear hq hp hcall
    go_wp2
    refine HC.out.mono ?_
    rintro e w' ⟨rfl, hb'⟩
    clear HC hcell eg
    go_wp2
    go_ret
    exact ⟨qTD (qXE p l kk hlt (fun j hj => A.out j _ hj) (by rw [HY.out]; exact HQ.out)).symm, qEA BW.out BW.out.size hb'⟩
   | false =>
    rw [hq] at hcall
    have HQ := Lib.hid hq
    have HC := Lib.hid hcall
    clear hq hp hcall
    go_wp2
    refine HC.out.mono ?_
    rintro e w' ⟨rfl, hb'⟩
    clear HC hcell eg
    go_wp2
    go_roundg (l.length - (kk + 1))
    case measure => omega
    case rel =>
     refine ⟨kk + 1, by omega, by omega, by go_num, ⟨qEA BW.out BW.out.size hb'⟩, ⟨fun j h hj => ?_⟩⟩
     by_cases e : j = kk
     case neg => exact A.out j h (by omega)
     subst e
     rw [HY.out]; exact HQ.out
  ·have hltz : ¬ (kk : Int) < (l.length : Int) := by omega
   have hke : kk = l.length := by omega
   subst hke
   clear hp
   go_wp2
   go_ret
   exact ⟨qTD (qsD p l (fun j h => A.out j h h)).symm, BW.out⟩
theorem containsFunc_II (p : List Int → Bool) (g : Nat) (lb : Array Value) (eg : ∀ args w, (callFunc g args).run Tryz.prog w = .ok (.enter g args) w) (A0 : Option Addr) (c0 : Nat) (l : List (List Int)) (w : World)
  (hr : Kd.C (Kd.slice 3 (Kd.int .i64)) w A0 l.length l) (hp : PredII g lb p l w) :
  Calls Tryz.prog 35 #[.slice A0 l.length c0, .func (.func g) #[] lb] w fun e w' => e = .returned (.bool (l.any p)) ∧ Below w.heap.size w w' := by
 have hcall := fun c => indexFunc_II p g lb eg A0 c l w hr hp
 have HA := Lib.hid (idxP_any p l)
 clear hr hp
 go_enter Tryz.func35, Tryz.ntmps35
 go_wp2_with (go_at_call 58; refine (hcall _).mono ?_; rintro e w' ⟨rfl, hb'⟩)
 go_ret
 exact ⟨ret_bool HA.out, hb'⟩
def PredSS (g : Nat) (lb : Array Value) (p : List S53 → Bool) (l : List (List S53)) (w : World) : Prop :=
 ∀ (W : World) (x : List S53) (A : Option Addr) (c : Nat), x ∈ l → Below w.heap.size w W → x.length ≤ c → Kd.C k53 W A x.length x → Calls Tryz.prog g (#[.slice A x.length c] ++ lb) W fun e w' => e = .returned (.bool (p x)) ∧ Below W.heap.size W w'
theorem PredSS.later {g : Nat} {lb : Array Value} {p : List S53 → Bool} {l : List (List S53)} {w w1 : World} (h : PredSS g lb p l w) (hb : Below w.heap.size w w1) : PredSS g lb p l w1 :=
 fun W x A c hx hW => h W x A c hx (qEA hb hb.size hW)
theorem atSS {w : World} {A : Option Addr} {n : Nat} {L : List (List S53)} (h : Kd.C (Kd.slice 53 k53) w A n L) (i : Nat) (hi : i < L.length) :
  ∃ ad A1 c, A = some ad ∧ w.cell? (ad.add i) = some (.slice A1 L[i].length c) ∧ L[i].length ≤ c ∧ Kd.C k53 w A1 L[i].length L[i] := by
 obtain ⟨ad, e, hc⟩ := h.2.2 (by have := h.1; omega)
 obtain ⟨c, hcl, ⟨A1, cc, rfl, hl, hC⟩, hcell⟩ := hc i _ (List.getElem?_eq_getElem hi)
 have h1 := hcell 0 _ rfl
 rw [show (Kd.slice 53 k53).sz = 1 from rfl, Nat.mul_one, Nat.add_zero] at h1
 exact ⟨ad, A1, cc, e, h1, hl, hC⟩
set_option maxHeartbeats 1000000 in
theorem indexFunc_SS (p : List S53 → Bool) (g : Nat) (lb : Array Value) (eg : ∀ args w, (callFunc g args).run Tryz.prog w = .ok (.enter g args) w) (A0 : Option Addr) (c0 : Nat) (l : List (List S53)) (w : World)
  (hr : Kd.C (Kd.slice 53 k53) w A0 l.length l) (hp : PredSS g lb p l w) :
  Calls Tryz.prog 55 #[.slice A0 l.length c0, .func (.func g) #[] lb] w fun e w' => e = .returned (.int .i64 (idxP p l)) ∧ Below w.heap.size w w' := by
 have HR := Lib.hid hr
 have hn : l.length ≤ 9223372036854775807 := hr.2.1
 clear hr
 go_enter Tryz.func55, Tryz.ntmps55
 go_wp2
 go_loopg [5, 8] l.length (fun gg _ s8 wr => ∃ kk : Nat, kk ≤ l.length ∧ l.length - kk ≤ gg ∧ s8 = .int .i64 kk ∧ Aside0 (Below w.heap.size w wr) ∧ Aside0 (∀ j, (h : j < l.length) → j < kk → p l[j] = false))
 case atStart => exact ⟨0, Nat.zero_le _, by omega, rfl, ⟨Below.refl _ w⟩, ⟨fun j _ hj => absurd hj (Nat.not_lt_zero _)⟩⟩
 case round =>
  obtain ⟨kk, hkk, hg, rfl, BW, A⟩ := hrel
  rename World => wr
  by_cases hlt : kk < l.length
  ·have hltz : (kk : Int) < (l.length : Int) := by omega
   obtain ⟨ad, A1, c1, e, hcell, hle, hC⟩ := atSS (Kd.qV HR.out BW.out) kk hlt
   cases e
   have hcall := hp wr l[kk] A1 c1 (List.getElem_mem hlt) BW.out hle hC
   clear hle hC
   generalize hy : l[kk] = y at hcell hcall
   have HY := Lib.hid hy
   clear hy
   cases hq : p y with
   | true =>
    rw [hq] at hcall
    have HQ := Lib.hid hq
    have HC := Lib.hid hcall
    clear hq hp hcall
    go_wp2
    refine HC.out.mono ?_
    rintro e w' ⟨rfl, hb'⟩
    clear HC hcell eg
    go_wp2
    go_ret
    exact ⟨qTD (qXE p l kk hlt (fun j hj => A.out j _ hj) (by rw [HY.out]; exact HQ.out)).symm, qEA BW.out BW.out.size hb'⟩
   | false =>
    rw [hq] at hcall
    have HQ := Lib.hid hq
    have HC := Lib.hid hcall
    clear hq hp hcall
    go_wp2
    refine HC.out.mono ?_
    rintro e w' ⟨rfl, hb'⟩
    clear HC hcell eg
    go_wp2
    go_roundg (l.length - (kk + 1))
    case measure => omega
    case rel =>
     refine ⟨kk + 1, by omega, by omega, by go_num, ⟨qEA BW.out BW.out.size hb'⟩, ⟨fun j h hj => ?_⟩⟩
     by_cases e : j = kk
     case neg => exact A.out j h (by omega)
     subst e
     rw [HY.out]; exact HQ.out
  ·have hltz : ¬ (kk : Int) < (l.length : Int) := by omega
   have hke : kk = l.length := by omega
   subst hke
   clear hp
   go_wp2
   go_ret
   exact ⟨qTD (qsD p l (fun j h => A.out j h h)).symm, BW.out⟩
def encState (x : S53) : Value := .agg #[.int .i64 x.f0, .int .i64 x.f1, .int .i64 x.f2.f0, .int .i64 x.f2.f1, .int .i64 x.f2.f2, .int .i64 x.f2.f3, .int .i64 x.f2.f4, .int .i64 x.f2.f5]
theorem qCD (l : List S53) (j : Nat) (h : j < l.length) : qA l (j : Int) = l[j] := by
 unfold qA
 rw [Int.toNat_natCast, List.getD_eq_getElem?_getD, List.getElem?_eq_getElem h]; rfl
set_option maxHeartbeats 1000000 in
theorem indexFunc_State (p : S53 → Bool) (g : Nat) (lb : Array Value) (eg : ∀ args w, (callFunc g args).run Tryz.prog w = .ok (.enter g args) w) (A0 : Option Addr) (c0 : Nat) (l : List S53) (w : World)
  (hr : Kd.C k53 w A0 l.length l) (hp : PredOn g lb encState p l w) :
  Calls Tryz.prog 86 #[.slice A0 l.length c0, .func (.func g) #[] lb] w fun e w' => e = .returned (.int .i64 (idxP p l)) ∧ Below w.heap.size w w' := by
 have HR := Lib.hid hr
 have hn : l.length ≤ 9223372036854775807 := hr.2.1
 clear hr
 have hu := Tryz.underlying53
 go_enter Tryz.func86, Tryz.ntmps86
 go_wp2
 go_loopg [5, 8] l.length (fun gg _ s8 wr => ∃ kk : Nat, kk ≤ l.length ∧ l.length - kk ≤ gg ∧ s8 = .int .i64 kk ∧ Aside0 (Below w.heap.size w wr) ∧ Aside0 (∀ j, (h : j < l.length) → j < kk → p l[j] = false))
 case atStart => exact ⟨0, Nat.zero_le _, by omega, rfl, ⟨Below.refl _ w⟩, ⟨fun j _ hj => absurd hj (Nat.not_lt_zero _)⟩⟩
 case round =>
  obtain ⟨kk, hkk, hg, rfl, BW, A⟩ := hrel
  rename World => wr
  by_cases hlt : kk < l.length
  ·have hltz : (kk : Int) < (l.length : Int) := by omega
   obtain ⟨ad, e, h0, h1, h2, h3, h4, h5, h6, h7⟩ := qYB (Kd.qV HR.out BW.out) (kk : Int) (by omega) hltz
   cases e
   simp only [qCD l kk hlt, Int.toNat_natCast] at h0 h1 h2 h3 h4 h5 h6 h7
   have hcall := hp wr l[kk] (List.getElem_mem hlt) BW.out
   have B := Lib.hid (rfl : l[kk] = l[kk])
   generalize hy : l[kk] = y at h0 h1 h2 h3 h4 h5 h6 h7 hcall
   have HY := Lib.hid hy
   clear hy B
   cases hq : p y with
   | true =>
    rw [hq] at hcall
    have HQ := Lib.hid hq
    have HC := Lib.hid hcall
    clear hq hp hcall
    go_wp2
    refine HC.out.mono ?_
    rintro e w' ⟨rfl, hb'⟩
    clear HC h0 h1 h2 h3 h4 h5 h6 h7 eg
    go_wp2
    go_ret
    exact ⟨qTD (qXE p l kk hlt (fun j hj => A.out j _ hj) (by rw [HY.out]; exact HQ.out)).symm, qEA BW.out BW.out.size hb'⟩
   | false =>
    rw [hq] at hcall
    have HQ := Lib.hid hq
    have HC := Lib.hid hcall
    clear hq hp hcall
    go_wp2
    refine HC.out.mono ?_
    rintro e w' ⟨rfl, hb'⟩
    clear HC h0 h1 h2 h3 h4 h5 h6 h7 eg
    go_wp2
    go_roundg (l.length - (kk + 1))
    case measure => omega
    case rel =>
     refine ⟨kk + 1, by omega, by omega, by go_num, ⟨qEA BW.out BW.out.size hb'⟩, ⟨fun j h hj => ?_⟩⟩
     by_cases e : j = kk
     case neg => exact A.out j h (by omega)
     subst e
     rw [HY.out]; exact HQ.out
  ·have hltz : ¬ (kk : Int) < (l.length : Int) := by omega
   have hke : kk = l.length := by omega
   subst hke
   clear hp
   go_wp2
   go_ret
   exact ⟨qTD (qsD p l (fun j h => A.out j h h)).symm, BW.out⟩
theorem containsFunc_State (p : S53 → Bool) (g : Nat) (lb : Array Value) (eg : ∀ args w, (callFunc g args).run Tryz.prog w = .ok (.enter g args) w) (A0 : Option Addr) (c0 : Nat) (l : List S53) (w : World)
  (hr : Kd.C k53 w A0 l.length l) (hp : PredOn g lb encState p l w) :
  Calls Tryz.prog 70 #[.slice A0 l.length c0, .func (.func g) #[] lb] w fun e w' => e = .returned (.bool (l.any p)) ∧ Below w.heap.size w w' := by
 have hcall := fun c => indexFunc_State p g lb eg A0 c l w hr hp
 have HA := Lib.hid (idxP_any p l)
 clear hr hp
 go_enter Tryz.func70, Tryz.ntmps70
 go_wp2_with (go_at_call 86; refine (hcall _).mono ?_; rintro e w' ⟨rfl, hb'⟩)
 go_ret
 exact ⟨ret_bool HA.out, hb'⟩
end Go.Proofs.YthhiiceligjleaaGreatDoor
namespace Go.Proofs.YthhiiceligjleaaGreatDoor.P
open Go.RowKit Go.Proofs.YthhiiceligjleaaGreatDoorW.PrintWords Go.Proofs.YthhiiceligjleaaGreatDoorW.PrintLast Go.Proofs.YthhiiceligjleaaGreatDoorW.PrintMore
attribute [local go_sem] qh qf qr qq qZ qY qg qe
set_option linter.unusedVariables false
set_option linter.unusedSimpArgs false
def qbA.f (a0_0 : Int) (a0_1 : Int) (a0_2 : Int) (a0_3 : Int) (a0_4 : Int) (a0_5 : Int) (a0_6 : Int) (a0_7 : Int) (a1 : Int) (a2 : Int) : Option (Bool) := if a0_0 = a1 then (some (a0_1 == a2)) else (some false)
set_option maxHeartbeats 8000000 in
set_option maxRecDepth 100000 in
theorem qbA.calls (a0_0 : Int) (a0_1 : Int) (a0_2 : Int) (a0_3 : Int) (a0_4 : Int) (a0_5 : Int) (a0_6 : Int) (a0_7 : Int) (a1 : Int) (a2 : Int) (r : Bool) (w : World) (h : qbA.f a0_0 a0_1 a0_2 a0_3 a0_4 a0_5 a0_6 a0_7 a1 a2 = some r) :
  Calls Tryz.prog 39 #[.agg #[.int .i64 a0_0, .int .i64 a0_1, .int .i64 a0_2, .int .i64 a0_3, .int .i64 a0_4, .int .i64 a0_5, .int .i64 a0_6, .int .i64 a0_7], .int .i64 a1, .int .i64 a2] w fun e w' => e = .returned (.bool r) ∧ Below w.heap.size w w' := by
 have hu53 := Tryz.underlying53
 have HB := aM (Below.refl w.heap.size w)
 have H : (if a0_0 = a1 then (some (a0_1 == a2)) else (some false)) = some r := h
 clear h
 by_cases c4 : a0_0 = a1
 ·rw [if_pos c4] at H
  have c4b0 := beq_iff_eq.mpr c4
  have c4b1 := bne_eq_false_iff_eq.mpr c4
  clear c4
  obtain rfl := Option.some.inj H
  go_enter Tryz.func39, Tryz.ntmps39
  go_wp2_with (first | ((with_reducible refine qH (N := 3) rfl ?_); refine bE (N := 3) (cs := #[.int .i64 a0_0, .int .i64 a0_1, .int .i64 a0_2, .int .i64 a0_3, .int .i64 a0_4, .int .i64 a0_5, .int .i64 a0_6, .int .i64 a0_7]) (t := 53) ?_; intro gb630 hg w5 hbox hb; have BK630 := aM (hbox); have GW630 := aM ((gg hg)); have GE630 := aM ((gg hg)); replace HB := aM (qB bl hb); clear hb hbox hg; (refine cb8 BK630 ?_; intro _ _ _ _ _ _ _ _); (refine cz8 BK630 ?_; intro _ _ _ _ _ _ _ _)))
  go_ret
  exact ⟨sR, bl⟩
 ·rw [if_neg c4] at H
  have c4b0 := beq_eq_false_iff_ne.mpr c4
  have c4b1 := bne_iff_ne.mpr c4
  obtain rfl := Option.some.inj H
  go_enter Tryz.func39, Tryz.ntmps39
  go_wp2_with (first | ((with_reducible refine qH (N := 3) rfl ?_); refine bE (N := 3) (cs := #[.int .i64 a0_0, .int .i64 a0_1, .int .i64 a0_2, .int .i64 a0_3, .int .i64 a0_4, .int .i64 a0_5, .int .i64 a0_6, .int .i64 a0_7]) (t := 53) ?_; intro gb630 hg w7 hbox hb; have BK630 := aM (hbox); have GW630 := aM ((gg hg)); have GE630 := aM ((gg hg)); replace HB := aM (qB bl hb); clear hb hbox hg; (refine cb8 BK630 ?_; intro _ _ _ _ _ _ _ _); (refine cz8 BK630 ?_; intro _ _ _ _ _ _ _ _)))
  go_ret
  exact ⟨sR, bl⟩
end Go.Proofs.YthhiiceligjleaaGreatDoor.P
namespace Go.Proofs.YthhiiceligjleaaGreatDoor
open Go.RowKit Go.Proofs.YthhiiceligjleaaGreatDoor.P Go.Proofs.YthhiiceligjleaaGreatDoorW.PrintWords Go.Proofs.YthhiiceligjleaaGreatDoorW.PrintLast
set_option linter.unusedVariables false
set_option linter.unusedSimpArgs false
def atAll : List S53 → List (List Int) → Bool
 | s :: r, c :: d => (decide (s.f0 = rd c 0) && decide (s.f1 = rd c 1)) && atAll r d
 | _, _ => true
theorem isAt_eq (s : S53) (x y : Int) : qbA.f s.f0 s.f1 s.f2.f0 s.f2.f1 s.f2.f2 s.f2.f3 s.f2.f4 s.f2.f5 x y = some (decide (s.f0 = x) && decide (s.f1 = y)) := by
 unfold qbA.f
 by_cases h : s.f0 = x
 case pos => rw [if_pos h, decide_eq_true h, Bool.true_and]; congr 1
 rw [if_neg h, decide_eq_false h, Bool.false_and]
theorem atAll_step (l : List S53) (cs : List (List Int)) (k : Nat) (h : k < l.length) (h2 : k < cs.length) : atAll (l.drop k) (cs.drop k) = ((decide (l[k].f0 = rd cs[k] 0) && decide (l[k].f1 = rd cs[k] 1)) && atAll (l.drop (k + 1)) (cs.drop (k + 1))) := by
 rw [List.drop_eq_getElem_cons h, List.drop_eq_getElem_cons h2, atAll]
set_option maxHeartbeats 1000000 in
set_option maxRecDepth 100000 in
theorem cells2_calls (cs : List (List Int)) (l : List S53) (hlen : l.length ≤ cs.length) (h2 : ∀ c ∈ cs, c.length = 2) (A : Option Addr) (c b : Nat) (A1 : Option Addr) (c1 : Nat) (w : World) (hr : Kd.C k53 w A l.length l) (hc : l.length ≤ c)
  (hp : w.cell? ⟨b, 0, none⟩ = some (.slice A1 cs.length c1)) (hr1 : Kd.C (Kd.slice 3 (Kd.int .i64)) w A1 cs.length cs) :
  Calls Tryz.prog 38 (#[.slice A l.length c] ++ #[.pointer (some ⟨b, 0, none⟩)]) w fun e w' => e = .returned (.bool (atAll l cs)) ∧ Below w.heap.size w w' := by
 show Calls Tryz.prog 38 #[.slice A l.length c, .pointer (some ⟨b, 0, none⟩)] w _
 have g7 := World.block_lt_of_cell? w _ hp
 have HR := Lib.hid hr
 have HR1 := Lib.hid hr1
 have HP := Lib.hid hp
 have H2 := Lib.hid h2
 have hn : l.length ≤ 9223372036854775807 := hr.2.1
 have HA0 := Lib.hid (rfl : atAll l cs = atAll l cs)
 obtain ⟨rr, hrr⟩ : ∃ rr, atAll l cs = rr := ⟨_, rfl⟩
 rw [hrr]
 have HRR := Lib.hid hrr
 clear hr hr1 hp h2 hrr HA0 hc
 have hu := Tryz.underlying53
 go_enter Tryz.func38, Tryz.ntmps38
 go_wp2
 go_loopg [8] l.length (fun gg s8 wr => ∃ kk : Nat, kk ≤ l.length ∧ l.length - kk ≤ gg ∧ s8 = .int .i64 kk ∧ Aside0 (Below w.heap.size w wr) ∧ Aside0 (atAll (l.drop kk) (cs.drop kk) = rr))
 case atStart => exact ⟨0, Nat.zero_le _, by omega, rfl, ⟨Below.refl _ w⟩, ⟨HRR.out⟩⟩
 case round =>
  obtain ⟨kk, hkk, hg, rfl, BW, HA⟩ := hrel
  rename World => wr
  by_cases hlt : kk < l.length
  ·have hltz : (kk : Int) < (l.length : Int) := by omega
   have hlc : kk < cs.length := Nat.lt_of_lt_of_le hlt hlen
   have hlcz : (kk : Int) < (cs.length : Int) := by omega
   obtain ⟨ad, e, h0, h1, h2, h3, h4, h5, h6, h7⟩ := qYB (Kd.qV HR.out BW.out) (kk : Int) (by omega) hltz
   cases e
   simp only [qCD l kk hlt, Int.toNat_natCast] at h0 h1 h2 h3 h4 h5 h6 h7
   have hst := HA.out
   rw [atAll_step l cs kk hlt hlc] at hst
   have HI := Lib.hid (fun (W : World) => qbA.calls l[kk].f0 l[kk].f1 l[kk].f2.f0 l[kk].f2.f1 l[kk].f2.f2 l[kk].f2.f3 l[kk].f2.f4 l[kk].f2.f5 (rd cs[kk] 0) (rd cs[kk] 1) _ W (isAt_eq l[kk] _ _))
   have hl2 : cs[kk].length = 2 := H2.out _ (List.getElem_mem hlc)
   generalize hy : l[kk] = y at h0 h1 h2 h3 h4 h5 h6 h7 hst HI
   clear hy HA
   obtain ⟨ad1, A2, c2, e1, i0, i1, i2⟩ := atII (Kd.qV HR1.out BW.out) kk hlc
   cases e1
   generalize cs[kk] = z at hl2 i0 i1 i2 hst HI
   have p0 : (0 : Int) ≤ 0 := by decide
   have p1 : (0 : Int) ≤ 1 := by decide
   have q0 : (0 : Int) < (z.length : Int) := by omega
   have q1 : (1 : Int) < (z.length : Int) := by omega
   obtain ⟨ad2, e2, hx0⟩ := Kd.qHB i2 0 p0 q0
   obtain ⟨ad3, e3, hx1⟩ := Kd.qHB i2 1 p1 q1
   cases e2
   cases e3
   rw [show (0 : Int).toNat = 0 from rfl, Addr.add_zero'] at hx0
   rw [show (1 : Int).toNat = 1 from rfl] at hx1
   have hx2 : wr.cell? ⟨ad2.block, ad2.off + 1, none⟩ = some (.int .i64 (rd z 1)) := hx1
   have qi0 : (0 < z.length) = True := eq_true (by omega)
   have qi1 : (1 < z.length) = True := eq_true (by omega)
   have hpc : wr.cell? ⟨b, 0, none⟩ = some (.slice (some ad1) cs.length c1) := qFA BW.out HP.out
   generalize (decide (y.f0 = rd z 0) && decide (y.f1 = rd z 1)) = q at hst HI
   clear i1 i2 hl2
   go_wp2
   obtain ⟨w2, hw2⟩ : ∃ w2, wr.alloc (.cells #[.int .i64 y.f0, .int .i64 y.f1, .int .i64 y.f2.f0, .int .i64 y.f2.f1, .int .i64 y.f2.f2, .int .i64 y.f2.f3, .int .i64 y.f2.f4, .int .i64 y.f2.f5] 53) = w2 := ⟨_, rfl⟩
   have hbl : Below wr.heap.size wr w2 := by rw [← hw2]; exact qt (Below.refl _ _) _
   have hbk : w2.heap[wr.heap.size]? = some (.cells #[.int .i64 y.f0, .int .i64 y.f1, .int .i64 y.f2.f0, .int .i64 y.f2.f1, .int .i64 y.f2.f2, .int .i64 y.f2.f3, .int .i64 y.f2.f4, .int .i64 y.f2.f5] 53 (0, 0)) := by rw [← hw2]; exact Array.getElem?_push_size
   have HB2 := Lib.hid (qEA BW.out BW.out.size hbl)
   rw [hw2]
   clear hw2
   replace hpc := qFA hbl hpc
   replace i0 := qFA hbl i0
   replace hx0 := qFA hbl hx0
   replace hx2 := qFA hbl hx2
   have n0 : w2.cell? ⟨wr.heap.size, 0, none⟩ = some (.int .i64 y.f0) := (qw hbk 0).trans rfl
   have n1 : w2.cell? ⟨wr.heap.size, 1, none⟩ = some (.int .i64 y.f1) := (qw hbk 1).trans rfl
   have n2 : w2.cell? ⟨wr.heap.size, 2, none⟩ = some (.int .i64 y.f2.f0) := (qw hbk 2).trans rfl
   have n3 : w2.cell? ⟨wr.heap.size, 3, none⟩ = some (.int .i64 y.f2.f1) := (qw hbk 3).trans rfl
   have n4 : w2.cell? ⟨wr.heap.size, 4, none⟩ = some (.int .i64 y.f2.f2) := (qw hbk 4).trans rfl
   have n5 : w2.cell? ⟨wr.heap.size, 5, none⟩ = some (.int .i64 y.f2.f3) := (qw hbk 5).trans rfl
   have n6 : w2.cell? ⟨wr.heap.size, 6, none⟩ = some (.int .i64 y.f2.f4) := (qw hbk 6).trans rfl
   have n7 : w2.cell? ⟨wr.heap.size, 7, none⟩ = some (.int .i64 y.f2.f5) := (qw hbk 7).trans rfl
   clear h0 h1 h2 h3 h4 h5 h6 h7 hx1 hbl hbk BW
   generalize wr.heap.size = gg2 at n0 n1 n2 n3 n4 n5 n6 n7 ⊢
   cases q with
   | false =>
    simp only [Bool.false_and] at hst
    subst hst
    go_still_tail 13, (by kernel_rfl)
    change wpList _ _ _ _ _ w2.drew
    have HB3 := Lib.hid (qi HB2.out)
    generalize w2.drew = w3 at HB3 ⊢
    go_wp2_with (first | (go_at_call 39; refine (HI.out _).mono ?_; rintro e w' ⟨rfl, hb'⟩; have HB4 := Lib.hid (qEA HB3.out HB3.out.size hb'); clear hb'))
    go_ret
    exact ⟨rfl, HB4.out⟩
   | true =>
    simp only [Bool.true_and] at hst
    have HST := aM hst
    clear hst
    go_still_tail 13, (by kernel_rfl)
    change wpList _ _ _ _ _ w2.drew
    have HB3 := Lib.hid (qi HB2.out)
    generalize w2.drew = w3 at HB3 ⊢
    go_wp2_with (first | (go_at_call 39; refine (HI.out _).mono ?_; rintro e w' ⟨rfl, hb'⟩; have HB4 := Lib.hid (qEA HB3.out HB3.out.size hb'); clear hb'))
    go_roundg (l.length - (kk + 1))
    case measure => omega
    case rel => exact ⟨kk + 1, by omega, by omega, by go_num, ⟨HB4.out⟩, HST⟩
  ·have : kk = l.length := by omega
   subst this
   have HF := HA.out
   rw [List.drop_length, show ∀ x, atAll [] x = true from fun x => by cases x <;> rfl] at HF
   subst HF
   clear HA
   go_wp2
   go_ret
   exact ⟨rfl, BW.out⟩
end Go.Proofs.YthhiiceligjleaaGreatDoor
namespace Go.Proofs.YthhiiceligjleaaGreatDoor.P
open Go.RowKit Go.Proofs.YthhiiceligjleaaGreatDoorW.PrintWords Go.Proofs.YthhiiceligjleaaGreatDoorW.PrintLast Go.Proofs.YthhiiceligjleaaGreatDoorW.PrintMore
attribute [local go_sem] qh qf qr qq qZ qY qg qe
set_option linter.unusedVariables false
set_option linter.unusedSimpArgs false
theorem eqA51 (d : Nat) (w : World) (x0 y0 : Int) (x1 y1 : Int) (x2 y2 : Int) (x3 y3 : Int) (x4 y4 : Int) (x5 y5 : Int) :
  (Op.equalIn (d + 2) 51 (.agg #[.int .i64 x0, .int .i64 x1, .int .i64 x2, .int .i64 x3, .int .i64 x4, .int .i64 x5]) (.agg #[.int .i64 y0, .int .i64 y1, .int .i64 y2, .int .i64 y3, .int .i64 y4, .int .i64 y5])).run Tryz.prog w = .ok (x0 == y0 && (x1 == y1 && (x2 == y2 && (x3 == y3 && (x4 == y4 && (x5 == y5)))))) w := by
 refine eqA_of Tryz.underlying51 (by kernel_rfl) ?_
 refine qPD (by rfl) (by go_simp; rfl) (by go_simp; rfl) (by go_simp) ?_
 refine qPD (by rfl) (by go_simp; rfl) (by go_simp; rfl) (by go_simp) ?_
 refine qPD (by rfl) (by go_simp; rfl) (by go_simp; rfl) (by go_simp) ?_
 refine qPD (by rfl) (by go_simp; rfl) (by go_simp; rfl) (by go_simp) ?_
 refine qPD (by rfl) (by go_simp; rfl) (by go_simp; rfl) (by go_simp) ?_
 exact eqf_last (by rfl) (by go_simp; rfl) (by go_simp; rfl) (by go_simp)
def qsA.f  : Option (ByteArray) := some (⟨#[110, 101, 115, 119]⟩ : ByteArray)
set_option maxHeartbeats 8000000 in
set_option maxRecDepth 100000 in
theorem qsA.calls  (r : ByteArray) (w : World) (h : qsA.f  = some r) :
  Calls Tryz.prog 67 #[] w fun e w' => e = .returned (.string r) ∧ Drawn0 w w' := by
 have H : (some (⟨#[110, 101, 115, 119]⟩ : ByteArray)) = some r := h
 clear h
 obtain rfl := Option.some.inj H
 go_enter Tryz.func67, Tryz.ntmps67
 go_wp2
 go_ret
 exact ⟨by first | rfl | (simp; done) | (simp [*]; done), dR⟩
def qFB.f (a0_0 : Int) (a0_1 : Int) (a0_2 : Int) (a0_3 : Int) (a0_4 : Int) (a0_5 : Int) (a1 : Int) : Option (Int × Int × Int × Int × Int × Int) := if a1 = 0 then (some (a0_3, a0_0, a0_2, a0_5, a0_4, a0_1)) else (if a1 = 1 then (some (a0_4, a0_1, a0_0, a0_3, a0_5, a0_2)) else (if a1 = 2 then (some (a0_1, a0_5, a0_2, a0_0, a0_4, a0_3)) else (some (a0_2, a0_1, a0_5, a0_3, a0_0, a0_4))))
set_option maxHeartbeats 8000000 in
set_option maxRecDepth 100000 in
theorem qFB.calls (a0_0 : Int) (a0_1 : Int) (a0_2 : Int) (a0_3 : Int) (a0_4 : Int) (a0_5 : Int) (a1 : Int) (r1 : Int) (r2 : Int) (r3 : Int) (r4 : Int) (r5 : Int) (r6 : Int) (w : World) (h : qFB.f a0_0 a0_1 a0_2 a0_3 a0_4 a0_5 a1 = some (r1, r2, r3, r4, r5, r6)) :
  Calls Tryz.prog 82 #[.agg #[.int .i64 a0_0, .int .i64 a0_1, .int .i64 a0_2, .int .i64 a0_3, .int .i64 a0_4, .int .i64 a0_5], .int .i64 a1] w fun e w' => e = .returned (.agg #[.int .i64 r1, .int .i64 r2, .int .i64 r3, .int .i64 r4, .int .i64 r5, .int .i64 r6]) ∧ Below w.heap.size w w' := by
 have hu51 := Tryz.underlying51
 have HB := aM (Below.refl w.heap.size w)
 have H : (if a1 = 0 then (some (a0_3, a0_0, a0_2, a0_5, a0_4, a0_1)) else (if a1 = 1 then (some (a0_4, a0_1, a0_0, a0_3, a0_5, a0_2)) else (if a1 = 2 then (some (a0_1, a0_5, a0_2, a0_0, a0_4, a0_3)) else (some (a0_2, a0_1, a0_5, a0_3, a0_0, a0_4))))) = some (r1, r2, r3, r4, r5, r6) := h
 clear h
 by_cases c3 : a1 = 0
 ·rw [if_pos c3] at H
  have c3b0 := beq_iff_eq.mpr c3
  have c3b1 := bne_eq_false_iff_eq.mpr c3
  clear c3
  simp only [Option.some.injEq, Prod.mk.injEq] at H
  obtain ⟨rfl, rfl, rfl, rfl, rfl, rfl⟩ := H
  go_enter Tryz.func82, Tryz.ntmps82
  go_wp2_with (first | ((with_reducible refine qH (N := 2) rfl ?_); refine bE (N := 2) (cs := #[.int .i64 a0_0, .int .i64 a0_1, .int .i64 a0_2, .int .i64 a0_3, .int .i64 a0_4, .int .i64 a0_5]) (t := 51) ?_; intro gb148 hg w4 hbox hb; have BK148 := aM (hbox); have GW148 := aM ((gg hg)); have GE148 := aM ((gg hg)); replace HB := aM (qB bl hb); clear hb hbox hg) | ((with_reducible refine qH (N := 4) rfl ?_); refine bE (N := 4) (cs := #[.int .i64 0, .int .i64 0, .int .i64 0, .int .i64 0, .int .i64 0, .int .i64 0]) (t := 51) ?_; intro gb149 hg w5 hbox hb; have BK149 := aM (hbox); have GW149 := aM ((gg hg)); have GE149 := aM ((gg hg)); have NB148_149 := aM ((nl BK148 hg)); have NB149_148 := aM ((nr BK148 hg)); replace BK148 := aM (bb BK148 hb); replace HB := aM (qB bl hb); clear hb hbox hg; have hnb6 := NB148_149.out; have hnc6 := NB149_148.out; (refine cb6 BK148 ?_; intro _ _ _ _ _ _); (refine cz6 BK148 ?_; intro _ _ _ _ _ _); (refine cb6 BK149 ?_; intro _ _ _ _ _ _); (refine cz6 BK149 ?_; intro _ _ _ _ _ _)))
  refine bodyPost_ret (results_cell_row rfl _ _ gb149 51 #[.int .i64 a0_3, .int .i64 a0_0, .int .i64 a0_2, .int .i64 a0_5, .int .i64 a0_4, .int .i64 a0_1] (0, 0) _ rfl (by (with_reducible repeat (first | refine qG ?_ _ | refine qD ?_ | refine qF ?_ _)); exact bP6 BK149) Tryz.underlying51 rfl (by kernel_rfl)) rfl ?_
  exact ⟨sR, bl⟩
 ·rw [if_neg c3] at H
  have c3b0 := beq_eq_false_iff_ne.mpr c3
  have c3b1 := bne_iff_ne.mpr c3
  by_cases c9 : a1 = 1
  ·rw [if_pos c9] at H
   have c9b0 := beq_iff_eq.mpr c9
   have c9b1 := bne_eq_false_iff_eq.mpr c9
   clear c9
   simp only [Option.some.injEq, Prod.mk.injEq] at H
   obtain ⟨rfl, rfl, rfl, rfl, rfl, rfl⟩ := H
   go_enter Tryz.func82, Tryz.ntmps82
   go_wp2_with (first | ((with_reducible refine qH (N := 2) rfl ?_); refine bE (N := 2) (cs := #[.int .i64 a0_0, .int .i64 a0_1, .int .i64 a0_2, .int .i64 a0_3, .int .i64 a0_4, .int .i64 a0_5]) (t := 51) ?_; intro gb148 hg w10 hbox hb; have BK148 := aM (hbox); have GW148 := aM ((gg hg)); have GE148 := aM ((gg hg)); replace HB := aM (qB bl hb); clear hb hbox hg) | ((with_reducible refine qH (N := 4) rfl ?_); refine bE (N := 4) (cs := #[.int .i64 0, .int .i64 0, .int .i64 0, .int .i64 0, .int .i64 0, .int .i64 0]) (t := 51) ?_; intro gb149 hg w11 hbox hb; have BK149 := aM (hbox); have GW149 := aM ((gg hg)); have GE149 := aM ((gg hg)); have NB148_149 := aM ((nl BK148 hg)); have NB149_148 := aM ((nr BK148 hg)); replace BK148 := aM (bb BK148 hb); replace HB := aM (qB bl hb); clear hb hbox hg; have hnb12 := NB148_149.out; have hnc12 := NB149_148.out; (refine cb6 BK148 ?_; intro _ _ _ _ _ _); (refine cz6 BK148 ?_; intro _ _ _ _ _ _); (refine cb6 BK149 ?_; intro _ _ _ _ _ _); (refine cz6 BK149 ?_; intro _ _ _ _ _ _)))
   refine bodyPost_ret (results_cell_row rfl _ _ gb149 51 #[.int .i64 a0_4, .int .i64 a0_1, .int .i64 a0_0, .int .i64 a0_3, .int .i64 a0_5, .int .i64 a0_2] (0, 0) _ rfl (by (with_reducible repeat (first | refine qG ?_ _ | refine qD ?_ | refine qF ?_ _)); exact bP6 BK149) Tryz.underlying51 rfl (by kernel_rfl)) rfl ?_
   exact ⟨sR, bl⟩
  ·rw [if_neg c9] at H
   have c9b0 := beq_eq_false_iff_ne.mpr c9
   have c9b1 := bne_iff_ne.mpr c9
   by_cases c15 : a1 = 2
   ·rw [if_pos c15] at H
    have c15b0 := beq_iff_eq.mpr c15
    have c15b1 := bne_eq_false_iff_eq.mpr c15
    clear c15
    simp only [Option.some.injEq, Prod.mk.injEq] at H
    obtain ⟨rfl, rfl, rfl, rfl, rfl, rfl⟩ := H
    go_enter Tryz.func82, Tryz.ntmps82
    go_wp2_with (first | ((with_reducible refine qH (N := 2) rfl ?_); refine bE (N := 2) (cs := #[.int .i64 a0_0, .int .i64 a0_1, .int .i64 a0_2, .int .i64 a0_3, .int .i64 a0_4, .int .i64 a0_5]) (t := 51) ?_; intro gb148 hg w16 hbox hb; have BK148 := aM (hbox); have GW148 := aM ((gg hg)); have GE148 := aM ((gg hg)); replace HB := aM (qB bl hb); clear hb hbox hg) | ((with_reducible refine qH (N := 4) rfl ?_); refine bE (N := 4) (cs := #[.int .i64 0, .int .i64 0, .int .i64 0, .int .i64 0, .int .i64 0, .int .i64 0]) (t := 51) ?_; intro gb149 hg w17 hbox hb; have BK149 := aM (hbox); have GW149 := aM ((gg hg)); have GE149 := aM ((gg hg)); have NB148_149 := aM ((nl BK148 hg)); have NB149_148 := aM ((nr BK148 hg)); replace BK148 := aM (bb BK148 hb); replace HB := aM (qB bl hb); clear hb hbox hg; have hnb18 := NB148_149.out; have hnc18 := NB149_148.out; (refine cb6 BK148 ?_; intro _ _ _ _ _ _); (refine cz6 BK148 ?_; intro _ _ _ _ _ _); (refine cb6 BK149 ?_; intro _ _ _ _ _ _); (refine cz6 BK149 ?_; intro _ _ _ _ _ _)))
    refine bodyPost_ret (results_cell_row rfl _ _ gb149 51 #[.int .i64 a0_1, .int .i64 a0_5, .int .i64 a0_2, .int .i64 a0_0, .int .i64 a0_4, .int .i64 a0_3] (0, 0) _ rfl (by (with_reducible repeat (first | refine qG ?_ _ | refine qD ?_ | refine qF ?_ _)); exact bP6 BK149) Tryz.underlying51 rfl (by kernel_rfl)) rfl ?_
    exact ⟨sR, bl⟩
   ·rw [if_neg c15] at H
    have c15b0 := beq_eq_false_iff_ne.mpr c15
    have c15b1 := bne_iff_ne.mpr c15
    simp only [Option.some.injEq, Prod.mk.injEq] at H
    obtain ⟨rfl, rfl, rfl, rfl, rfl, rfl⟩ := H
    go_enter Tryz.func82, Tryz.ntmps82
    go_wp2_with (first | ((with_reducible refine qH (N := 2) rfl ?_); refine bE (N := 2) (cs := #[.int .i64 a0_0, .int .i64 a0_1, .int .i64 a0_2, .int .i64 a0_3, .int .i64 a0_4, .int .i64 a0_5]) (t := 51) ?_; intro gb148 hg w21 hbox hb; have BK148 := aM (hbox); have GW148 := aM ((gg hg)); have GE148 := aM ((gg hg)); replace HB := aM (qB bl hb); clear hb hbox hg) | ((with_reducible refine qH (N := 4) rfl ?_); refine bE (N := 4) (cs := #[.int .i64 0, .int .i64 0, .int .i64 0, .int .i64 0, .int .i64 0, .int .i64 0]) (t := 51) ?_; intro gb149 hg w22 hbox hb; have BK149 := aM (hbox); have GW149 := aM ((gg hg)); have GE149 := aM ((gg hg)); have NB148_149 := aM ((nl BK148 hg)); have NB149_148 := aM ((nr BK148 hg)); replace BK148 := aM (bb BK148 hb); replace HB := aM (qB bl hb); clear hb hbox hg; have hnb23 := NB148_149.out; have hnc23 := NB149_148.out; (refine cb6 BK148 ?_; intro _ _ _ _ _ _); (refine cz6 BK148 ?_; intro _ _ _ _ _ _); (refine cb6 BK149 ?_; intro _ _ _ _ _ _); (refine cz6 BK149 ?_; intro _ _ _ _ _ _)))
    refine bodyPost_ret (results_cell_row rfl _ _ gb149 51 #[.int .i64 a0_2, .int .i64 a0_1, .int .i64 a0_5, .int .i64 a0_3, .int .i64 a0_0, .int .i64 a0_4] (0, 0) _ rfl (by (with_reducible repeat (first | refine qG ?_ _ | refine qD ?_ | refine qF ?_ _)); exact bP6 BK149) Tryz.underlying51 rfl (by kernel_rfl)) rfl ?_
    exact ⟨sR, bl⟩
end Go.Proofs.YthhiiceligjleaaGreatDoor.P
namespace Go.Proofs.YthhiiceligjleaaGreatDoor.P
open Go.RowKit Go.Proofs.YthhiiceligjleaaGreatDoorW.PrintWords Go.Proofs.YthhiiceligjleaaGreatDoorW.PrintLast Go.Proofs.YthhiiceligjleaaGreatDoorW.PrintMore
attribute [local go_sem] qh qf qr qq qZ qY qg qe
set_option linter.unusedVariables false
set_option linter.unusedSimpArgs false
attribute [local go_sem high] eqA51
mutual
def qN.l0 : Nat → List (S51) → List ByteArray → Int → Option ((List (S51)) × List ByteArray)
 | 0, _, _, _ => none
 | k + 1, x4, x5, x6 => if x6 < (x4.length : Int) then (qN.l1 k x4 x5 x6 0) else (some (x4, x5))
def qN.l1 : Nat → List (S51) → List ByteArray → Int → Int → Option ((List (S51)) × List ByteArray)
 | 0, _, _, _, _ => none
 | k + 1, x4, x5, x6, x7 => if x7 < 4 then (if 0 ≤ x6 then (if x6 < (x4.length : Int) then ((qFB.f ((qC x4 x6).f0) ((qC x4 x6).f1) ((qC x4 x6).f2) ((qC x4 x6).f3) ((qC x4 x6).f4) ((qC x4 x6).f5) x7).bind fun bt158 => (qN.l2 k x4 x5 x6 x7 false (x4.length : Int) 0 bt158.1 bt158.2.1 bt158.2.2.1 bt158.2.2.2.1 bt158.2.2.2.2.1 bt158.2.2.2.2.2)) else (none)) else (none)) else (qN.l0 k x4 x5 (wrap64 (x6 + 1)))
def qN.l2 : Nat → List (S51) → List ByteArray → Int → Int → Bool → Int → Int → Int → Int → Int → Int → Int → Int → Option ((List (S51)) × List ByteArray)
 | 0, _, _, _, _, _, _, _, _, _, _, _, _, _ => none
 | k + 1, x4, x5, x6, x7, x9, x32, x33, x165000, x165001, x165002, x165003, x165004, x165005 => if x33 < x32 then (if 0 ≤ x33 then (if x33 < (x4.length : Int) then (if x9 = true then (qN.l2 k x4 x5 x6 x7 true x32 (wrap64 (x33 + 1)) x165000 x165001 x165002 x165003 x165004 x165005) else (qN.l2 k x4 x5 x6 x7 (((qC x4 x33).f0) == x165000 && (((qC x4 x33).f1) == x165001 && (((qC x4 x33).f2) == x165002 && (((qC x4 x33).f3) == x165003 && (((qC x4 x33).f4) == x165004 && (((qC x4 x33).f5) == x165005)))))) x32 (wrap64 (x33 + 1)) x165000 x165001 x165002 x165003 x165004 x165005)) else (none)) else (none)) else (if x9 = true then (qN.l1 k x4 x5 x6 (wrap64 (x7 + 1))) else (if x4.length < 2932031007402 then (if 0 ≤ x6 then (if x6 < (x5.length : Int) then ((qsA.f).bind fun t171 => (if 0 ≤ x7 then (if x7 ≤ (wrap64 (x7 + 1)) then (if (wrap64 (x7 + 1)) ≤ (t171.size : Int) then (if (rdOf ByteArray.empty x5 x6).size + (t171.extract (x7 : Int).toNat ((wrap64 (x7 + 1)) : Int).toNat).size ≤ 9223372036854775807 then (if x5.length < 8796093022208 then (qN.l1 k (x4 ++ [(⟨x165000, x165001, x165002, x165003, x165004, x165005⟩ : S51)]) (x5 ++ [(rdOf ByteArray.empty x5 x6) ++ (t171.extract (x7 : Int).toNat ((wrap64 (x7 + 1)) : Int).toNat)]) x6 (wrap64 (x7 + 1))) else (none)) else (none)) else (none)) else (none)) else (none))) else (none)) else (none)) else (none)))
end
def qN.f (k : Nat) (a0_0 : Int) (a0_1 : Int) (a0_2 : Int) (a0_3 : Int) (a0_4 : Int) (a0_5 : Int) : Option ((List (S51)) × List ByteArray) := qN.l0 k (([(⟨a0_0, a0_1, a0_2, a0_3, a0_4, a0_5⟩ : S51)] : List (S51))) (([(⟨#[]⟩ : ByteArray)] : List ByteArray)) 0
def qN.T17 : Bool × List (List Nat × List Nat) := (true, [([], []), ([], []), ([], []), ([1, 2], [1, 2]), ([3], [3]), ([], []), ([], []), ([], []), ([7], [7]), ([5, 6, 8], [5, 6, 8]), ([4, 9], [4, 9]), ([10], [10]), ([0, 11, 5], [0, 11]), ([12, 12, 0, 1, 2, 3, 4, 5, 6, 7, 8, 9, 10, 11, 12], [0, 1, 12])])
def qN.B17 : List Nat := [0, 0, 0, 6, 14, 0, 0, 0, 128, 480, 1022, 2046, 4095, 8191]
theorem qN.tab17 : rtab .any (opsOf Tryz.f79 17) = qN.T17 := by kernel_rfl
theorem qN.bits17 : waitsOk qN.T17.2 qN.B17 = true := by kernel_rfl
set_option maxHeartbeats 8000000 in
set_option maxRecDepth 100000 in
theorem qN.calls (k : Nat) (a0_0 : Int) (a0_1 : Int) (a0_2 : Int) (a0_3 : Int) (a0_4 : Int) (a0_5 : Int) (r1 : List (S51)) (r2 : List ByteArray) (w : World) (h : qN.f k a0_0 a0_1 a0_2 a0_3 a0_4 a0_5 = some (r1, r2)) :
  Calls Tryz.prog 79 #[.agg #[.int .i64 a0_0, .int .i64 a0_1, .int .i64 a0_2, .int .i64 a0_3, .int .i64 a0_4, .int .i64 a0_5]] w fun e w' => ∃ v0_ v1_ : Value, e = .returned (.tuple #[v0_, v1_]) ∧ Kd.R k51 51 w' w.heap.size (fun _ => True) v0_ r1 ∧ Kd.R Kd.string 9 w' w.heap.size (fun _ => True) v1_ r2 ∧ Below w.heap.size w w' := by
 have hu51 := Tryz.underlying51
 have HB := aM (Below.refl w.heap.size w)
 have H : (qN.l0 k (([(⟨a0_0, a0_1, a0_2, a0_3, a0_4, a0_5⟩ : S51)] : List (S51))) (([(⟨#[]⟩ : ByteArray)] : List ByteArray)) 0) = some (r1, r2) := h
 clear h
 obtain ⟨y151, hy151⟩ : ∃ y_ : List (S51), y_ = (([(⟨a0_0, a0_1, a0_2, a0_3, a0_4, a0_5⟩ : S51)] : List (S51))) := ⟨_, rfl⟩
 replace H : (qN.l0 k y151 (([(⟨#[]⟩ : ByteArray)] : List ByteArray)) 0) = some (r1, r2) := by first | (rw [hy151]; with_reducible exact H) | (have H2_ := (Option.bind_some _ _).symm.trans H; rw [hy151]; with_reducible exact H2_) | (have H2_ := (Option.bind_some _ _).symm.trans H; with_reducible exact H2_) | with_reducible exact H | (rw [hy151]; exact H) | exact H
 have Ny151 := aM hy151
 clear hy151
 obtain ⟨y154, hy154⟩ : ∃ y_ : List ByteArray, y_ = (([(⟨#[]⟩ : ByteArray)] : List ByteArray)) := ⟨_, rfl⟩
 replace H : (qN.l0 k y151 y154 0) = some (r1, r2) := by first | (rw [hy154]; with_reducible exact H) | (have H2_ := (Option.bind_some _ _).symm.trans H; rw [hy154]; with_reducible exact H2_) | (have H2_ := (Option.bind_some _ _).symm.trans H; with_reducible exact H2_) | with_reducible exact H | (rw [hy154]; exact H) | exact H
 have Ny154 := aM hy154
 clear hy154
 have H' := aM H
 clear H
 go_enter Tryz.func79, Tryz.ntmps79
 go_wp2_with (first | ((with_reducible refine qH (N := 1) rfl ?_); refine bE (N := 1) (cs := #[.int .i64 a0_0, .int .i64 a0_1, .int .i64 a0_2, .int .i64 a0_3, .int .i64 a0_4, .int .i64 a0_5]) (t := 51) ?_; intro gb150 hg w2 hbox hb; have BK150 := aM (hbox); have GW150 := aM ((gg hg)); have GE150 := aM ((gg hg)); replace HB := aM (qB bl hb); clear hb hbox hg; (refine cb6 BK150 ?_; intro hcz3_0 hcz3_1 hcz3_2 hcz3_3 hcz3_4 hcz3_5); (refine cz6 BK150 ?_; intro hfz3_0 hfz3_1 hfz3_2 hfz3_3 hfz3_4 hfz3_5)) | ((with_reducible refine qH (N := 13) rfl ?_); refine Kd.R_lit k51 _ 51 ?hg (N := 13) ?hd (xs := ([(⟨a0_0, a0_1, a0_2, a0_3, a0_4, a0_5⟩ : S51)] : List (S51))) (inner := [.int .i64 a0_0, .int .i64 a0_1, .int .i64 a0_2, .int .i64 a0_3, .int .i64 a0_4, .int .i64 a0_5]) (ok := fun _ => True) (okp := fun _ => True) ?hr ?hp (fun _ hk => hk) trivial (Below.refl _ _) (Nat.le_refl _) (by simp) ?_; (case hd => rfl); (case hg => rfl); (case hr => exact gS); (case hp => exact (Reps.c6 (show Kd.M k51 _ _ _ (⟨a0_0, a0_1, a0_2, a0_3, a0_4, a0_5⟩ : S51) [.int .i64 a0_0, .int .i64 a0_1, .int .i64 a0_2, .int .i64 a0_3, .int .i64 a0_4, .int .i64 a0_5] from (qeC _ _ _ (⟨a0_0, a0_1, a0_2, a0_3, a0_4, a0_5⟩ : S51) )) (Reps.none _ _))); intro v152 w4 ho5 hb hg_ hnew_; clear hg_ hnew_; (first | rw [← Ny151.out] at ho5 | (simp only [Int.reduceToNat] at ho5; rw [← Ny151.out] at ho5)); have HO153 := aM (Kd.qz (Kd.qaB ho5 (rB BK150)) (qJ bl)); replace BK150 := aM (bb BK150 hb); replace HB := aM (qB bl hb); clear hb ho5) | ((with_reducible refine qH (N := 14) rfl ?_); refine Kd.R_lit Kd.string _ 9 ?hg (N := 14) ?hd (xs := ([(⟨#[]⟩ : ByteArray)] : List ByteArray)) (inner := [.string (⟨#[]⟩ : ByteArray)]) (ok := fun _ => True) (okp := fun _ => True) ?hr ?hp (fun _ hk => hk) trivial (Below.refl _ _) (Nat.le_refl _) (by simp) ?_; (case hd => rfl); (case hg => rfl); (case hr => exact gS); (case hp => exact (Reps.one (show Kd.M Kd.string _ _ _ (⟨#[]⟩ : ByteArray) [.string (⟨#[]⟩ : ByteArray)] from rfl) (Reps.none _ _))); intro v155 w6 ho7 hb hg_ hnew_; clear hg_ hnew_; (first | rw [← Ny154.out] at ho7 | (simp only [Int.reduceToNat] at ho7; rw [← Ny154.out] at ho7)); have HO156 := aM (Kd.qz ho7 (qJ bl)); replace HO153 := aM (Kd.qc (rR HO153) hb); replace BK150 := aM (bb BK150 hb); replace HB := aM (qB bl hb); clear hb ho7))
 go_loopg [4, 5, 6] k (fun kq v4 v5 v6 w' => ∃ (x4_1 : List (S51)) (x5_1 : List ByteArray) (x6_1 : Int), v6 = .int .i64 x6_1 ∧ Aside0 (qN.l0 kq x4_1 x5_1 x6_1 = some (r1, r2)) ∧ Aside0 (kq ≤ k) ∧ Aside0 (Kd.R k51 51 w' w.heap.size (fun k_ => k_ ≠ gb150) v4 x4_1) ∧ Aside0 (Kd.R Kd.string 9 w' w.heap.size (fun _ => True) v5 x5_1) ∧ Aside0 (w'.heap[gb150]? = some (.cells #[.int .i64 a0_0, .int .i64 a0_1, .int .i64 a0_2, .int .i64 a0_3, .int .i64 a0_4, .int .i64 a0_5] 51 (0, 0))) ∧ Aside0 (Below w.heap.size w w'))
 case atStart => exact ⟨(y151), (y154), (0), sD, H', ⟨Nat.le_refl _⟩, ⟨by (with_reducible repeat (first | apply Kd.qQ | apply Kd.qR | apply Kd.qS)); exact Kd.qa HO153.out (fun _ hk => hk.2)⟩, ⟨rR HO156⟩, ⟨rB BK150⟩, ⟨bl⟩⟩
 case round =>
  clear H'; (try clear p2); (try clear c6); (try clear c7); (try clear hcz3_0 hcz3_1 hcz3_2 hcz3_3 hcz3_4 hcz3_5); (try clear hfz3_0 hfz3_1 hfz3_2 hfz3_3 hfz3_4 hfz3_5)
  obtain ⟨x4_1, x5_1, x6_1, rfl, HA, HK1, HO_4, HO_5, BK150, HB⟩ := hrel
  cases gk with
  | zero => exact absurd HA.out (by simp [qN.l0])
  | succ k1 =>
   have H := HA.out
   clear HA
   simp only [qN.l0] at H
   by_cases c8 : x6_1 < (x4_1.length : Int)
   ·rw [if_pos c8] at H
    have c8b0 := decide_eq_true c8
    clear c8
    have H' := aM H
    clear H
    obtain ⟨Ao9, co9, eo9⟩ := Kd.qDA HO_4.out
    subst eo9
    go_wp2
    go_loopg [4, 5, 7] k1 (fun kq v4 v5 v7 w' => ∃ (x4_2 : List (S51)) (x5_2 : List ByteArray) (x7_2 : Int), v7 = .int .i64 x7_2 ∧ Aside0 (qN.l1 kq x4_2 x5_2 x6_1 x7_2 = some (r1, r2)) ∧ Aside0 (kq ≤ k1) ∧ Aside0 (Kd.R k51 51 w' w.heap.size (fun k_ => k_ ≠ gb150) v4 x4_2) ∧ Aside0 (Kd.R Kd.string 9 w' w.heap.size (fun _ => True) v5 x5_2) ∧ Aside0 (w'.heap[gb150]? = some (.cells #[.int .i64 a0_0, .int .i64 a0_1, .int .i64 a0_2, .int .i64 a0_3, .int .i64 a0_4, .int .i64 a0_5] 51 (0, 0))) ∧ Aside0 (Below w.heap.size w w'))
    case atStart => exact ⟨(x4_1), (x5_1), (0), sD, H', ⟨Nat.le_refl _⟩, ⟨rR HO_4⟩, ⟨rR HO_5⟩, ⟨rB BK150⟩, ⟨bl⟩⟩
    case round =>
     clear H'; (try clear p2); (try clear c6); (try clear c7); (try clear c8); (try clear c8b0); (try clear hcz3_0 hcz3_1 hcz3_2 hcz3_3 hcz3_4 hcz3_5); (try clear hfz3_0 hfz3_1 hfz3_2 hfz3_3 hfz3_4 hfz3_5); (try clear p2)
     obtain ⟨x4_2, x5_2, x7_2, rfl, HA, HK2, HO_4, HO_5, BK150, HB⟩ := hrel
     cases gk with
     | zero => exact absurd HA.out (by simp [qN.l1])
     | succ k2 =>
      have H := HA.out
      clear HA
      simp only [qN.l1] at H
      by_cases c10 : x7_2 < 4
      ·rw [if_pos c10] at H
       have c10b0 := decide_eq_true c10
       clear c10
       by_cases c11 : 0 ≤ x6_1
       case neg => exact nN c11 H
       rw [if_pos c11] at H
       have c11b0 := decide_eq_true c11
       clear c11
       by_cases c12 : x6_1 < (x4_2.length : Int)
       case neg => exact nN c12 H
       rw [if_pos c12] at H
       have c12b0 := decide_eq_true c12
       clear c12
       replace H := bO H
       obtain ⟨⟨t158, t159, t160, t161, t162, t163⟩, A13, H⟩ := H
       dsimp only at H A13
       have H' := aM H
       clear H
       obtain ⟨Ao14, co14, eo14⟩ := Kd.qDA HO_4.out
       subst eo14
       have p157 : 0 ≤ (x6_1 : Int) := of_decide_eq_true am
       have q157 : x6_1 < (x4_2.length : Int) := of_decide_eq_true am
       obtain ⟨ad157, e157, hx157_0, hx157_1, hx157_2, hx157_3, hx157_4, hx157_5⟩ := qwD (Kd.qO HO_4.out).2.2 x6_1 p157 q157
       cases e157
       replace p157 := eq_true p157
       replace q157 := eq_true q157
       go_wp2_with (first | ((with_reducible refine qE (f := 82) rfl ?_); refine qm (some 30) rfl rfl Tryz.func82 (by kernel_rfl) rfl #[.agg #[.int .i64 ((qC x4_2 x6_1).f0), .int .i64 ((qC x4_2 x6_1).f1), .int .i64 ((qC x4_2 x6_1).f2), .int .i64 ((qC x4_2 x6_1).f3), .int .i64 ((qC x4_2 x6_1).f4), .int .i64 ((qC x4_2 x6_1).f5)], .int .i64 x7_2] rfl gA ?_; (with_reducible refine (qFB.calls ((qC x4_2 x6_1).f0) ((qC x4_2 x6_1).f1) ((qC x4_2 x6_1).f2) ((qC x4_2 x6_1).f3) ((qC x4_2 x6_1).f4) ((qC x4_2 x6_1).f5) x7_2 t158 t159 t160 t161 t162 t163 _ A13.out).mono ?_); rintro e w15 ⟨rfl, hb⟩; refine ⟨_, rfl, ?_⟩; replace HO_4 := aM (Kd.qc (rR HO_4) hb); replace HO_5 := aM (Kd.qc (rR HO_5) hb); replace BK150 := aM (bb BK150 hb); replace HB := aM (qB bl hb); (try clear hb); (try clear hb2); (try clear hk); (try clear hi)) | ((with_reducible refine qH (N := 8) rfl ?_); refine bE (N := 8) (cs := #[.int .i64 0, .int .i64 0, .int .i64 0, .int .i64 0, .int .i64 0, .int .i64 0]) (t := 51) ?_; intro gb164 hg w16 hbox hb; have BK164 := aM (hbox); have GW164 := aM ((gg hg)); have GE164 := aM ((gg hg)); have NB150_164 := aM ((nl BK150 hg)); have NB164_150 := aM ((nr BK150 hg)); replace HO_4 := aM (Kd.qc (Kd.qzC (rR HO_4) gb164 (Nat.le_of_eq hg.symm)) hb); replace HO_5 := aM (Kd.qc (rR HO_5) hb); replace BK150 := aM (bb BK150 hb); replace HB := aM (qB bl hb); clear hb hbox hg; have hnb17 := NB164_150.out; have hnc17 := NB150_164.out; (refine cb6 BK164 ?_; intro hcz18_0 hcz18_1 hcz18_2 hcz18_3 hcz18_4 hcz18_5); (refine cz6 BK164 ?_; intro hfz18_0 hfz18_1 hfz18_2 hfz18_3 hfz18_4 hfz18_5)))
       go_loopg [9, 33] k2 (fun kq v9 v33 w' => ∃ (x9_3 : Bool) (x33_3 : Int), v9 = .bool x9_3 ∧ v33 = .int .i64 x33_3 ∧ Aside0 (qN.l2 kq x4_2 x5_2 x6_1 x7_2 x9_3 (x4_2.length : Int) x33_3 t158 t159 t160 t161 t162 t163 = some (r1, r2)) ∧ Aside0 (kq ≤ k2) ∧ Aside0 (Kd.R k51 51 w' w.heap.size (fun k_ => k_ ≠ gb150 ∧ k_ ≠ gb164) (.slice (some ad157) x4_2.length co14) x4_2) ∧ Aside0 (Kd.R Kd.string 9 w' w.heap.size (fun _ => True) u5 x5_2) ∧ Aside0 (w'.heap[gb150]? = some (.cells #[.int .i64 a0_0, .int .i64 a0_1, .int .i64 a0_2, .int .i64 a0_3, .int .i64 a0_4, .int .i64 a0_5] 51 (0, 0))) ∧ Aside0 (w'.heap[gb164]? = some (.cells #[.int .i64 t158, .int .i64 t159, .int .i64 t160, .int .i64 t161, .int .i64 t162, .int .i64 t163] 51 (0, 0))) ∧ Aside0 (Below w.heap.size w w'))
       case atStart => exact ⟨(false), (0), sD, sD, H', ⟨Nat.le_refl _⟩, ⟨by (with_reducible repeat (first | apply Kd.qQ | apply Kd.qR | apply Kd.qS)); exact Kd.qa (Kd.R_far (p := ⟨gb164, 5, none⟩) (Kd.R_far (p := ⟨gb164, 4, none⟩) (Kd.R_far (p := ⟨gb164, 3, none⟩) (Kd.R_far (p := ⟨gb164, 2, none⟩) (Kd.R_far (p := ⟨gb164, 1, none⟩) (Kd.R_far (p := ⟨gb164, 0, none⟩) (Kd.qa HO_4.out (fun k_ hk => (⟨hk, hk.2⟩ : _ ∧ k_ ≠ gb164))) (fun _ hk => hk.2) (.int .i64 t158)) (fun _ hk => hk.2) (.int .i64 t159)) (fun _ hk => hk.2) (.int .i64 t160)) (fun _ hk => hk.2) (.int .i64 t161)) (fun _ hk => hk.2) (.int .i64 t162)) (fun _ hk => hk.2) (.int .i64 t163)) (fun _ hk => ⟨hk.1.1, hk.1.2⟩)⟩, ⟨by (with_reducible repeat (first | apply Kd.qQ | apply Kd.qR | apply Kd.qS)); exact Kd.qa (Kd.R_far (p := ⟨gb164, 5, none⟩) (Kd.R_far (p := ⟨gb164, 4, none⟩) (Kd.R_far (p := ⟨gb164, 3, none⟩) (Kd.R_far (p := ⟨gb164, 2, none⟩) (Kd.R_far (p := ⟨gb164, 1, none⟩) (Kd.R_far (p := ⟨gb164, 0, none⟩) (Kd.qLB HO_5.out BK164.out (by decide)) (fun _ hk => hk.2) (.int .i64 t158)) (fun _ hk => hk.2) (.int .i64 t159)) (fun _ hk => hk.2) (.int .i64 t160)) (fun _ hk => hk.2) (.int .i64 t161)) (fun _ hk => hk.2) (.int .i64 t162)) (fun _ hk => hk.2) (.int .i64 t163)) (fun _ hk => trivial)⟩, ⟨bF BK150 NB150_164⟩, ⟨by (with_reducible repeat (first | refine qG ?_ _ | refine qD ?_ | refine qF ?_ _)); exact bP6 BK164⟩, ⟨bl⟩⟩
       case round =>
        clear H'; (try clear c1); (try clear p1); (try clear q1); (try clear hx1); (try clear p2); (try clear c6); (try clear c7); (try clear c8); (try clear c8b0); (try clear c10); (try clear c10b0); (try clear c11); (try clear c11b0); (try clear c12); (try clear c12b0); (try clear p15); (try clear q15); (try clear hx15); (try clear c17); (try clear hcz18_0 hcz18_1 hcz18_2 hcz18_3 hcz18_4 hcz18_5); (try clear hcz3_0 hcz3_1 hcz3_2 hcz3_3 hcz3_4 hcz3_5); (try clear hfz18_0 hfz18_1 hfz18_2 hfz18_3 hfz18_4 hfz18_5); (try clear hfz3_0 hfz3_1 hfz3_2 hfz3_3 hfz3_4 hfz3_5); (try clear hx157_0); (try clear hx157_1); (try clear hx157_2); (try clear hx157_3); (try clear hx157_4); (try clear hx157_5); (try clear p157); (try clear p2); (try clear q157)
        obtain ⟨x9_3, x33_3, rfl, rfl, HA, HK3, HO_4, HO_5, BK150, BK164, HB⟩ := hrel
        cases gk with
        | zero => exact absurd HA.out (by simp [qN.l2])
        | succ k3 =>
         have H := HA.out
         clear HA
         simp only [qN.l2] at H
         by_cases c19 : x33_3 < (x4_2.length : Int)
         ·rw [if_pos c19] at H
          have c19b0 := decide_eq_true c19
          clear c19
          by_cases c20 : 0 ≤ x33_3
          case neg => exact nN c20 H
          rw [if_pos c20] at H
          have c20b0 := decide_eq_true c20
          clear c20
          by_cases c21 : x33_3 < (x4_2.length : Int)
          case neg => exact nN c21 H
          rw [if_pos c21] at H
          have c21b0 := decide_eq_true c21
          clear c21
          by_cases c22 : x9_3 = true
          ·subst c22
           replace H := iT H
           have H' := aM H
           clear H
           have p165 : 0 ≤ (x33_3 : Int) := of_decide_eq_true am
           have q165 : x33_3 < (x4_2.length : Int) := of_decide_eq_true am
           obtain ⟨ad165, e165, hx165_0, hx165_1, hx165_2, hx165_3, hx165_4, hx165_5⟩ := qwD (Kd.qO HO_4.out).2.2 x33_3 p165 q165
           obtain rfl : ad157 = ad165 := (by injection e165)
           replace p165 := eq_true p165
           replace q165 := eq_true q165
           go_wp2_with (first | ((with_reducible refine qH (N := 11) rfl ?_); refine bE (N := 11) (cs := #[.int .i64 0, .int .i64 0, .int .i64 0, .int .i64 0, .int .i64 0, .int .i64 0]) (t := 51) ?_; intro gb166 hg w23 hbox hb; have BK166 := aM (hbox); have GW166 := aM ((gg hg)); have GE166 := aM ((gg hg)); have NB150_166 := aM ((nl BK150 hg)); have NB166_150 := aM ((nr BK150 hg)); have NB164_166 := aM ((nl BK164 hg)); have NB166_164 := aM ((nr BK164 hg)); replace HO_4 := aM (Kd.qc (Kd.qzC (rR HO_4) gb166 (Nat.le_of_eq hg.symm)) hb); replace HO_5 := aM (Kd.qc (rR HO_5) hb); replace BK150 := aM (bb BK150 hb); replace BK164 := aM (bb BK164 hb); replace HB := aM (qB bl hb); clear hb hbox hg; have hnb24 := NB166_150.out; have hnc24 := NB150_166.out; have hnb25 := NB166_164.out; have hnc25 := NB164_166.out; (refine cb6 BK166 ?_; intro _ _ _ _ _ _); (refine cz6 BK166 ?_; intro _ _ _ _ _ _)))
           go_roundg k3
           case measure => have := HK1.out; have := HK2.out; have := HK3.out; omega
           case rel => exact ⟨(true), (wrap64 (x33_3 + 1)), sD, sD, H', ⟨by have := HK1.out; have := HK2.out; have := HK3.out; omega⟩, ⟨by (with_reducible repeat (first | apply Kd.qQ | apply Kd.qR | apply Kd.qS)); exact Kd.qa (Kd.R_far (p := ⟨gb166, 5, none⟩) (Kd.R_far (p := ⟨gb166, 4, none⟩) (Kd.R_far (p := ⟨gb166, 3, none⟩) (Kd.R_far (p := ⟨gb166, 2, none⟩) (Kd.R_far (p := ⟨gb166, 1, none⟩) (Kd.R_far (p := ⟨gb166, 0, none⟩) (Kd.qa HO_4.out (fun k_ hk => (⟨hk, hk.2⟩ : _ ∧ k_ ≠ gb166))) (fun _ hk => hk.2) (.int .i64 ((qC x4_2 x33_3).f0))) (fun _ hk => hk.2) (.int .i64 ((qC x4_2 x33_3).f1))) (fun _ hk => hk.2) (.int .i64 ((qC x4_2 x33_3).f2))) (fun _ hk => hk.2) (.int .i64 ((qC x4_2 x33_3).f3))) (fun _ hk => hk.2) (.int .i64 ((qC x4_2 x33_3).f4))) (fun _ hk => hk.2) (.int .i64 ((qC x4_2 x33_3).f5))) (fun _ hk => ⟨hk.1.1.1, hk.1.1.2⟩)⟩, ⟨by (with_reducible repeat (first | apply Kd.qQ | apply Kd.qR | apply Kd.qS)); exact Kd.qa (Kd.R_far (p := ⟨gb166, 5, none⟩) (Kd.R_far (p := ⟨gb166, 4, none⟩) (Kd.R_far (p := ⟨gb166, 3, none⟩) (Kd.R_far (p := ⟨gb166, 2, none⟩) (Kd.R_far (p := ⟨gb166, 1, none⟩) (Kd.R_far (p := ⟨gb166, 0, none⟩) (Kd.qLB HO_5.out BK166.out (by decide)) (fun _ hk => hk.2) (.int .i64 ((qC x4_2 x33_3).f0))) (fun _ hk => hk.2) (.int .i64 ((qC x4_2 x33_3).f1))) (fun _ hk => hk.2) (.int .i64 ((qC x4_2 x33_3).f2))) (fun _ hk => hk.2) (.int .i64 ((qC x4_2 x33_3).f3))) (fun _ hk => hk.2) (.int .i64 ((qC x4_2 x33_3).f4))) (fun _ hk => hk.2) (.int .i64 ((qC x4_2 x33_3).f5))) (fun _ hk => trivial)⟩, ⟨bF BK150 NB150_166⟩, ⟨bF BK164 NB164_166⟩, ⟨bl⟩⟩
          ·replace c22 := Bool.eq_false_iff.mpr c22
           subst c22
           replace H := iF H
           have H' := aM H
           clear H
           have p165 : 0 ≤ (x33_3 : Int) := of_decide_eq_true am
           have q165 : x33_3 < (x4_2.length : Int) := of_decide_eq_true am
           obtain ⟨ad165, e165, hx165_0, hx165_1, hx165_2, hx165_3, hx165_4, hx165_5⟩ := qwD (Kd.qO HO_4.out).2.2 x33_3 p165 q165
           obtain rfl : ad157 = ad165 := (by injection e165)
           replace p165 := eq_true p165
           replace q165 := eq_true q165
           go_wp2_with (first | ((with_reducible refine qH (N := 11) rfl ?_); refine bE (N := 11) (cs := #[.int .i64 0, .int .i64 0, .int .i64 0, .int .i64 0, .int .i64 0, .int .i64 0]) (t := 51) ?_; intro gb166 hg w27 hbox hb; have BK166 := aM (hbox); have GW166 := aM ((gg hg)); have GE166 := aM ((gg hg)); have NB150_166 := aM ((nl BK150 hg)); have NB166_150 := aM ((nr BK150 hg)); have NB164_166 := aM ((nl BK164 hg)); have NB166_164 := aM ((nr BK164 hg)); replace HO_4 := aM (Kd.qc (Kd.qzC (rR HO_4) gb166 (Nat.le_of_eq hg.symm)) hb); replace HO_5 := aM (Kd.qc (rR HO_5) hb); replace BK150 := aM (bb BK150 hb); replace BK164 := aM (bb BK164 hb); replace HB := aM (qB bl hb); clear hb hbox hg; have hnb28 := NB166_150.out; have hnc28 := NB150_166.out; have hnb29 := NB166_164.out; have hnc29 := NB164_166.out; (refine cb6 BK166 ?_; intro _ _ _ _ _ _); (refine cz6 BK166 ?_; intro _ _ _ _ _ _); have hnb31 := NB164_150.out; have hnc31 := NB150_164.out; (refine cb6 BK164 ?_; intro _ _ _ _ _ _); (refine cz6 BK164 ?_; intro _ _ _ _ _ _)))
           go_roundg k3
           case measure => have := HK1.out; have := HK2.out; have := HK3.out; omega
           case rel => exact ⟨((((qC x4_2 x33_3).f0) == t158 && (((qC x4_2 x33_3).f1) == t159 && (((qC x4_2 x33_3).f2) == t160 && (((qC x4_2 x33_3).f3) == t161 && (((qC x4_2 x33_3).f4) == t162 && (((qC x4_2 x33_3).f5) == t163))))))), (wrap64 (x33_3 + 1)), sD, sD, H', ⟨by have := HK1.out; have := HK2.out; have := HK3.out; omega⟩, ⟨by (with_reducible repeat (first | apply Kd.qQ | apply Kd.qR | apply Kd.qS)); exact Kd.qa (Kd.R_far (p := ⟨gb166, 5, none⟩) (Kd.R_far (p := ⟨gb166, 4, none⟩) (Kd.R_far (p := ⟨gb166, 3, none⟩) (Kd.R_far (p := ⟨gb166, 2, none⟩) (Kd.R_far (p := ⟨gb166, 1, none⟩) (Kd.R_far (p := ⟨gb166, 0, none⟩) (Kd.qa HO_4.out (fun k_ hk => (⟨hk, hk.2⟩ : _ ∧ k_ ≠ gb166))) (fun _ hk => hk.2) (.int .i64 ((qC x4_2 x33_3).f0))) (fun _ hk => hk.2) (.int .i64 ((qC x4_2 x33_3).f1))) (fun _ hk => hk.2) (.int .i64 ((qC x4_2 x33_3).f2))) (fun _ hk => hk.2) (.int .i64 ((qC x4_2 x33_3).f3))) (fun _ hk => hk.2) (.int .i64 ((qC x4_2 x33_3).f4))) (fun _ hk => hk.2) (.int .i64 ((qC x4_2 x33_3).f5))) (fun _ hk => ⟨hk.1.1.1, hk.1.1.2⟩)⟩, ⟨by (with_reducible repeat (first | apply Kd.qQ | apply Kd.qR | apply Kd.qS)); exact Kd.qa (Kd.R_far (p := ⟨gb166, 5, none⟩) (Kd.R_far (p := ⟨gb166, 4, none⟩) (Kd.R_far (p := ⟨gb166, 3, none⟩) (Kd.R_far (p := ⟨gb166, 2, none⟩) (Kd.R_far (p := ⟨gb166, 1, none⟩) (Kd.R_far (p := ⟨gb166, 0, none⟩) (Kd.qLB HO_5.out BK166.out (by decide)) (fun _ hk => hk.2) (.int .i64 ((qC x4_2 x33_3).f0))) (fun _ hk => hk.2) (.int .i64 ((qC x4_2 x33_3).f1))) (fun _ hk => hk.2) (.int .i64 ((qC x4_2 x33_3).f2))) (fun _ hk => hk.2) (.int .i64 ((qC x4_2 x33_3).f3))) (fun _ hk => hk.2) (.int .i64 ((qC x4_2 x33_3).f4))) (fun _ hk => hk.2) (.int .i64 ((qC x4_2 x33_3).f5))) (fun _ hk => trivial)⟩, ⟨bF BK150 NB150_166⟩, ⟨bF BK164 NB164_166⟩, ⟨bl⟩⟩
         ·rw [if_neg c19] at H
          have c19b0 := decide_eq_false c19
          clear c19
          by_cases c33 : x9_3 = true
          ·subst c33
           replace H := iT H
           have H' := aM H
           clear H
           go_wp2
           go_roundg k3
           case measure => have := HK1.out; have := HK2.out; have := HK3.out; omega
           case rel => exact ⟨(x4_2), (x5_2), (wrap64 (x7_2 + 1)), sD, H', ⟨by have := HK1.out; have := HK2.out; have := HK3.out; omega⟩, ⟨by (with_reducible repeat (first | apply Kd.qQ | apply Kd.qR | apply Kd.qS)); exact Kd.qa HO_4.out (fun _ hk => hk.1)⟩, ⟨rR HO_5⟩, ⟨rB BK150⟩, ⟨bl⟩⟩
          ·replace c33 := Bool.eq_false_iff.mpr c33
           subst c33
           replace H := iF H
           by_cases c34 : x4_2.length < 2932031007402
           case neg => exact nN c34 H
           rw [if_pos c34] at H
           have LMc34 := aM c34
           clear c34
           obtain ⟨y167, hy167⟩ : ∃ y_ : List (S51), y_ = (x4_2 ++ [(⟨t158, t159, t160, t161, t162, t163⟩ : S51)]) := ⟨_, rfl⟩
           replace H : (if 0 ≤ x6_1 then (if x6_1 < (x5_2.length : Int) then ((qsA.f).bind fun t171 => (if 0 ≤ x7_2 then (if x7_2 ≤ (wrap64 (x7_2 + 1)) then (if (wrap64 (x7_2 + 1)) ≤ (t171.size : Int) then (if (rdOf ByteArray.empty x5_2 x6_1).size + (t171.extract (x7_2 : Int).toNat ((wrap64 (x7_2 + 1)) : Int).toNat).size ≤ 9223372036854775807 then (if x5_2.length < 8796093022208 then (qN.l1 k3 y167 (x5_2 ++ [(rdOf ByteArray.empty x5_2 x6_1) ++ (t171.extract (x7_2 : Int).toNat ((wrap64 (x7_2 + 1)) : Int).toNat)]) x6_1 (wrap64 (x7_2 + 1))) else (none)) else (none)) else (none)) else (none)) else (none))) else (none)) else (none)) = some (r1, r2) := by first | (rw [hy167]; with_reducible exact H) | (have H2_ := (Option.bind_some _ _).symm.trans H; rw [hy167]; with_reducible exact H2_) | (have H2_ := (Option.bind_some _ _).symm.trans H; with_reducible exact H2_) | with_reducible exact H | (rw [hy167]; exact H) | exact H
           have Ny167 := aM hy167
           clear hy167
           by_cases c35 : 0 ≤ x6_1
           case neg => exact nN c35 H
           rw [if_pos c35] at H
           have c35b0 := decide_eq_true c35
           clear c35
           by_cases c36 : x6_1 < (x5_2.length : Int)
           case neg => exact nN c36 H
           rw [if_pos c36] at H
           have c36b0 := decide_eq_true c36
           clear c36
           replace H := bO H
           obtain ⟨t171, A37, H⟩ := H
           by_cases c38 : 0 ≤ x7_2
           case neg => exact nN c38 H
           rw [if_pos c38] at H
           have c38b0 := eq_true c38
           have c38b1 := decide_eq_true c38
           clear c38
           by_cases c39 : x7_2 ≤ (wrap64 (x7_2 + 1))
           case neg => exact nN c39 H
           rw [if_pos c39] at H
           have c39b0 := eq_true c39
           have c39b1 := decide_eq_true c39
           by_cases c40 : (wrap64 (x7_2 + 1)) ≤ (t171.size : Int)
           case neg => exact nN c40 H
           rw [if_pos c40] at H
           have c40b0 := eq_true c40
           have c40b1 := decide_eq_true c40
           by_cases c41 : (rdOf ByteArray.empty x5_2 x6_1).size + (t171.extract (x7_2 : Int).toNat ((wrap64 (x7_2 + 1)) : Int).toNat).size ≤ 9223372036854775807
           case neg => exact nN c41 H
           rw [if_pos c41] at H
           have c41b0 := eq_true c41
           have c41b1 := decide_eq_true c41
           try have c41b2 : (9223372036854775807 < (rdOf ByteArray.empty x5_2 x6_1).size + (t171.extract (x7_2 : Int).toNat ((wrap64 (x7_2 + 1)) : Int).toNat).size) = False := eq_false (Nat.not_lt.2 c41)
           by_cases c42 : x5_2.length < 8796093022208
           case neg => exact nN c42 H
           rw [if_pos c42] at H
           have LMc42 := aM c42
           clear c42
           obtain ⟨y172, hy172⟩ : ∃ y_ : List ByteArray, y_ = (x5_2 ++ [(rdOf ByteArray.empty x5_2 x6_1) ++ (t171.extract (x7_2 : Int).toNat ((wrap64 (x7_2 + 1)) : Int).toNat)]) := ⟨_, rfl⟩
           replace H : (qN.l1 k3 y167 y172 x6_1 (wrap64 (x7_2 + 1))) = some (r1, r2) := by first | (rw [hy172]; with_reducible exact H) | (have H2_ := (Option.bind_some _ _).symm.trans H; rw [hy172]; with_reducible exact H2_) | (have H2_ := (Option.bind_some _ _).symm.trans H; with_reducible exact H2_) | with_reducible exact H | (rw [hy172]; exact H) | exact H
           have Ny172 := aM hy172
           clear hy172
           have H' := aM H
           clear H
           have hnb43 := NB164_150.out
           have hnc43 := NB150_164.out
           (refine cb6 BK164 ?_; intro _ _ _ _ _ _)
           (refine cz6 BK164 ?_; intro _ _ _ _ _ _)
           try go_wp2_with (first | ((with_reducible refine qEB (b := .append) (xs := #[.tmp 46, .tmp 48]) rfl ?_); at_builtin; refine Kd.qiD k51 (w0 := w) w.heap.size rfl (.tmp 46) (.tmp 48) 103 51 (.agg #[(.int .i64 0), (.int .i64 0), (.int .i64 0), (.int .i64 0), (.int .i64 0), (.int .i64 0)]) 48 rfl Tryz.underlying103 info51 rfl (by decide) (by omega) (.slice (some ad157) x4_2.length co14) x4_2 (⟨t158, t159, t160, t161, t162, t163⟩ : S51) [.int .i64 t158, .int .i64 t159, .int .i64 t160, .int .i64 t161, .int .i64 t162, .int .i64 t163] (fun k_ => k_ ≠ gb150 ∧ k_ ≠ gb164) (fun _ => False) rfl rfl ?aP (fun _ hk => hk.elim) ?aF ?aO ?aB ?aS ?aL ?_; (case aP => exact qeC _ _ _ (⟨t158, t159, t160, t161, t162, t163⟩ : S51)); (case aB => exact bl); (case aF => exact (fun k_ hk => ⟨Kd.freshB (rB BK150) k_ hk, Kd.freshB (rB BK164) k_ hk⟩)); (case aO => exact (rR HO_4)); (case aS => exact (qJ bl)); (case aL => have := LMc34.out; omega); intro v168 w45 ho hb hg hat; rw [← Ny167.out] at ho; have HO169 := aM (ho); replace HO_5 := aM (Kd.qXB (rR HO_5) (Kd.qIB (rR HO_4)) (by decide) hg); replace BK150 := aM (qn (rB BK150) hg (Kd.qVB HO_4.out (fun _ hk => hk.1))); replace BK164 := aM (qn (rB BK164) hg (Kd.qVB HO_4.out (fun _ hk => hk.2))); replace HB := aM (hb); clear HO_4; clear ho hb hg hat))
           replace HO_5 := aM (Kd.qS HO_5.out)
           replace HO169 := aM (Kd.qS HO169.out)
           replace BK150 := aM (qD BK150.out)
           replace BK164 := aM (qD BK164.out)
           replace HB := aM (qi HB.out)
           obtain ⟨Ao47, co47, eo47⟩ := Kd.qDA HO_5.out
           (first | subst eo47 | (injection eo47 with f1_ f2_ f3_; have f4_ := f1_.symm; have f5_ := f3_.symm; clear f1_ f2_ f3_; subst f4_; subst f5_))
           have p170 : 0 ≤ (x6_1 : Int) := of_decide_eq_true am
           have q170 : x6_1 < (x5_2.length : Int) := of_decide_eq_true am
           obtain ⟨ad170, e170, hx170_0⟩ := Kd.qvB (Kd.qO HO_5.out).2.2 x6_1 p170 q170
           cases e170
           replace p170 := eq_true p170
           replace q170 := eq_true q170
           refine qJB (n := 14) (S := fun w' => w'.cell? (ad170.add (x6_1).toNat) = some (.string (rdOf ByteArray.empty x5_2 x6_1))) (ds := [11, 12]) #[false, false, false, false, false, false, false, false, false, false, false, false, false, false] (by kernel_rfl) rfl rfl (hx170_0) (fun hHeld => ?_); refine qNA qN.tab17 qN.bits17 (fun HT_ HW_ => ?_)
           generalize w45.drew = w46 at HO_5 HO169 BK150 BK164 HB hx170_0 hHeld ⊢
           refine pS (i := 0) (N := some 50) #[true, false, false, false, false, false, false, false, false, false, false, false, false, false] HT_ ?_
           refine pS (i := 1) (N := some 51) #[true, true, false, false, false, false, false, false, false, false, false, false, false, false] HT_ ?_
           refine pS (i := 2) (N := some 52) #[true, true, true, false, false, false, false, false, false, false, false, false, false, false] HT_ ?_
           refine pS (i := 3) (N := some 53) #[true, true, true, true, false, false, false, false, false, false, false, false, false, false] HT_ ?_
           refine pS (i := 6) (N := some 56) #[true, true, true, true, false, false, true, false, false, false, false, false, false, false] HT_ ?_
           refine pS (i := 7) (N := some 57) #[true, true, true, true, false, false, true, true, false, false, false, false, false, false] HT_ ?_
           refine pS (i := 8) (N := some 58) #[true, true, true, true, false, false, true, true, true, false, false, false, false, false] HT_ ?_
           refine tS (i := 4) (N := some 54) #[true, true, true, true, true, false, true, true, true, false, false, false, false, false] HT_ HW_ hHeld ?_
           refine one_ (i := 5) (N := some 55) #[true, true, true, true, true, true, true, true, true, false, false, false, false, false] rfl rfl (qcA HT_.out (by kernel_rfl)) (by decide) (fun K hK => ?_)
           refine goes_ Tryz.func67 (by kernel_rfl) rfl #[] (by rfl) rfl rfl gA ?_
           with_reducible refine (qsA.calls  t171 _ A37.out).mono ?_
           rintro e w' ⟨rfl, ⟨nd, rfl⟩⟩
           refine ⟨_, rfl, ?_⟩
           refine hK.out _ _ (hHeld) (fun hHeld => ?_)
           clear hK K
           refine norm_ (a' := ?_) ?_ ?_
           rotate_left
           ·show Act.put _ (some 55) _ = _
            simp only [Act.put, List.setIfInBounds_toArray, List.set_cons_zero, List.set_cons_succ, i64_w, i32_w]
            rfl
           refine pS (i := 9) (N := some 59) #[true, true, true, true, true, true, true, true, true, true, false, false, false, false] HT_ ?_
           refine pS (i := 10) (N := some 60) #[true, true, true, true, true, true, true, true, true, true, true, false, false, false] HT_ ?_
           refine last_ (i := 11) (N := some 61) #[true, true, true, true, true, true, true, true, true, true, true, true, false, false] rfl rfl (qcA HT_.out (by kernel_rfl)) (by decide) (fun K hK => ?_)
           refine qfB (w1 := ?_) (v := ?_) (by rfl) rfl ?_ ?_
           rotate_left 2
           ·go_simp
            constructor
            ·rfl
            ·rfl
           refine hK.out _ _ ?_
           clear hK K
           refine norm_ (a' := ?_) ?_ ?_
           rotate_left
           ·show Act.put _ (some 61) _ = _
            simp only [Act.put, List.setIfInBounds_toArray, List.set_cons_zero, List.set_cons_succ, i64_w, i32_w]
            rfl
           refine last_ (i := 12) (N := some 62) #[true, true, true, true, true, true, true, true, true, true, true, true, true, false] rfl rfl (qcA HT_.out (by kernel_rfl)) (by decide) (fun K hK => ?_)
           refine Kd.R_append_step Kd.string (w0 := w) w.heap.size (by rfl) (.tmp 50) (.tmp 61) 61 9 (.string ⟨#[]⟩) 16 rfl Tryz.underlying61 info9 rfl (by decide) (by omega) (.slice (some ad170) x5_2.length co47) x5_2 ((rdOf ByteArray.empty x5_2 x6_1) ++ (t171.extract (x7_2 : Int).toNat ((wrap64 (x7_2 + 1)) : Int).toNat)) [.string ((rdOf ByteArray.empty x5_2 x6_1) ++ (t171.extract (x7_2 : Int).toNat ((wrap64 (x7_2 + 1)) : Int).toNat))] (fun _ => True) (fun _ => False) rfl rfl ?aP (fun _ hk => hk.elim) ?aF ?aO ?aB ?aS ?aL ?_
           (case aP => exact rfl)
           (case aB => exact bl)
           (case aF => exact (fun _ _ => trivial))
           (case aO => exact (rR HO_5))
           (case aS => exact (qJ bl))
           (case aL => have := LMc42.out; omega)
           intro v173 w48 ho hb hg hat
           rw [← Ny172.out] at ho
           have HO174 := aM (ho)
           replace BK150 := aM (qn (rB BK150) hg (Kd.R_ne HO_5.out BK150.out (by decide)))
           replace BK164 := aM (qn (rB BK164) hg (Kd.R_ne HO_5.out BK164.out (by decide)))
           replace HO169 := aM (Kd.qXB (rR HO169) (Kd.qIB (rR HO_5)) (by decide) hg)
           replace HB := aM (hb)
           clear HO_5
           clear ho hb hg hat
           refine hK.out _ _ ?_
           clear hK K
           refine norm_ (a' := ?_) ?_ ?_
           rotate_left
           ·show Act.put _ (some 62) _ = _
            simp only [Act.put, List.setIfInBounds_toArray, List.set_cons_zero, List.set_cons_succ, i64_w, i32_w]
            rfl
           refine pS (i := 13) (N := some 5) #[true, true, true, true, true, true, true, true, true, true, true, true, true, true] HT_ ?_
           refine done_ (qvA HT_.out (by kernel_rfl)) ?_
           try go_wp2
           go_roundg k3
           case measure => have := HK1.out; have := HK2.out; have := HK3.out; omega
           case rel => exact ⟨(y167), (y172), (wrap64 (x7_2 + 1)), sD, H', ⟨by have := HK1.out; have := HK2.out; have := HK3.out; omega⟩, ⟨by (with_reducible repeat (first | apply Kd.qQ | apply Kd.qR | apply Kd.qS)); exact Kd.qa HO169.out (fun _ hk => hk.1)⟩, ⟨rR HO174⟩, ⟨rB BK150⟩, ⟨bl⟩⟩
      ·rw [if_neg c10] at H
       have c10b0 := decide_eq_false c10
       clear c10
       have H' := aM H
       clear H
       go_wp2
       go_roundg k2
       case measure => have := HK1.out; have := HK2.out; omega
       case rel => exact ⟨(x4_2), (x5_2), (wrap64 (x6_1 + 1)), sD, H', ⟨by have := HK1.out; have := HK2.out; omega⟩, ⟨rR HO_4⟩, ⟨rR HO_5⟩, ⟨rB BK150⟩, ⟨bl⟩⟩
   ·rw [if_neg c8] at H
    have c8b0 := decide_eq_false c8
    clear c8
    simp only [Option.some.injEq, Prod.mk.injEq] at H
    obtain ⟨rfl, rfl⟩ := H
    obtain ⟨Ao49, co49, eo49⟩ := Kd.qDA HO_4.out
    subst eo49
    go_wp2
    go_ret2
    exact ⟨_, _, sR, by (with_reducible repeat (first | apply Kd.qQ | apply Kd.qR | apply Kd.qS)); exact Kd.qa HO_4.out (fun _ hk => trivial), by (with_reducible repeat (first | apply Kd.qQ | apply Kd.qR | apply Kd.qS)); exact HO_5.out, bl⟩
end Go.Proofs.YthhiiceligjleaaGreatDoor.P
namespace Go.Proofs.YthhiiceligjleaaGreatDoor.P
open Go.RowKit Go.Proofs.YthhiiceligjleaaGreatDoorW.PrintWords Go.Proofs.YthhiiceligjleaaGreatDoorW.PrintLast Go.Proofs.YthhiiceligjleaaGreatDoorW.PrintMore
attribute [local go_sem] qh qf qr qq qZ qY qg qe
set_option linter.unusedVariables false
set_option linter.unusedSimpArgs false
def qj.l0 : Nat → List Int → List Int → Int → Int → Option (Bool)
 | 0, _, _, _, _ => none
 | k + 1, x9, x11, x13, x14 => if x14 < x13 then (if 0 ≤ x14 then (if x14 < (x9.length : Int) then (if x14 < (x11.length : Int) then (if (rd x9 x14) = (rd x11 x14) then (qj.l0 k x9 x11 x13 (wrap64 (x14 + 1))) else (some (decide ((rd x9 x14) < (rd x11 x14))))) else (none)) else (none)) else (none)) else (some false)
def qj.f (k : Nat) (a0_0 : Int) (a0_1 : Int) (a0_2 : Int) (a0_3 : Int) (a0_4 : Int) (a0_5 : Int) (a1_0 : Int) (a1_1 : Int) (a1_2 : Int) (a1_3 : Int) (a1_4 : Int) (a1_5 : Int) : Option (Bool) := (qQA.f a0_0 a0_1 a0_2 a0_3 a0_4 a0_5).bind fun t177 => ((qQA.f a1_0 a1_1 a1_2 a1_3 a1_4 a1_5).bind fun t180 => (qj.l0 k t177 t180 (t177.length : Int) 0))
def qj.T5 : Bool × List (List Nat × List Nat) := (true, [([], []), ([], []), ([0, 1], [0, 1]), ([2], [2]), ([], []), ([], []), ([4, 5], [4, 5]), ([6], [6]), ([3, 7], [3, 7])])
def qj.B5 : List Nat := [0, 0, 3, 7, 0, 0, 48, 112, 255]
theorem qj.tab5 : rtab .any (opsOf Tryz.f80 5) = qj.T5 := by kernel_rfl
theorem qj.bits5 : waitsOk qj.T5.2 qj.B5 = true := by kernel_rfl
def qj.T6 : Bool × List (List Nat × List Nat) := (true, [([], []), ([], []), ([0, 1], [0, 1]), ([2], [2]), ([], []), ([], []), ([4, 5], [4, 5]), ([6], [6]), ([3, 7], [3, 7]), ([8, 0, 1, 2, 3, 4, 5, 6, 7, 8], [8])])
def qj.B6 : List Nat := [0, 0, 3, 7, 0, 0, 48, 112, 255, 511]
theorem qj.tab6 : rtab .any (opsOf Tryz.f80 6) = qj.T6 := by kernel_rfl
theorem qj.bits6 : waitsOk qj.T6.2 qj.B6 = true := by kernel_rfl
set_option maxHeartbeats 8000000 in
set_option maxRecDepth 100000 in
theorem qj.calls (k : Nat) (a0_0 : Int) (a0_1 : Int) (a0_2 : Int) (a0_3 : Int) (a0_4 : Int) (a0_5 : Int) (a1_0 : Int) (a1_1 : Int) (a1_2 : Int) (a1_3 : Int) (a1_4 : Int) (a1_5 : Int) (r : Bool) (w : World) (h : qj.f k a0_0 a0_1 a0_2 a0_3 a0_4 a0_5 a1_0 a1_1 a1_2 a1_3 a1_4 a1_5 = some r) :
  Calls Tryz.prog 80 #[.agg #[.int .i64 a0_0, .int .i64 a0_1, .int .i64 a0_2, .int .i64 a0_3, .int .i64 a0_4, .int .i64 a0_5], .agg #[.int .i64 a1_0, .int .i64 a1_1, .int .i64 a1_2, .int .i64 a1_3, .int .i64 a1_4, .int .i64 a1_5]] w fun e w' => e = .returned (.bool r) ∧ Below w.heap.size w w' := by
 have hu51 := Tryz.underlying51
 have HB := aM (Below.refl w.heap.size w)
 have H : ((qQA.f a0_0 a0_1 a0_2 a0_3 a0_4 a0_5).bind fun t177 => ((qQA.f a1_0 a1_1 a1_2 a1_3 a1_4 a1_5).bind fun t180 => (qj.l0 k t177 t180 (t177.length : Int) 0))) = some r := h
 clear h
 replace H := bO H
 obtain ⟨t177, A3, H⟩ := H
 replace H := bO H
 obtain ⟨t180, A4, H⟩ := H
 have H' := aM H
 clear H
 go_enter Tryz.func80, Tryz.ntmps80
 try go_wp2_with (first | ((with_reducible refine qH (N := 2) rfl ?_); refine bE (N := 2) (cs := #[.int .i64 a0_0, .int .i64 a0_1, .int .i64 a0_2, .int .i64 a0_3, .int .i64 a0_4, .int .i64 a0_5]) (t := 51) ?_; intro gb175 hg w5 hbox hb; have BK175 := aM (hbox); have GW175 := aM ((gg hg)); have GE175 := aM ((gg hg)); replace HB := aM (qB bl hb); clear hb hbox hg) | ((with_reducible refine qH (N := 3) rfl ?_); refine bE (N := 3) (cs := #[.int .i64 a1_0, .int .i64 a1_1, .int .i64 a1_2, .int .i64 a1_3, .int .i64 a1_4, .int .i64 a1_5]) (t := 51) ?_; intro gb176 hg w6 hbox hb; have BK176 := aM (hbox); have GW176 := aM ((gg hg)); have GE176 := aM ((gg hg)); have NB175_176 := aM ((nl BK175 hg)); have NB176_175 := aM ((nr BK175 hg)); replace BK175 := aM (bb BK175 hb); replace HB := aM (qB bl hb); clear hb hbox hg))
 replace BK175 := aM (qD BK175.out)
 replace BK176 := aM (qD BK176.out)
 replace HB := aM (qi HB.out)
 refine qJB (n := 6) (S := fun w' => w'.cell? ⟨gb175, 0, none⟩ = some (.int .i64 a0_0) ∧ w'.cell? ⟨gb175, 1, none⟩ = some (.int .i64 a0_1) ∧ w'.cell? ⟨gb175, 2, none⟩ = some (.int .i64 a0_2) ∧ w'.cell? ⟨gb175, 3, none⟩ = some (.int .i64 a0_3) ∧ w'.cell? ⟨gb175, 4, none⟩ = some (.int .i64 a0_4) ∧ w'.cell? ⟨gb175, 5, none⟩ = some (.int .i64 a0_5) ∧ w'.cell? ⟨gb176, 0, none⟩ = some (.int .i64 a1_0) ∧ w'.cell? ⟨gb176, 1, none⟩ = some (.int .i64 a1_1) ∧ w'.cell? ⟨gb176, 2, none⟩ = some (.int .i64 a1_2) ∧ w'.cell? ⟨gb176, 3, none⟩ = some (.int .i64 a1_3) ∧ w'.cell? ⟨gb176, 4, none⟩ = some (.int .i64 a1_4) ∧ w'.cell? ⟨gb176, 5, none⟩ = some (.int .i64 a1_5)) (ds := []) #[false, false, false, false, false, false] (by kernel_rfl) rfl rfl ⟨bc BK175 0, bc BK175 1, bc BK175 2, bc BK175 3, bc BK175 4, bc BK175 5, bc BK176 0, bc BK176 1, bc BK176 2, bc BK176 3, bc BK176 4, bc BK176 5⟩ (fun hHeld => ?_)
 generalize w6.drew = w7 at BK175 BK176 HB hHeld ⊢
 refine take_ (i := 0) (N := some 8) (v := ?_) (a' := ?_) #[true, false, false, false, false, false] rfl rfl (by kernel_rfl) (fun _ _ _ h => h) (Or.inl ⟨by rfl, ?_⟩) hHeld ?_ ?_
 rotate_left
 ·rintro w' ⟨s0, s1, s2, s3, s4, s5, s6, s7, s8, s9, s10, s11⟩
  go_simp
  first | (with_reducible rfl) | (rw [if_neg (by simp only [ByteArray.size_extract, ByteArray.size_append] at * <;> omega)]; try with_reducible rfl)
 rotate_left
 ·simp only [Act.put, List.setIfInBounds_toArray, List.set_cons_zero, List.set_cons_succ, i64_w, i32_w]
  rfl
 refine take_ (i := 2) (N := some 10) (v := ?_) (a' := ?_) #[true, false, true, false, false, false] rfl rfl (by kernel_rfl) (fun _ _ _ h => h) (Or.inl ⟨by rfl, ?_⟩) hHeld ?_ ?_
 rotate_left
 ·rintro w' ⟨s0, s1, s2, s3, s4, s5, s6, s7, s8, s9, s10, s11⟩
  go_simp
  first | (with_reducible rfl) | (rw [if_neg (by simp only [ByteArray.size_extract, ByteArray.size_append] at * <;> omega)]; try with_reducible rfl)
 rotate_left
 ·simp only [Act.put, List.setIfInBounds_toArray, List.set_cons_zero, List.set_cons_succ, i64_w, i32_w]
  rfl
 refine one_ (i := 1) (N := some 9) #[true, true, true, false, false, false] rfl rfl (by kernel_rfl) (by decide) (fun K hK => ?_)
 refine goes_ Tryz.func78 (by kernel_rfl) rfl #[.agg #[.int .i64 a0_0, .int .i64 a0_1, .int .i64 a0_2, .int .i64 a0_3, .int .i64 a0_4, .int .i64 a0_5]] (by rfl) rfl rfl gA ?_
 with_reducible refine (qQA.calls a0_0 a0_1 a0_2 a0_3 a0_4 a0_5 t177 _ A3.out).mono ?_
 rintro e w8 ⟨v178, rfl, ho0, hb⟩
 refine ⟨_, rfl, ?_⟩
 have HO179 := aM (Kd.qz ho0 (qJ bl))
 replace BK175 := aM (bb BK175 hb)
 replace BK176 := aM (bb BK176 hb)
 replace HB := aM (qB bl hb); (try clear hb); (try clear hb2); (try clear hk); (try clear hi); (try clear ho0)
 refine hK.out _ _ ⟨bc BK175 0, bc BK175 1, bc BK175 2, bc BK175 3, bc BK175 4, bc BK175 5, bc BK176 0, bc BK176 1, bc BK176 2, bc BK176 3, bc BK176 4, bc BK176 5⟩ (fun hHeld => ?_)
 clear hK K
 refine norm_ (a' := ?_) ?_ ?_
 rotate_left
 ·show Act.put _ (some 9) _ = _
  simp only [Act.put, List.setIfInBounds_toArray, List.set_cons_zero, List.set_cons_succ, i64_w, i32_w]
  rfl
 refine one_ (i := 3) (N := some 11) #[true, true, true, true, false, false] rfl rfl (by kernel_rfl) (by decide) (fun K hK => ?_)
 refine goes_ Tryz.func78 (by kernel_rfl) rfl #[.agg #[.int .i64 a1_0, .int .i64 a1_1, .int .i64 a1_2, .int .i64 a1_3, .int .i64 a1_4, .int .i64 a1_5]] (by rfl) rfl rfl gA ?_
 with_reducible refine (qQA.calls a1_0 a1_1 a1_2 a1_3 a1_4 a1_5 t180 _ A4.out).mono ?_
 rintro e w9 ⟨v181, rfl, ho0, hb⟩
 refine ⟨_, rfl, ?_⟩
 have HO182 := aM (Kd.qz (Kd.qBB ho0 (Kd.R_lt (rR HO179))) (qJ bl))
 replace HO179 := aM (Kd.qPA (rR HO179) (Kd.qkA ho0) hb)
 replace BK175 := aM (bb BK175 hb)
 replace BK176 := aM (bb BK176 hb)
 replace HB := aM (qB bl hb); (try clear hb); (try clear hb2); (try clear hk); (try clear hi); (try clear ho0)
 refine hK.out _ _ ⟨bc BK175 0, bc BK175 1, bc BK175 2, bc BK175 3, bc BK175 4, bc BK175 5, bc BK176 0, bc BK176 1, bc BK176 2, bc BK176 3, bc BK176 4, bc BK176 5⟩ (fun hHeld => ?_)
 clear hK K
 refine norm_ (a' := ?_) ?_ ?_
 rotate_left
 ·show Act.put _ (some 11) _ = _
  simp only [Act.put, List.setIfInBounds_toArray, List.set_cons_zero, List.set_cons_succ, i64_w, i32_w]
  rfl
 refine pure_ (i := 4) (N := some 5) (v := ?_) (a' := ?_) #[true, true, true, true, true, false] rfl rfl (by kernel_rfl) (fun _ _ _ h => h) (Or.inl ⟨by rfl, ?_⟩) ?_ ?_
 rotate_left
 ·intro w'
  go_simp
  first | (with_reducible rfl) | (rw [if_neg (by simp only [ByteArray.size_extract, ByteArray.size_append] at * <;> omega)]; try with_reducible rfl)
 rotate_left
 ·simp only [Act.put, List.setIfInBounds_toArray, List.set_cons_zero, List.set_cons_succ, i64_w, i32_w]
  rfl
 refine pure_ (i := 5) (N := some 6) (v := ?_) (a' := ?_) #[true, true, true, true, true, true] rfl rfl (by kernel_rfl) (fun _ _ _ h => h) (Or.inl ⟨by rfl, ?_⟩) ?_ ?_
 rotate_left
 ·intro w'
  go_simp
  first | (with_reducible rfl) | (rw [if_neg (by simp only [ByteArray.size_extract, ByteArray.size_append] at * <;> omega)]; try with_reducible rfl)
 rotate_left
 ·simp only [Act.put, List.setIfInBounds_toArray, List.set_cons_zero, List.set_cons_succ, i64_w, i32_w]
  rfl
 refine done_ (by kernel_rfl) ?_
 obtain ⟨Ao10, co10, eo10⟩ := Kd.qDA HO179.out
 subst eo10
 try go_wp2
 go_loopg [14] k (fun kq v14 w' => ∃ (x14_1 : Int), v14 = .int .i64 x14_1 ∧ Aside0 (qj.l0 kq t177 t180 (t177.length : Int) x14_1 = some r) ∧ Aside0 (kq ≤ k) ∧ Aside0 (Kd.R (Kd.int .i64) 3 w' w.heap.size (fun k_ => some k_ ≠ (v181 : Value).ownBlock) (.slice Ao10 t177.length co10) t177) ∧ Aside0 (Kd.R (Kd.int .i64) 3 w' w.heap.size (fun k_ => some k_ ≠ ((.slice Ao10 t177.length co10) : Value).ownBlock) v181 t180) ∧ Aside0 (w'.heap[gb175]? = some (.cells #[.int .i64 a0_0, .int .i64 a0_1, .int .i64 a0_2, .int .i64 a0_3, .int .i64 a0_4, .int .i64 a0_5] 51 (0, 0))) ∧ Aside0 (w'.heap[gb176]? = some (.cells #[.int .i64 a1_0, .int .i64 a1_1, .int .i64 a1_2, .int .i64 a1_3, .int .i64 a1_4, .int .i64 a1_5] 51 (0, 0))) ∧ Aside0 (Below w.heap.size w w'))
 case atStart => exact ⟨(0), sD, H', ⟨Nat.le_refl _⟩, ⟨by (with_reducible repeat (first | apply Kd.qQ | apply Kd.qR | apply Kd.qS)); exact Kd.qa HO179.out (fun _ hk => hk.2)⟩, ⟨by (with_reducible repeat (first | apply Kd.qQ | apply Kd.qR | apply Kd.qS)); exact Kd.qa HO182.out (fun _ hk => hk.2)⟩, ⟨rB BK175⟩, ⟨rB BK176⟩, ⟨bl⟩⟩
 case round =>
  clear H'; (try clear p2); (try clear c7); (try clear c8)
  obtain ⟨x14_1, rfl, HA, HK1, HO_9, HO_11, BK175, BK176, HB⟩ := hrel
  cases gk with
  | zero => exact absurd HA.out (by simp [qj.l0])
  | succ k1 =>
   have H := HA.out
   clear HA
   simp only [qj.l0] at H
   by_cases c11 : x14_1 < (t177.length : Int)
   ·rw [if_pos c11] at H
    have c11b0 := decide_eq_true c11
    clear c11
    by_cases c12 : 0 ≤ x14_1
    case neg => exact nN c12 H
    rw [if_pos c12] at H
    have c12b0 := decide_eq_true c12
    clear c12
    by_cases c13 : x14_1 < (t177.length : Int)
    case neg => exact nN c13 H
    rw [if_pos c13] at H
    have c13b0 := decide_eq_true c13
    clear c13
    by_cases c14 : x14_1 < (t180.length : Int)
    case neg => exact nN c14 H
    rw [if_pos c14] at H
    have c14b0 := decide_eq_true c14
    clear c14
    by_cases c15 : (rd t177 x14_1) = (rd t180 x14_1)
    ·rw [if_pos c15] at H
     have c15b0 := beq_iff_eq.mpr c15
     have c15b1 := bne_eq_false_iff_eq.mpr c15
     clear c15
     have H' := aM H
     clear H
     try go_wp2
     replace HO_9 := aM (Kd.qS HO_9.out)
     replace HO_11 := aM (Kd.qS HO_11.out)
     replace BK175 := aM (qD BK175.out)
     replace BK176 := aM (qD BK176.out)
     replace HB := aM (qi HB.out)
     have p183 : 0 ≤ (x14_1 : Int) := of_decide_eq_true am
     have q183 : x14_1 < (t177.length : Int) := of_decide_eq_true am
     obtain ⟨ad183, e183, hx183_0⟩ := Kd.qHB (Kd.qO HO_9.out).2.2 x14_1 p183 q183
     cases e183
     replace p183 := eq_true p183
     replace q183 := eq_true q183
     obtain ⟨Ao17, co17, eo17⟩ := Kd.qDA HO_11.out
     (first | subst eo17 | (injection eo17 with f1_ f2_ f3_; have f4_ := f1_.symm; have f5_ := f3_.symm; clear f1_ f2_ f3_; subst f4_; subst f5_))
     have p184 : 0 ≤ (x14_1 : Int) := of_decide_eq_true am
     have q184 : x14_1 < (t180.length : Int) := of_decide_eq_true am
     obtain ⟨ad184, e184, hx184_0⟩ := Kd.qHB (Kd.qO HO_11.out).2.2 x14_1 p184 q184
     cases e184
     replace p184 := eq_true p184
     replace q184 := eq_true q184
     refine qJB (n := 9) (S := fun w' => w'.cell? (ad183.add (x14_1).toNat) = some (.int .i64 (rd t177 x14_1)) ∧ w'.cell? (ad184.add (x14_1).toNat) = some (.int .i64 (rd t180 x14_1))) (ds := []) #[false, false, false, false, false, false, false, false, false] (by kernel_rfl) rfl rfl ⟨hx183_0, hx184_0⟩ (fun hHeld => ?_); refine qNA qj.tab5 qj.bits5 (fun HT_ HW_ => ?_)
     generalize wr.drew = w16 at HO_9 HO_11 BK175 BK176 HB hx183_0 hx184_0 hHeld ⊢
     refine pS (i := 0) (N := some 17) #[true, false, false, false, false, false, false, false, false] HT_ ?_
     refine pS (i := 1) (N := some 18) #[true, true, false, false, false, false, false, false, false] HT_ ?_
     refine pS (i := 2) (N := some 19) #[true, true, true, false, false, false, false, false, false] HT_ ?_
     refine pS (i := 4) (N := some 21) #[true, true, true, false, true, false, false, false, false] HT_ ?_
     refine pS (i := 5) (N := some 22) #[true, true, true, false, true, true, false, false, false] HT_ ?_
     refine pS (i := 6) (N := some 23) #[true, true, true, false, true, true, true, false, false] HT_ ?_
     refine tS (i := 3) (N := some 20) #[true, true, true, true, true, true, true, false, false] HT_ HW_ hHeld ?_
     refine tS (i := 7) (N := some 24) #[true, true, true, true, true, true, true, true, false] HT_ HW_ hHeld ?_
     refine pS (i := 8) (N := some 25) #[true, true, true, true, true, true, true, true, true] HT_ ?_
     refine done_ (qvA HT_.out (by kernel_rfl)) ?_
     try go_wp2
     go_roundg k1
     case measure => have := HK1.out; omega
     case rel => exact ⟨(wrap64 (x14_1 + 1)), sD, H', ⟨by have := HK1.out; omega⟩, ⟨rR HO_9⟩, ⟨rR HO_11⟩, ⟨rB BK175⟩, ⟨rB BK176⟩, ⟨bl⟩⟩
    ·rw [if_neg c15] at H
     have c15b0 := beq_eq_false_iff_ne.mpr c15
     have c15b1 := bne_iff_ne.mpr c15
     obtain rfl := Option.some.inj H
     try go_wp2
     replace HO_9 := aM (Kd.qS HO_9.out)
     replace HO_11 := aM (Kd.qS HO_11.out)
     replace BK175 := aM (qD BK175.out)
     replace BK176 := aM (qD BK176.out)
     replace HB := aM (qi HB.out)
     have p183 : 0 ≤ (x14_1 : Int) := of_decide_eq_true am
     have q183 : x14_1 < (t177.length : Int) := of_decide_eq_true am
     obtain ⟨ad183, e183, hx183_0⟩ := Kd.qHB (Kd.qO HO_9.out).2.2 x14_1 p183 q183
     cases e183
     replace p183 := eq_true p183
     replace q183 := eq_true q183
     obtain ⟨Ao19, co19, eo19⟩ := Kd.qDA HO_11.out
     (first | subst eo19 | (injection eo19 with f1_ f2_ f3_; have f4_ := f1_.symm; have f5_ := f3_.symm; clear f1_ f2_ f3_; subst f4_; subst f5_))
     have p184 : 0 ≤ (x14_1 : Int) := of_decide_eq_true am
     have q184 : x14_1 < (t180.length : Int) := of_decide_eq_true am
     obtain ⟨ad184, e184, hx184_0⟩ := Kd.qHB (Kd.qO HO_11.out).2.2 x14_1 p184 q184
     cases e184
     replace p184 := eq_true p184
     replace q184 := eq_true q184
     refine qJB (n := 9) (S := fun w' => w'.cell? (ad183.add (x14_1).toNat) = some (.int .i64 (rd t177 x14_1)) ∧ w'.cell? (ad184.add (x14_1).toNat) = some (.int .i64 (rd t180 x14_1))) (ds := []) #[false, false, false, false, false, false, false, false, false] (by kernel_rfl) rfl rfl ⟨hx183_0, hx184_0⟩ (fun hHeld => ?_); refine qNA qj.tab5 qj.bits5 (fun HT_ HW_ => ?_)
     generalize wr.drew = w18 at HO_9 HO_11 BK175 BK176 HB hx183_0 hx184_0 hHeld ⊢
     refine pS (i := 0) (N := some 17) #[true, false, false, false, false, false, false, false, false] HT_ ?_
     refine pS (i := 1) (N := some 18) #[true, true, false, false, false, false, false, false, false] HT_ ?_
     refine pS (i := 2) (N := some 19) #[true, true, true, false, false, false, false, false, false] HT_ ?_
     refine pS (i := 4) (N := some 21) #[true, true, true, false, true, false, false, false, false] HT_ ?_
     refine pS (i := 5) (N := some 22) #[true, true, true, false, true, true, false, false, false] HT_ ?_
     refine pS (i := 6) (N := some 23) #[true, true, true, false, true, true, true, false, false] HT_ ?_
     refine tS (i := 3) (N := some 20) #[true, true, true, true, true, true, true, false, false] HT_ HW_ hHeld ?_
     refine tS (i := 7) (N := some 24) #[true, true, true, true, true, true, true, true, false] HT_ HW_ hHeld ?_
     refine pS (i := 8) (N := some 25) #[true, true, true, true, true, true, true, true, true] HT_ ?_
     refine done_ (qvA HT_.out (by kernel_rfl)) ?_
     try go_wp2
     replace HO_9 := aM (Kd.qS HO_9.out)
     replace HO_11 := aM (Kd.qS HO_11.out)
     replace BK175 := aM (qD BK175.out)
     replace BK176 := aM (qD BK176.out)
     replace HB := aM (qi HB.out)
     have p185 : 0 ≤ (x14_1 : Int) := of_decide_eq_true am
     have q185 : x14_1 < (t177.length : Int) := of_decide_eq_true am
     obtain ⟨ad185, e185, hx185_0⟩ := Kd.qHB (Kd.qO HO_9.out).2.2 x14_1 p185 q185
     obtain rfl : ad183 = ad185 := (by injection e185)
     replace p185 := eq_true p185
     replace q185 := eq_true q185
     have p186 : 0 ≤ (x14_1 : Int) := of_decide_eq_true am
     have q186 : x14_1 < (t180.length : Int) := of_decide_eq_true am
     obtain ⟨ad186, e186, hx186_0⟩ := Kd.qHB (Kd.qO HO_11.out).2.2 x14_1 p186 q186
     obtain rfl : ad184 = ad186 := (by injection e186)
     replace p186 := eq_true p186
     replace q186 := eq_true q186
     refine qJB (n := 10) (S := fun w' => w'.cell? (ad183.add (x14_1).toNat) = some (.int .i64 (rd t177 x14_1)) ∧ w'.cell? (ad184.add (x14_1).toNat) = some (.int .i64 (rd t180 x14_1))) (ds := []) #[false, false, false, false, false, false, false, false, false, false] (by kernel_rfl) rfl rfl ⟨hx185_0, hx186_0⟩ (fun hHeld => ?_); refine qNA qj.tab6 qj.bits6 (fun HT_ HW_ => ?_)
     generalize w18.drew = w20 at HO_9 HO_11 BK175 BK176 HB hx185_0 hx186_0 hHeld ⊢
     refine pS (i := 0) (N := some 26) #[true, false, false, false, false, false, false, false, false, false] HT_ ?_
     refine pS (i := 1) (N := some 27) #[true, true, false, false, false, false, false, false, false, false] HT_ ?_
     refine pS (i := 2) (N := some 28) #[true, true, true, false, false, false, false, false, false, false] HT_ ?_
     refine pS (i := 4) (N := some 30) #[true, true, true, false, true, false, false, false, false, false] HT_ ?_
     refine pS (i := 5) (N := some 31) #[true, true, true, false, true, true, false, false, false, false] HT_ ?_
     refine pS (i := 6) (N := some 32) #[true, true, true, false, true, true, true, false, false, false] HT_ ?_
     refine tS (i := 3) (N := some 29) #[true, true, true, true, true, true, true, false, false, false] HT_ HW_ hHeld ?_
     refine tS (i := 7) (N := some 33) #[true, true, true, true, true, true, true, true, false, false] HT_ HW_ hHeld ?_
     refine pS (i := 8) (N := some 34) #[true, true, true, true, true, true, true, true, true, false] HT_ ?_
     refine pS (i := 9) (N := some 4) #[true, true, true, true, true, true, true, true, true, true] HT_ ?_
     refine done_ (qvA HT_.out (by kernel_rfl)) ?_
     try go_wp2
     go_ret
     exact ⟨sR, bl⟩
   ·rw [if_neg c11] at H
    have c11b0 := decide_eq_false c11
    clear c11
    obtain rfl := Option.some.inj H
    go_wp2
    go_ret
    exact ⟨sR, bl⟩
end Go.Proofs.YthhiiceligjleaaGreatDoor.P
