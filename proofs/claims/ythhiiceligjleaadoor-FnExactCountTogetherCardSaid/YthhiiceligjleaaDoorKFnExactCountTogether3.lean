/- The program's CountTogether returns what the reference's returns, for all texts and dice (the law lets longer texts and lists by). No further condition. -/
import Derived.Test.YthhiiceligjleaaDoorKFnExactCountTogether2
import Derived.Deep.MidRow
import Derived.Lib.SlBuf
import Derived.Maps.OwnSet
import Derived.DeepKeys4
import Derived.Shelf.SlGeneric
import Derived.Shelf.Small.Strs
import Derived.Shelf.Strings.Search1
import Derived.Ground.NamesProg
import Derived.Shelf.Strings.Split
import Derived.Shelf.Strings.Count
import Derived.Shelf.Strings.SlTrimAscii
import Derived.Test.YthhiiceligjleaaDoorProg
import Derived.Lib.Strings
import Derived.Lib.SplitLaws
import Derived.Lib.SliceRun

namespace Go.Proofs.YthhiiceligjleaaDoor.P
open Go.RowKit Go.Proofs.YthhiiceligjleaaDoorW.PrintWords Go.Proofs.YthhiiceligjleaaDoorW.PrintLast Go.Proofs.YthhiiceligjleaaDoorW.PrintMore
attribute [local go_sem] qn ql qw qv qc qb qm qk
set_option linter.unusedVariables false
set_option linter.unusedSimpArgs false
def qkB.f (a0_0 : Int) (a0_1 : Int) (a0_2 : Int) (a0_3 : Int) (a0_4 : Int) (a0_5 : Int) (a1_0 : Int) (a1_1 : Int) (a1_2 : Int) (a1_3 : Int) (a1_4 : Int) (a1_5 : Int) : Option (Bool) := if a0_0 = a1_0 then (if a0_1 = a1_1 then (if a0_2 = a1_2 then (if a0_3 = a1_3 then (if a0_4 = a1_4 then (if a0_5 = a1_5 then (some true) else (some false)) else (some false)) else (some false)) else (some false)) else (some false)) else (some false)
set_option maxHeartbeats 8000000 in
set_option maxRecDepth 100000 in
theorem qkB.calls (a0_0 : Int) (a0_1 : Int) (a0_2 : Int) (a0_3 : Int) (a0_4 : Int) (a0_5 : Int) (a1_0 : Int) (a1_1 : Int) (a1_2 : Int) (a1_3 : Int) (a1_4 : Int) (a1_5 : Int) (r : Bool) (w : World) (h : qkB.f a0_0 a0_1 a0_2 a0_3 a0_4 a0_5 a1_0 a1_1 a1_2 a1_3 a1_4 a1_5 = some r) :
  Calls Tryd.prog 25 #[.agg #[.int .i64 a0_0, .int .i64 a0_1, .int .i64 a0_2, .int .i64 a0_3, .int .i64 a0_4, .int .i64 a0_5], .agg #[.int .i64 a1_0, .int .i64 a1_1, .int .i64 a1_2, .int .i64 a1_3, .int .i64 a1_4, .int .i64 a1_5]] w fun e w' => e = .returned (.bool r) ∧ Below w.heap.size w w' := by
 have hu39 := Tryd.underlying39
 have HB := aM (Below.refl w.heap.size w)
 have H : (if a0_0 = a1_0 then (if a0_1 = a1_1 then (if a0_2 = a1_2 then (if a0_3 = a1_3 then (if a0_4 = a1_4 then (if a0_5 = a1_5 then (some true) else (some false)) else (some false)) else (some false)) else (some false)) else (some false)) else (some false)) = some r := h
 clear h
 by_cases c3 : a0_0 = a1_0
 ·rw [if_pos c3] at H
  have c3b0 := beq_iff_eq.mpr c3
  have c3b1 := bne_eq_false_iff_eq.mpr c3
  clear c3
  by_cases c4 : a0_1 = a1_1
  ·rw [if_pos c4] at H
   have c4b0 := beq_iff_eq.mpr c4
   have c4b1 := bne_eq_false_iff_eq.mpr c4
   clear c4
   by_cases c5 : a0_2 = a1_2
   ·rw [if_pos c5] at H
    have c5b0 := beq_iff_eq.mpr c5
    have c5b1 := bne_eq_false_iff_eq.mpr c5
    clear c5
    by_cases c6 : a0_3 = a1_3
    ·rw [if_pos c6] at H
     have c6b0 := beq_iff_eq.mpr c6
     have c6b1 := bne_eq_false_iff_eq.mpr c6
     clear c6
     by_cases c7 : a0_4 = a1_4
     ·rw [if_pos c7] at H
      have c7b0 := beq_iff_eq.mpr c7
      have c7b1 := bne_eq_false_iff_eq.mpr c7
      clear c7
      by_cases c8 : a0_5 = a1_5
      ·rw [if_pos c8] at H
       have c8b0 := beq_iff_eq.mpr c8
       have c8b1 := bne_eq_false_iff_eq.mpr c8
       clear c8
       obtain rfl := Option.some.inj H
       go_enter Tryd.func25, Tryd.ntmps25
       go_wp2_with (first | ((with_reducible refine qK (N := 2) rfl ?_); refine qH ?hg (N := 2) ?hd (cs := #[.int .i64 a0_0, .int .i64 a0_1, .int .i64 a0_2, .int .i64 a0_3, .int .i64 a0_4, .int .i64 a0_5]) (t := 39) ?hr ?_; (case hd => rfl); (case hg => rfl); (case hr => exact gS); intro gb469 hg w9 hbox hb; have BK469 := aM (hbox); have GW469 := aM ((gg hg)); have GE469 := aM ((gg hg)); replace HB := aM (qB bl hb); clear hb hbox hg) | ((with_reducible refine qK (N := 3) rfl ?_); refine qH ?hg (N := 3) ?hd (cs := #[.int .i64 a1_0, .int .i64 a1_1, .int .i64 a1_2, .int .i64 a1_3, .int .i64 a1_4, .int .i64 a1_5]) (t := 39) ?hr ?_; (case hd => rfl); (case hg => rfl); (case hr => exact gS); intro gb470 hg w10 hbox hb; have BK470 := aM (hbox); have GW470 := aM ((gg hg)); have GE470 := aM ((gg hg)); have NB469_470 := aM ((nl BK469 hg)); have NB470_469 := aM ((nr BK469 hg)); replace BK469 := aM (bb BK469 hb); replace HB := aM (qB bl hb); clear hb hbox hg; have hnb11 := NB469_470.out; have hnc11 := NB470_469.out; (refine cb6 BK469 ?_; intro _ _ _ _ _ _); (refine cz6 BK469 ?_; intro _ _ _ _ _ _); (refine cb6 BK470 ?_; intro _ _ _ _ _ _); (refine cz6 BK470 ?_; intro _ _ _ _ _ _)))
       go_ret
       exact ⟨sR, bl⟩
      ·rw [if_neg c8] at H
       have c8b0 := beq_eq_false_iff_ne.mpr c8
       have c8b1 := bne_iff_ne.mpr c8
       obtain rfl := Option.some.inj H
       go_enter Tryd.func25, Tryd.ntmps25
       go_wp2_with (first | ((with_reducible refine qK (N := 2) rfl ?_); refine qH ?hg (N := 2) ?hd (cs := #[.int .i64 a0_0, .int .i64 a0_1, .int .i64 a0_2, .int .i64 a0_3, .int .i64 a0_4, .int .i64 a0_5]) (t := 39) ?hr ?_; (case hd => rfl); (case hg => rfl); (case hr => exact gS); intro gb469 hg w14 hbox hb; have BK469 := aM (hbox); have GW469 := aM ((gg hg)); have GE469 := aM ((gg hg)); replace HB := aM (qB bl hb); clear hb hbox hg) | ((with_reducible refine qK (N := 3) rfl ?_); refine qH ?hg (N := 3) ?hd (cs := #[.int .i64 a1_0, .int .i64 a1_1, .int .i64 a1_2, .int .i64 a1_3, .int .i64 a1_4, .int .i64 a1_5]) (t := 39) ?hr ?_; (case hd => rfl); (case hg => rfl); (case hr => exact gS); intro gb470 hg w15 hbox hb; have BK470 := aM (hbox); have GW470 := aM ((gg hg)); have GE470 := aM ((gg hg)); have NB469_470 := aM ((nl BK469 hg)); have NB470_469 := aM ((nr BK469 hg)); replace BK469 := aM (bb BK469 hb); replace HB := aM (qB bl hb); clear hb hbox hg; have hnb16 := NB469_470.out; have hnc16 := NB470_469.out; (refine cb6 BK469 ?_; intro _ _ _ _ _ _); (refine cz6 BK469 ?_; intro _ _ _ _ _ _); (refine cb6 BK470 ?_; intro _ _ _ _ _ _); (refine cz6 BK470 ?_; intro _ _ _ _ _ _)))
       go_ret
       exact ⟨sR, bl⟩
     ·rw [if_neg c7] at H
      have c7b0 := beq_eq_false_iff_ne.mpr c7
      have c7b1 := bne_iff_ne.mpr c7
      obtain rfl := Option.some.inj H
      go_enter Tryd.func25, Tryd.ntmps25
      go_wp2_with (first | ((with_reducible refine qK (N := 2) rfl ?_); refine qH ?hg (N := 2) ?hd (cs := #[.int .i64 a0_0, .int .i64 a0_1, .int .i64 a0_2, .int .i64 a0_3, .int .i64 a0_4, .int .i64 a0_5]) (t := 39) ?hr ?_; (case hd => rfl); (case hg => rfl); (case hr => exact gS); intro gb469 hg w19 hbox hb; have BK469 := aM (hbox); have GW469 := aM ((gg hg)); have GE469 := aM ((gg hg)); replace HB := aM (qB bl hb); clear hb hbox hg) | ((with_reducible refine qK (N := 3) rfl ?_); refine qH ?hg (N := 3) ?hd (cs := #[.int .i64 a1_0, .int .i64 a1_1, .int .i64 a1_2, .int .i64 a1_3, .int .i64 a1_4, .int .i64 a1_5]) (t := 39) ?hr ?_; (case hd => rfl); (case hg => rfl); (case hr => exact gS); intro gb470 hg w20 hbox hb; have BK470 := aM (hbox); have GW470 := aM ((gg hg)); have GE470 := aM ((gg hg)); have NB469_470 := aM ((nl BK469 hg)); have NB470_469 := aM ((nr BK469 hg)); replace BK469 := aM (bb BK469 hb); replace HB := aM (qB bl hb); clear hb hbox hg; have hnb21 := NB469_470.out; have hnc21 := NB470_469.out; (refine cb6 BK469 ?_; intro _ _ _ _ _ _); (refine cz6 BK469 ?_; intro _ _ _ _ _ _); (refine cb6 BK470 ?_; intro _ _ _ _ _ _); (refine cz6 BK470 ?_; intro _ _ _ _ _ _)))
      go_ret
      exact ⟨sR, bl⟩
    ·rw [if_neg c6] at H
     have c6b0 := beq_eq_false_iff_ne.mpr c6
     have c6b1 := bne_iff_ne.mpr c6
     obtain rfl := Option.some.inj H
     go_enter Tryd.func25, Tryd.ntmps25
     go_wp2_with (first | ((with_reducible refine qK (N := 2) rfl ?_); refine qH ?hg (N := 2) ?hd (cs := #[.int .i64 a0_0, .int .i64 a0_1, .int .i64 a0_2, .int .i64 a0_3, .int .i64 a0_4, .int .i64 a0_5]) (t := 39) ?hr ?_; (case hd => rfl); (case hg => rfl); (case hr => exact gS); intro gb469 hg w24 hbox hb; have BK469 := aM (hbox); have GW469 := aM ((gg hg)); have GE469 := aM ((gg hg)); replace HB := aM (qB bl hb); clear hb hbox hg) | ((with_reducible refine qK (N := 3) rfl ?_); refine qH ?hg (N := 3) ?hd (cs := #[.int .i64 a1_0, .int .i64 a1_1, .int .i64 a1_2, .int .i64 a1_3, .int .i64 a1_4, .int .i64 a1_5]) (t := 39) ?hr ?_; (case hd => rfl); (case hg => rfl); (case hr => exact gS); intro gb470 hg w25 hbox hb; have BK470 := aM (hbox); have GW470 := aM ((gg hg)); have GE470 := aM ((gg hg)); have NB469_470 := aM ((nl BK469 hg)); have NB470_469 := aM ((nr BK469 hg)); replace BK469 := aM (bb BK469 hb); replace HB := aM (qB bl hb); clear hb hbox hg; have hnb26 := NB469_470.out; have hnc26 := NB470_469.out; (refine cb6 BK469 ?_; intro _ _ _ _ _ _); (refine cz6 BK469 ?_; intro _ _ _ _ _ _); (refine cb6 BK470 ?_; intro _ _ _ _ _ _); (refine cz6 BK470 ?_; intro _ _ _ _ _ _)))
     go_ret
     exact ⟨sR, bl⟩
   ·rw [if_neg c5] at H
    have c5b0 := beq_eq_false_iff_ne.mpr c5
    have c5b1 := bne_iff_ne.mpr c5
    obtain rfl := Option.some.inj H
    go_enter Tryd.func25, Tryd.ntmps25
    go_wp2_with (first | ((with_reducible refine qK (N := 2) rfl ?_); refine qH ?hg (N := 2) ?hd (cs := #[.int .i64 a0_0, .int .i64 a0_1, .int .i64 a0_2, .int .i64 a0_3, .int .i64 a0_4, .int .i64 a0_5]) (t := 39) ?hr ?_; (case hd => rfl); (case hg => rfl); (case hr => exact gS); intro gb469 hg w29 hbox hb; have BK469 := aM (hbox); have GW469 := aM ((gg hg)); have GE469 := aM ((gg hg)); replace HB := aM (qB bl hb); clear hb hbox hg) | ((with_reducible refine qK (N := 3) rfl ?_); refine qH ?hg (N := 3) ?hd (cs := #[.int .i64 a1_0, .int .i64 a1_1, .int .i64 a1_2, .int .i64 a1_3, .int .i64 a1_4, .int .i64 a1_5]) (t := 39) ?hr ?_; (case hd => rfl); (case hg => rfl); (case hr => exact gS); intro gb470 hg w30 hbox hb; have BK470 := aM (hbox); have GW470 := aM ((gg hg)); have GE470 := aM ((gg hg)); have NB469_470 := aM ((nl BK469 hg)); have NB470_469 := aM ((nr BK469 hg)); replace BK469 := aM (bb BK469 hb); replace HB := aM (qB bl hb); clear hb hbox hg; have hnb31 := NB469_470.out; have hnc31 := NB470_469.out; (refine cb6 BK469 ?_; intro _ _ _ _ _ _); (refine cz6 BK469 ?_; intro _ _ _ _ _ _); (refine cb6 BK470 ?_; intro _ _ _ _ _ _); (refine cz6 BK470 ?_; intro _ _ _ _ _ _)))
    go_ret
    exact ⟨sR, bl⟩
  ·rw [if_neg c4] at H
   have c4b0 := beq_eq_false_iff_ne.mpr c4
   have c4b1 := bne_iff_ne.mpr c4
   obtain rfl := Option.some.inj H
   go_enter Tryd.func25, Tryd.ntmps25
   go_wp2_with (first | ((with_reducible refine qK (N := 2) rfl ?_); refine qH ?hg (N := 2) ?hd (cs := #[.int .i64 a0_0, .int .i64 a0_1, .int .i64 a0_2, .int .i64 a0_3, .int .i64 a0_4, .int .i64 a0_5]) (t := 39) ?hr ?_; (case hd => rfl); (case hg => rfl); (case hr => exact gS); intro gb469 hg w34 hbox hb; have BK469 := aM (hbox); have GW469 := aM ((gg hg)); have GE469 := aM ((gg hg)); replace HB := aM (qB bl hb); clear hb hbox hg) | ((with_reducible refine qK (N := 3) rfl ?_); refine qH ?hg (N := 3) ?hd (cs := #[.int .i64 a1_0, .int .i64 a1_1, .int .i64 a1_2, .int .i64 a1_3, .int .i64 a1_4, .int .i64 a1_5]) (t := 39) ?hr ?_; (case hd => rfl); (case hg => rfl); (case hr => exact gS); intro gb470 hg w35 hbox hb; have BK470 := aM (hbox); have GW470 := aM ((gg hg)); have GE470 := aM ((gg hg)); have NB469_470 := aM ((nl BK469 hg)); have NB470_469 := aM ((nr BK469 hg)); replace BK469 := aM (bb BK469 hb); replace HB := aM (qB bl hb); clear hb hbox hg; have hnb36 := NB469_470.out; have hnc36 := NB470_469.out; (refine cb6 BK469 ?_; intro _ _ _ _ _ _); (refine cz6 BK469 ?_; intro _ _ _ _ _ _); (refine cb6 BK470 ?_; intro _ _ _ _ _ _); (refine cz6 BK470 ?_; intro _ _ _ _ _ _)))
   go_ret
   exact ⟨sR, bl⟩
 ·rw [if_neg c3] at H
  have c3b0 := beq_eq_false_iff_ne.mpr c3
  have c3b1 := bne_iff_ne.mpr c3
  obtain rfl := Option.some.inj H
  go_enter Tryd.func25, Tryd.ntmps25
  go_wp2_with (first | ((with_reducible refine qK (N := 2) rfl ?_); refine qH ?hg (N := 2) ?hd (cs := #[.int .i64 a0_0, .int .i64 a0_1, .int .i64 a0_2, .int .i64 a0_3, .int .i64 a0_4, .int .i64 a0_5]) (t := 39) ?hr ?_; (case hd => rfl); (case hg => rfl); (case hr => exact gS); intro gb469 hg w39 hbox hb; have BK469 := aM (hbox); have GW469 := aM ((gg hg)); have GE469 := aM ((gg hg)); replace HB := aM (qB bl hb); clear hb hbox hg) | ((with_reducible refine qK (N := 3) rfl ?_); refine qH ?hg (N := 3) ?hd (cs := #[.int .i64 a1_0, .int .i64 a1_1, .int .i64 a1_2, .int .i64 a1_3, .int .i64 a1_4, .int .i64 a1_5]) (t := 39) ?hr ?_; (case hd => rfl); (case hg => rfl); (case hr => exact gS); intro gb470 hg w40 hbox hb; have BK470 := aM (hbox); have GW470 := aM ((gg hg)); have GE470 := aM ((gg hg)); have NB469_470 := aM ((nl BK469 hg)); have NB470_469 := aM ((nr BK469 hg)); replace BK469 := aM (bb BK469 hb); replace HB := aM (qB bl hb); clear hb hbox hg; have hnb41 := NB469_470.out; have hnc41 := NB470_469.out; (refine cb6 BK469 ?_; intro _ _ _ _ _ _); (refine cz6 BK469 ?_; intro _ _ _ _ _ _); (refine cb6 BK470 ?_; intro _ _ _ _ _ _); (refine cz6 BK470 ?_; intro _ _ _ _ _ _)))
  go_ret
  exact ⟨sR, bl⟩
def qQB.f (a0_0 : Int) (a0_1 : Int) (a0_2 : Int) (a0_3 : Int) (a0_4 : Int) (a0_5 : Int) (a0_6 : Int) (a0_7 : Int) (a1_0 : Int) (a1_1 : Int) (a1_2 : Int) (a1_3 : Int) (a1_4 : Int) (a1_5 : Int) (a1_6 : Int) (a1_7 : Int) : Option (Bool) := if a0_0 = a1_0 then (if a0_1 = a1_1 then ((qkB.f a0_2 a0_3 a0_4 a0_5 a0_6 a0_7 a1_2 a1_3 a1_4 a1_5 a1_6 a1_7).bind fun t473 => (if t473 = true then (some true) else (some false))) else (some false)) else (some false)
set_option maxHeartbeats 8000000 in
set_option maxRecDepth 100000 in
theorem qQB.calls (a0_0 : Int) (a0_1 : Int) (a0_2 : Int) (a0_3 : Int) (a0_4 : Int) (a0_5 : Int) (a0_6 : Int) (a0_7 : Int) (a1_0 : Int) (a1_1 : Int) (a1_2 : Int) (a1_3 : Int) (a1_4 : Int) (a1_5 : Int) (a1_6 : Int) (a1_7 : Int) (r : Bool) (w : World) (h : qQB.f a0_0 a0_1 a0_2 a0_3 a0_4 a0_5 a0_6 a0_7 a1_0 a1_1 a1_2 a1_3 a1_4 a1_5 a1_6 a1_7 = some r) :
  Calls Tryd.prog 13 #[.agg #[.int .i64 a0_0, .int .i64 a0_1, .int .i64 a0_2, .int .i64 a0_3, .int .i64 a0_4, .int .i64 a0_5, .int .i64 a0_6, .int .i64 a0_7], .agg #[.int .i64 a1_0, .int .i64 a1_1, .int .i64 a1_2, .int .i64 a1_3, .int .i64 a1_4, .int .i64 a1_5, .int .i64 a1_6, .int .i64 a1_7]] w fun e w' => e = .returned (.bool r) ∧ Below w.heap.size w w' := by
 have hu41 := Tryd.underlying41
 have hu39 := Tryd.underlying39
 have HB := aM (Below.refl w.heap.size w)
 have H : (if a0_0 = a1_0 then (if a0_1 = a1_1 then ((qkB.f a0_2 a0_3 a0_4 a0_5 a0_6 a0_7 a1_2 a1_3 a1_4 a1_5 a1_6 a1_7).bind fun t473 => (if t473 = true then (some true) else (some false))) else (some false)) else (some false)) = some r := h
 clear h
 by_cases c3 : a0_0 = a1_0
 ·rw [if_pos c3] at H
  have c3b0 := beq_iff_eq.mpr c3
  have c3b1 := bne_eq_false_iff_eq.mpr c3
  clear c3
  by_cases c4 : a0_1 = a1_1
  ·rw [if_pos c4] at H
   have c4b0 := beq_iff_eq.mpr c4
   have c4b1 := bne_eq_false_iff_eq.mpr c4
   clear c4
   replace H := bO H
   obtain ⟨t473, A5, H⟩ := H
   by_cases c6 : t473 = true
   ·subst c6
    replace H := iT H
    obtain rfl := Option.some.inj H
    go_enter Tryd.func13, Tryd.ntmps13
    go_wp2_with (first | ((with_reducible refine qK (N := 2) rfl ?_); refine qH ?hg (N := 2) ?hd (cs := #[.int .i64 a0_0, .int .i64 a0_1, .int .i64 a0_2, .int .i64 a0_3, .int .i64 a0_4, .int .i64 a0_5, .int .i64 a0_6, .int .i64 a0_7]) (t := 41) ?hr ?_; (case hd => rfl); (case hg => rfl); (case hr => exact gS); intro gb471 hg w7 hbox hb; have BK471 := aM (hbox); have GW471 := aM ((gg hg)); have GE471 := aM ((gg hg)); replace HB := aM (qB bl hb); clear hb hbox hg) | ((with_reducible refine qK (N := 3) rfl ?_); refine qH ?hg (N := 3) ?hd (cs := #[.int .i64 a1_0, .int .i64 a1_1, .int .i64 a1_2, .int .i64 a1_3, .int .i64 a1_4, .int .i64 a1_5, .int .i64 a1_6, .int .i64 a1_7]) (t := 41) ?hr ?_; (case hd => rfl); (case hg => rfl); (case hr => exact gS); intro gb472 hg w8 hbox hb; have BK472 := aM (hbox); have GW472 := aM ((gg hg)); have GE472 := aM ((gg hg)); have NB471_472 := aM ((nl BK471 hg)); have NB472_471 := aM ((nr BK471 hg)); replace BK471 := aM (bb BK471 hb); replace HB := aM (qB bl hb); clear hb hbox hg; have hnb9 := NB471_472.out; have hnc9 := NB472_471.out; (refine cb8 BK471 ?_; intro _ _ _ _ _ _ _ _); (refine cz8 BK471 ?_; intro _ _ _ _ _ _ _ _); (refine cb8 BK472 ?_; intro _ _ _ _ _ _ _ _); (refine cz8 BK472 ?_; intro _ _ _ _ _ _ _ _)) | ((with_reducible refine qJ (f := 25) rfl ?_); refine qr (some 19) rfl rfl Tryd.func25 (by kernel_rfl) rfl #[.agg #[.int .i64 a0_2, .int .i64 a0_3, .int .i64 a0_4, .int .i64 a0_5, .int .i64 a0_6, .int .i64 a0_7], .agg #[.int .i64 a1_2, .int .i64 a1_3, .int .i64 a1_4, .int .i64 a1_5, .int .i64 a1_6, .int .i64 a1_7]] rfl gA ?_; (with_reducible refine (qkB.calls a0_2 a0_3 a0_4 a0_5 a0_6 a0_7 a1_2 a1_3 a1_4 a1_5 a1_6 a1_7 true _ A5.out).mono ?_); rintro e w12 ⟨rfl, hb⟩; refine ⟨_, rfl, ?_⟩; replace BK471 := aM (bb BK471 hb); replace BK472 := aM (bb BK472 hb); replace HB := aM (qB bl hb); (try clear hb); (try clear hb2); (try clear hk); (try clear hi)))
    go_ret
    exact ⟨sR, bl⟩
   ·replace c6 := Bool.eq_false_iff.mpr c6
    subst c6
    replace H := iF H
    obtain rfl := Option.some.inj H
    go_enter Tryd.func13, Tryd.ntmps13
    go_wp2_with (first | ((with_reducible refine qK (N := 2) rfl ?_); refine qH ?hg (N := 2) ?hd (cs := #[.int .i64 a0_0, .int .i64 a0_1, .int .i64 a0_2, .int .i64 a0_3, .int .i64 a0_4, .int .i64 a0_5, .int .i64 a0_6, .int .i64 a0_7]) (t := 41) ?hr ?_; (case hd => rfl); (case hg => rfl); (case hr => exact gS); intro gb471 hg w13 hbox hb; have BK471 := aM (hbox); have GW471 := aM ((gg hg)); have GE471 := aM ((gg hg)); replace HB := aM (qB bl hb); clear hb hbox hg) | ((with_reducible refine qK (N := 3) rfl ?_); refine qH ?hg (N := 3) ?hd (cs := #[.int .i64 a1_0, .int .i64 a1_1, .int .i64 a1_2, .int .i64 a1_3, .int .i64 a1_4, .int .i64 a1_5, .int .i64 a1_6, .int .i64 a1_7]) (t := 41) ?hr ?_; (case hd => rfl); (case hg => rfl); (case hr => exact gS); intro gb472 hg w14 hbox hb; have BK472 := aM (hbox); have GW472 := aM ((gg hg)); have GE472 := aM ((gg hg)); have NB471_472 := aM ((nl BK471 hg)); have NB472_471 := aM ((nr BK471 hg)); replace BK471 := aM (bb BK471 hb); replace HB := aM (qB bl hb); clear hb hbox hg; have hnb15 := NB471_472.out; have hnc15 := NB472_471.out; (refine cb8 BK471 ?_; intro _ _ _ _ _ _ _ _); (refine cz8 BK471 ?_; intro _ _ _ _ _ _ _ _); (refine cb8 BK472 ?_; intro _ _ _ _ _ _ _ _); (refine cz8 BK472 ?_; intro _ _ _ _ _ _ _ _)) | ((with_reducible refine qJ (f := 25) rfl ?_); refine qr (some 19) rfl rfl Tryd.func25 (by kernel_rfl) rfl #[.agg #[.int .i64 a0_2, .int .i64 a0_3, .int .i64 a0_4, .int .i64 a0_5, .int .i64 a0_6, .int .i64 a0_7], .agg #[.int .i64 a1_2, .int .i64 a1_3, .int .i64 a1_4, .int .i64 a1_5, .int .i64 a1_6, .int .i64 a1_7]] rfl gA ?_; (with_reducible refine (qkB.calls a0_2 a0_3 a0_4 a0_5 a0_6 a0_7 a1_2 a1_3 a1_4 a1_5 a1_6 a1_7 false _ A5.out).mono ?_); rintro e w18 ⟨rfl, hb⟩; refine ⟨_, rfl, ?_⟩; replace BK471 := aM (bb BK471 hb); replace BK472 := aM (bb BK472 hb); replace HB := aM (qB bl hb); (try clear hb); (try clear hb2); (try clear hk); (try clear hi)))
    go_ret
    exact ⟨sR, bl⟩
  ·rw [if_neg c4] at H
   have c4b0 := beq_eq_false_iff_ne.mpr c4
   have c4b1 := bne_iff_ne.mpr c4
   obtain rfl := Option.some.inj H
   go_enter Tryd.func13, Tryd.ntmps13
   go_wp2_with (first | ((with_reducible refine qK (N := 2) rfl ?_); refine qH ?hg (N := 2) ?hd (cs := #[.int .i64 a0_0, .int .i64 a0_1, .int .i64 a0_2, .int .i64 a0_3, .int .i64 a0_4, .int .i64 a0_5, .int .i64 a0_6, .int .i64 a0_7]) (t := 41) ?hr ?_; (case hd => rfl); (case hg => rfl); (case hr => exact gS); intro gb471 hg w19 hbox hb; have BK471 := aM (hbox); have GW471 := aM ((gg hg)); have GE471 := aM ((gg hg)); replace HB := aM (qB bl hb); clear hb hbox hg) | ((with_reducible refine qK (N := 3) rfl ?_); refine qH ?hg (N := 3) ?hd (cs := #[.int .i64 a1_0, .int .i64 a1_1, .int .i64 a1_2, .int .i64 a1_3, .int .i64 a1_4, .int .i64 a1_5, .int .i64 a1_6, .int .i64 a1_7]) (t := 41) ?hr ?_; (case hd => rfl); (case hg => rfl); (case hr => exact gS); intro gb472 hg w20 hbox hb; have BK472 := aM (hbox); have GW472 := aM ((gg hg)); have GE472 := aM ((gg hg)); have NB471_472 := aM ((nl BK471 hg)); have NB472_471 := aM ((nr BK471 hg)); replace BK471 := aM (bb BK471 hb); replace HB := aM (qB bl hb); clear hb hbox hg; have hnb21 := NB471_472.out; have hnc21 := NB472_471.out; (refine cb8 BK471 ?_; intro _ _ _ _ _ _ _ _); (refine cz8 BK471 ?_; intro _ _ _ _ _ _ _ _); (refine cb8 BK472 ?_; intro _ _ _ _ _ _ _ _); (refine cz8 BK472 ?_; intro _ _ _ _ _ _ _ _)))
   go_ret
   exact ⟨sR, bl⟩
 ·rw [if_neg c3] at H
  have c3b0 := beq_eq_false_iff_ne.mpr c3
  have c3b1 := bne_iff_ne.mpr c3
  obtain rfl := Option.some.inj H
  go_enter Tryd.func13, Tryd.ntmps13
  go_wp2_with (first | ((with_reducible refine qK (N := 2) rfl ?_); refine qH ?hg (N := 2) ?hd (cs := #[.int .i64 a0_0, .int .i64 a0_1, .int .i64 a0_2, .int .i64 a0_3, .int .i64 a0_4, .int .i64 a0_5, .int .i64 a0_6, .int .i64 a0_7]) (t := 41) ?hr ?_; (case hd => rfl); (case hg => rfl); (case hr => exact gS); intro gb471 hg w24 hbox hb; have BK471 := aM (hbox); have GW471 := aM ((gg hg)); have GE471 := aM ((gg hg)); replace HB := aM (qB bl hb); clear hb hbox hg) | ((with_reducible refine qK (N := 3) rfl ?_); refine qH ?hg (N := 3) ?hd (cs := #[.int .i64 a1_0, .int .i64 a1_1, .int .i64 a1_2, .int .i64 a1_3, .int .i64 a1_4, .int .i64 a1_5, .int .i64 a1_6, .int .i64 a1_7]) (t := 41) ?hr ?_; (case hd => rfl); (case hg => rfl); (case hr => exact gS); intro gb472 hg w25 hbox hb; have BK472 := aM (hbox); have GW472 := aM ((gg hg)); have GE472 := aM ((gg hg)); have NB471_472 := aM ((nl BK471 hg)); have NB472_471 := aM ((nr BK471 hg)); replace BK471 := aM (bb BK471 hb); replace HB := aM (qB bl hb); clear hb hbox hg; have hnb26 := NB471_472.out; have hnc26 := NB472_471.out; (refine cb8 BK471 ?_; intro _ _ _ _ _ _ _ _); (refine cz8 BK471 ?_; intro _ _ _ _ _ _ _ _); (refine cb8 BK472 ?_; intro _ _ _ _ _ _ _ _); (refine cz8 BK472 ?_; intro _ _ _ _ _ _ _ _)))
  go_ret
  exact ⟨sR, bl⟩
def qh.l0 : Nat → List (S41) → List (S41) → Int → Option (Bool)
 | 0, _, _, _ => none
 | k + 1, x0, x1, x5 => if x5 < (x0.length : Int) then (if 0 ≤ x5 then (if x5 < (x1.length : Int) then ((qQB.f ((qA x0 x5).f0) ((qA x0 x5).f1) ((qA x0 x5).f2.f0) ((qA x0 x5).f2.f1) ((qA x0 x5).f2.f2) ((qA x0 x5).f2.f3) ((qA x0 x5).f2.f4) ((qA x0 x5).f2.f5) ((qA x1 x5).f0) ((qA x1 x5).f1) ((qA x1 x5).f2.f0) ((qA x1 x5).f2.f1) ((qA x1 x5).f2.f2) ((qA x1 x5).f2.f3) ((qA x1 x5).f2.f4) ((qA x1 x5).f2.f5)).bind fun t476 => (if t476 = true then (qh.l0 k x0 x1 (wrap64 (x5 + 1))) else (some false))) else (none)) else (none)) else (some true)
def qh.f (k : Nat) (l0 : List (S41)) (l1 : List (S41)) : Option (Bool) := if (l0.length : Int) = (l1.length : Int) then (qh.l0 k l0 l1 0) else (some false)
def qh.T6 : Bool × List (List Nat × List Nat) := (true, [([], []), ([], []), ([0, 1], [0, 1]), ([2], [2]), ([], []), ([], []), ([4, 5], [4, 5]), ([6], [6]), ([3, 7], [3, 7]), ([8], [8])])
def qh.B6 : List Nat := [0, 0, 3, 7, 0, 0, 48, 112, 255, 511]
theorem qh.tab6 : rtab .any (opsOf Tryd.f8 6) = qh.T6 := by kernel_rfl
theorem qh.bits6 : waitsOk qh.T6.2 qh.B6 = true := by kernel_rfl
set_option maxHeartbeats 8000000 in
set_option maxRecDepth 100000 in
theorem qh.calls (k : Nat) (A0 : Option Addr) (c0 : Nat) (l0 : List (S41)) (A1 : Option Addr) (c1 : Nat) (l1 : List (S41)) (r : Bool) (w : World) (hr0 : Kd.C k41 w A0 l0.length l0) (hc0 : l0.length ≤ c0) (hr1 : Kd.C k41 w A1 l1.length l1) (hc1 : l1.length ≤ c1) (h : qh.f k l0 l1 = some r) :
  Calls Tryd.prog 8 #[.slice A0 l0.length c0, .slice A1 l1.length c1] w fun e w' => e = .returned (.bool r) ∧ Below w.heap.size w w' := by
 have hu41 := Tryd.underlying41
 have HR0 := aM hr0
 have HC0 := aM hc0
 clear hr0 hc0
 have HR1 := aM hr1
 have HC1 := aM hc1
 clear hr1 hc1
 have HB := aM (Below.refl w.heap.size w)
 have H : (if (l0.length : Int) = (l1.length : Int) then (qh.l0 k l0 l1 0) else (some false)) = some r := h
 clear h
 by_cases c3 : (l0.length : Int) = (l1.length : Int)
 ·rw [if_pos c3] at H
  have c3b0 := beq_iff_eq.mpr c3
  have c3b1 := bne_eq_false_iff_eq.mpr c3
  have c3b2 : (l0.length == l1.length) = true := by first | simpa using c3 | (simp at c3 ⊢; omega)
  clear c3
  have H' := aM H
  clear H
  go_enter Tryd.func8, Tryd.ntmps8
  go_wp2
  go_loopg [5] k (fun kq v5 w' => ∃ (x5_1 : Int), v5 = .int .i64 x5_1 ∧ Aside0 (qh.l0 kq l0 l1 x5_1 = some r) ∧ Aside0 (kq ≤ k) ∧ Aside0 (Below w.heap.size w w'))
  case atStart => exact ⟨(0), sD, H', ⟨Nat.le_refl _⟩, ⟨bl⟩⟩
  case round =>
   clear H'; (try clear c1); (try clear p2); (try clear c3); (try clear c3b0); (try clear c3b1); (try clear c3b2)
   obtain ⟨x5_1, rfl, HA, HK1, HB⟩ := hrel
   cases gk with
   | zero => exact absurd HA.out (by simp [qh.l0])
   | succ k1 =>
    have H := HA.out
    clear HA
    simp only [qh.l0] at H
    by_cases c4 : x5_1 < (l0.length : Int)
    ·rw [if_pos c4] at H
     have c4b0 := decide_eq_true c4
     clear c4
     by_cases c5 : 0 ≤ x5_1
     ·rw [if_pos c5] at H
      have c5b0 := decide_eq_true c5
      clear c5
      by_cases c6 : x5_1 < (l1.length : Int)
      ·rw [if_pos c6] at H
       have c6b0 := decide_eq_true c6
       clear c6
       replace H := bO H
       obtain ⟨t476, A7, H⟩ := H
       by_cases c8 : t476 = true
       ·subst c8
        replace H := iT H
        have H' := aM H
        clear H
        try go_wp2
        replace HB := aM (qu HB.out)
        have p474 : 0 ≤ (x5_1 : Int) := of_decide_eq_true am
        have q474 : x5_1 < (l0.length : Int) := of_decide_eq_true am
        obtain ⟨ad474, e474, hx474_0, hx474_1, hx474_2, hx474_3, hx474_4, hx474_5, hx474_6, hx474_7⟩ := qTB HR0.out x5_1 p474 q474
        have hw474_7 := hx474_7
        have hw474_6 := hx474_6
        have hw474_5 := hx474_5
        have hw474_4 := hx474_4
        have hw474_3 := hx474_3
        have hw474_2 := hx474_2
        have hw474_1 := hx474_1
        have hw474_0 := hx474_0
        cases e474
        replace hx474_0 := (HB.out.cell (World.block_lt_of_cell? w _ hx474_0)).trans hx474_0
        replace hx474_1 := (HB.out.cell (World.block_lt_of_cell? w _ hx474_1)).trans hx474_1
        replace hx474_2 := (HB.out.cell (World.block_lt_of_cell? w _ hx474_2)).trans hx474_2
        replace hx474_3 := (HB.out.cell (World.block_lt_of_cell? w _ hx474_3)).trans hx474_3
        replace hx474_4 := (HB.out.cell (World.block_lt_of_cell? w _ hx474_4)).trans hx474_4
        replace hx474_5 := (HB.out.cell (World.block_lt_of_cell? w _ hx474_5)).trans hx474_5
        replace hx474_6 := (HB.out.cell (World.block_lt_of_cell? w _ hx474_6)).trans hx474_6
        replace hx474_7 := (HB.out.cell (World.block_lt_of_cell? w _ hx474_7)).trans hx474_7
        replace p474 := eq_true p474
        replace q474 := eq_true q474
        have p475 : 0 ≤ (x5_1 : Int) := of_decide_eq_true am
        have q475 : x5_1 < (l1.length : Int) := of_decide_eq_true am
        obtain ⟨ad475, e475, hx475_0, hx475_1, hx475_2, hx475_3, hx475_4, hx475_5, hx475_6, hx475_7⟩ := qTB HR1.out x5_1 p475 q475
        have hw475_7 := hx475_7
        have hw475_6 := hx475_6
        have hw475_5 := hx475_5
        have hw475_4 := hx475_4
        have hw475_3 := hx475_3
        have hw475_2 := hx475_2
        have hw475_1 := hx475_1
        have hw475_0 := hx475_0
        cases e475
        replace hx475_0 := (HB.out.cell (World.block_lt_of_cell? w _ hx475_0)).trans hx475_0
        replace hx475_1 := (HB.out.cell (World.block_lt_of_cell? w _ hx475_1)).trans hx475_1
        replace hx475_2 := (HB.out.cell (World.block_lt_of_cell? w _ hx475_2)).trans hx475_2
        replace hx475_3 := (HB.out.cell (World.block_lt_of_cell? w _ hx475_3)).trans hx475_3
        replace hx475_4 := (HB.out.cell (World.block_lt_of_cell? w _ hx475_4)).trans hx475_4
        replace hx475_5 := (HB.out.cell (World.block_lt_of_cell? w _ hx475_5)).trans hx475_5
        replace hx475_6 := (HB.out.cell (World.block_lt_of_cell? w _ hx475_6)).trans hx475_6
        replace hx475_7 := (HB.out.cell (World.block_lt_of_cell? w _ hx475_7)).trans hx475_7
        replace p475 := eq_true p475
        replace q475 := eq_true q475
        refine qCB (n := 10) (S := fun w' => w'.cell? (ad474.add ((x5_1).toNat * 8)) = some (.int .i64 ((qA l0 x5_1).f0)) ∧ w'.cell? ⟨(ad474.add ((x5_1).toNat * 8)).block, (ad474.add ((x5_1).toNat * 8)).off + 1, none⟩ = some (.int .i64 ((qA l0 x5_1).f1)) ∧ w'.cell? ⟨(ad474.add ((x5_1).toNat * 8)).block, (ad474.add ((x5_1).toNat * 8)).off + 2, none⟩ = some (.int .i64 ((qA l0 x5_1).f2.f0)) ∧ w'.cell? ⟨(ad474.add ((x5_1).toNat * 8)).block, (ad474.add ((x5_1).toNat * 8)).off + 3, none⟩ = some (.int .i64 ((qA l0 x5_1).f2.f1)) ∧ w'.cell? ⟨(ad474.add ((x5_1).toNat * 8)).block, (ad474.add ((x5_1).toNat * 8)).off + 4, none⟩ = some (.int .i64 ((qA l0 x5_1).f2.f2)) ∧ w'.cell? ⟨(ad474.add ((x5_1).toNat * 8)).block, (ad474.add ((x5_1).toNat * 8)).off + 5, none⟩ = some (.int .i64 ((qA l0 x5_1).f2.f3)) ∧ w'.cell? ⟨(ad474.add ((x5_1).toNat * 8)).block, (ad474.add ((x5_1).toNat * 8)).off + 6, none⟩ = some (.int .i64 ((qA l0 x5_1).f2.f4)) ∧ w'.cell? ⟨(ad474.add ((x5_1).toNat * 8)).block, (ad474.add ((x5_1).toNat * 8)).off + 7, none⟩ = some (.int .i64 ((qA l0 x5_1).f2.f5)) ∧ w'.cell? (ad475.add ((x5_1).toNat * 8)) = some (.int .i64 ((qA l1 x5_1).f0)) ∧ w'.cell? ⟨(ad475.add ((x5_1).toNat * 8)).block, (ad475.add ((x5_1).toNat * 8)).off + 1, none⟩ = some (.int .i64 ((qA l1 x5_1).f1)) ∧ w'.cell? ⟨(ad475.add ((x5_1).toNat * 8)).block, (ad475.add ((x5_1).toNat * 8)).off + 2, none⟩ = some (.int .i64 ((qA l1 x5_1).f2.f0)) ∧ w'.cell? ⟨(ad475.add ((x5_1).toNat * 8)).block, (ad475.add ((x5_1).toNat * 8)).off + 3, none⟩ = some (.int .i64 ((qA l1 x5_1).f2.f1)) ∧ w'.cell? ⟨(ad475.add ((x5_1).toNat * 8)).block, (ad475.add ((x5_1).toNat * 8)).off + 4, none⟩ = some (.int .i64 ((qA l1 x5_1).f2.f2)) ∧ w'.cell? ⟨(ad475.add ((x5_1).toNat * 8)).block, (ad475.add ((x5_1).toNat * 8)).off + 5, none⟩ = some (.int .i64 ((qA l1 x5_1).f2.f3)) ∧ w'.cell? ⟨(ad475.add ((x5_1).toNat * 8)).block, (ad475.add ((x5_1).toNat * 8)).off + 6, none⟩ = some (.int .i64 ((qA l1 x5_1).f2.f4)) ∧ w'.cell? ⟨(ad475.add ((x5_1).toNat * 8)).block, (ad475.add ((x5_1).toNat * 8)).off + 7, none⟩ = some (.int .i64 ((qA l1 x5_1).f2.f5))) (ds := []) #[false, false, false, false, false, false, false, false, false, false] (by kernel_rfl) rfl rfl ⟨(hB HB hw474_0 :), (hB HB hw474_1 :), (hB HB hw474_2 :), (hB HB hw474_3 :), (hB HB hw474_4 :), (hB HB hw474_5 :), (hB HB hw474_6 :), (hB HB hw474_7 :), (hB HB hw475_0 :), (hB HB hw475_1 :), (hB HB hw475_2 :), (hB HB hw475_3 :), (hB HB hw475_4 :), (hB HB hw475_5 :), (hB HB hw475_6 :), (hB HB hw475_7 :)⟩ (fun hHeld => ?_); refine qKA qh.tab6 qh.bits6 (fun HT_ HW_ => ?_)
        generalize wr.drew = w9 at HB hx474_0 hx474_1 hx474_2 hx474_3 hx474_4 hx474_5 hx474_6 hx474_7 hx475_0 hx475_1 hx475_2 hx475_3 hx475_4 hx475_5 hx475_6 hx475_7 hHeld ⊢
        refine pS (i := 0) (N := some 17) #[true, false, false, false, false, false, false, false, false, false] HT_ ?_
        refine pS (i := 1) (N := some 18) #[true, true, false, false, false, false, false, false, false, false] HT_ ?_
        refine pS (i := 2) (N := some 19) #[true, true, true, false, false, false, false, false, false, false] HT_ ?_
        refine pS (i := 4) (N := some 21) #[true, true, true, false, true, false, false, false, false, false] HT_ ?_
        refine pS (i := 5) (N := some 22) #[true, true, true, false, true, true, false, false, false, false] HT_ ?_
        refine pS (i := 6) (N := some 23) #[true, true, true, false, true, true, true, false, false, false] HT_ ?_
        refine tS (i := 3) (N := some 20) #[true, true, true, true, true, true, true, false, false, false] HT_ HW_ hHeld ?_
        refine tS (i := 7) (N := some 24) #[true, true, true, true, true, true, true, true, false, false] HT_ HW_ hHeld ?_
        refine one_ (i := 8) (N := some 25) #[true, true, true, true, true, true, true, true, true, false] rfl rfl (qUA HT_.out (by kernel_rfl)) (by decide) (fun K hK => ?_)
        refine goes_ Tryd.func13 (by kernel_rfl) rfl #[.agg #[.int .i64 ((qA l0 x5_1).f0), .int .i64 ((qA l0 x5_1).f1), .int .i64 ((qA l0 x5_1).f2.f0), .int .i64 ((qA l0 x5_1).f2.f1), .int .i64 ((qA l0 x5_1).f2.f2), .int .i64 ((qA l0 x5_1).f2.f3), .int .i64 ((qA l0 x5_1).f2.f4), .int .i64 ((qA l0 x5_1).f2.f5)], .agg #[.int .i64 ((qA l1 x5_1).f0), .int .i64 ((qA l1 x5_1).f1), .int .i64 ((qA l1 x5_1).f2.f0), .int .i64 ((qA l1 x5_1).f2.f1), .int .i64 ((qA l1 x5_1).f2.f2), .int .i64 ((qA l1 x5_1).f2.f3), .int .i64 ((qA l1 x5_1).f2.f4), .int .i64 ((qA l1 x5_1).f2.f5)]] (by rfl) rfl rfl gA ?_
        with_reducible refine (qQB.calls ((qA l0 x5_1).f0) ((qA l0 x5_1).f1) ((qA l0 x5_1).f2.f0) ((qA l0 x5_1).f2.f1) ((qA l0 x5_1).f2.f2) ((qA l0 x5_1).f2.f3) ((qA l0 x5_1).f2.f4) ((qA l0 x5_1).f2.f5) ((qA l1 x5_1).f0) ((qA l1 x5_1).f1) ((qA l1 x5_1).f2.f0) ((qA l1 x5_1).f2.f1) ((qA l1 x5_1).f2.f2) ((qA l1 x5_1).f2.f3) ((qA l1 x5_1).f2.f4) ((qA l1 x5_1).f2.f5) true _ A7.out).mono ?_
        rintro e w10 ⟨rfl, hb⟩
        refine ⟨_, rfl, ?_⟩
        replace HB := aM (qB bl hb); (try clear hb); (try clear hb2); (try clear hk); (try clear hi)
        refine hK.out _ _ ⟨(hB HB hw474_0 :), (hB HB hw474_1 :), (hB HB hw474_2 :), (hB HB hw474_3 :), (hB HB hw474_4 :), (hB HB hw474_5 :), (hB HB hw474_6 :), (hB HB hw474_7 :), (hB HB hw475_0 :), (hB HB hw475_1 :), (hB HB hw475_2 :), (hB HB hw475_3 :), (hB HB hw475_4 :), (hB HB hw475_5 :), (hB HB hw475_6 :), (hB HB hw475_7 :)⟩ (fun hHeld => ?_)
        clear hK K
        refine norm_ (a' := ?_) ?_ ?_
        rotate_left
        ·show Act.put _ (some 25) _ = _
         simp only [Act.put, List.setIfInBounds_toArray, List.set_cons_zero, List.set_cons_succ, i64_w, i32_w]
         rfl
        refine pS (i := 9) (N := some 26) #[true, true, true, true, true, true, true, true, true, true] HT_ ?_
        refine done_ (qrA HT_.out (by kernel_rfl)) ?_
        try go_wp2
        go_roundg k1
        case measure => have := HK1.out; omega
        case rel => exact ⟨(wrap64 (x5_1 + 1)), sD, H', ⟨by have := HK1.out; omega⟩, ⟨bl⟩⟩
       ·replace c8 := Bool.eq_false_iff.mpr c8
        subst c8
        replace H := iF H
        obtain rfl := Option.some.inj H
        try go_wp2
        replace HB := aM (qu HB.out)
        have p474 : 0 ≤ (x5_1 : Int) := of_decide_eq_true am
        have q474 : x5_1 < (l0.length : Int) := of_decide_eq_true am
        obtain ⟨ad474, e474, hx474_0, hx474_1, hx474_2, hx474_3, hx474_4, hx474_5, hx474_6, hx474_7⟩ := qTB HR0.out x5_1 p474 q474
        have hw474_7 := hx474_7
        have hw474_6 := hx474_6
        have hw474_5 := hx474_5
        have hw474_4 := hx474_4
        have hw474_3 := hx474_3
        have hw474_2 := hx474_2
        have hw474_1 := hx474_1
        have hw474_0 := hx474_0
        cases e474
        replace hx474_0 := (HB.out.cell (World.block_lt_of_cell? w _ hx474_0)).trans hx474_0
        replace hx474_1 := (HB.out.cell (World.block_lt_of_cell? w _ hx474_1)).trans hx474_1
        replace hx474_2 := (HB.out.cell (World.block_lt_of_cell? w _ hx474_2)).trans hx474_2
        replace hx474_3 := (HB.out.cell (World.block_lt_of_cell? w _ hx474_3)).trans hx474_3
        replace hx474_4 := (HB.out.cell (World.block_lt_of_cell? w _ hx474_4)).trans hx474_4
        replace hx474_5 := (HB.out.cell (World.block_lt_of_cell? w _ hx474_5)).trans hx474_5
        replace hx474_6 := (HB.out.cell (World.block_lt_of_cell? w _ hx474_6)).trans hx474_6
        replace hx474_7 := (HB.out.cell (World.block_lt_of_cell? w _ hx474_7)).trans hx474_7
        replace p474 := eq_true p474
        replace q474 := eq_true q474
        have p475 : 0 ≤ (x5_1 : Int) := of_decide_eq_true am
        have q475 : x5_1 < (l1.length : Int) := of_decide_eq_true am
        obtain ⟨ad475, e475, hx475_0, hx475_1, hx475_2, hx475_3, hx475_4, hx475_5, hx475_6, hx475_7⟩ := qTB HR1.out x5_1 p475 q475
        have hw475_7 := hx475_7
        have hw475_6 := hx475_6
        have hw475_5 := hx475_5
        have hw475_4 := hx475_4
        have hw475_3 := hx475_3
        have hw475_2 := hx475_2
        have hw475_1 := hx475_1
        have hw475_0 := hx475_0
        cases e475
        replace hx475_0 := (HB.out.cell (World.block_lt_of_cell? w _ hx475_0)).trans hx475_0
        replace hx475_1 := (HB.out.cell (World.block_lt_of_cell? w _ hx475_1)).trans hx475_1
        replace hx475_2 := (HB.out.cell (World.block_lt_of_cell? w _ hx475_2)).trans hx475_2
        replace hx475_3 := (HB.out.cell (World.block_lt_of_cell? w _ hx475_3)).trans hx475_3
        replace hx475_4 := (HB.out.cell (World.block_lt_of_cell? w _ hx475_4)).trans hx475_4
        replace hx475_5 := (HB.out.cell (World.block_lt_of_cell? w _ hx475_5)).trans hx475_5
        replace hx475_6 := (HB.out.cell (World.block_lt_of_cell? w _ hx475_6)).trans hx475_6
        replace hx475_7 := (HB.out.cell (World.block_lt_of_cell? w _ hx475_7)).trans hx475_7
        replace p475 := eq_true p475
        replace q475 := eq_true q475
        refine qCB (n := 10) (S := fun w' => w'.cell? (ad474.add ((x5_1).toNat * 8)) = some (.int .i64 ((qA l0 x5_1).f0)) ∧ w'.cell? ⟨(ad474.add ((x5_1).toNat * 8)).block, (ad474.add ((x5_1).toNat * 8)).off + 1, none⟩ = some (.int .i64 ((qA l0 x5_1).f1)) ∧ w'.cell? ⟨(ad474.add ((x5_1).toNat * 8)).block, (ad474.add ((x5_1).toNat * 8)).off + 2, none⟩ = some (.int .i64 ((qA l0 x5_1).f2.f0)) ∧ w'.cell? ⟨(ad474.add ((x5_1).toNat * 8)).block, (ad474.add ((x5_1).toNat * 8)).off + 3, none⟩ = some (.int .i64 ((qA l0 x5_1).f2.f1)) ∧ w'.cell? ⟨(ad474.add ((x5_1).toNat * 8)).block, (ad474.add ((x5_1).toNat * 8)).off + 4, none⟩ = some (.int .i64 ((qA l0 x5_1).f2.f2)) ∧ w'.cell? ⟨(ad474.add ((x5_1).toNat * 8)).block, (ad474.add ((x5_1).toNat * 8)).off + 5, none⟩ = some (.int .i64 ((qA l0 x5_1).f2.f3)) ∧ w'.cell? ⟨(ad474.add ((x5_1).toNat * 8)).block, (ad474.add ((x5_1).toNat * 8)).off + 6, none⟩ = some (.int .i64 ((qA l0 x5_1).f2.f4)) ∧ w'.cell? ⟨(ad474.add ((x5_1).toNat * 8)).block, (ad474.add ((x5_1).toNat * 8)).off + 7, none⟩ = some (.int .i64 ((qA l0 x5_1).f2.f5)) ∧ w'.cell? (ad475.add ((x5_1).toNat * 8)) = some (.int .i64 ((qA l1 x5_1).f0)) ∧ w'.cell? ⟨(ad475.add ((x5_1).toNat * 8)).block, (ad475.add ((x5_1).toNat * 8)).off + 1, none⟩ = some (.int .i64 ((qA l1 x5_1).f1)) ∧ w'.cell? ⟨(ad475.add ((x5_1).toNat * 8)).block, (ad475.add ((x5_1).toNat * 8)).off + 2, none⟩ = some (.int .i64 ((qA l1 x5_1).f2.f0)) ∧ w'.cell? ⟨(ad475.add ((x5_1).toNat * 8)).block, (ad475.add ((x5_1).toNat * 8)).off + 3, none⟩ = some (.int .i64 ((qA l1 x5_1).f2.f1)) ∧ w'.cell? ⟨(ad475.add ((x5_1).toNat * 8)).block, (ad475.add ((x5_1).toNat * 8)).off + 4, none⟩ = some (.int .i64 ((qA l1 x5_1).f2.f2)) ∧ w'.cell? ⟨(ad475.add ((x5_1).toNat * 8)).block, (ad475.add ((x5_1).toNat * 8)).off + 5, none⟩ = some (.int .i64 ((qA l1 x5_1).f2.f3)) ∧ w'.cell? ⟨(ad475.add ((x5_1).toNat * 8)).block, (ad475.add ((x5_1).toNat * 8)).off + 6, none⟩ = some (.int .i64 ((qA l1 x5_1).f2.f4)) ∧ w'.cell? ⟨(ad475.add ((x5_1).toNat * 8)).block, (ad475.add ((x5_1).toNat * 8)).off + 7, none⟩ = some (.int .i64 ((qA l1 x5_1).f2.f5))) (ds := []) #[false, false, false, false, false, false, false, false, false, false] (by kernel_rfl) rfl rfl ⟨(hB HB hw474_0 :), (hB HB hw474_1 :), (hB HB hw474_2 :), (hB HB hw474_3 :), (hB HB hw474_4 :), (hB HB hw474_5 :), (hB HB hw474_6 :), (hB HB hw474_7 :), (hB HB hw475_0 :), (hB HB hw475_1 :), (hB HB hw475_2 :), (hB HB hw475_3 :), (hB HB hw475_4 :), (hB HB hw475_5 :), (hB HB hw475_6 :), (hB HB hw475_7 :)⟩ (fun hHeld => ?_); refine qKA qh.tab6 qh.bits6 (fun HT_ HW_ => ?_)
        generalize wr.drew = w11 at HB hx474_0 hx474_1 hx474_2 hx474_3 hx474_4 hx474_5 hx474_6 hx474_7 hx475_0 hx475_1 hx475_2 hx475_3 hx475_4 hx475_5 hx475_6 hx475_7 hHeld ⊢
        refine pS (i := 0) (N := some 17) #[true, false, false, false, false, false, false, false, false, false] HT_ ?_
        refine pS (i := 1) (N := some 18) #[true, true, false, false, false, false, false, false, false, false] HT_ ?_
        refine pS (i := 2) (N := some 19) #[true, true, true, false, false, false, false, false, false, false] HT_ ?_
        refine pS (i := 4) (N := some 21) #[true, true, true, false, true, false, false, false, false, false] HT_ ?_
        refine pS (i := 5) (N := some 22) #[true, true, true, false, true, true, false, false, false, false] HT_ ?_
        refine pS (i := 6) (N := some 23) #[true, true, true, false, true, true, true, false, false, false] HT_ ?_
        refine tS (i := 3) (N := some 20) #[true, true, true, true, true, true, true, false, false, false] HT_ HW_ hHeld ?_
        refine tS (i := 7) (N := some 24) #[true, true, true, true, true, true, true, true, false, false] HT_ HW_ hHeld ?_
        refine one_ (i := 8) (N := some 25) #[true, true, true, true, true, true, true, true, true, false] rfl rfl (qUA HT_.out (by kernel_rfl)) (by decide) (fun K hK => ?_)
        refine goes_ Tryd.func13 (by kernel_rfl) rfl #[.agg #[.int .i64 ((qA l0 x5_1).f0), .int .i64 ((qA l0 x5_1).f1), .int .i64 ((qA l0 x5_1).f2.f0), .int .i64 ((qA l0 x5_1).f2.f1), .int .i64 ((qA l0 x5_1).f2.f2), .int .i64 ((qA l0 x5_1).f2.f3), .int .i64 ((qA l0 x5_1).f2.f4), .int .i64 ((qA l0 x5_1).f2.f5)], .agg #[.int .i64 ((qA l1 x5_1).f0), .int .i64 ((qA l1 x5_1).f1), .int .i64 ((qA l1 x5_1).f2.f0), .int .i64 ((qA l1 x5_1).f2.f1), .int .i64 ((qA l1 x5_1).f2.f2), .int .i64 ((qA l1 x5_1).f2.f3), .int .i64 ((qA l1 x5_1).f2.f4), .int .i64 ((qA l1 x5_1).f2.f5)]] (by rfl) rfl rfl gA ?_
        with_reducible refine (qQB.calls ((qA l0 x5_1).f0) ((qA l0 x5_1).f1) ((qA l0 x5_1).f2.f0) ((qA l0 x5_1).f2.f1) ((qA l0 x5_1).f2.f2) ((qA l0 x5_1).f2.f3) ((qA l0 x5_1).f2.f4) ((qA l0 x5_1).f2.f5) ((qA l1 x5_1).f0) ((qA l1 x5_1).f1) ((qA l1 x5_1).f2.f0) ((qA l1 x5_1).f2.f1) ((qA l1 x5_1).f2.f2) ((qA l1 x5_1).f2.f3) ((qA l1 x5_1).f2.f4) ((qA l1 x5_1).f2.f5) false _ A7.out).mono ?_
        rintro e w12 ⟨rfl, hb⟩
        refine ⟨_, rfl, ?_⟩
        replace HB := aM (qB bl hb); (try clear hb); (try clear hb2); (try clear hk); (try clear hi)
        refine hK.out _ _ ⟨(hB HB hw474_0 :), (hB HB hw474_1 :), (hB HB hw474_2 :), (hB HB hw474_3 :), (hB HB hw474_4 :), (hB HB hw474_5 :), (hB HB hw474_6 :), (hB HB hw474_7 :), (hB HB hw475_0 :), (hB HB hw475_1 :), (hB HB hw475_2 :), (hB HB hw475_3 :), (hB HB hw475_4 :), (hB HB hw475_5 :), (hB HB hw475_6 :), (hB HB hw475_7 :)⟩ (fun hHeld => ?_)
        clear hK K
        refine norm_ (a' := ?_) ?_ ?_
        rotate_left
        ·show Act.put _ (some 25) _ = _
         simp only [Act.put, List.setIfInBounds_toArray, List.set_cons_zero, List.set_cons_succ, i64_w, i32_w]
         rfl
        refine pS (i := 9) (N := some 26) #[true, true, true, true, true, true, true, true, true, true] HT_ ?_
        refine done_ (qrA HT_.out (by kernel_rfl)) ?_
        try go_wp2
        go_ret
        exact ⟨sR, bl⟩
      ·rw [if_neg c6] at H
       exact absurd H (by simp)
     ·rw [if_neg c5] at H
      exact absurd H (by simp)
    ·rw [if_neg c4] at H
     have c4b0 := decide_eq_false c4
     clear c4
     obtain rfl := Option.some.inj H
     go_wp2
     go_ret
     exact ⟨sR, bl⟩
 ·rw [if_neg c3] at H
  have c3b0 := beq_eq_false_iff_ne.mpr c3
  have c3b1 := bne_iff_ne.mpr c3
  have c3b2 : (l0.length == l1.length) = false := by first | simpa using c3 | (simp at c3 ⊢; omega)
  obtain rfl := Option.some.inj H
  go_enter Tryd.func8, Tryd.ntmps8
  go_wp2
  go_ret
  exact ⟨sR, bl⟩
end Go.Proofs.YthhiiceligjleaaDoor.P
namespace Go.Proofs.YthhiiceligjleaaDoor
open Go.RowKit Go.Proofs.YthhiiceligjleaaDoorW.PrintWords Go.Proofs.YthhiiceligjleaaDoorW.PrintLast
set_option linter.unusedVariables false
set_option linter.unusedSimpArgs false
theorem Ev.at_ {α : Type} {g : Nat → Option α} {r : α} (n : Nat) (h : ∀ k, g (k + n) = some r) : Ev g r := ⟨n, fun k hk => by
 obtain ⟨m, rfl⟩ : ∃ m, k = m + n := ⟨k - n, by omega⟩
 exact h m⟩
theorem Ev.pos {α : Type} {c : Prop} [Decidable c] {g f : Nat → Option α} {r : α} (hc : c) (h : Ev g r) : Ev (fun k => if c then g k else f k) r := h.congr fun k => if_pos hc
theorem Ev.neg {α : Type} {c : Prop} [Decidable c] {g f : Nat → Option α} {r : α} (hc : ¬ c) (h : Ev f r) : Ev (fun k => if c then g k else f k) r := h.congr fun k => if_neg hc
theorem Ev.some_ {α : Type} {a r : α} (h : a = r) : Ev (fun _ => some a) r := ⟨0, fun _ _ => by rw [h]⟩
theorem Ev.bindc {α β : Type} {o : Option α} {f : Nat → α → Option β} {a : α} {r : β} (h : o = some a) (k : Ev (fun n => f n a) r) : Ev (fun n => o.bind (f n)) r := k.congr fun n => by rw [h]; rfl
theorem w64 {i : Int} (h0 : -9223372036854775808 ≤ i) (h1 : i ≤ 9223372036854775807) : wrap64 i = i := by unfold wrap64; omega
end Go.Proofs.YthhiiceligjleaaDoor
namespace Go.Proofs.YthhiiceligjleaaDoor
open Go.RowKit Go.Proofs.YthhiiceligjleaaDoor.P Go.Proofs.YthhiiceligjleaaDoorW.PrintWords Go.Proofs.YthhiiceligjleaaDoorW.PrintLast
set_option linter.unusedVariables false
set_option linter.unusedSimpArgs false
abbrev XS := S41
theorem rdXS (l : List XS) (i : Nat) (h : i < l.length) : qA l (i : Int) = l[i] := by
 unfold qA
 rw [Int.toNat_natCast, List.getD_eq_getElem?_getD, List.getElem?_eq_getElem h]; rfl
theorem eqState_rfl (a b c d e f g h : Int) : qQB.f a b c d e f g h a b c d e f g h = some true := by
 unfold qQB.f qkB.f
 simp
theorem eqStateS_loop (a : List XS) (ha : a.length ≤ 140737488355328) (d : Nat) : ∀ i : Nat, i ≤ a.length → a.length - i = d → Ev (fun k => qh.l0 k a a (i : Int)) true := by
 induction d with
 | zero =>
  intro i hi hd
  exact Ev.step (f := fun k => _) (fun k => by rw [qh.l0]) (Ev.neg (by omega) (Ev.now _))
 | succ d ih =>
  intro i hi hd
  refine Ev.step (f := fun k => _) (fun k => by rw [qh.l0]) (Ev.pos (by omega) (Ev.pos (by omega) (Ev.pos (by omega) (Ev.bindc (eqState_rfl _ _ _ _ _ _ _ _) (Ev.pos rfl ?_)))))
  rw [show wrap64 ((i : Int) + 1) = ((i + 1 : Nat) : Int) by unfold wrap64; omega]
  exact ih (i + 1) (by omega) (by omega)
theorem eqStateS_refl (a : List XS) (ha : a.length ≤ 140737488355328) : Ev (fun k => qh.f k a a) true := by
 unfold qh.f
 exact Ev.pos rfl (eqStateS_loop a ha a.length 0 (by omega) (by omega))
abbrev LS := S45
def convS (x : LS) : XS := ⟨x.f0, x.f1, ⟨x.f2.f0, x.f2.f1, x.f2.f2, x.f2.f3, x.f2.f4, x.f2.f5⟩⟩
theorem rdLS (l : List LS) (i : Nat) (h : i < l.length) : qnA l (i : Int) = l[i] := by
 unfold qnA
 rw [Int.toNat_natCast, List.getD_eq_getElem?_getD, List.getElem?_eq_getElem h]; rfl
theorem toStateS_loop (l : List LS) (ha : l.length ≤ 2000000) (d : Nat) : ∀ (i : Nat) (t : List XS), i ≤ l.length → l.length - i = d → t.length = l.length - i →
  Ev (fun k => qo.l0 k l (i : Int) ((l.take i).map convS ++ t)) (l.map convS) := by
 induction d with
 | zero =>
  intro i t hi hd ht
  obtain rfl : i = l.length := by omega
  obtain rfl : t = [] := List.eq_nil_of_length_eq_zero (by omega)
  exact Ev.step (f := fun k => _) (fun k => by rw [qo.l0]) (Ev.neg (by omega) (Ev.some_ (by simp)))
 | succ d ih =>
  intro i t hi hd ht
  have h : i < l.length := by omega
  cases t with
  | nil => simp at ht; omega
  | cons t0 t =>
   refine Ev.step (f := fun k => _) (fun k => by rw [qo.l0]) (Ev.pos (by omega) (Ev.pos (by omega) (Ev.bindc (show qoB.f _ _ _ _ _ _ _ _ = some _ from rfl) (Ev.pos ?_ ?_))))
   ·simp; omega
   ·rw [show wrap64 ((i : Int) + 1) = ((i + 1 : Nat) : Int) by unfold wrap64; omega, rdLS l i h]
    have := ih (i + 1) t (by omega) (by omega) (by simp at ht; omega)
    rw [List.take_succ_eq_append_getElem h, List.map_append, List.append_assoc] at this
    have e : ((l.take i).map convS ++ t0 :: t).set ((i : Int).toNat) (convS l[i]) = (l.take i).map convS ++ ([l[i]].map convS ++ t) := by
     rw [Int.toNat_natCast, List.set_append_right _ _ (by simp; omega)]
     simp [show i - min i l.length = 0 by omega]
    rw [← e] at this
    exact this
theorem toStateS_ev (l : List LS) (ha : l.length ≤ 2000000) : Ev (fun k => qo.f k l) (l.map convS) := by
 unfold qo.f
 refine Ev.pos (by omega) (Ev.pos (by omega) ?_)
 have := toStateS_loop l ha l.length 0 (List.replicate l.length z41) (by omega) (by omega) (by simp)
 simpa using this
theorem szStateS_eq (l : List LS) (h : l.length * 64 ≤ 140737488351232) : quA.f l 1048576 = some (if l.length ≤ 1048576 then 1048576 - (l.length : Int) else -1) := by
 unfold quA.f
 have w : wrap64 (1048576 - (l.length : Int)) = 1048576 - (l.length : Int) := by unfold wrap64; omega
 rw [w]
 by_cases h : l.length ≤ 1048576
 ·rw [if_neg (by omega), if_pos h]
 ·rw [if_pos (by omega), if_neg h]
end Go.Proofs.YthhiiceligjleaaDoor
namespace Go.Proofs.YthhiiceligjleaaDoor
open Go.RowKit Go.Proofs.YthhiiceligjleaaDoor.P Go.Proofs.YthhiiceligjleaaDoorW.PrintWords Go.Proofs.YthhiiceligjleaaDoorW.PrintLast Go.Proofs.YthhiiceligjleaaDoorW.PrintMore
set_option linter.unusedVariables false
set_option linter.unusedSimpArgs false
def numsX (x : XS) : List Int := [x.f0, x.f1, x.f2.f0, x.f2.f1, x.f2.f2, x.f2.f3, x.f2.f4, x.f2.f5]
def flatS (l : List XS) : List Int := l.flatMap numsX
theorem qKC (x : XS) : (numsX x).length = 8 := rfl
theorem qXB : ∀ l : List XS, (flatS l).length = l.length * 8
 | [] => rfl
 | x :: l => by
  have := qXB l
  unfold flatS at this ⊢
  rw [List.flatMap_cons, List.length_append, this, qKC, List.length_cons]; omega
def keyL (l : List XS) : List Int := flatS l ++ List.replicate (16 - l.length * 8) 0
theorem qgC (l : List XS) (h : l.length ≤ 2) : (keyL l).length = 16 := by
 unfold keyL
 rw [List.length_append, qXB, List.length_replicate]; omega
abbrev kyC (m : List Int) : Array Value := (m.map (Value.int .i64)).toArray
theorem key_is (l : List XS) : flatS l ++ (List.replicate 16 (0 : Int)).drop (flatS l).length = keyL l := by
 unfold keyL
 rw [qXB, List.drop_replicate]
def encK (l : List XS) : Value := .agg (kyC (keyL l))
theorem flatS_get : ∀ (l : List XS) (j : Nat) (x : XS) (i : Nat) (v : Int), l[j]? = some x → (numsX x)[i]? = some v → (flatS l)[j * 8 + i]? = some v
 | [], j, x, i, v, h, _ => by simp at h
 | y :: l, 0, x, i, v, h, hv => by
  injection h with h
  subst h
  have hi := (List.getElem?_eq_some_iff.1 hv).1
  unfold flatS
  rw [List.flatMap_cons, Nat.zero_mul, Nat.zero_add, List.getElem?_append_left hi]
  exact hv
 | y :: l, j + 1, x, i, v, h, hv => by
  have := flatS_get l j x i v h hv
  unfold flatS at this ⊢
  rw [List.flatMap_cons, List.getElem?_append_right (by rw [qKC]; omega), qKC, show (j + 1) * 8 + i - 8 = j * 8 + i by omega]
  exact this
theorem numsX_enc {w : World} {x : XS} {cs : List Value} (h : k41.K w x cs) : cs = (numsX x).map (Value.int .i64) := k41_open h
theorem cells_flat {w : World} {ad : Addr} {l : List XS} (h : Kd.C k41 w (some ad) l.length l) (j : Nat) (v : Value) (hv : ((flatS l).map (Value.int .i64))[j]? = some v) : w.cell? (ad.add j) = some v := by
 have hj := (List.getElem?_eq_some_iff.1 hv).1
 rw [List.length_map, qXB] at hj
 have hjl : j / 8 < l.length := by omega
 obtain ⟨ad', e, hc⟩ := h.2.2 (by omega)
 injection e with e
 subst e
 obtain ⟨c, hcl, hK, hcell⟩ := hc (j / 8) _ (List.getElem?_eq_getElem hjl)
 have hc8 := numsX_enc hK
 have hi : j % 8 < (numsX l[j / 8]).length := by rw [qKC]; omega
 have h1 := flatS_get l (j / 8) _ (j % 8) _ (List.getElem?_eq_getElem hjl) (List.getElem?_eq_getElem hi)
 have h2 := hcell (j % 8) (.int .i64 (numsX l[j / 8])[j % 8]) (by rw [hc8, List.getElem?_map, List.getElem?_eq_getElem hi]; rfl)
 rw [List.getElem?_map, show j = j / 8 * 8 + j % 8 by omega, h1] at hv
 injection hv with hv
 rw [← hv, ← h2]
 have e8 : k41.sz = 8 := rfl
 rw [e8, show j / 8 * 8 + j % 8 = j by omega]
structure KyIs (w w' : World) (g1 g2 : Nat) (m o : List Int) : Prop where
 tab : w'.heap[g1]? = some (.cells (kyC m) 71 (0, 0))
 opp : w'.heap[g2]? = some (.cells (kyC o) 71 (0, 0))
 ne : g1 ≠ g2
 ge : w.heap.size ≤ g1
 ge2 : w.heap.size ≤ g2
 below : Below w.heap.size w w'
theorem kyC_at (m : List Int) (j : Nat) (hj : j < m.length) : (kyC m)[j]? = some (.int .i64 (m.getD j 0)) := by
 rw [List.getD_eq_getElem?_getD, List.getElem?_eq_getElem hj]
 simp [kyC, hj]
theorem kyC_one (m : List Int) : (kyC m).all (·.oneCell') = true := all_oneCell_toArray (cs := m.map (Value.int .i64)) fun v hv => by obtain ⟨x, _, rfl⟩ := List.mem_map.1 hv; rfl
theorem KyIs.range2 {w w' : World} {g1 g2 : Nat} {m o : List Int} (h : KyIs w w' g1 g2 m o) : w'.rangeAt g2 0 (o.map (Value.int .i64)) := fun j v hv => by
 have hj := (List.getElem?_eq_some_iff.1 hv).1
 rw [Nat.zero_add, qxA h.opp j]
 simpa [kyC] using hv
theorem KyIs.there1 {w w' : World} {g1 g2 : Nat} {m o : List Int} (h : KyIs w w' g1 g2 m o) (n : Nat) (hn : n ≤ m.length) : w'.there g1 0 n := fun j hj => by
 rw [Nat.zero_add, qxA h.tab j, kyC_at m j (by omega)]
 exact ⟨rfl, qX h.tab j⟩
theorem KyIs.there2 {w w' : World} {g1 g2 : Nat} {m o : List Int} (h : KyIs w w' g1 g2 m o) (n : Nat) (hn : n ≤ o.length) : w'.there g2 0 n := fun j hj => by
 rw [Nat.zero_add, qxA h.opp j, kyC_at o j (by omega)]
 exact ⟨rfl, qX h.opp j⟩
def kySet : List Int → Nat → List Int → List Int
 | m, _, [] => m
 | m, j, v :: vs => kySet (m.set j v) (j + 1) vs
theorem qrD : ∀ (vs m : List Int) (j : Nat), j + vs.length ≤ m.length → kySet m j vs = m.take j ++ vs ++ m.drop (j + vs.length)
 | [], m, j, h => by simp [kySet]
 | v :: vs, m, j, h => by
  simp only [List.length_cons] at h
  rw [kySet, qrD vs (m.set j v) (j + 1) (by rw [List.length_set]; omega)]
  have e1 : (m.set j v).take (j + 1) = m.take j ++ [v] := by
   rw [List.take_succ_eq_append_getElem (by rw [List.length_set]; omega), List.getElem_set_self, List.take_set_of_le (Nat.le_refl _)]
  have e2 : (m.set j v).drop (j + 1 + vs.length) = m.drop (j + (v :: vs).length) := by
   rw [List.drop_set_of_lt (by omega)]
   congr 1
   simp only [List.length_cons]; omega
  rw [e1, e2]
  simp
theorem KyIs.put {w w' : World} {g1 g2 : Nat} {m o : List Int} (h : KyIs w w' g1 g2 m o) (j : Nat) (v : Int) : KyIs w (w'.setCell ⟨g1, j, none⟩ (.int .i64 v)) g1 g2 (m.set j v) o := by
 refine ⟨qAA h.tab j _ ?_, qIB h.opp (fun e => h.ne e.symm) _, h.ne, h.ge, h.ge2, qy h.below h.ge⟩
 simp [kyC, List.map_set]
theorem KyIs.put2 {w w' : World} {g1 g2 : Nat} {m o : List Int} (h : KyIs w w' g1 g2 m o) (j : Nat) (v : Int) : KyIs w (w'.setCell ⟨g2, j, none⟩ (.int .i64 v)) g1 g2 m (o.set j v) := by
 refine ⟨qIB h.tab h.ne _, qAA h.opp j _ ?_, h.ne, h.ge, h.ge2, qy h.below h.ge2⟩
 simp [kyC, List.map_set]
theorem KyIs.puts {w : World} {g1 g2 : Nat} : ∀ (vs : List Int) (j : Nat) (m o : List Int) (w' : World), KyIs w w' g1 g2 m o → KyIs w (w'.setCells g1 j (vs.map (Value.int .i64))) g1 g2 (kySet m j vs) o
 | [], j, m, o, w', h => h
 | v :: vs, j, m, o, w', h => KyIs.puts vs (j + 1) _ o _ (h.put j v)
theorem KyIs.puts2 {w : World} {g1 g2 : Nat} : ∀ (vs : List Int) (j : Nat) (m o : List Int) (w' : World), KyIs w w' g1 g2 m o → KyIs w (w'.setCells g2 j (vs.map (Value.int .i64))) g1 g2 m (kySet o j vs)
 | [], j, m, o, w', h => h
 | v :: vs, j, m, o, w', h => KyIs.puts2 vs (j + 1) m _ _ (h.put2 j v)
theorem KyIs.whole {w w' W : World} {g1 g2 : Nat} {m o vs : List Int} (h : KyIs w w' g1 g2 m o) (hW : w'.setCells g1 0 (kyC vs).toList = W) (hl : vs.length = m.length) : KyIs w W g1 g2 vs o := by
 have := KyIs.puts vs 0 m o w' h
 rw [qrD vs m 0 (by omega), List.take_zero, List.nil_append, Nat.zero_add, hl, List.drop_length, List.append_nil] at this
 rw [← hW]
 exact this
theorem KyIs.front2 {w w' W : World} {g1 g2 : Nat} {m o vs : List Int} (h : KyIs w w' g1 g2 m o) (hW : w'.setCells g2 0 (vs.map (Value.int .i64)) = W) (hl : vs.length ≤ o.length) : KyIs w W g1 g2 m (vs ++ o.drop vs.length) := by
 have := KyIs.puts2 vs 0 m o w' h
 rw [qrD vs o 0 (by omega), List.take_zero, List.nil_append, Nat.zero_add] at this
 rw [← hW]
 exact this
theorem KyIs.start (w : World) : KyIs w ((w.alloc (.cells (kyC (List.replicate 16 0)) 71)).alloc (.cells (kyC (List.replicate 16 0)) 71)) w.heap.size (w.heap.size + 1) (List.replicate 16 0) (List.replicate 16 0) := by
 refine ⟨qF (qcD w _) _, ?_, by omega, Nat.le_refl _, by omega, qFA (qFA (Below.refl _ _) _) _⟩
 have := qcD (w.alloc (.cells (kyC (List.replicate 16 0)) 71 (0, 0))) (.cells (kyC (List.replicate 16 0)) 71 (0, 0))
 rw [show (w.alloc (.cells (kyC (List.replicate 16 0)) 71 (0, 0))).heap.size = w.heap.size + 1 by simp] at this
 exact this
section
variable {P : Program}
theorem run_copy_wide (w : World) (dT sT ty elem : TypeId) (s b o dLen dCap : Nat) (a : Addr) (sLen sCap : Nat) (cs : List Value)
  (hu : P.underlying dT = some (.slice elem)) (hs : (P.info? elem).map (·.size) = some s) (hn : cs.length = Nat.min sLen dLen * s)
  (hsrc : ∀ j v, cs[j]? = some v → w.cell? (a.add j) = some v) (hc : ∀ j, j < cs.length → (w.cell? ⟨b, o + j, none⟩).isSome = true) (hf : ∀ j, j < cs.length → w.frozen? ⟨b, o + j, none⟩ = false) (h1 : ∀ v ∈ cs, v.oneCell' = true) :
  (Builtin.copy_ #[dT, sT] ty #[.slice (some ⟨b, o, none⟩) dLen dCap, .slice (some a) sLen sCap]).run P w = .ok (goInt (Nat.min sLen dLen)) (w.setCells b o cs) := by
 have hl := run_loadCells_list (P := P) w a cs hsrc
 have hst := run_storeCells_cells (P := P) b o cs 0 w (by simpa using hc) (by simpa using hf) h1
 rw [hn] at hl
 cases hq : P.info? elem with
 | none => simp [hq] at hs
 | some i =>
  have hi : i.size = s := by simpa [hq] using hs
  simp [Builtin.copy_, run_underlying hu, Builtin.lenOf, Builtin.firstCells, sizeOf, typeInfo, hq, hi, hl, hst]
end
theorem qsD : (Tryd.prog.info? 71).map (·.size) = some 16 := by kernel_rfl
set_option maxHeartbeats 8000000 in
set_option maxRecDepth 100000 in
theorem qYD (A0 : Option Addr) (c0 : Nat) (l0 : List XS) (w : World) (hr0 : Kd.C k41 w A0 l0.length l0) (hp : 1 ≤ l0.length) (hl : l0.length ≤ 2) :
  Calls Tryd.prog 22 #[.slice A0 l0.length c0] w fun e w' => e = .returned (encK l0) ∧ Below w.heap.size w w' := by
 have hu71 := Tryd.underlying71
 obtain ⟨ad, rfl, _⟩ := hr0.2.2 hp
 have HR := aM hr0
 have HPL := aM (And.intro hp hl)
 clear hr0 hp hl
 have IS := aM (KyIs.start w)
 go_enter Tryd.func22, Tryd.ntmps22
 go_wp2_with (first
  | ((with_reducible refine qpA (b := .copy) (xs := #[.tmp 5, .tmp 6]) rfl ?_); go_loud (refine Lib.wpList_copy_run _ rfl (.tmp 5) (.tmp 6) 26 26 rfl _ _ rfl rfl (run_copy_wide _ 26 26 _ 41 8 (w.heap.size + 1) 0 2 2 ad l0.length c0 ((flatS l0).map (Value.int .i64)) Tryd.underlying26 (by kernel_rfl) ?hn ?hsrc ?hc ?hf ?h1) ?_; (case hn => have := HPL.out; rw [List.length_map, qXB]; show _ = min l0.length 2 * 8; omega); (case hsrc => exact cells_flat (Kd.qg HR.out IS.out.below)); (case hc => intro j hj; rw [List.length_map, qXB] at hj; have h_ := HPL.out; exact (IS.out.there2 16 (by decide) j (by omega)).1); (case hf => intro j hj; rw [List.length_map, qXB] at hj; have h_ := HPL.out; exact (IS.out.there2 16 (by decide) j (by omega)).2); (case h1 => intro v hv; obtain ⟨x, _, rfl⟩ := List.mem_map.1 hv; rfl); generalize hW : World.setCells _ _ _ _ = W; have n_ := aM (KyIs.front2 (vs := flatS l0) IS.out hW (by rw [qXB, List.length_replicate]; have := HPL.out; omega)); clear IS hW; have IS := n_; clear n_))
  | ((with_reducible refine qK (N := 8) rfl ?_); go_loud (refine wpList_load_mid (by rfl) 71 (.tmp 3) (by rfl) (w.heap.size + 1) 0 rfl ((keyL l0).map (Value.int .i64)) (.array 2 41) ?hc hu71 rfl ?hi ?_; (case hc => have h_ := IS.out.range2; rw [key_is] at h_; exact h_); (case hi => have h_ := HPL.out; rw [List.length_map, qgC _ h_.2]; exact qsD)))
  | ((with_reducible refine qlB (t := 71) (p := 2) rfl ?_); go_loud (refine wpList_store_mid (by rfl) 71 (.tmp 2) (.tmp 8) (by rfl) w.heap.size 0 (kyC (keyL l0)) rfl rfl ?ht ?hi (kyC_one _) ?_; (case hi => have h_ := HPL.out; rw [show (kyC (keyL l0)).size = 16 by simp [kyC, qgC _ h_.2]]; exact qsD); (case ht => have h_ := HPL.out; rw [show (kyC (keyL l0)).size = 16 by simp [kyC, qgC _ h_.2]]; exact IS.out.there1 16 (by decide)); generalize hW : World.setCells _ _ _ _ = W; have n_ := aM (KyIs.whole IS.out hW (by have h_ := HPL.out; rw [qgC _ h_.2]; rfl)); clear IS hW; have IS := n_; clear n_)))
 refine bodyPost_ret (results_cell_row rfl _ _ w.heap.size 71 (kyC (keyL l0)) (0, 0) _ rfl IS.out.tab Tryd.underlying71 rfl (by have h_ := HPL.out; rw [show (kyC (keyL l0)).size = 16 by simp [kyC, qgC _ h_.2]]; exact qsD)) rfl ?_
 exact ⟨rfl, IS.out.below⟩
end Go.Proofs.YthhiiceligjleaaDoor
namespace Go.Proofs.YthhiiceligjleaaDoor
open Go Go.ChangeMaps Go.MapKept
open Go.Maps (Keyed IsMap Tidy)
set_option linter.unusedVariables false
set_option linter.unusedSectionVars false
theorem plainElem_bool_inv {H : Type} {P : Program} {e : TypeId} (he : P.underlying e = some .bool) {v : Value} {z : DataW H × List MemPlace} (h : plainElem P e v = some z) : ∃ x, v = .bool x ∧ z = (.lit (.bool x), []) := by
 unfold plainElem at h
 rw [he] at h
 cases v <;> simp at h
 exact ⟨_, rfl, h.symm⟩
structure MapKit (P : Program) (κ ν : Type) where
 t : TypeId
 k : TypeId
 e : TypeId
 law : Keyed P k
 ht : P.underlying t = some (.map k e)
 okK : κ → Prop
 key : κ → Value
 lit : κ → Lit
 hkey : ∀ x, okK x → keyOf P k (key x) = some (lit x)
 inj : ∀ x y, key x = key y → x = y
 okV : ν → Prop
 val : ν → Value
 dat : ν → DataW Unit
 R : Value → Option (DataW Unit × List MemPlace)
 hval : ∀ v, okV v → R (val v) = some (dat v, [])
 hdat : ∀ v u ps, R u = some (dat v, ps) → u = val v
 zero : ν
 okz : okV zero
 hz : ∀ w, (zeroValue e).run P w = .ok (val zero) w
namespace MapKit
variable {P : Program} {κ ν : Type} [DecidableEq κ] (M : MapKit P κ ν)
def datum : List (κ × ν) → DataW Unit
 | [] => .map []
 | x :: l => (datum l).put (M.lit x.1) (M.dat x.2)
def look (l : List (κ × ν)) (x : κ) : ν := match l.find? fun y => decide (y.1 = x) with | some y => y.2 | none => M.zero
def met (l : List (κ × ν)) (x : κ) : Bool := l.any fun y => decide (y.1 = x)
structure Is (w : World) (b : Nat) (l : List (κ × ν)) : Prop where
 ok : ∀ y ∈ l, M.okK y.1 ∧ M.okV y.2
 own : w.ownsMap P M.k M.R b l.length (M.datum l)
theorem datum_isMap : ∀ l : List (κ × ν), IsMap (M.datum l)
 | [] => Go.Maps.isMap_empty
 | x :: l => (datum_isMap l).put _ _
theorem lit_ne {x y : κ} (hx : M.okK x) (hy : M.okK y) (h : x ≠ y) : M.lit x ≠ M.lit y := fun e =>
 h (M.inj _ _ (M.law.inj (M.hkey x hx) (by rw [M.hkey y hy, e])))
theorem at_datum {x : κ} (hx : M.okK x) : ∀ (l : List (κ × ν)), (∀ y ∈ l, M.okK y.1 ∧ M.okV y.2) → (M.datum l).atKey (M.lit x) (M.dat M.zero) = M.dat (M.look l x)
 | [], _ => rfl
 | y :: l, h => by
  have ih := at_datum hx l (fun z hz => h z (List.mem_cons_of_mem _ hz))
  have hy := (h y List.mem_cons_self).1
  show ((M.datum l).put (M.lit y.1) (M.dat y.2)).atKey (M.lit x) (M.dat M.zero) = _
  unfold look at ih ⊢
  by_cases e : y.1 = x
  ·rw [List.find?_cons_of_pos (by simpa using e), e]
   exact Go.Maps.atKey_put_same (M.datum_isMap l) (M.law.key (M.hkey x hx)) _ _
  ·rw [List.find?_cons_of_neg (by simpa using e), ← ih]
   exact Go.Maps.atKey_put_other (M.lit_ne hx hy (fun q => e q.symm)) _ _
variable {M} {w : World} {b : Nat} {l : List (κ × ν)}
theorem Is.made (w : World) : M.Is (w.alloc (.map #[] 0)) w.heap.size [] := ⟨fun _ h => (List.not_mem_nil h).elim, World.ownsMap_made _ _ _ _⟩
theorem Is.lt (h : M.Is w b l) : b < w.heap.size := h.own.lt
theorem Is.kept {w' : World} {row : Option Nat} (h : M.Is w b l) (hg : w.grownBy w' row) (hne : some b ≠ row) : M.Is w' b l := ⟨h.ok, h.own.kept hg hne⟩
theorem Is.alloc (h : M.Is w b l) (o : Obj) : M.Is (w.alloc o) b l := ⟨h.ok, h.own.alloc o⟩
theorem Is.setCell (h : M.Is w b l) {a : Addr} (ha : b ≠ a.block) (u : Value) : M.Is (w.setCell a u) b l := ⟨h.ok, h.own.setCell ha u⟩
theorem Is.qsB {w' : World} (h : M.Is w b l) (e : w'.heap[b]? = w.heap[b]?) : M.Is w' b l := by
 obtain ⟨es, clock, hb, r⟩ := h.own
 exact ⟨h.ok, es, clock, by rw [e, hb], r⟩
theorem Is.run_look (h : M.Is w b l) {x : κ} (hx : M.okK x) : (Instr.lookup M.t (.map (some b)) (M.key x) false).run P w = .ok (M.val (M.look l x)) w := by
 obtain ⟨v, ps, hrun, hv⟩ := h.own.lookup M.law M.ht (M.hz w) (M.hval _ M.okz) (M.hkey x hx)
 rw [M.at_datum hx l h.ok] at hv
 rw [hrun, M.hdat _ _ _ hv]
theorem Is.run_put (h : M.Is w b l) (hn : l.length < maxLen) {x : κ} (hx : M.okK x) {v : ν} (hv : M.okV v) : ∃ w', (Instr.mapUpdate M.t (.map (some b)) (M.key x) (M.val v)).run P w = .ok () w' ∧ M.Is w' b ((x, v) :: l) ∧ w.grownBy w' (some b) := by
 obtain ⟨w', hrun, h1, h2⟩ := h.own.update M.law M.ht hn (M.hkey x hx) (M.hval v hv)
 refine ⟨w', hrun, ⟨fun y hy => ?_, h1⟩, h2⟩
 rcases List.mem_cons.1 hy with rfl | hy
 ·exact ⟨hx, hv⟩
 ·exact h.ok y hy
variable {ops : Array Oper} {rest : List Oper} {o : Oper} {a : Act} {Q : Exit → Act → World → Prop}
end MapKit
theorem elem_bool {P : Program} {e : TypeId} (he : P.underlying e = some .bool) : (∀ v : Bool, True → plainElem (H := Unit) P e (.bool v) = some (.lit (.bool v), [])) ∧ ∀ (v : Bool) (u : Value) ps, plainElem (H := Unit) P e u = some (.lit (.bool v), ps) → u = .bool v := by
 refine ⟨fun v _ => plainElem_bool he v, fun v u ps h => ?_⟩
 obtain ⟨x, rfl, hz⟩ := plainElem_bool_inv he h
 simp only [Prod.mk.injEq, DataW.lit.injEq, Lit.bool.injEq] at hz
 rw [hz.1]
end Go.Proofs.YthhiiceligjleaaDoor
namespace Go.Proofs.YthhiiceligjleaaDoor
open Go.RowKit Go.Proofs.YthhiiceligjleaaDoorW.PrintWords Go.Proofs.YthhiiceligjleaaDoorW.PrintLast
set_option linter.unusedVariables false
set_option linter.unusedSectionVars false
namespace MapKit
variable {P : Program} {κ ν : Type} [DecidableEq κ] {M : MapKit P κ ν} {w w1 : World} {b : Nat} {l : List (κ × ν)}
theorem Is.below (h : M.Is w b l) (hb : Below w.heap.size w w1) : M.Is w1 b l := h.qsB (hb.block b h.lt)
theorem Is.drewN (h : M.Is w b l) (n : Nat) : M.Is (w.drewN n) b l := h.qsB rfl
theorem Is.drew (h : M.Is w b l) : M.Is w.drew b l := h.qsB rfl
theorem Is.obj (h : M.Is w b l) : ∃ es clock, w.heap[b]? = some (.map es clock) := by
 obtain ⟨es, clock, hb, _⟩ := h.own
 exact ⟨es, clock, hb⟩
theorem Is.off (h : M.Is w b l) {k : Nat} {cells : Array Value} {q : TypeId} (hc : w.heap[k]? = some (.cells cells q (0, 0))) : k ≠ b := by
 rintro rfl
 obtain ⟨es, clock, hb⟩ := h.obj
 rw [hb] at hc
 cases hc
theorem Is.ne (h : M.Is w b l) {α : Type} {d : Kd α} {e base : Nat} {ok : Nat → Prop} {v : Value} {xs : List α} (hR : d.R e w base ok v xs) : some b ≠ v.ownBlock := by
 intro he
 obtain ⟨_, _, _, q, _, cells, hc⟩ := (Kd.qhB hR).1 b he.symm
 exact h.off hc rfl
theorem Is.row (h : M.Is w b l) {α : Type} {d : Kd α} {e base : Nat} {ok : Nat → Prop} {v : Value} {xs : List α} (hR : d.R e w base ok v xs) (hg : w.grownBy w1 (some b)) : d.R e w1 base ok v xs :=
 Kd.qZ (Kd.qjD (Kd.qhB hR) (fun k hk hlt => hg.block k hlt (fun e_ => by
  injection e_ with e_
  obtain ⟨_, _, _, q, _, cells, hc⟩ := hk
  exact h.off hc e_))) (fun _ hk => hk.1)
end MapKit
end Go.Proofs.YthhiiceligjleaaDoor
namespace Go.Proofs
open Go.Shelf
def Tryd.lays146_ren : Go.Shelf.Ren := ⟨fun | 146 => 59 | 221 => 63 | 268 => 74 | 138 => 75 | 143 => 76 | 195 => 82 | 197 => 78 | 218 => 83 | 219 => 84 | 260 => 85 | 217 => 88 | 225 => 89 | 224 => 90 | 267 => 91 | 266 => 94 | 314 => 95 | n => n, fun | 9 => 9 | 31 => 51 | 3 => 3 | 4 => 4 | 0 => 0 | 105 => 124 | 21 => 21 | 5 => 5 | 46 => 132 | 119 => 133 | 139 => 136 | 138 => 135 | 146 => 139 | 51 => 138 | n => n, fun | 1 => 0 | 3 => 1 | 4 => 2 | n => n⟩
theorem Tryd.lays146 : Go.Proofs.Lays.n146 Tryd.prog Tryd.lays146_ren := {
 mixed := by kernel_rfl
 f138 := Tryd.func75.trans (congrArg some (by kernel_rfl))
 f143 := Tryd.func76.trans (congrArg some (by kernel_rfl))
 f146 := Tryd.func59.trans (congrArg some (by kernel_rfl))
 f195 := Tryd.func82.trans (congrArg some (by kernel_rfl))
 f197 := Tryd.func78.trans (congrArg some (by kernel_rfl))
 f217 := Tryd.func88.trans (congrArg some (by kernel_rfl))
 f218 := Tryd.func83.trans (congrArg some (by kernel_rfl))
 f219 := Tryd.func84.trans (congrArg some (by kernel_rfl))
 f221 := Tryd.func63.trans (congrArg some (by kernel_rfl))
 f224 := Tryd.func90.trans (congrArg some (by kernel_rfl))
 f225 := Tryd.func89.trans (congrArg some (by kernel_rfl))
 f260 := Tryd.func85.trans (congrArg some (by kernel_rfl))
 f266 := Tryd.func94.trans (congrArg some (by kernel_rfl))
 f267 := Tryd.func91.trans (congrArg some (by kernel_rfl))
 f268 := Tryd.func74.trans (congrArg some (by kernel_rfl))
 f314 := Tryd.func95.trans (congrArg some (by kernel_rfl))
 t0 := Tryd.underlying0
 a0 := Tryd.isAgg0
 z0 := Tryd.sizeOf0
 v0 := Tryd.zeroValue0
 t3 := Tryd.underlying3
 a3 := Tryd.isAgg3
 z3 := Tryd.sizeOf3
 v3 := Tryd.zeroValue3
 t4 := Tryd.underlying4
 a4 := Tryd.isAgg4
 z4 := Tryd.sizeOf4
 v4 := Tryd.zeroValue4
 t5 := Tryd.underlying5
 a5 := Tryd.isAgg5
 z5 := Tryd.sizeOf5
 v5 := Tryd.zeroValue5
 t9 := Tryd.underlying9
 a9 := Tryd.isAgg9
 z9 := Tryd.sizeOf9
 v9 := Tryd.zeroValue9
 t21 := Tryd.underlying21
 a21 := Tryd.isAgg21
 z21 := Tryd.sizeOf21
 v21 := Tryd.zeroValue21
 t31 := Tryd.underlying51
 a31 := Tryd.isAgg51
 z31 := Tryd.sizeOf51
 v31 := Tryd.zeroValue51
 t46 := Tryd.underlying132
 a46 := Tryd.isAgg132
 z46 := Tryd.sizeOf132
 v46 := Tryd.zeroValue132
 t51 := Tryd.underlying138
 a51 := Tryd.isAgg138
 z51 := Tryd.sizeOf138
 v51 := Tryd.zeroValue138
 t105 := Tryd.underlying124
 a105 := Tryd.isAgg124
 z105 := Tryd.sizeOf124
 v105 := Tryd.zeroValue124
 t119 := Tryd.underlying133
 a119 := Tryd.isAgg133
 z119 := Tryd.sizeOf133
 t138 := Tryd.underlying135
 a138 := Tryd.isAgg135
 z138 := Tryd.sizeOf135
 v138 := Tryd.zeroValue135
 t139 := Tryd.underlying136
 a139 := Tryd.isAgg136
 z139 := Tryd.sizeOf136
 v139 := Tryd.zeroValue136
 t146 := Tryd.underlying139
 a146 := Tryd.isAgg139
 z146 := Tryd.sizeOf139
 v146 := Tryd.zeroValue139
 g1 := by kernel_rfl
 g3 := by kernel_rfl
 g4 := by kernel_rfl }
open Go.RowKit Go.Lib in
theorem Tryd.strings_Split (s sep : ByteArray) (m : Int) (w : World) (hs : s.size < 4294967281) (hm : w.cell? ⟨0, 0, none⟩ = some (.int .i64 m)) (h1 : 1 ≤ sep.size) :
  Calls Tryd.prog 59 #[.string s, .string sep] w fun e w' =>
   e = .returned (.slice (some ⟨w.heap.size, 0, none⟩) (Lib.countB s sep + 1) (Lib.countB s sep + 1)) ∧ w' = w.alloc (.cells ((Lib.splitB sep 0 (Lib.countB s sep) s).map Value.string).toArray 9) := Any.strings_Split Tryd.lays146 (by kernel_rfl) s sep m w hs hm h1
def Tryd.lays160_ren : Go.Shelf.Ren := ⟨fun | 160 => 60 | 232 => 65 | 231 => 64 | 227 => 66 | 234 => 68 | 233 => 67 | 236 => 70 | 235 => 69 | 228 => 77 | 271 => 80 | 151 => 79 | 197 => 78 | 120 => 87 | 152 => 86 | 260 => 85 | 137 => 92 | 119 => 93 | 224 => 90 | 225 => 89 | 217 => 88 | 266 => 94 | n => n, fun | 9 => 9 | 4 => 4 | 3 => 3 | 5 => 5 | 117 => 114 | 116 => 113 | 0 => 0 | 124 => 117 | 21 => 21 | 105 => 124 | 46 => 132 | 119 => 133 | 139 => 136 | 138 => 135 | n => n, fun | 3 => 1 | 4 => 2 | n => n⟩
theorem Tryd.lays160 : Go.Proofs.Lays.n160 Tryd.prog Tryd.lays160_ren := {
 mixed := by kernel_rfl
 f119 := Tryd.func93.trans (congrArg some (by kernel_rfl))
 f120 := Tryd.func87.trans (congrArg some (by kernel_rfl))
 f137 := Tryd.func92.trans (congrArg some (by kernel_rfl))
 f151 := Tryd.func79.trans (congrArg some (by kernel_rfl))
 f152 := Tryd.func86.trans (congrArg some (by kernel_rfl))
 f160 := Tryd.func60.trans (congrArg some (by kernel_rfl))
 f197 := Tryd.func78.trans (congrArg some (by kernel_rfl))
 f217 := Tryd.func88.trans (congrArg some (by kernel_rfl))
 f224 := Tryd.func90.trans (congrArg some (by kernel_rfl))
 f225 := Tryd.func89.trans (congrArg some (by kernel_rfl))
 f227 := Tryd.func66.trans (congrArg some (by kernel_rfl))
 f228 := Tryd.func77.trans (congrArg some (by kernel_rfl))
 f231 := Tryd.func64.trans (congrArg some (by kernel_rfl))
 f232 := Tryd.func65.trans (congrArg some (by kernel_rfl))
 f233 := Tryd.func67.trans (congrArg some (by kernel_rfl))
 f234 := Tryd.func68.trans (congrArg some (by kernel_rfl))
 f235 := Tryd.func69.trans (congrArg some (by kernel_rfl))
 f236 := Tryd.func70.trans (congrArg some (by kernel_rfl))
 f260 := Tryd.func85.trans (congrArg some (by kernel_rfl))
 f266 := Tryd.func94.trans (congrArg some (by kernel_rfl))
 f271 := Tryd.func80.trans (congrArg some (by kernel_rfl))
 t0 := Tryd.underlying0
 a0 := Tryd.isAgg0
 z0 := Tryd.sizeOf0
 v0 := Tryd.zeroValue0
 t3 := Tryd.underlying3
 a3 := Tryd.isAgg3
 z3 := Tryd.sizeOf3
 v3 := Tryd.zeroValue3
 t4 := Tryd.underlying4
 a4 := Tryd.isAgg4
 z4 := Tryd.sizeOf4
 v4 := Tryd.zeroValue4
 t5 := Tryd.underlying5
 a5 := Tryd.isAgg5
 z5 := Tryd.sizeOf5
 v5 := Tryd.zeroValue5
 t9 := Tryd.underlying9
 a9 := Tryd.isAgg9
 z9 := Tryd.sizeOf9
 v9 := Tryd.zeroValue9
 t21 := Tryd.underlying21
 a21 := Tryd.isAgg21
 z21 := Tryd.sizeOf21
 v21 := Tryd.zeroValue21
 t46 := Tryd.underlying132
 a46 := Tryd.isAgg132
 z46 := Tryd.sizeOf132
 v46 := Tryd.zeroValue132
 t105 := Tryd.underlying124
 a105 := Tryd.isAgg124
 z105 := Tryd.sizeOf124
 v105 := Tryd.zeroValue124
 t116 := Tryd.underlying113
 a116 := Tryd.isAgg113
 z116 := Tryd.sizeOf113
 t117 := Tryd.underlying114
 a117 := Tryd.isAgg114
 z117 := Tryd.sizeOf114
 v117 := Tryd.zeroValue114
 t119 := Tryd.underlying133
 a119 := Tryd.isAgg133
 z119 := Tryd.sizeOf133
 t124 := Tryd.underlying117
 a124 := Tryd.isAgg117
 z124 := Tryd.sizeOf117
 v124 := Tryd.zeroValue117
 t138 := Tryd.underlying135
 a138 := Tryd.isAgg135
 z138 := Tryd.sizeOf135
 v138 := Tryd.zeroValue135
 t139 := Tryd.underlying136
 a139 := Tryd.isAgg136
 z139 := Tryd.sizeOf136
 v139 := Tryd.zeroValue136
 g3 := by kernel_rfl
 g4 := by kernel_rfl }
end Go.Proofs
namespace Go.Proofs.YthhiiceligjleaaDoor
open Go.RowKit Go.Proofs.YthhiiceligjleaaDoorW.PrintWords Go.Proofs.YthhiiceligjleaaDoorW.PrintLast
set_option linter.unusedVariables false
set_option linter.unusedSimpArgs false
def strings_Split.f (a0 a1 : ByteArray) : Option (List ByteArray) := if a0.size < 4294967281 ∧ 1 ≤ a1.size then some (Lib.splitB a1 0 (Lib.countB a0 a1) a0) else none
theorem strings_Split.calls (a0 a1 : ByteArray) (r : List ByteArray) (w : World) (hL : Laid w) (h : strings_Split.f a0 a1 = some r) :
  Calls Tryd.prog 59 #[.string a0, .string a1] w fun e w' => ∃ v0_ : Value, e = .returned v0_ ∧ Kd.R Kd.string 9 w' w.heap.size (fun _ => True) v0_ r ∧ Below w.heap.size w w' := by
 unfold strings_Split.f at h
 split at h
 ·rename_i hs
  obtain rfl := Option.some.inj h
  obtain ⟨m, hm⟩ := hL
  have hlen := Lib.splitB_all a1 hs.2 0 _ a0 rfl
  have hle := Lib.countB_le a1 hs.2 a0.size a0 (Nat.le_refl _)
  refine (Tryd.strings_Split a0 a1 m w hs.1 hm hs.2).mono fun e w' ⟨h1, h2⟩ => ⟨_, h1, ?_, ?_⟩
  ·subst h2
   generalize Lib.splitB a1 0 (Lib.countB a0 a1) a0 = l at *
   rw [← hlen]
   refine Kd.R_of_own ⟨by rw [qsC, Nat.mul_one], .inr ⟨w.heap.size, l.length, (l.map Value.string).toArray, rfl, Nat.le_refl _, ?_, Nat.le_refl _, ?_, ?_, ?_⟩⟩ (fun _ _ => trivial)
   ·exact qcD _ _
   ·unfold maxLen; omega
   ·simp
   ·simp only [encs, Nat.mul_one]
    rw [List.take_of_length_le (by simp)]
  ·subst h2
   exact qFA (Below.refl _ _) _
 ·cases h
def qBB.f (a0 a1 : ByteArray) : Option ByteArray := if a0.size ≤ 9223372036854775807 ∧ a1.size < 4294967281 ∧ (a1.data.toList.all fun b => decide (b.toNat < 128)) = true then some ⟨(Lib.trimS a0.data.toList a1.data.toList).toArray⟩ else none
theorem qBB.calls (a0 a1 : ByteArray) (r : ByteArray) (w : World) (h : qBB.f a0 a1 = some r) :
  Calls Tryd.prog 60 #[.string a0, .string a1] w fun e w' => e = .returned (.string r) ∧ Below w.heap.size w w' := by
 unfold qBB.f at h
 split at h
 ·rename_i hs
  obtain rfl := Option.some.inj h
  exact Any.strings_Trim_laid Tryd.lays160 (by kernel_rfl) a0 a1 w hs.1 hs.2.1 (ascii_of_all hs.2.2)
 ·cases h
def sp (c : UInt8) : List UInt8 → List UInt8 × List (List UInt8)
 | [] => ([], [])
 | b :: r => if b = c then ([], (sp c r).1 :: (sp c r).2) else (b :: (sp c r).1, (sp c r).2)
theorem splitK_sp (c : UInt8) (l : List UInt8) : Lib.splitK [c] 0 (Lib.count l [c]) l = (sp c l).1 :: (sp c l).2 := by
 induction l with
 | nil =>
  have : Lib.count [] [c] = 0 := by rw [Lib.count_one]; rfl
  rw [this]; rfl
 | cons b l ih =>
  by_cases h : b = c
  ·subst h
   have hix : Lib.index (b :: l) [b] = 0 := by rw [Lib.index]; simp [List.isPrefixOf]
   rw [Lib.count_cons_eq, show 1 + Lib.count l [b] = Lib.count l [b] + 1 by omega, Lib.splitK, hix]
   simp only [sp, if_true]
   rw [if_neg (by decide), ← ih]
   rfl
  ·have hp : ([c] : List UInt8).isPrefixOf (b :: l) = false := by simp [List.isPrefixOf, Ne.symm h]
   have hix : Lib.index (b :: l) [c] = if Lib.index l [c] == -1 then -1 else Lib.index l [c] + 1 := by rw [Lib.index, hp]; simp
   rw [Lib.count_cons_ne b c l h]
   simp only [sp, if_neg h]
   by_cases hm : Lib.index l [c] = -1
   ·have h0 : Lib.count l [c] = 0 := Lib.count_miss hm
    rw [h0] at ih ⊢
    simp only [Lib.splitK] at ih ⊢
    injection ih with e1 e2
    rw [← e1, ← e2]
   ·have hge := Lib.index_ge l [c]
    obtain ⟨j, hj⟩ : ∃ j : Nat, Lib.index l [c] = j := ⟨(Lib.index l [c]).toNat, by omega⟩
    have hc := Lib.count_hit (sub := [c]) (by simp) hj
    obtain ⟨k, hk⟩ : ∃ k, Lib.count l [c] = k + 1 := ⟨Lib.count l [c] - 1, by omega⟩
    rw [hk] at ih ⊢
    have hne : ¬ ((j : Int) == -1) = true := by intro e; have := beq_iff_eq.1 e; omega
    have hne' : ¬ ((j : Int) + 1 == -1) = true := by intro e; have := beq_iff_eq.1 e; omega
    rw [Lib.splitK, hj, if_neg hne] at ih
    rw [Lib.splitK, hix, hj, if_neg hne, if_neg hne']
    have e1 : ((j : Int) + 1).toNat = j + 1 := by omega
    rw [e1]
    simp only [Int.toNat_natCast, Nat.add_zero, List.length_singleton] at ih ⊢
    injection ih with i1 i2
    rw [← i1, ← i2]
    rfl
theorem split_sp (a : ByteArray) (c : UInt8) : (Lib.splitB ⟨#[c]⟩ 0 (Lib.countB a ⟨#[c]⟩) a).map (·.data.toList) = (sp c a.data.toList).1 :: (sp c a.data.toList).2 := by
 rw [Lib.splitB_data]
 exact splitK_sp c a.data.toList
theorem qUD (c : UInt8) (l : List UInt8) : l.length = (sp c l).1.length + ((sp c l).2.map List.length).sum + (sp c l).2.length := by
 induction l with
 | nil => rfl
 | cons b l ih =>
  by_cases h : b = c
  ·simp only [sp, if_pos h, List.length_cons, List.length_nil, List.map_cons, List.sum_cons]; omega
  ·simp only [sp, if_neg h, List.length_cons]; omega
theorem sp_all (c : UInt8) (p : UInt8 → Bool) (l : List UInt8) (hp : p c = false) : ((sp c l).1.all p && (sp c l).2.all (·.all p)) = l.all fun b => b == c || p b := by
 induction l with
 | nil => rfl
 | cons b l ih =>
  by_cases h : b = c
  ·subst h
   simp only [sp, if_true, List.all_nil, Bool.true_and, List.all_cons, ih, beq_self_eq_true, Bool.true_or]
  ·have : (b == c) = false := by simpa using h
   simp only [sp, if_neg h, List.all_cons, Bool.and_assoc, ih, this, Bool.false_or]
theorem qjB {p : UInt8 → Bool} {e : UInt8} (he : p e = false) : ∀ l : List UInt8, e ∈ l → e ∈ l.dropWhile p
 | [], h => h
 | b :: l, h => by
  rw [List.dropWhile_cons]
  split
  ·rename_i hb
   rcases List.mem_cons.1 h with rfl | h
   ·rw [he] at hb; cases hb
   ·exact qjB he l h
  ·exact h
theorem dropWhile_all {p : UInt8 → Bool} : ∀ l : List UInt8, l.all p = true → l.dropWhile p = []
 | [], _ => rfl
 | b :: l, h => by
  rw [List.all_cons, Bool.and_eq_true] at h
  rw [List.dropWhile_cons, if_pos h.1]
  exact dropWhile_all l h.2
theorem trimS_nil (l cs : List UInt8) : (Lib.trimS l cs = []) ↔ l.all (cs.contains ·) = true := by
 unfold Lib.trimS Lib.trimLeftS Lib.trimRightS
 constructor
 ·intro h
  rw [List.all_eq_true]
  intro e he
  cases hc : cs.contains e with
  | true => rfl
  | false =>
   have h1 := qjB (p := (cs.contains ·)) (e := e) hc l.reverse (by simpa using he)
   have h2 := qjB (p := (cs.contains ·)) (e := e) hc (l.reverse.dropWhile (cs.contains ·)).reverse (by simpa using h1)
   rw [h] at h2; cases h2
 ·intro h
  rw [dropWhile_all l.reverse (by rw [List.all_reverse]; exact h)]
  rfl
end Go.Proofs.YthhiiceligjleaaDoor
namespace Go.Proofs.YthhiiceligjleaaDoor.P
open Go.RowKit Go.Proofs.YthhiiceligjleaaDoorW.PrintWords Go.Proofs.YthhiiceligjleaaDoorW.PrintLast Go.Proofs.YthhiiceligjleaaDoorW.PrintMore
attribute [local go_sem] qn ql qw qv qc qb qm qk
set_option linter.unusedVariables false
set_option linter.unusedSimpArgs false
def qZA.f (a0 : Int) (a1 : Int) (a2 : Int) : Option (Bool) := if a1 ≤ a0 then (some (decide (a0 ≤ a2))) else (some false)
set_option maxHeartbeats 8000000 in
set_option maxRecDepth 100000 in
theorem qZA.calls (a0 : Int) (a1 : Int) (a2 : Int) (r : Bool) (w : World) (h : qZA.f a0 a1 a2 = some r) :
  Calls Tryd.prog 37 #[.int .i64 a0, .int .i64 a1, .int .i64 a2] w fun e w' => e = .returned (.bool r) ∧ Drawn0 w w' := by
 have H : (if a1 ≤ a0 then (some (decide (a0 ≤ a2))) else (some false)) = some r := h
 clear h
 by_cases c4 : a1 ≤ a0
 ·rw [if_pos c4] at H
  have c4b0 := decide_eq_true c4
  clear c4
  obtain rfl := Option.some.inj H
  go_enter Tryd.func37, Tryd.ntmps37
  go_wp2
  go_ret
  exact ⟨by first | rfl | (simp; done) | (simp [*]; done), dR⟩
 ·rw [if_neg c4] at H
  have c4b0 := decide_eq_false c4
  clear c4
  obtain rfl := Option.some.inj H
  go_enter Tryd.func37, Tryd.ntmps37
  go_wp2
  go_ret
  exact ⟨by first | rfl | (simp; done) | (simp [*]; done), dR⟩
def qRA.l0 : Nat → ByteArray → Int → List ByteArray → Int → Int → Option (List ByteArray × Bool)
 | 0, _, _, _, _, _ => none
 | k + 1, x1, x7, x11, x17, x18 => if x18 < x17 then (if 0 ≤ x18 then (if x18 < (x11.length : Int) then (if ((rdOf ByteArray.empty x11 x18).size : Int) = x7 then ((qBB.f (rdOf ByteArray.empty x11 x18) x1).bind fun t384 => (if t384.toList = ([] : List UInt8) then (qRA.l0 k x1 x7 x11 x17 (wrap64 (x18 + 1))) else (some (([] : List ByteArray), false)))) else (some (([] : List ByteArray), false))) else (none)) else (none)) else ((qZA.f (x11.length : Int) 1 7).bind fun t385 => (if t385 = true then ((qZA.f x7 1 7).bind fun t386 => (if t386 = true then (some (x11, decide ((wrap64 (x7 * (x11.length : Int))) ≤ 36))) else (some (x11, false)))) else (some (x11, false))))
def qRA.f (k : Nat) (a0 : ByteArray) (a1 : ByteArray) : Option (List ByteArray × Bool) := (strings_Split.f a0 (⟨#[47]⟩ : ByteArray)).bind fun t379 => (if 0 < (t379.length : Int) then (qRA.l0 k a1 ((rdOf ByteArray.empty t379 0).size : Int) t379 (t379.length : Int) 0) else (none))
set_option maxHeartbeats 8000000 in
set_option maxRecDepth 100000 in
theorem qRA.calls (k : Nat) (a0 : ByteArray) (a1 : ByteArray) (r1 : List ByteArray) (r2 : Bool) (w : World) (hL : Laid w) (h : qRA.f k a0 a1 = some (r1, r2)) :
  Calls Tryd.prog 50 #[.string a0, .string a1] w fun e w' => ∃ v0_ : Value, e = .returned (.tuple #[v0_, .bool r2]) ∧ Kd.R Kd.string 9 w' w.heap.size (fun _ => True) v0_ r1 ∧ Below w.heap.size w w' := by
 have HLD := aM hL
 clear hL
 have HB := aM (Below.refl w.heap.size w)
 have H : ((strings_Split.f a0 (⟨#[47]⟩ : ByteArray)).bind fun t379 => (if 0 < (t379.length : Int) then (qRA.l0 k a1 ((rdOf ByteArray.empty t379 0).size : Int) t379 (t379.length : Int) 0) else (none))) = some (r1, r2) := h
 clear h
 replace H := bO H
 obtain ⟨t379, A3, H⟩ := H
 by_cases c4 : 0 < (t379.length : Int)
 ·rw [if_pos c4] at H
  have c4b0 := decide_eq_true c4
  have c4b1 : decide (0 < t379.length) = true := decide_eq_true (by omega)
  clear c4
  have H' := aM H
  clear H
  go_enter Tryd.func50, Tryd.ntmps50
  go_wp2_with (first | ((with_reducible refine qJ (f := 59) rfl ?_); refine qr (some 11) rfl rfl Tryd.func59 (by kernel_rfl) rfl #[.string a0, .string (⟨#[47]⟩ : ByteArray)] rfl gA ?_; (with_reducible refine (strings_Split.calls a0 (⟨#[47]⟩ : ByteArray) t379 _ ?side1 A3.out).mono ?_); (case side1 => first | (with_reducible exact HLD.out) | exact Laid.below HLD.out bl); rintro e w5 ⟨v380, rfl, ho0, hb⟩; refine ⟨_, rfl, ?_⟩; have HO381 := aM (Kd.qx ho0 (qL bl)); replace HB := aM (qB bl hb); (try clear hb); (try clear hb2); (try clear hk); (try clear hi); (try clear ho0); obtain ⟨Ao6, co6, eo6⟩ := Kd.qBA HO381.out; subst eo6; have p382 : 0 ≤ (0 : Int) := (by omega); have q382 : 0 < (t379.length : Int) := of_decide_eq_true am; obtain ⟨ad382, e382, hx382_0⟩ := Kd.qpB (Kd.qP HO381.out).2.2 0 p382 q382; cases e382; have qi382 : (0 < t379.length) = True := eq_true (by omega); (try rw [show ((0 : Int)).toNat = 0 from rfl] at hx382_0); (try rw [Addr.add_zero'] at hx382_0); replace p382 := eq_true p382; replace q382 := eq_true q382))
  go_loopg [18] k (fun kq v18 w' => ∃ (x18_1 : Int), v18 = .int .i64 x18_1 ∧ Aside0 (qRA.l0 kq a1 ((rdOf ByteArray.empty t379 0).size : Int) t379 (t379.length : Int) x18_1 = some (r1, r2)) ∧ Aside0 (kq ≤ k) ∧ Aside0 (Kd.R Kd.string 9 w' w.heap.size (fun _ => True) (.slice (some ad382) t379.length co6) t379) ∧ Aside0 (Below w.heap.size w w'))
  case atStart => exact ⟨(0), sD, H', ⟨Nat.le_refl _⟩, ⟨rR HO381⟩, ⟨bl⟩⟩
  case round =>
   clear H'; (try clear p2); (try clear p3); (try clear q3); (try clear hx3); (try clear qi3); (try clear c4); (try clear c4b0); (try clear c4b1); (try clear c5); (try clear hx382_0); (try clear p382); (try clear q382)
   obtain ⟨x18_1, rfl, HA, HK1, HO_11, HB⟩ := hrel
   cases gk with
   | zero => exact absurd HA.out (by simp [qRA.l0])
   | succ k1 =>
    have H := HA.out
    clear HA
    simp only [qRA.l0] at H
    by_cases c7 : x18_1 < (t379.length : Int)
    ·rw [if_pos c7] at H
     have c7b0 := decide_eq_true c7
     clear c7
     by_cases c8 : 0 ≤ x18_1
     ·rw [if_pos c8] at H
      have c8b0 := decide_eq_true c8
      clear c8
      by_cases c9 : x18_1 < (t379.length : Int)
      ·rw [if_pos c9] at H
       have c9b0 := decide_eq_true c9
       clear c9
       by_cases c10 : ((rdOf ByteArray.empty t379 x18_1).size : Int) = ((rdOf ByteArray.empty t379 0).size : Int)
       ·rw [if_pos c10] at H
        have c10b0 := beq_iff_eq.mpr c10
        have c10b1 := bne_eq_false_iff_eq.mpr c10
        have c10b2 : ((rdOf ByteArray.empty t379 x18_1).size == (rdOf ByteArray.empty t379 0).size) = true := by first | simpa using c10 | (simp at c10 ⊢; omega)
        clear c10
        replace H := bO H
        obtain ⟨t384, A11, H⟩ := H
        by_cases c12 : t384.toList = ([] : List UInt8)
        ·rw [if_pos c12] at H
         have c12b0 := beq_iff_eq.mpr c12
         have c12b1 := bne_eq_false_iff_eq.mpr c12
         clear c12
         have H' := aM H
         clear H
         have p383 : 0 ≤ (x18_1 : Int) := of_decide_eq_true am
         have q383 : x18_1 < (t379.length : Int) := of_decide_eq_true am
         obtain ⟨ad383, e383, hx383_0⟩ := Kd.qpB (Kd.qP HO_11.out).2.2 x18_1 p383 q383
         obtain rfl : ad382 = ad383 := (by injection e383)
         replace p383 := eq_true p383
         replace q383 := eq_true q383
         go_wp2_with (first | (go_at_call 60; (with_reducible refine (qBB.calls (rdOf ByteArray.empty t379 x18_1) a1 t384 _ A11.out).mono ?_); rintro e w13 ⟨rfl, hb⟩; replace HO_11 := aM (Kd.qd (rR HO_11) hb); replace HB := aM (qB bl hb); (try clear hb); (try clear hb2); (try clear hk); (try clear hi)))
         go_roundg k1
         case measure => have := HK1.out; omega
         case rel => exact ⟨(wrap64 (x18_1 + 1)), sD, H', ⟨by have := HK1.out; omega⟩, ⟨rR HO_11⟩, ⟨bl⟩⟩
        ·rw [if_neg c12] at H
         have c12b0 := beq_eq_false_iff_ne.mpr c12
         have c12b1 := bne_iff_ne.mpr c12
         simp only [Option.some.injEq, Prod.mk.injEq] at H
         obtain ⟨rfl, rfl⟩ := H
         have p383 : 0 ≤ (x18_1 : Int) := of_decide_eq_true am
         have q383 : x18_1 < (t379.length : Int) := of_decide_eq_true am
         obtain ⟨ad383, e383, hx383_0⟩ := Kd.qpB (Kd.qP HO_11.out).2.2 x18_1 p383 q383
         obtain rfl : ad382 = ad383 := (by injection e383)
         replace p383 := eq_true p383
         replace q383 := eq_true q383
         go_wp2_with (first | (go_at_call 60; (with_reducible refine (qBB.calls (rdOf ByteArray.empty t379 x18_1) a1 t384 _ A11.out).mono ?_); rintro e w14 ⟨rfl, hb⟩; replace HO_11 := aM (Kd.qd (rR HO_11) hb); replace HB := aM (qB bl hb); (try clear hb); (try clear hb2); (try clear hk); (try clear hi)))
         go_ret2
         exact ⟨_, sR, nK, bl⟩
       ·rw [if_neg c10] at H
        have c10b0 := beq_eq_false_iff_ne.mpr c10
        have c10b1 := bne_iff_ne.mpr c10
        have c10b2 : ((rdOf ByteArray.empty t379 x18_1).size == (rdOf ByteArray.empty t379 0).size) = false := by first | simpa using c10 | (simp at c10 ⊢; omega)
        simp only [Option.some.injEq, Prod.mk.injEq] at H
        obtain ⟨rfl, rfl⟩ := H
        have p383 : 0 ≤ (x18_1 : Int) := of_decide_eq_true am
        have q383 : x18_1 < (t379.length : Int) := of_decide_eq_true am
        obtain ⟨ad383, e383, hx383_0⟩ := Kd.qpB (Kd.qP HO_11.out).2.2 x18_1 p383 q383
        obtain rfl : ad382 = ad383 := (by injection e383)
        replace p383 := eq_true p383
        replace q383 := eq_true q383
        go_wp2
        go_ret2
        exact ⟨_, sR, nK, bl⟩
      ·rw [if_neg c9] at H
       exact absurd H (by simp)
     ·rw [if_neg c8] at H
      exact absurd H (by simp)
    ·rw [if_neg c7] at H
     have c7b0 := decide_eq_false c7
     clear c7
     replace H := bO H
     obtain ⟨t385, A15, H⟩ := H
     by_cases c16 : t385 = true
     ·subst c16
      replace H := iT H
      replace H := bO H
      obtain ⟨t386, A17, H⟩ := H
      by_cases c18 : t386 = true
      ·subst c18
       replace H := iT H
       simp only [Option.some.injEq, Prod.mk.injEq] at H
       obtain ⟨rfl, rfl⟩ := H
       go_wp2_with (first | ((with_reducible refine qJ (f := 37) rfl ?_); refine qr (some 36) rfl rfl Tryd.func37 (by kernel_rfl) rfl #[.int .i64 (t379.length : Int), .int .i64 1, .int .i64 7] rfl gA ?_; (with_reducible refine (qZA.calls (t379.length : Int) 1 7 true _ A15.out).mono ?_); rintro e w' ⟨rfl, ⟨nd, rfl⟩⟩; refine ⟨_, rfl, ?_⟩) | (go_at_call 37; (with_reducible refine (qZA.calls ((rdOf ByteArray.empty t379 0).size : Int) 1 7 true _ A17.out).mono ?_); rintro e w' ⟨rfl, ⟨nd, rfl⟩⟩))
       go_ret2
       exact ⟨_, sR, by (with_reducible repeat (first | apply Kd.qO | apply Kd.qQ | apply Kd.qS)); exact HO_11.out, bl⟩
      ·replace c18 := Bool.eq_false_iff.mpr c18
       subst c18
       replace H := iF H
       simp only [Option.some.injEq, Prod.mk.injEq] at H
       obtain ⟨rfl, rfl⟩ := H
       go_wp2_with (first | ((with_reducible refine qJ (f := 37) rfl ?_); refine qr (some 36) rfl rfl Tryd.func37 (by kernel_rfl) rfl #[.int .i64 (t379.length : Int), .int .i64 1, .int .i64 7] rfl gA ?_; (with_reducible refine (qZA.calls (t379.length : Int) 1 7 true _ A15.out).mono ?_); rintro e w' ⟨rfl, ⟨nd, rfl⟩⟩; refine ⟨_, rfl, ?_⟩) | (go_at_call 37; (with_reducible refine (qZA.calls ((rdOf ByteArray.empty t379 0).size : Int) 1 7 false _ A17.out).mono ?_); rintro e w' ⟨rfl, ⟨nd, rfl⟩⟩))
       go_ret2
       exact ⟨_, sR, by (with_reducible repeat (first | apply Kd.qO | apply Kd.qQ | apply Kd.qS)); exact HO_11.out, bl⟩
     ·replace c16 := Bool.eq_false_iff.mpr c16
      subst c16
      replace H := iF H
      simp only [Option.some.injEq, Prod.mk.injEq] at H
      obtain ⟨rfl, rfl⟩ := H
      go_wp2_with (first | ((with_reducible refine qJ (f := 37) rfl ?_); refine qr (some 36) rfl rfl Tryd.func37 (by kernel_rfl) rfl #[.int .i64 (t379.length : Int), .int .i64 1, .int .i64 7] rfl gA ?_; (with_reducible refine (qZA.calls (t379.length : Int) 1 7 false _ A15.out).mono ?_); rintro e w' ⟨rfl, ⟨nd, rfl⟩⟩; refine ⟨_, rfl, ?_⟩))
      go_ret2
      exact ⟨_, sR, by (with_reducible repeat (first | apply Kd.qO | apply Kd.qQ | apply Kd.qS)); exact HO_11.out, bl⟩
 ·rw [if_neg c4] at H
  exact absurd H (by simp)
end Go.Proofs.YthhiiceligjleaaDoor.P
namespace Go.Proofs.YthhiiceligjleaaDoor
open Go.RowKit Go.Proofs.YthhiiceligjleaaDoor.P Go.Proofs.YthhiiceligjleaaDoorW.PrintWords Go.Proofs.YthhiiceligjleaaDoorW.PrintLast
set_option linter.unusedVariables false
set_option linter.unusedSimpArgs false
theorem qhC (n a b : Int) : qZA.f n a b = some (decide (a ≤ n) && decide (n ≤ b)) := by
 unfold qZA.f
 by_cases h : a ≤ n
 ·rw [if_pos h, decide_eq_true h, Bool.true_and]
 ·rw [if_neg h, decide_eq_false h, Bool.false_and]
theorem qKE (l : List ByteArray) (i : Nat) (h : i < l.length) : rdOf ByteArray.empty l (i : Int) = l[i] := by
 unfold rdOf
 rw [Int.toNat_natCast, List.getD_eq_getElem?_getD, List.getElem?_eq_getElem h]; rfl
theorem qzB (s : ByteArray) : s.data.toList.length = s.size := by rw [Array.length_toList]; rfl
theorem gr_bt (s : ByteArray) (i : Nat) (h : i < s.data.toList.length) : bt s (i : Int) = ((s.data.toList[i]).toNat : Int) := by
 have h' : i < s.size := by rw [← qzB]; exact h
 unfold bt
 rw [dif_pos (by simpa using h')]
 simp only [Int.toNat_natCast, Array.getElem_toList]
 rfl
def fitR (C : List UInt8) (w : Nat) (r : List UInt8) : Bool := decide (r.length = w) && r.all (C.contains ·)
def szR (w h : Nat) : Bool := decide (1 ≤ h) && decide (h ≤ 7) && decide (1 ≤ w) && decide (w ≤ 7) && decide (w * h ≤ 36)
theorem rowsOf_loop (C : ByteArray) (hC : C.size < 100) (hA : (C.data.toList.all fun b => decide (b.toNat < 128)) = true) (w : Nat) (hw : w ≤ 4294967281) (L : List ByteArray) (hL : L.length ≤ 4294967281) (hs : ∀ x ∈ L, x.size ≤ 4294967281) (d : Nat) : ∀ i : Nat, i ≤ L.length → L.length - i = d →
  Ev (fun k => qRA.l0 k C (w : Int) L (L.length : Int) (i : Int)) (if (L.drop i).all (fun x => fitR C.data.toList w x.data.toList) then (L, szR w L.length) else ([], false)) := by
 induction d with
 | zero =>
  intro i hi hd
  refine Ev.step (f := fun k => _) (fun k => by rw [qRA.l0]) ?_
  refine Ev.neg (by omega) (Ev.bindc (qhC _ _ _) ?_)
  rw [List.drop_eq_nil_of_le (by omega), List.all_nil, if_pos rfl]
  by_cases h1 : 1 ≤ L.length ∧ L.length ≤ 7
  ·have e1 : (decide ((1 : Int) ≤ (L.length : Int)) && decide ((L.length : Int) ≤ 7)) = true := by rw [decide_eq_true (by omega), decide_eq_true (by omega)]; rfl
   refine Ev.pos e1 (Ev.bindc (qhC _ _ _) ?_)
   by_cases h2 : 1 ≤ w ∧ w ≤ 7
   ·have e2 : (decide ((1 : Int) ≤ (w : Int)) && decide ((w : Int) ≤ 7)) = true := by rw [decide_eq_true (by omega), decide_eq_true (by omega)]; rfl
    refine Ev.pos e2 (Ev.some_ ?_)
    have hm : w * L.length ≤ 7 * 7 := Nat.mul_le_mul h2.2 h1.2
    have hc : ((w : Int) * (L.length : Int)) = ((w * L.length : Nat) : Int) := by push_cast; rfl
    rw [hc]
    generalize hn : w * L.length = n at *
    have ew : wrap64 (n : Int) = (n : Int) := by unfold wrap64; omega
    rw [ew]
    have : szR w L.length = decide (n ≤ 36) := by
     unfold szR
     rw [hn, decide_eq_true h1.1, decide_eq_true h1.2, decide_eq_true h2.1, decide_eq_true h2.2]; rfl
    rw [this]
    congr 1
    exact decide_eq_decide.2 (by omega)
   ·refine Ev.neg (by simp only [Bool.and_eq_true, decide_eq_true_eq]; omega) (Ev.some_ ?_)
    have : szR w L.length = false := by
     unfold szR
     simp only [Bool.and_eq_false_iff, decide_eq_false_iff_not]; omega
    rw [this]
  ·refine Ev.neg (by simp only [Bool.and_eq_true, decide_eq_true_eq]; omega) (Ev.some_ ?_)
   have : szR w L.length = false := by
    unfold szR
    simp only [Bool.and_eq_false_iff, decide_eq_false_iff_not]; omega
   rw [this]
 | succ d ih =>
  intro i hi hd
  have h : i < L.length := by omega
  refine Ev.step (f := fun k => _) (fun k => by rw [qRA.l0]) ?_
  refine Ev.pos (by omega) (Ev.pos (by omega) (Ev.pos (by omega) ?_))
  rw [qKE L i h, List.drop_eq_getElem_cons h, List.all_cons, show wrap64 ((i : Int) + 1) = ((i + 1 : Nat) : Int) by unfold wrap64; omega]
  have hsz := hs _ (List.getElem_mem h)
  have ihh := ih (i + 1) (by omega) (by omega)
  generalize L[i] = x at *
  by_cases hx : x.size = w
  ·refine Ev.pos (by omega) (Ev.bindc (show qBB.f x C = some _ from by unfold qBB.f; rw [if_pos ⟨by omega, by omega, hA⟩]) ?_)
   have ht : (⟨(Lib.trimS x.data.toList C.data.toList).toArray⟩ : ByteArray).toList = Lib.trimS x.data.toList C.data.toList := by
    rw [Lib.toList_data]
   by_cases hal : x.data.toList.all (C.data.toList.contains ·) = true
   ·refine Ev.pos (by rw [ht]; exact (trimS_nil _ _).2 hal) ?_
    have : fitR C.data.toList w x.data.toList = true := by
     unfold fitR
     rw [hal, Bool.and_true, decide_eq_true (by rw [qzB]; exact hx)]
    rw [this, Bool.true_and]
    exact ihh
   ·refine Ev.neg (by rw [ht]; exact fun e => hal ((trimS_nil _ _).1 e)) (Ev.some_ ?_)
    have : fitR C.data.toList w x.data.toList = false := by
     unfold fitR
     rw [Bool.eq_false_iff.2 hal, Bool.and_false]
    rw [this]; rfl
  ·refine Ev.neg (by omega) (Ev.some_ ?_)
   have : fitR C.data.toList w x.data.toList = false := by
    unfold fitR
    rw [decide_eq_false (by rw [qzB]; exact hx), Bool.false_and]
   rw [this]; rfl
def rowsT (a : ByteArray) : List ByteArray := Lib.splitB ⟨#[47]⟩ 0 (Lib.countB a ⟨#[47]⟩) a
theorem qIC (a : ByteArray) : (rowsT a).map (·.data.toList) = (sp 47 a.data.toList).1 :: (sp 47 a.data.toList).2 := split_sp a 47
def wideT (a : ByteArray) : Nat := (sp 47 a.data.toList).1.length
def highT (a : ByteArray) : Nat := (sp 47 a.data.toList).2.length + 1
theorem qCC (a : ByteArray) : (rowsT a).length = highT a := by
 have := congrArg List.length (qIC a)
 simpa [highT] using this
def rowsFit (C : List UInt8) (a : ByteArray) : Bool := ((sp 47 a.data.toList).1 :: (sp 47 a.data.toList).2).all (fitR C (wideT a))
theorem sum_le_mem (l : List Nat) : ∀ x ∈ l, x ≤ l.sum := by
 induction l with
 | nil => intro x h; cases h
 | cons b l ih =>
  intro x h
  rw [List.sum_cons]
  rcases List.mem_cons.1 h with rfl | h
  ·omega
  ·have := ih x h; omega
theorem rowsT_size (a : ByteArray) : ∀ x ∈ rowsT a, x.size ≤ a.size := by
 intro x hx
 have h1 : x.data.toList ∈ (rowsT a).map (·.data.toList) := List.mem_map_of_mem hx
 rw [qIC] at h1
 have h2 := qUD 47 a.data.toList
 rw [qzB] at h2
 rw [← qzB x]
 rcases List.mem_cons.1 h1 with h | h
 ·rw [h]; omega
 ·have := sum_le_mem _ _ (List.mem_map_of_mem (f := List.length) h); omega
theorem rowsOf_ev (a C : ByteArray) (ha : a.size ≤ 1048576) (hC : C.size < 100) (hA : (C.data.toList.all fun b => decide (b.toNat < 128)) = true) :
  Ev (fun k => qRA.f k a C) (if rowsFit C.data.toList a then (rowsT a, szR (wideT a) (highT a)) else ([], false)) := by
 unfold qRA.f
 refine Ev.bindc (show strings_Split.f a ⟨#[47]⟩ = some (rowsT a) from by unfold strings_Split.f; rw [if_pos ⟨by omega, by decide⟩]; rfl) ?_
 have hlen := qCC a
 have hl2 := qUD 47 a.data.toList
 rw [qzB] at hl2
 have hh : highT a ≤ a.size + 1 := by unfold highT; omega
 have h0 : 0 < (rowsT a).length := by rw [hlen]; unfold highT; omega
 refine Ev.pos (by omega) ?_
 have e0 : rdOf ByteArray.empty (rowsT a) 0 = (rowsT a)[0] := qKE (rowsT a) 0 h0
 have e1 : ((rowsT a)[0]).size = wideT a := by
  have := qIC a
  have h2 : ((rowsT a).map (·.data.toList))[0]'(by simpa using h0) = (sp 47 a.data.toList).1 := by
   simp only [this, List.getElem_cons_zero]
  rw [List.getElem_map] at h2
  rw [← qzB, h2]; rfl
 rw [e0, e1]
 have hw : wideT a ≤ a.size := by rw [← e1]; exact rowsT_size a _ (List.getElem_mem h0)
 have := rowsOf_loop C hC hA (wideT a) (by omega) (rowsT a) (by omega) (fun x hx => by have := rowsT_size a x hx; omega) (rowsT a).length 0 (by omega) (by omega)
 rw [List.drop_zero] at this
 have e2 : (rowsT a).all (fun x => fitR C.data.toList (wideT a) x.data.toList) = rowsFit C.data.toList a := by
  unfold rowsFit
  rw [← qIC, List.all_map]; rfl
 rw [e2] at this
 rw [← hlen]
 exact this
end Go.Proofs.YthhiiceligjleaaDoor
namespace Go.Proofs.YthhiiceligjleaaDoor.P
open Go.RowKit Go.Proofs.YthhiiceligjleaaDoorW.PrintWords Go.Proofs.YthhiiceligjleaaDoorW.PrintLast Go.Proofs.YthhiiceligjleaaDoorW.PrintMore
attribute [local go_sem] qn ql qw qv qc qb qm qk
set_option linter.unusedVariables false
set_option linter.unusedSimpArgs false
def qdB.f (k : Nat) (a0 : ByteArray) : Option (List ByteArray × Bool) := (qRA.f k a0 (⟨#[46, 35]⟩ : ByteArray)).bind fun bt387 => (some (bt387.1, bt387.2))
set_option maxHeartbeats 8000000 in
set_option maxRecDepth 100000 in
theorem qdB.calls (k : Nat) (a0 : ByteArray) (r1 : List ByteArray) (r2 : Bool) (w : World) (hL : Laid w) (h : qdB.f k a0 = some (r1, r2)) :
  Calls Tryd.prog 35 #[.string a0] w fun e w' => ∃ v0_ : Value, e = .returned (.tuple #[v0_, .bool r2]) ∧ Kd.R Kd.string 9 w' w.heap.size (fun _ => True) v0_ r1 ∧ Below w.heap.size w w' := by
 have HLD := aM hL
 clear hL
 have HB := aM (Below.refl w.heap.size w)
 have H : ((qRA.f k a0 (⟨#[46, 35]⟩ : ByteArray)).bind fun bt387 => (some (bt387.1, bt387.2))) = some (r1, r2) := h
 clear h
 replace H := bO H
 obtain ⟨⟨t387, t388⟩, A2, H⟩ := H
 dsimp only at H A2
 simp only [Option.some.injEq, Prod.mk.injEq] at H
 obtain ⟨rfl, rfl⟩ := H
 go_enter Tryd.func35, Tryd.ntmps35
 go_wp2_with (first | ((with_reducible refine qJ (f := 50) rfl ?_); refine qr (some 5) rfl rfl Tryd.func50 (by kernel_rfl) rfl #[.string a0, .string (⟨#[46, 35]⟩ : ByteArray)] rfl gA ?_; (with_reducible refine (qRA.calls k a0 (⟨#[46, 35]⟩ : ByteArray) t387 t388 _ ?side1 A2.out).mono ?_); (case side1 => first | (with_reducible exact HLD.out) | exact Laid.below HLD.out bl); rintro e w3 ⟨v389, rfl, ho0, hb⟩; refine ⟨_, rfl, ?_⟩; have HO390 := aM (Kd.qx ho0 (qL bl)); replace HB := aM (qB bl hb); (try clear hb); (try clear hb2); (try clear hk); (try clear hi); (try clear ho0)))
 go_ret2
 exact ⟨_, sR, by (with_reducible repeat (first | apply Kd.qO | apply Kd.qQ | apply Kd.qS)); exact HO390.out, bl⟩
end Go.Proofs.YthhiiceligjleaaDoor.P
namespace Go.Proofs.YthhiiceligjleaaDoor
open Go.RowKit Go.Proofs.YthhiiceligjleaaDoor.P Go.Proofs.YthhiiceligjleaaDoorW.PrintWords Go.Proofs.YthhiiceligjleaaDoorW.PrintLast
set_option linter.unusedVariables false
set_option linter.unusedSimpArgs false
abbrev RdG := Int × Int × List Int × Bool
def badG : RdG := (0, 0, [], false)
def finG (w h : Nat) (cs : List Int) : RdG := if 7 < w then badG else if 7 < h then badG else if 36 < cs.length then badG else ((w : Int), (h : Int), cs, true)
def runG : List UInt8 → Nat → Nat → Nat → List Int → RdG
 | [], x, w, h, cs => if (0 < h ∧ x ≠ w) ∨ x = 0 then badG else finG x (h + 1) cs
 | c :: r, x, w, h, cs =>
  if c = 47 then (if (0 < h ∧ x ≠ w) ∨ x = 0 then badG else runG r 0 x (h + 1) cs)
  else if c = 46 ∨ c = 35 then runG r (x + 1) w h (cs ++ [(c.toNat : Int)])
  else badG
theorem u8eq (c : UInt8) (n : Nat) (hn : n < 256) : ((c.toNat : Int) = (n : Int)) ↔ c = UInt8.ofNat n := by
 constructor
 ·intro h
  have : c.toNat = n := by omega
  rw [← this]; simp
 ·intro h
  subst h
  simp; omega
theorem bx_end (a : ByteArray) (ha : a.size ≤ 42) (w h : Nat) (cs : List Int) : Ev (fun k => qU.l0 k a 0 ((a.size : Int) + 1) (w : Int) (h : Int) cs) (finG w h cs) := by
 refine Ev.step (f := fun k => _) (fun k => by rw [qU.l0]) ?_
 refine Ev.neg (by omega) ?_
 unfold finG
 by_cases h1 : 7 < w
 ·rw [if_pos h1]; exact Ev.pos (by omega) (Ev.now _)
 rw [if_neg h1]; refine Ev.neg (by omega) ?_
 by_cases h2 : 7 < h
 ·rw [if_pos h2]; exact Ev.pos (by omega) (Ev.now _)
 rw [if_neg h2]; refine Ev.neg (by omega) ?_
 by_cases h3 : 36 < cs.length
 ·rw [if_pos h3]; exact Ev.pos (by omega) (Ev.now _)
 rw [if_neg h3]; exact Ev.neg (by omega) (Ev.now _)
theorem bx_sep (a : ByteArray) (i x w h : Nat) (cs : List Int) (hx : x ≤ 100) (hh : h ≤ 100) (hi : i ≤ 100) (R : RdG)
  (hR : Ev (fun k => qU.l0 k a 0 ((i : Int) + 1) (x : Int) ((h + 1 : Nat) : Int) cs) R) :
  Ev (fun k => qU.j1 k a (x : Int) (i : Int) false (w : Int) (h : Int) cs) (if (0 < h ∧ x ≠ w) ∨ x = 0 then badG else R) := by
 have w1 : wrap64 ((i : Int) + 1) = (i : Int) + 1 := by unfold wrap64; omega
 have w2 : wrap64 ((h : Int) + 1) = ((h + 1 : Nat) : Int) := by unfold wrap64; omega
 refine Ev.step (f := fun k => _) (fun k => by rw [qU.j1]) ?_
 refine Ev.neg (by decide) ?_
 rw [w1, w2]
 by_cases h1 : 0 < h
 ·refine Ev.pos (by omega) ?_
  by_cases h2 : x = w
  ·refine Ev.pos (by omega) ?_
   by_cases h3 : x = 0
   ·rw [if_pos (.inr h3)]; exact Ev.pos (by omega) (Ev.now _)
   ·rw [if_neg (by omega)]; exact Ev.neg (by omega) hR
  ·rw [if_pos (.inl ⟨h1, h2⟩)]; exact Ev.neg (by omega) (Ev.now _)
 ·refine Ev.neg (by omega) ?_
  by_cases h3 : x = 0
  ·rw [if_pos (.inr h3)]; exact Ev.pos (by omega) (Ev.now _)
  ·rw [if_neg (by omega)]; exact Ev.neg (by omega) hR
theorem bx_loop (a : ByteArray) (ha : a.size ≤ 42) (d : Nat) : ∀ (i x w h : Nat) (cs : List Int), i ≤ a.size → a.size - i = d → x ≤ i → h ≤ i → cs.length ≤ i →
  Ev (fun k => qU.l0 k a (x : Int) (i : Int) (w : Int) (h : Int) cs) (runG (a.data.toList.drop i) x w h cs) := by
 have hsz := qzB a
 induction d with
 | zero =>
  intro i x w h cs hi hd hx hh hc
  obtain rfl : i = a.size := by omega
  refine Ev.step (f := fun k => _) (fun k => by rw [qU.l0]) ?_
  refine Ev.pos (by omega) (Ev.neg (by omega) ?_)
  rw [List.drop_eq_nil_of_le (by omega), runG]
  exact bx_sep a a.size x w h cs (by omega) (by omega) (by omega) _ (bx_end a ha x (h + 1) cs)
 | succ d ih =>
  intro i x w h cs hi hd hx hh hc
  have hl : i < a.data.toList.length := by omega
  have e1 : ((i : Int) + 1) = ((i + 1 : Nat) : Int) := by omega
  have w1 : wrap64 ((i : Int) + 1) = ((i + 1 : Nat) : Int) := by unfold wrap64; omega
  have w2 : wrap64 ((x : Int) + 1) = ((x + 1 : Nat) : Int) := by unfold wrap64; omega
  have hdr := List.drop_eq_getElem_cons hl
  obtain ⟨c, hcc, hb⟩ : ∃ c, a.data.toList[i] = c ∧ bt a (i : Int) = (c.toNat : Int) := ⟨_, rfl, gr_bt a i hl⟩
  rw [hcc] at hdr
  clear hcc
  have HB := Lib.hid hb
  have HW1 := Lib.hid w1
  have HW2 := Lib.hid w2
  have HD := Lib.hid hdr
  clear hb w1 w2 hdr
  refine Ev.step (f := fun k => _) (fun k => by rw [qU.l0]) ?_
  refine Ev.pos (by omega) (Ev.pos (by omega) (Ev.pos (by omega) ?_))
  rw [HD.out, HB.out, runG]
  by_cases h47 : c = 47
  ·rw [show ((c.toNat : Int) != 47) = false by subst h47; rfl, if_pos h47]
   clear HB HD h47
   refine bx_sep a i x w h cs (by omega) (by omega) (by omega) _ ?_
   rw [e1]
   exact ih (i + 1) 0 x (h + 1) cs (by omega) (by omega) (by omega) (by omega) (by omega)
  ·rw [show ((c.toNat : Int) != 47) = true by
    rw [bne_iff_ne]; intro e; exact h47 ((u8eq c 47 (by decide)).1 e), if_neg h47]
   have go1 := ih (i + 1) (x + 1) w h (cs ++ [(c.toNat : Int)]) (by omega) (by omega) (by omega) (by omega) (by simp; omega)
   have step : ∀ R, Ev (fun k => qU.l0 k a ((x + 1 : Nat) : Int) ((i + 1 : Nat) : Int) (w : Int) (h : Int) (cs ++ [(c.toNat : Int)])) R →
     Ev (fun k => qU.j2 k a (x : Int) (i : Int) false (w : Int) (h : Int) cs) R := fun R hR => by
    refine Ev.step (f := fun k => _) (fun k => by rw [qU.j2]) ?_
    refine Ev.neg (by decide) (Ev.pos (by omega) (Ev.pos (by omega) (Ev.pos (by omega) ?_)))
    rw [HW1.out, HW2.out, HB.out]
    exact hR
   refine Ev.step (f := fun k => _) (fun k => by rw [qU.j1]) ?_
   refine Ev.pos rfl (Ev.pos (by omega) (Ev.pos (by omega) ?_))
   rw [HB.out]
   by_cases h46 : c = 46
   ·rw [if_pos (.inl h46)]
    exact Ev.pos (by subst h46; rfl) (step _ go1)
   ·refine Ev.neg (fun e => h46 ((u8eq c 46 (by decide)).1 e)) ?_
    by_cases h35 : c = 35
    ·rw [if_pos (.inr h35), show ((c.toNat : Int) != 35) = false by subst h35; rfl]
     exact step _ go1
    ·rw [if_neg (by simp [h46, h35]), show ((c.toNat : Int) != 35) = true by
       rw [bne_iff_ne]; intro e; exact h35 ((u8eq c 35 (by decide)).1 e)]
     refine Ev.step (f := fun k => _) (fun k => by rw [qU.j2]) ?_
     exact Ev.pos rfl (Ev.now _)
def cB : List UInt8 := [46, 35]
def numsOf (l : List UInt8) : List Int := l.map fun c => (c.toNat : Int)
def flatT (l : List UInt8) : List UInt8 := (sp 47 l).1 ++ (sp 47 l).2.flatten
theorem runG_eq (l : List UInt8) : ∀ (x w h : Nat) (cs : List Int), runG l x w h cs =
  if (l.all (fun b => b == 47 || cB.contains b)) = true ∧ x + (sp 47 l).1.length ≠ 0 ∧ (0 < h → x + (sp 47 l).1.length = w) ∧ (∀ r ∈ (sp 47 l).2, r.length = x + (sp 47 l).1.length)
  then finG (x + (sp 47 l).1.length) (h + ((sp 47 l).2.length + 1)) (cs ++ numsOf (flatT l)) else badG := by
 induction l with
 | nil =>
  intro x w h cs
  rw [runG]
  simp only [sp, List.all_nil, List.length_nil, Nat.add_zero, flatT, List.flatten_nil, List.append_nil, numsOf, List.map_nil, Nat.zero_add]
  by_cases hb : (0 < h ∧ x ≠ w) ∨ x = 0
  ·rw [if_pos hb, if_neg (by rintro ⟨_, h1, h2, _⟩; exact hb.elim (fun h34 => h34.2 (h2 h34.1)) h1)]
  ·rw [if_neg hb, if_pos ⟨trivial, fun e => hb (.inr e), fun h3 => Classical.byContradiction fun h4 => hb (.inl ⟨h3, h4⟩), by simp⟩]
 | cons c r ih =>
  intro x w h cs
  rw [runG]
  by_cases h47 : c = 47
  ·subst h47
   rw [if_pos rfl]
   simp only [sp, if_true, List.all_cons, beq_self_eq_true, Bool.true_or, Bool.true_and, List.length_nil, Nat.add_zero, flatT, List.nil_append, List.flatten_cons, List.length_cons]
   by_cases hb : (0 < h ∧ x ≠ w) ∨ x = 0
   ·rw [if_pos hb, if_neg (by rintro ⟨_, h1, h2, _⟩; exact hb.elim (fun h34 => h34.2 (h2 h34.1)) h1)]
   ·rw [if_neg hb, ih]
    have hx0 : x ≠ 0 := fun e => hb (.inr e)
    have hxw : 0 < h → x = w := fun h3 => Classical.byContradiction fun h4 => hb (.inl ⟨h3, h4⟩)
    by_cases hg : (r.all (fun b => b == 47 || cB.contains b)) = true ∧ ∀ q ∈ (sp 47 r).1 :: (sp 47 r).2, q.length = x
    ·have hf : (sp 47 r).1.length = x := hg.2 _ (List.mem_cons_self)
     rw [if_pos ⟨hg.1, by omega, fun _ => by omega, fun q hq => by have := hg.2 q (List.mem_cons_of_mem _ hq); omega⟩, if_pos ⟨hg.1, hx0, hxw, hg.2⟩]
     congr 1
     ·omega
     ·omega
    ·rw [if_neg, if_neg]
     ·rintro ⟨h1, _, _, h4⟩; exact hg ⟨h1, h4⟩
     ·rintro ⟨h1, _, h3, h4⟩
      have h5 := h3 (by omega)
      refine hg ⟨h1, fun q hq => ?_⟩
      rcases List.mem_cons.1 hq with rfl | hq
      ·omega
      ·have := h4 q hq; omega
  ·rw [if_neg h47]
   have e47 : (c == 47) = false := by simpa using h47
   simp only [sp, if_neg h47, List.all_cons, e47, Bool.false_or, List.length_cons]
   have hsh : x + ((sp 47 r).1.length + 1) = x + 1 + (sp 47 r).1.length := by omega
   by_cases h3 : c = 46 ∨ c = 35
   ·have hc : cB.contains c = true := by rcases h3 with rfl | rfl <;> decide
    rw [if_pos h3, ih, hc, Bool.true_and, hsh]
    simp only [flatT, sp, if_neg h47, numsOf, List.cons_append, List.map_cons, List.append_assoc, List.nil_append]
   ·rw [if_neg h3, if_neg]
    rintro ⟨h1, _⟩
    have : cB.contains c = false := by
     simp only [cB, List.contains_cons, List.contains_nil, Bool.or_false, Bool.or_eq_false_iff, beq_eq_false_iff_ne]
     exact ⟨fun e => h3 (.inl e), fun e => h3 (.inr e)⟩
    rw [this] at h1; simp at h1
theorem qxD (f : Nat) : ∀ (L : List (List UInt8)), (∀ r ∈ L, r.length = f) → L.flatten.length = f * L.length ∧ (L.map List.length).sum = f * L.length
 | [], _ => by simp
 | a :: L, h => by
  obtain ⟨h1, h2⟩ := qxD f L (fun r hr => h r (List.mem_cons_of_mem _ hr))
  have h3 := h a List.mem_cons_self
  simp only [List.flatten_cons, List.length_append, List.map_cons, List.sum_cons, List.length_cons, h1, h2, h3, Nat.mul_add, Nat.mul_one]
  omega
def boardB (a : ByteArray) : Bool := rowsFit cB a && szR (wideT a) (highT a)
theorem qQC (a : ByteArray) : rowsFit cB a = true ↔ (a.data.toList.all (fun b => b == 47 || cB.contains b)) = true ∧ ∀ r ∈ (sp 47 a.data.toList).2, r.length = wideT a := by
 have hs := sp_all 47 (cB.contains ·) a.data.toList (by decide)
 unfold rowsFit
 rw [← hs, List.all_cons]
 unfold fitR wideT
 simp only [Bool.and_eq_true, decide_eq_true_eq, List.all_eq_true, true_and]
 constructor
 ·rintro ⟨h1, h2⟩
  exact ⟨⟨h1, fun r hr => (h2 r hr).2⟩, fun r hr => (h2 r hr).1⟩
 ·rintro ⟨⟨h1, h2⟩, h3⟩
  exact ⟨h1, fun r hr => ⟨h3 r hr, h2 r hr⟩⟩
theorem boRead_ev (a : ByteArray) : Ev (fun k => qU.f k a) (if boardB a then ((wideT a : Int), (highT a : Int), numsOf (flatT a.data.toList), true) else badG) := by
 have hl := qUD 47 a.data.toList
 rw [qzB] at hl
 unfold qU.f
 by_cases h42 : a.size ≤ 42
 ·refine Ev.neg (by omega) ?_
  have := bx_loop a h42 a.size 0 0 0 0 [] (by omega) (by omega) (by omega) (by omega) (by simp)
  rw [List.drop_zero, runG_eq] at this
  simp only [Nat.zero_add, List.nil_append, Nat.lt_irrefl, false_implies, true_and] at this
  have e : (if (a.data.toList.all (fun b => b == 47 || cB.contains b)) = true ∧ (sp 47 a.data.toList).1.length ≠ 0 ∧ (∀ r ∈ (sp 47 a.data.toList).2, r.length = (sp 47 a.data.toList).1.length) then finG (sp 47 a.data.toList).1.length ((sp 47 a.data.toList).2.length + 1) (numsOf (flatT a.data.toList)) else badG) = (if boardB a then ((wideT a : Int), (highT a : Int), numsOf (flatT a.data.toList), true) else badG) := by
   have hw : (sp 47 a.data.toList).1.length = wideT a := rfl
   have hh : (sp 47 a.data.toList).2.length + 1 = highT a := rfl
   rw [hw, hh]
   unfold boardB
   by_cases hr : rowsFit cB a = true
   ·obtain ⟨h1, h2⟩ := (qQC a).1 hr
    obtain ⟨f1, f2⟩ := qxD (wideT a) (sp 47 a.data.toList).2 h2
    have hfl : (numsOf (flatT a.data.toList)).length = wideT a * highT a := by
     simp only [numsOf, List.length_map, flatT, List.length_append, f1, hw, ← hh, Nat.mul_add, Nat.mul_one]; omega
    rw [hr, Bool.true_and]
    by_cases h0 : wideT a ≠ 0
    ·rw [if_pos ⟨h1, h0, h2⟩]
     unfold finG szR
     rw [hfl]
     have hh1 : 1 ≤ highT a := by omega
     rw [decide_eq_true hh1, Bool.true_and, decide_eq_true (show 1 ≤ wideT a by omega)]
     by_cases a1 : 7 < wideT a
     ·rw [if_pos a1, decide_eq_false (show ¬ wideT a ≤ 7 by omega)]; simp
     rw [if_neg a1, decide_eq_true (show wideT a ≤ 7 by omega)]
     by_cases a2 : 7 < highT a
     ·rw [if_pos a2, decide_eq_false (show ¬ highT a ≤ 7 by omega)]; simp
     rw [if_neg a2, decide_eq_true (show highT a ≤ 7 by omega)]
     by_cases a3 : 36 < wideT a * highT a
     ·rw [if_pos a3, decide_eq_false (show ¬ wideT a * highT a ≤ 36 by omega)]; simp
     ·rw [if_neg a3, decide_eq_true (show wideT a * highT a ≤ 36 by omega)]; simp
    ·rw [if_neg (fun h => h0 h.2.1)]
     have : szR (wideT a) (highT a) = false := by
      unfold szR
      simp only [Bool.and_eq_false_iff, decide_eq_false_iff_not]; omega
     rw [this]; simp
   ·rw [if_neg (fun h => hr ((qQC a).2 ⟨h.1, h.2.2⟩)), Bool.eq_false_iff.2 hr]; simp
  rw [e] at this
  exact this
 ·refine Ev.pos (by omega) (Ev.some_ ?_)
  have : boardB a = false := by
   cases hg : boardB a with
   | false => rfl
   | true =>
    unfold boardB szR at hg
    simp only [Bool.and_eq_true, decide_eq_true_eq] at hg
    obtain ⟨hr, ⟨⟨⟨g1, g2⟩, g3⟩, g4⟩, g5⟩ := hg
    obtain ⟨h1, h2⟩ := (qQC a).1 hr
    obtain ⟨f1, f2⟩ := qxD (wideT a) (sp 47 a.data.toList).2 h2
    rw [f2] at hl
    have hw : (sp 47 a.data.toList).1.length = wideT a := rfl
    have hh : (sp 47 a.data.toList).2.length + 1 = highT a := rfl
    have : wideT a * highT a = wideT a + wideT a * (sp 47 a.data.toList).2.length := by rw [← hh, Nat.mul_add, Nat.mul_one]; omega
    omega
  rw [this]; rfl
theorem board_ev (a : ByteArray) (ha : a.size ≤ 1048576) : ∃ rows : List ByteArray, Ev (fun k => qdB.f k a) (rows, boardB a) ∧ (boardB a = true → rows = rowsT a) := by
 have h := rowsOf_ev a ⟨#[46, 35]⟩ ha (by decide) (by decide)
 have hc : (⟨#[46, 35]⟩ : ByteArray).data.toList = cB := rfl
 rw [hc] at h
 unfold qdB.f
 unfold boardB
 cases hr : rowsFit cB a with
 | false =>
  rw [hr, if_neg (by decide)] at h
  exact ⟨[], Ev.bind h (Ev.now _), fun e => by cases e⟩
 | true =>
  rw [hr, if_pos rfl] at h
  rw [Bool.true_and]
  exact ⟨rowsT a, Ev.bind h (Ev.now _), fun _ => rfl⟩
end Go.Proofs.YthhiiceligjleaaDoor
namespace Go.Proofs.YthhiiceligjleaaDoor.P
open Go.RowKit Go.Proofs.YthhiiceligjleaaDoorW.PrintWords Go.Proofs.YthhiiceligjleaaDoorW.PrintLast Go.Proofs.YthhiiceligjleaaDoorW.PrintMore
attribute [local go_sem] qn ql qw qv qc qb qm qk
set_option linter.unusedVariables false
set_option linter.unusedSimpArgs false
def qvA.f (l0 : List ByteArray) (a1 : Int) (a2 : Int) : Option (Bool) := (qZA.f a2 0 (wrap64 ((l0.length : Int) - 1))).bind fun t391 => (if t391 = true then (if 0 < (l0.length : Int) then ((qZA.f a1 0 (wrap64 (((rdOf ByteArray.empty l0 0).size : Int) - 1))).bind fun t393 => (some t393)) else (none)) else (some false))
set_option maxHeartbeats 8000000 in
set_option maxRecDepth 100000 in
theorem qvA.calls (A0 : Option Addr) (c0 : Nat) (l0 : List ByteArray) (a1 : Int) (a2 : Int) (r : Bool) (w : World) (hr0 : Kd.C Kd.string w A0 l0.length l0) (hc0 : l0.length ≤ c0) (h : qvA.f l0 a1 a2 = some r) :
  Calls Tryd.prog 62 #[.slice A0 l0.length c0, .int .i64 a1, .int .i64 a2] w fun e w' => e = .returned (.bool r) ∧ Drawn0 w w' := by
 have HR0 := aM hr0
 have HC0 := aM hc0
 clear hr0 hc0
 have H : ((qZA.f a2 0 (wrap64 ((l0.length : Int) - 1))).bind fun t391 => (if t391 = true then (if 0 < (l0.length : Int) then ((qZA.f a1 0 (wrap64 (((rdOf ByteArray.empty l0 0).size : Int) - 1))).bind fun t393 => (some t393)) else (none)) else (some false))) = some r := h
 clear h
 replace H := bO H
 obtain ⟨t391, A4, H⟩ := H
 by_cases c5 : t391 = true
 ·subst c5
  replace H := iT H
  by_cases c6 : 0 < (l0.length : Int)
  ·rw [if_pos c6] at H
   have c6b0 := decide_eq_true c6
   have c6b1 : decide (0 < l0.length) = true := decide_eq_true (by omega)
   clear c6
   replace H := bO H
   obtain ⟨t393, A7, H⟩ := H
   obtain rfl := Option.some.inj H
   go_enter Tryd.func62, Tryd.ntmps62
   go_wp2_with (first | ((with_reducible refine qJ (f := 37) rfl ?_); refine qr (some 11) rfl rfl Tryd.func37 (by kernel_rfl) rfl #[.int .i64 a2, .int .i64 0, .int .i64 (wrap64 ((l0.length : Int) - 1))] rfl gA ?_; (with_reducible refine (qZA.calls a2 0 (wrap64 ((l0.length : Int) - 1)) true _ A4.out).mono ?_); rintro e w' ⟨rfl, ⟨nd, rfl⟩⟩; refine ⟨_, rfl, ?_⟩; have p392 : 0 ≤ (0 : Int) := (by omega); have q392 : 0 < (l0.length : Int) := of_decide_eq_true am; obtain ⟨ad392, e392, hx392_0⟩ := Kd.qpB HR0.out 0 p392 q392; cases e392; have qi392 : (0 < l0.length) = True := eq_true (by omega); (try rw [show ((0 : Int)).toNat = 0 from rfl] at hx392_0); (try rw [Addr.add_zero'] at hx392_0); replace p392 := eq_true p392; replace q392 := eq_true q392) | (go_at_call 37; (with_reducible refine (qZA.calls a1 0 (wrap64 (((rdOf ByteArray.empty l0 0).size : Int) - 1)) t393 _ A7.out).mono ?_); rintro e w' ⟨rfl, ⟨nd, rfl⟩⟩))
   go_ret
   exact ⟨by first | rfl | (simp; done) | (simp [*]; done), dR⟩
  ·rw [if_neg c6] at H
   exact absurd H (by simp)
 ·replace c5 := Bool.eq_false_iff.mpr c5
  subst c5
  replace H := iF H
  obtain rfl := Option.some.inj H
  go_enter Tryd.func62, Tryd.ntmps62
  go_wp2_with (first | ((with_reducible refine qJ (f := 37) rfl ?_); refine qr (some 11) rfl rfl Tryd.func37 (by kernel_rfl) rfl #[.int .i64 a2, .int .i64 0, .int .i64 (wrap64 ((l0.length : Int) - 1))] rfl gA ?_; (with_reducible refine (qZA.calls a2 0 (wrap64 ((l0.length : Int) - 1)) false _ A4.out).mono ?_); rintro e w' ⟨rfl, ⟨nd, rfl⟩⟩; refine ⟨_, rfl, ?_⟩))
  go_ret
  exact ⟨by first | rfl | (simp; done) | (simp [*]; done), dR⟩
def qVA.f (l0 : List ByteArray) (a1 : Int) (a2 : Int) : Option (Int) := (qvA.f l0 a1 a2).bind fun t394 => (if t394 = true then (if 0 ≤ a2 then (if a2 < (l0.length : Int) then (if 0 ≤ a1 then (if a1 < ((rdOf ByteArray.empty l0 a2).size : Int) then (some (bt (rdOf ByteArray.empty l0 a2) a1)) else (none)) else (none)) else (none)) else (none)) else (some 0))
set_option maxHeartbeats 8000000 in
set_option maxRecDepth 100000 in
theorem qVA.calls (A0 : Option Addr) (c0 : Nat) (l0 : List ByteArray) (a1 : Int) (a2 : Int) (r : Int) (w : World) (hr0 : Kd.C Kd.string w A0 l0.length l0) (hc0 : l0.length ≤ c0) (h : qVA.f l0 a1 a2 = some r) :
  Calls Tryd.prog 55 #[.slice A0 l0.length c0, .int .i64 a1, .int .i64 a2] w fun e w' => e = .returned (.int .u8 r) ∧ Drawn0 w w' := by
 have HR0 := aM hr0
 have HC0 := aM hc0
 clear hr0 hc0
 have H : ((qvA.f l0 a1 a2).bind fun t394 => (if t394 = true then (if 0 ≤ a2 then (if a2 < (l0.length : Int) then (if 0 ≤ a1 then (if a1 < ((rdOf ByteArray.empty l0 a2).size : Int) then (some (bt (rdOf ByteArray.empty l0 a2) a1)) else (none)) else (none)) else (none)) else (none)) else (some 0))) = some r := h
 clear h
 replace H := bO H
 obtain ⟨t394, A4, H⟩ := H
 by_cases c5 : t394 = true
 ·subst c5
  replace H := iT H
  by_cases c6 : 0 ≤ a2
  ·rw [if_pos c6] at H
   have c6b0 := decide_eq_true c6
   clear c6
   by_cases c7 : a2 < (l0.length : Int)
   ·rw [if_pos c7] at H
    have c7b0 := decide_eq_true c7
    clear c7
    by_cases c8 : 0 ≤ a1
    ·rw [if_pos c8] at H
     have c8b0 := decide_eq_true c8
     clear c8
     by_cases c9 : a1 < ((rdOf ByteArray.empty l0 a2).size : Int)
     ·rw [if_pos c9] at H
      have c9b0 := decide_eq_true c9
      clear c9
      obtain rfl := Option.some.inj H
      go_enter Tryd.func55, Tryd.ntmps55
      go_wp2_with (first | ((with_reducible refine qJ (f := 62) rfl ?_); refine qr (some 10) rfl rfl Tryd.func62 (by kernel_rfl) rfl #[.slice A0 l0.length c0, .int .i64 a1, .int .i64 a2] rfl gA ?_; (with_reducible refine (qvA.calls _ _ l0 a1 a2 true _ ?side1 ?side2 A4.out).mono ?_); (case side1 => repeat (first | exact HR0.out | (with_reducible refine Kd.qW ?_ _) | (with_reducible refine Kd.qV ?_ _) | (with_reducible refine Kd.qe ?_))); (case side2 => exact HC0.out); rintro e w' ⟨rfl, ⟨nd, rfl⟩⟩; refine ⟨_, rfl, ?_⟩; have p395 : 0 ≤ (a2 : Int) := of_decide_eq_true am; have q395 : a2 < (l0.length : Int) := of_decide_eq_true am; obtain ⟨ad395, e395, hx395_0⟩ := Kd.qpB HR0.out a2 p395 q395; cases e395; replace p395 := eq_true p395; replace q395 := eq_true q395; have p10 : 0 ≤ (a1 : Int) := of_decide_eq_true am; have q10 : a1 < ((rdOf ByteArray.empty l0 a2).size : Int) := of_decide_eq_true am; have hx10 := bt_at (rdOf ByteArray.empty l0 a2) a1; replace p10 := eq_true p10; replace q10 := eq_true q10))
      go_ret
      exact ⟨by first | rfl | (simp; done) | (simp [*]; done), dR⟩
     ·rw [if_neg c9] at H
      exact absurd H (by simp)
    ·rw [if_neg c8] at H
     exact absurd H (by simp)
   ·rw [if_neg c7] at H
    exact absurd H (by simp)
  ·rw [if_neg c6] at H
   exact absurd H (by simp)
 ·replace c5 := Bool.eq_false_iff.mpr c5
  subst c5
  replace H := iF H
  obtain rfl := Option.some.inj H
  go_enter Tryd.func55, Tryd.ntmps55
  go_wp2_with (first | ((with_reducible refine qJ (f := 62) rfl ?_); refine qr (some 10) rfl rfl Tryd.func62 (by kernel_rfl) rfl #[.slice A0 l0.length c0, .int .i64 a1, .int .i64 a2] rfl gA ?_; (with_reducible refine (qvA.calls _ _ l0 a1 a2 false _ ?side1 ?side2 A4.out).mono ?_); (case side1 => repeat (first | exact HR0.out | (with_reducible refine Kd.qW ?_ _) | (with_reducible refine Kd.qV ?_ _) | (with_reducible refine Kd.qe ?_))); (case side2 => exact HC0.out); rintro e w' ⟨rfl, ⟨nd, rfl⟩⟩; refine ⟨_, rfl, ?_⟩))
  go_ret
  exact ⟨by first | rfl | (simp; done) | (simp [*]; done), dR⟩
end Go.Proofs.YthhiiceligjleaaDoor.P
namespace Go.Proofs.YthhiiceligjleaaDoor
open Go.RowKit Go.Proofs.YthhiiceligjleaaDoor.P Go.Proofs.YthhiiceligjleaaDoorW.PrintWords Go.Proofs.YthhiiceligjleaaDoorW.PrintLast
set_option linter.unusedVariables false
set_option linter.unusedSimpArgs false
theorem qbD (n a b : Int) : qaA.f n a b = some (decide (a ≤ n) && decide (n ≤ b)) := by
 unfold qaA.f
 by_cases h : n ≥ a
 ·rw [if_pos h, decide_eq_true (show a ≤ n from h), Bool.true_and]
 ·rw [if_neg h, decide_eq_false (show ¬ a ≤ n from h), Bool.false_and]
def rowsL (a : ByteArray) : List (List UInt8) := (sp 47 a.data.toList).1 :: (sp 47 a.data.toList).2
theorem flat_get (w : Nat) : ∀ (L : List (List UInt8)) (i j : Nat), (∀ r ∈ L, r.length = w) → i < L.length → j < w → L.flatten[i * w + j]? = (L[i]?.bind fun r => r[j]?)
 | [], i, j, _, hi, _ => by simp at hi
 | r :: L, 0, j, h, _, hj => by
  have := h r List.mem_cons_self
  simp only [List.flatten_cons, Nat.zero_mul, Nat.zero_add, List.getElem?_cons_zero, Option.bind_some]
  rw [List.getElem?_append_left (by omega)]
 | r :: L, i + 1, j, h, hi, hj => by
  have h1 := h r List.mem_cons_self
  have ih := flat_get w L i j (fun q hq => h q (List.mem_cons_of_mem _ hq)) (by simpa using hi) hj
  simp only [List.flatten_cons, List.getElem?_cons_succ]
  have e : (i + 1) * w + j = r.length + (i * w + j) := by rw [Nat.add_mul, h1]; omega
  rw [e, List.getElem?_append_right (by omega), Nat.add_sub_cancel_left]
  exact ih
structure Gnd (a : ByteArray) : Prop where
 w1 : 1 ≤ wideT a
 w7 : wideT a ≤ 7
 h1 : 1 ≤ highT a
 h7 : highT a ≤ 7
 rows : ∀ r ∈ rowsL a, r.length = wideT a
theorem qLE {a : ByteArray} (h : boardB a = true) : Gnd a := by
 unfold boardB szR at h
 simp only [Bool.and_eq_true, decide_eq_true_eq] at h
 obtain ⟨hr, ⟨⟨⟨g1, g2⟩, g3⟩, g4⟩, g5⟩ := h
 obtain ⟨_, h2⟩ := (qQC a).1 hr
 exact ⟨g3, g4, g1, g2, fun r hr => by
  rcases List.mem_cons.1 hr with rfl | hr
  ·rfl
  ·exact h2 r hr⟩
theorem qDC (a : ByteArray) : (rowsL a).length = highT a := rfl
theorem rowsT_get (a : ByteArray) (i : Nat) (h : i < (rowsT a).length) (h' : i < (rowsL a).length) : ((rowsT a)[i]).data.toList = (rowsL a)[i] := by
 have := qIC a
 have e : ((rowsT a).map (·.data.toList))[i]'(by simpa using h) = (rowsL a)[i] := by
  simp only [this]; rfl
 rwa [List.getElem_map] at e
theorem flatT_eq (a : ByteArray) : flatT a.data.toList = (rowsL a).flatten := rfl
def hasB (a : ByteArray) (x y : Int) : Bool := decide (0 ≤ y) && decide (y ≤ (highT a : Int) - 1) && (decide (0 ≤ x) && decide (x ≤ (wideT a : Int) - 1))
def cellU (a : ByteArray) (x y : Int) : UInt8 := ((rowsL a).getD y.toNat []).getD x.toNat 0
def cellN (a : ByteArray) (x y : Int) : Int := ((cellU a x y).toNat : Int)
theorem qND (a : ByteArray) (x y : Int) : hasB a x y = true ↔ (0 ≤ y ∧ y < (highT a : Int)) ∧ (0 ≤ x ∧ x < (wideT a : Int)) := by
 unfold hasB
 simp only [Bool.and_eq_true, decide_eq_true_eq]
 omega
theorem gr_size {a : ByteArray} (g : Gnd a) (i : Nat) (h : i < (rowsT a).length) : ((rowsT a)[i]).size = wideT a := by
 have h' : i < (rowsL a).length := by rw [qDC, ← qCC]; exact h
 rw [← qzB, rowsT_get a i h h']
 exact g.rows _ (List.getElem_mem h')
theorem has_eq {a : ByteArray} (g : Gnd a) (x y : Int) : qvA.f (rowsT a) x y = some (hasB a x y) := by
 have hl := qCC a
 have h0 : 0 < (rowsT a).length := by rw [hl]; exact g.h1
 have e0 : rdOf ByteArray.empty (rowsT a) 0 = (rowsT a)[0] := qKE (rowsT a) 0 h0
 have e1 := gr_size g 0 h0
 have g1 := g.h7
 have g2 := g.w7
 unfold qvA.f
 rw [qhC, hl, e0, e1]
 have w1 : wrap64 ((highT a : Int) - 1) = (highT a : Int) - 1 := by unfold wrap64; omega
 have w2 : wrap64 ((wideT a : Int) - 1) = (wideT a : Int) - 1 := by unfold wrap64; omega
 rw [w1, w2]
 simp only [Option.bind_some]
 have g0 := g.h1
 unfold hasB
 by_cases h : (decide (0 ≤ y) && decide (y ≤ (highT a : Int) - 1)) = true
 ·rw [if_pos h, if_pos (by omega), qhC, h, Bool.true_and]; rfl
 ·rw [if_neg h, Bool.eq_false_iff.2 h, Bool.false_and]
theorem at_eq {a : ByteArray} (g : Gnd a) (x y : Int) (h : hasB a x y = true) : qVA.f (rowsT a) x y = some (cellN a x y) := by
 obtain ⟨⟨h1, h2⟩, h3, h4⟩ := (qND a x y).1 h
 obtain ⟨i, rfl⟩ := Int.eq_ofNat_of_zero_le h1
 obtain ⟨j, rfl⟩ := Int.eq_ofNat_of_zero_le h3
 have hl := qCC a
 have hi : i < (rowsT a).length := by omega
 have hi' : i < (rowsL a).length := by rw [qDC]; omega
 have hs := gr_size g i hi
 have hr := rowsT_get a i hi hi'
 have hw := g.rows _ (List.getElem_mem hi')
 unfold qVA.f
 rw [has_eq g, h, qKE (rowsT a) i hi]
 simp only [Option.bind_some, if_true]
 rw [if_pos (by omega), if_pos (by omega), if_pos (by omega), if_pos (by rw [hs]; omega)]
 have hj : j < ((rowsT a)[i]).data.toList.length := by rw [qzB, hs]; omega
 rw [gr_bt _ j hj]
 congr 1
 unfold cellN cellU
 have e : (rowsL a).getD i [] = (rowsL a)[i] := by rw [List.getD_eq_getElem?_getD, List.getElem?_eq_getElem hi']; rfl
 have e2 : ((rowsT a)[i]).data.toList[j] = ((rowsL a)[i])[j]'(by rw [← hr]; exact hj) := by simp only [hr]
 rw [e2, Int.toNat_natCast, Int.toNat_natCast, e, List.getD_eq_getElem?_getD, List.getElem?_eq_getElem (by rw [← hr]; exact hj)]
 rfl
theorem boCell_eq {a : ByteArray} (g : Gnd a) (cs : List Int) (x y : Int) : qPB.f (wideT a : Int) (highT a : Int) cs x y = some (hasB a x y) := by
 have g1 := g.h7
 have g2 := g.w7
 unfold qPB.f
 have w1 : wrap64 ((highT a : Int) - 1) = (highT a : Int) - 1 := by unfold wrap64; omega
 have w2 : wrap64 ((wideT a : Int) - 1) = (wideT a : Int) - 1 := by unfold wrap64; omega
 rw [w1, w2, qbD, qbD]
 simp only [Option.bind_some]
 unfold hasB
 by_cases h : (decide (0 ≤ x) && decide (x ≤ (wideT a : Int) - 1)) = true
 ·rw [if_pos h, h, Bool.and_true]
 ·rw [if_neg h, Bool.eq_false_iff.2 h, Bool.and_false]
theorem spec_at {a : ByteArray} (g : Gnd a) (x y : Int) (h : hasB a x y = true) :
  0 ≤ wrap64 (wrap64 (y * (wideT a : Int)) + x) ∧ wrap64 (wrap64 (y * (wideT a : Int)) + x) < ((numsOf (flatT a.data.toList)).length : Int) ∧ rd (numsOf (flatT a.data.toList)) (wrap64 (wrap64 (y * (wideT a : Int)) + x)) = cellN a x y := by
 obtain ⟨⟨h1, h2⟩, h3, h4⟩ := (qND a x y).1 h
 obtain ⟨i, rfl⟩ := Int.eq_ofNat_of_zero_le h1
 obtain ⟨j, rfl⟩ := Int.eq_ofNat_of_zero_le h3
 have g1 := g.h7
 have g2 := g.w7
 have hi' : i < (rowsL a).length := by rw [qDC]; omega
 have hf := flat_get (wideT a) (rowsL a) i j g.rows hi' (by omega)
 have hw := g.rows _ (List.getElem_mem hi')
 have hj : j < ((rowsL a)[i]).length := by omega
 rw [List.getElem?_eq_getElem hi', Option.bind_some, List.getElem?_eq_getElem hj] at hf
 have hm : i * wideT a ≤ 7 * 7 := Nat.mul_le_mul (by omega) g2
 have ec : ((i : Int) * (wideT a : Int)) = ((i * wideT a : Nat) : Int) := by push_cast; rfl
 rw [ec]
 have e : wrap64 (wrap64 ((i * wideT a : Nat) : Int) + (j : Int)) = ((i * wideT a + j : Nat) : Int) := by
  generalize i * wideT a = m at *
  unfold wrap64; omega
 rw [e, flatT_eq]
 obtain ⟨hlt, hv⟩ := List.getElem?_eq_some_iff.1 hf
 refine ⟨by omega, ?_, ?_⟩
 ·unfold numsOf
  rw [List.length_map]; omega
 ·unfold rd numsOf cellN cellU
  rw [Int.toNat_natCast, List.getD_eq_getElem?_getD, List.getElem?_map, hf, Int.toNat_natCast, Int.toNat_natCast, List.getD_eq_getElem?_getD (l := rowsL a), List.getElem?_eq_getElem hi']
  simp only [Option.map_some, Option.getD_some]
  rw [List.getD_eq_getElem?_getD, List.getElem?_eq_getElem hj]
  rfl
theorem at_all {a : ByteArray} (g : Gnd a) (x y : Int) : qVA.f (rowsT a) x y = some (if hasB a x y = true then cellN a x y else 0) := by
 cases h : hasB a x y with
 | true => rw [at_eq g x y h]; rfl
 | false =>
  unfold qVA.f
  rw [has_eq g, h]; rfl
def floorB (a : ByteArray) (x y : Int) : Bool := hasB a x y && (cellN a x y == 46)
theorem at_floor {a : ByteArray} (g : Gnd a) (x y : Int) : ∃ c, qVA.f (rowsT a) x y = some c ∧ decide (c = 46) = floorB a x y := by
 refine ⟨_, at_all g x y, ?_⟩
 unfold floorB
 cases h : hasB a x y with
 | true => rw [if_pos rfl, Bool.true_and]; rfl
 | false => rw [if_neg (by decide)]; rfl
end Go.Proofs.YthhiiceligjleaaDoor
namespace Go.Proofs.YthhiiceligjleaaDoor.P
open Go.RowKit Go.Proofs.YthhiiceligjleaaDoorW.PrintWords Go.Proofs.YthhiiceligjleaaDoorW.PrintLast Go.Proofs.YthhiiceligjleaaDoorW.PrintMore
attribute [local go_sem] qn ql qw qv qc qb qm qk
set_option linter.unusedVariables false
set_option linter.unusedSimpArgs false
def qWB.f (a0_0 : Int) (a0_1 : Int) (a0_2 : Int) (a0_3 : Int) (a0_4 : Int) (a0_5 : Int) : Option (List Int) := some (([a0_0, a0_1, a0_2, a0_3, a0_4, a0_5] : List Int))
set_option maxHeartbeats 8000000 in
set_option maxRecDepth 100000 in
theorem qWB.calls (a0_0 : Int) (a0_1 : Int) (a0_2 : Int) (a0_3 : Int) (a0_4 : Int) (a0_5 : Int) (r : List Int) (w : World) (h : qWB.f a0_0 a0_1 a0_2 a0_3 a0_4 a0_5 = some r) :
  Calls Tryd.prog 72 #[.agg #[.int .i64 a0_0, .int .i64 a0_1, .int .i64 a0_2, .int .i64 a0_3, .int .i64 a0_4, .int .i64 a0_5]] w fun e w' => ∃ v0_ : Value, e = .returned (v0_) ∧ Kd.R (Kd.int .i64) 3 w' w.heap.size (fun _ => True) v0_ r ∧ Below w.heap.size w w' := by
 have hu39 := Tryd.underlying39
 have HB := aM (Below.refl w.heap.size w)
 have H : (some (([a0_0, a0_1, a0_2, a0_3, a0_4, a0_5] : List Int))) = some r := h
 clear h
 obtain ⟨y397, hy397⟩ : ∃ y_ : List Int, y_ = (([a0_0, a0_1, a0_2, a0_3, a0_4, a0_5] : List Int)) := ⟨_, rfl⟩
 replace H : (some y397) = some r := by first | (rw [hy397]; with_reducible exact H) | (have H2_ := (Option.bind_some _ _).symm.trans H; rw [hy397]; with_reducible exact H2_) | (have H2_ := (Option.bind_some _ _).symm.trans H; with_reducible exact H2_) | with_reducible exact H | (rw [hy397]; exact H) | exact H
 have Ny397 := aM hy397
 clear hy397
 obtain rfl := Option.some.inj H
 go_enter Tryd.func72, Tryd.ntmps72
 go_wp2_with (first | ((with_reducible refine qK (N := 1) rfl ?_); refine qH ?hg (N := 1) ?hd (cs := #[.int .i64 a0_0, .int .i64 a0_1, .int .i64 a0_2, .int .i64 a0_3, .int .i64 a0_4, .int .i64 a0_5]) (t := 39) ?hr ?_; (case hd => rfl); (case hg => rfl); (case hr => exact gS); intro gb396 hg w2 hbox hb; have BK396 := aM (hbox); have GW396 := aM ((gg hg)); have GE396 := aM ((gg hg)); replace HB := aM (qB bl hb); clear hb hbox hg; (refine cb6 BK396 ?_; intro _ _ _ _ _ _); (refine cz6 BK396 ?_; intro _ _ _ _ _ _)) | ((with_reducible refine qK (N := 15) rfl ?_); refine Kd.R_lit (Kd.int .i64) _ 3 ?hg (N := 15) ?hd (xs := ([a0_0, a0_1, a0_2, a0_3, a0_4, a0_5] : List Int)) (inner := [.int .i64 a0_0, .int .i64 a0_1, .int .i64 a0_2, .int .i64 a0_3, .int .i64 a0_4, .int .i64 a0_5]) (ok := fun _ => True) (okp := fun _ => True) ?hr ?hp (fun _ hk => hk) trivial (Below.refl _ _) (Nat.le_refl _) (by simp) ?_; (case hd => rfl); (case hg => rfl); (case hr => exact gS); (case hp => exact (Reps.one (show Kd.M (Kd.int .i64) _ _ _ a0_0 [.int .i64 a0_0] from rfl) (Reps.one (show Kd.M (Kd.int .i64) _ _ _ a0_1 [.int .i64 a0_1] from rfl) (Reps.one (show Kd.M (Kd.int .i64) _ _ _ a0_2 [.int .i64 a0_2] from rfl) (Reps.one (show Kd.M (Kd.int .i64) _ _ _ a0_3 [.int .i64 a0_3] from rfl) (Reps.one (show Kd.M (Kd.int .i64) _ _ _ a0_4 [.int .i64 a0_4] from rfl) (Reps.one (show Kd.M (Kd.int .i64) _ _ _ a0_5 [.int .i64 a0_5] from rfl) (Reps.none _ _)))))))); intro v398 w4 ho5 hb hg_ hnew_; clear hg_ hnew_; (first | rw [← Ny397.out] at ho5 | (simp only [Int.reduceToNat] at ho5; rw [← Ny397.out] at ho5)); have HO399 := aM (Kd.qx ho5 (qL bl)); replace BK396 := aM (bb BK396 hb); replace HB := aM (qB bl hb); clear hb ho5))
 go_ret
 exact ⟨_, sR, by (with_reducible repeat (first | apply Kd.qO | apply Kd.qQ | apply Kd.qS)); exact HO399.out, bl⟩
def qRB.f (a0 : Int) : Option (Bool) := (qZA.f a0 0 9).bind fun t400 => (some (!t400))
set_option maxHeartbeats 8000000 in
set_option maxRecDepth 100000 in
theorem qRB.calls (a0 : Int) (r : Bool) (w : World) (h : qRB.f a0 = some r) :
  Calls Tryd.prog 73 #[.int .i64 a0] w fun e w' => e = .returned (.bool r) ∧ Drawn0 w w' := by
 have H : ((qZA.f a0 0 9).bind fun t400 => (some (!t400))) = some r := h
 clear h
 replace H := bO H
 obtain ⟨t400, A2, H⟩ := H
 obtain rfl := Option.some.inj H
 go_enter Tryd.func73, Tryd.ntmps73
 go_wp2_with (first | ((with_reducible refine qJ (f := 37) rfl ?_); refine qr (some 4) rfl rfl Tryd.func37 (by kernel_rfl) rfl #[.int .i64 a0, .int .i64 0, .int .i64 9] rfl gA ?_; (with_reducible refine (qZA.calls a0 0 9 t400 _ A2.out).mono ?_); rintro e w' ⟨rfl, ⟨nd, rfl⟩⟩; refine ⟨_, rfl, ?_⟩))
 go_ret
 exact ⟨by first | rfl | (simp; done) | (simp [*]; done), dR⟩
def qI.l0 : Nat → List Int → Int → Int → Option (Int)
 | 0, _, _, _ => none
 | k + 1, x0, x7, x8 => if x8 < x7 then (if 0 ≤ x8 then (if x8 < (x0.length : Int) then ((qRB.f (rd x0 x8)).bind fun t402 => (if t402 = true then (some x8) else (qI.l0 k x0 x7 (wrap64 (x8 + 1))))) else (none)) else (none)) else (some (-1))
def qI.f (k : Nat) (l0 : List Int)  : Option (Int) := qI.l0 k l0 (l0.length : Int) 0
set_option maxHeartbeats 8000000 in
set_option maxRecDepth 100000 in
theorem qI.calls (k : Nat) (A0 : Option Addr) (c0 : Nat) (l0 : List Int)  (r : Int) (w : World) (hr0 : Kd.C (Kd.int .i64) w A0 l0.length l0) (hc0 : l0.length ≤ c0) (h : qI.f k l0 = some r) :
  Calls Tryd.prog 81 #[.slice A0 l0.length c0, .func (.func 73) #[] #[]] w fun e w' => e = .returned (.int .i64 r) ∧ Drawn0 w w' := by
 have HR0 := aM hr0
 have HC0 := aM hc0
 clear hr0 hc0
 have H : (qI.l0 k l0 (l0.length : Int) 0) = some r := h
 clear h
 have H' := aM H
 clear H
 go_enter Tryd.func81, Tryd.ntmps81
 go_wp2
 go_loopg [8] k (fun kq v8 w' => ∃ (x8_1 : Int), v8 = .int .i64 x8_1 ∧ Aside0 (qI.l0 kq l0 (l0.length : Int) x8_1 = some r) ∧ Aside0 (kq ≤ k) ∧ Drawn0 w w')
 case atStart => exact ⟨(0), sD, H', ⟨Nat.le_refl _⟩, dR⟩
 case round =>
  clear H'; (try clear p2)
  obtain ⟨x8_1, rfl, HA, HK1, ⟨m1, rfl⟩⟩ := hrel
  cases gk with
  | zero => exact absurd HA.out (by simp [qI.l0])
  | succ k1 =>
   have H := HA.out
   clear HA
   simp only [qI.l0] at H
   by_cases c3 : x8_1 < (l0.length : Int)
   ·rw [if_pos c3] at H
    have c3b0 := decide_eq_true c3
    clear c3
    by_cases c4 : 0 ≤ x8_1
    ·rw [if_pos c4] at H
     have c4b0 := decide_eq_true c4
     clear c4
     by_cases c5 : x8_1 < (l0.length : Int)
     ·rw [if_pos c5] at H
      have c5b0 := decide_eq_true c5
      clear c5
      replace H := bO H
      obtain ⟨t402, A6, H⟩ := H
      by_cases c7 : t402 = true
      ·subst c7
       replace H := iT H
       obtain rfl := Option.some.inj H
       have p401 : 0 ≤ (x8_1 : Int) := of_decide_eq_true am
       have q401 : x8_1 < (l0.length : Int) := of_decide_eq_true am
       obtain ⟨ad401, e401, hx401_0⟩ := Kd.qFC HR0.out x8_1 p401 q401
       cases e401
       replace p401 := eq_true p401
       replace q401 := eq_true q401
       go_wp2_with (first | ((with_reducible refine qNC (s := 11) rfl ?_); refine qaD (some 16) 11 rfl rfl Tryd.func73 (by kernel_rfl) rfl #[.int .i64 (rd l0 x8_1)] rfl rfl gA ?_; (with_reducible refine (qRB.calls (rd l0 x8_1) true _ A6.out).mono ?_); rintro e w' ⟨rfl, ⟨nd, rfl⟩⟩; refine ⟨_, rfl, ?_⟩))
       go_ret
       exact ⟨by first | rfl | (simp; done) | (simp [*]; done), dR⟩
      ·replace c7 := Bool.eq_false_iff.mpr c7
       subst c7
       replace H := iF H
       have H' := aM H
       clear H
       have p401 : 0 ≤ (x8_1 : Int) := of_decide_eq_true am
       have q401 : x8_1 < (l0.length : Int) := of_decide_eq_true am
       obtain ⟨ad401, e401, hx401_0⟩ := Kd.qFC HR0.out x8_1 p401 q401
       cases e401
       replace p401 := eq_true p401
       replace q401 := eq_true q401
       go_wp2_with (first | ((with_reducible refine qNC (s := 11) rfl ?_); refine qaD (some 16) 11 rfl rfl Tryd.func73 (by kernel_rfl) rfl #[.int .i64 (rd l0 x8_1)] rfl rfl gA ?_; (with_reducible refine (qRB.calls (rd l0 x8_1) false _ A6.out).mono ?_); rintro e w' ⟨rfl, ⟨nd, rfl⟩⟩; refine ⟨_, rfl, ?_⟩))
       go_roundg k1
       case measure => have := HK1.out; omega
       case rel => exact ⟨(wrap64 (x8_1 + 1)), sD, H', ⟨by have := HK1.out; omega⟩, dR⟩
     ·rw [if_neg c5] at H
      exact absurd H (by simp)
    ·rw [if_neg c4] at H
     exact absurd H (by simp)
   ·rw [if_neg c3] at H
    have c3b0 := decide_eq_false c3
    clear c3
    obtain rfl := Option.some.inj H
    go_wp2
    go_ret
    exact ⟨by first | rfl | (simp; done) | (simp [*]; done), dR⟩
def qj.f (k : Nat) (l0 : List Int)  : Option (Bool) := (qI.f k l0).bind fun t403 => (some (decide (t403 ≥ 0)))
set_option maxHeartbeats 8000000 in
set_option maxRecDepth 100000 in
theorem qj.calls (k : Nat) (A0 : Option Addr) (c0 : Nat) (l0 : List Int)  (r : Bool) (w : World) (hr0 : Kd.C (Kd.int .i64) w A0 l0.length l0) (hc0 : l0.length ≤ c0) (h : qj.f k l0 = some r) :
  Calls Tryd.prog 71 #[.slice A0 l0.length c0, .func (.func 73) #[] #[]] w fun e w' => e = .returned (.bool r) ∧ Drawn0 w w' := by
 have HR0 := aM hr0
 have HC0 := aM hc0
 clear hr0 hc0
 have H : ((qI.f k l0).bind fun t403 => (some (decide (t403 ≥ 0)))) = some r := h
 clear h
 replace H := bO H
 obtain ⟨t403, A3, H⟩ := H
 obtain rfl := Option.some.inj H
 go_enter Tryd.func71, Tryd.ntmps71
 go_wp2_with (first | ((with_reducible refine qJ (f := 81) rfl ?_); refine qr (some 7) rfl rfl Tryd.func81 (by kernel_rfl) rfl #[.slice A0 l0.length c0, .func (.func 73) #[] #[]] rfl gA ?_; (with_reducible refine (qI.calls k _ _ l0  t403 _ ?side1 ?side2 A3.out).mono ?_); (case side1 => repeat (first | exact HR0.out | (with_reducible refine Kd.qW ?_ _) | (with_reducible refine Kd.qV ?_ _) | (with_reducible refine Kd.qe ?_))); (case side2 => exact HC0.out); rintro e w' ⟨rfl, ⟨nd, rfl⟩⟩; refine ⟨_, rfl, ?_⟩))
 go_ret
 exact ⟨by first | rfl | (simp; done) | (simp [*]; done), dR⟩
def qeB.f (k : Nat) (a0_0 : Int) (a0_1 : Int) (a0_2 : Int) (a0_3 : Int) (a0_4 : Int) (a0_5 : Int) : Option (Bool) := (qWB.f a0_0 a0_1 a0_2 a0_3 a0_4 a0_5).bind fun t405 => ((qj.f k t405).bind fun t408 => (some (!t408)))
set_option maxHeartbeats 8000000 in
set_option maxRecDepth 100000 in
theorem qeB.calls (k : Nat) (a0_0 : Int) (a0_1 : Int) (a0_2 : Int) (a0_3 : Int) (a0_4 : Int) (a0_5 : Int) (r : Bool) (w : World) (h : qeB.f k a0_0 a0_1 a0_2 a0_3 a0_4 a0_5 = some r) :
  Calls Tryd.prog 61 #[.agg #[.int .i64 a0_0, .int .i64 a0_1, .int .i64 a0_2, .int .i64 a0_3, .int .i64 a0_4, .int .i64 a0_5]] w fun e w' => e = .returned (.bool r) ∧ Below w.heap.size w w' := by
 have hu39 := Tryd.underlying39
 have HB := aM (Below.refl w.heap.size w)
 have H : ((qWB.f a0_0 a0_1 a0_2 a0_3 a0_4 a0_5).bind fun t405 => ((qj.f k t405).bind fun t408 => (some (!t408)))) = some r := h
 clear h
 replace H := bO H
 obtain ⟨t405, A2, H⟩ := H
 replace H := bO H
 obtain ⟨t408, A3, H⟩ := H
 obtain rfl := Option.some.inj H
 go_enter Tryd.func61, Tryd.ntmps61
 go_wp2_with (first | ((with_reducible refine qK (N := 1) rfl ?_); refine qH ?hg (N := 1) ?hd (cs := #[.int .i64 a0_0, .int .i64 a0_1, .int .i64 a0_2, .int .i64 a0_3, .int .i64 a0_4, .int .i64 a0_5]) (t := 39) ?hr ?_; (case hd => rfl); (case hg => rfl); (case hr => exact gS); intro gb404 hg w4 hbox hb; have BK404 := aM (hbox); have GW404 := aM ((gg hg)); have GE404 := aM ((gg hg)); replace HB := aM (qB bl hb); clear hb hbox hg; (refine cb6 BK404 ?_; intro _ _ _ _ _ _); (refine cz6 BK404 ?_; intro _ _ _ _ _ _)) | ((with_reducible refine qJ (f := 72) rfl ?_); refine qr (some 4) rfl rfl Tryd.func72 (by kernel_rfl) rfl #[.agg #[.int .i64 a0_0, .int .i64 a0_1, .int .i64 a0_2, .int .i64 a0_3, .int .i64 a0_4, .int .i64 a0_5]] rfl gA ?_; (with_reducible refine (qWB.calls a0_0 a0_1 a0_2 a0_3 a0_4 a0_5 t405 _ A2.out).mono ?_); rintro e w6 ⟨v406, rfl, ho0, hb⟩; refine ⟨_, rfl, ?_⟩; have HO407 := aM (Kd.qx ho0 (qL bl)); replace BK404 := aM (bb BK404 hb); replace HB := aM (qB bl hb); (try clear hb); (try clear hb2); (try clear hk); (try clear hi); (try clear ho0); obtain ⟨Ao7, co7, eo7⟩ := Kd.qBA HO407.out; subst eo7) | ((with_reducible refine qJ (f := 71) rfl ?_); refine qr (some 5) rfl rfl Tryd.func71 (by kernel_rfl) rfl #[.slice Ao7 t405.length co7, .func (.func 73) #[] #[]] rfl gA ?_; (with_reducible refine (qj.calls k _ _ t405  t408 _ ?side1 ?side2 A3.out).mono ?_); (case side1 => repeat (first | exact (Kd.qP HO407.out).2.2 | (with_reducible refine Kd.qW ?_ _) | (with_reducible refine Kd.qV ?_ _) | (with_reducible refine Kd.qe ?_))); (case side2 => exact (Kd.qP HO407.out).2.1); rintro e w' ⟨rfl, ⟨nd, rfl⟩⟩; refine ⟨_, rfl, ?_⟩))
 go_ret
 exact ⟨sR, bl⟩
end Go.Proofs.YthhiiceligjleaaDoor.P
namespace Go.Proofs.YthhiiceligjleaaDoor
open Go.RowKit Go.Proofs.YthhiiceligjleaaDoor.P Go.Proofs.YthhiiceligjleaaDoorW.PrintWords Go.Proofs.YthhiiceligjleaaDoorW.PrintLast
set_option linter.unusedVariables false
set_option linter.unusedSimpArgs false
def inFace (n : Int) : Bool := decide (0 ≤ n) && decide (n ≤ 9)
def dieB (a b c d e f : Int) : Bool := [a, b, c, d, e, f].all inFace
theorem rdn (l : List Int) (i : Nat) (h : i < l.length) : rd l (i : Int) = l[i] := by
 unfold rd
 rw [Int.toNat_natCast, List.getD_eq_getElem?_getD, List.getElem?_eq_getElem h]; rfl
theorem spec_l1In_eq (n a b : Int) : qaA.f n a b = some (decide (a ≤ n) && decide (n ≤ b)) := by
 unfold qaA.f
 by_cases h : n ≥ a
 ·rw [if_pos h, decide_eq_true (show a ≤ n from h), Bool.true_and]
 ·rw [if_neg h, decide_eq_false (show ¬ a ≤ n from h), Bool.false_and]
theorem impl_in_eq (n a b : Int) : qZA.f n a b = some (decide (a ≤ n) && decide (n ≤ b)) := by
 unfold qZA.f
 by_cases h : a ≤ n
 ·rw [if_pos h, decide_eq_true h, Bool.true_and]
 ·rw [if_neg h, decide_eq_false h, Bool.false_and]
theorem l1All_loop (l : List Int) (a b : Int) (hl : l.length ≤ 140737488355328) (d : Nat) : ∀ i : Nat, i ≤ l.length → l.length - i = d →
  Ev (fun k => qbA.l0 k a b l (l.length : Int) (i : Int)) ((l.drop i).all fun n => decide (a ≤ n) && decide (n ≤ b)) := by
 induction d with
 | zero =>
  intro i hi hd
  refine Ev.step (f := fun k => _) (fun k => by rw [qbA.l0]) (Ev.neg (by omega) (Ev.some_ ?_))
  rw [List.drop_eq_nil_of_le (by omega)]; rfl
 | succ d ih =>
  intro i hi hd
  have h : i < l.length := by omega
  refine Ev.step (f := fun k => _) (fun k => by rw [qbA.l0]) (Ev.pos (by omega) (Ev.pos (by omega) (Ev.pos (by omega) (Ev.bindc (spec_l1In_eq _ _ _) ?_))))
  rw [rdn l i h, List.drop_eq_getElem_cons h, List.all_cons, show wrap64 ((i : Int) + 1) = ((i + 1 : Nat) : Int) by unfold wrap64; omega]
  cases hb : (decide (a ≤ l[i]) && decide (l[i] ≤ b)) with
  | true => exact Ev.pos rfl (ih (i + 1) (by omega) (by omega))
  | false => exact Ev.neg (by decide) (Ev.some_ rfl)
theorem spec_l1All_ev (l : List Int) (a b : Int) (hl : l.length ≤ 140737488355328) : Ev (fun k => qbA.f k l a b) (l.all fun n => decide (a ≤ n) && decide (n ≤ b)) := by
 have := l1All_loop l a b hl l.length 0 (by omega) (by omega)
 simpa [qbA.f] using this
theorem spec_diGood_ev (a b c d e f : Int) : Ev (fun k => qbB.f k a b c d e f) (dieB a b c d e f) := by
 unfold qbB.f
 exact Ev.bindc rfl (Ev.bind (spec_l1All_ev [a, b, c, d, e, f] 0 9 (by simp)) (Ev.some_ rfl))
theorem isDie1_eq (n : Int) : qRB.f n = some (!inFace n) := by
 unfold qRB.f
 rw [impl_in_eq]; rfl
theorem idxDie_loop (l : List Int) (hl : l.length ≤ 140737488355328) (d : Nat) : ∀ i : Nat, i ≤ l.length → l.length - i = d →
  ∃ r : Int, Ev (fun k => qI.l0 k l (l.length : Int) (i : Int)) r ∧ decide (r ≥ 0) = !((l.drop i).all inFace) := by
 induction d with
 | zero =>
  intro i hi hd
  refine ⟨-1, Ev.step (f := fun k => _) (fun k => by rw [qI.l0]) (Ev.neg (by omega) (Ev.some_ rfl)), ?_⟩
  rw [List.drop_eq_nil_of_le (by omega)]; rfl
 | succ d ih =>
  intro i hi hd
  have h : i < l.length := by omega
  rw [List.drop_eq_getElem_cons h, List.all_cons]
  cases hb : inFace l[i] with
  | true =>
   obtain ⟨r, h1, h2⟩ := ih (i + 1) (by omega) (by omega)
   refine ⟨r, Ev.step (f := fun k => _) (fun k => by rw [qI.l0]) (Ev.pos (by omega) (Ev.pos (by omega) (Ev.pos (by omega) (Ev.bindc (isDie1_eq _) ?_)))), by rw [Bool.true_and]; exact h2⟩
   rw [rdn l i h, hb, show wrap64 ((i : Int) + 1) = ((i + 1 : Nat) : Int) by unfold wrap64; omega]
   exact Ev.neg (by decide) h1
  | false =>
   refine ⟨(i : Int), Ev.step (f := fun k => _) (fun k => by rw [qI.l0]) (Ev.pos (by omega) (Ev.pos (by omega) (Ev.pos (by omega) (Ev.bindc (isDie1_eq _) ?_)))), ?_⟩
   ·rw [rdn l i h, hb]
    exact Ev.pos rfl (Ev.now _)
   ·rw [Bool.false_and]; exact decide_eq_true (by omega)
theorem impl_IsDie_ev (a b c d e f : Int) : Ev (fun k => qeB.f k a b c d e f) (dieB a b c d e f) := by
 obtain ⟨r, h1, h2⟩ := idxDie_loop [a, b, c, d, e, f] (by simp) 6 0 (by simp) (by simp)
 unfold qeB.f qj.f qI.f
 refine Ev.bindc rfl (Ev.bind (a := decide (r ≥ 0)) (Ev.bind h1 (Ev.now _)) (Ev.some_ ?_))
 rw [h2]
 simp [dieB]
theorem dieB_face {a b c d e f : Int} (h : dieB a b c d e f = true) : ∀ n ∈ [a, b, c, d, e, f], 0 ≤ n ∧ n ≤ 9 := by
 intro n hn
 have := List.all_eq_true.1 h n hn
 simpa [inFace] using this
end Go.Proofs.YthhiiceligjleaaDoor
namespace Go.Proofs.YthhiiceligjleaaDoor.P
open Go.RowKit Go.Proofs.YthhiiceligjleaaDoorW.PrintWords Go.Proofs.YthhiiceligjleaaDoorW.PrintLast Go.Proofs.YthhiiceligjleaaDoorW.PrintMore
attribute [local go_sem] qn ql qw qv qc qb qm qk
set_option linter.unusedVariables false
set_option linter.unusedSimpArgs false
def qeA.f (k : Nat) (l0 : List ByteArray) (a1_0 : Int) (a1_1 : Int) (a1_2 : Int) (a1_3 : Int) (a1_4 : Int) (a1_5 : Int) (a1_6 : Int) (a1_7 : Int) : Option (Bool) := (qeB.f k a1_2 a1_3 a1_4 a1_5 a1_6 a1_7).bind fun t410 => (if t410 = true then ((qVA.f l0 a1_0 a1_1).bind fun t411 => (some (t411 == 46))) else (some false))
set_option maxHeartbeats 8000000 in
set_option maxRecDepth 100000 in
theorem qeA.calls (k : Nat) (A0 : Option Addr) (c0 : Nat) (l0 : List ByteArray) (a1_0 : Int) (a1_1 : Int) (a1_2 : Int) (a1_3 : Int) (a1_4 : Int) (a1_5 : Int) (a1_6 : Int) (a1_7 : Int) (r : Bool) (w : World) (hr0 : Kd.C Kd.string w A0 l0.length l0) (hc0 : l0.length ≤ c0) (h : qeA.f k l0 a1_0 a1_1 a1_2 a1_3 a1_4 a1_5 a1_6 a1_7 = some r) :
  Calls Tryd.prog 51 #[.slice A0 l0.length c0, .agg #[.int .i64 a1_0, .int .i64 a1_1, .int .i64 a1_2, .int .i64 a1_3, .int .i64 a1_4, .int .i64 a1_5, .int .i64 a1_6, .int .i64 a1_7]] w fun e w' => e = .returned (.bool r) ∧ Below w.heap.size w w' := by
 have hu41 := Tryd.underlying41
 have hu39 := Tryd.underlying39
 have HR0 := aM hr0
 have HC0 := aM hc0
 clear hr0 hc0
 have HB := aM (Below.refl w.heap.size w)
 have H : ((qeB.f k a1_2 a1_3 a1_4 a1_5 a1_6 a1_7).bind fun t410 => (if t410 = true then ((qVA.f l0 a1_0 a1_1).bind fun t411 => (some (t411 == 46))) else (some false))) = some r := h
 clear h
 replace H := bO H
 obtain ⟨t410, A3, H⟩ := H
 by_cases c4 : t410 = true
 ·subst c4
  replace H := iT H
  replace H := bO H
  obtain ⟨t411, A5, H⟩ := H
  obtain rfl := Option.some.inj H
  go_enter Tryd.func51, Tryd.ntmps51
  go_wp2_with (first | ((with_reducible refine qK (N := 3) rfl ?_); refine qH ?hg (N := 3) ?hd (cs := #[.int .i64 a1_0, .int .i64 a1_1, .int .i64 a1_2, .int .i64 a1_3, .int .i64 a1_4, .int .i64 a1_5, .int .i64 a1_6, .int .i64 a1_7]) (t := 41) ?hr ?_; (case hd => rfl); (case hg => rfl); (case hr => exact gS); intro gb409 hg w6 hbox hb; have BK409 := aM (hbox); have GW409 := aM ((gg hg)); have GE409 := aM ((gg hg)); replace HB := aM (qB bl hb); clear hb hbox hg; (refine cb8 BK409 ?_; intro _ _ _ _ _ _ _ _); (refine cz8 BK409 ?_; intro _ _ _ _ _ _ _ _)) | ((with_reducible refine qJ (f := 61) rfl ?_); refine qr (some 7) rfl rfl Tryd.func61 (by kernel_rfl) rfl #[.agg #[.int .i64 a1_2, .int .i64 a1_3, .int .i64 a1_4, .int .i64 a1_5, .int .i64 a1_6, .int .i64 a1_7]] rfl gA ?_; (with_reducible refine (qeB.calls k a1_2 a1_3 a1_4 a1_5 a1_6 a1_7 true _ A3.out).mono ?_); rintro e w8 ⟨rfl, hb⟩; refine ⟨_, rfl, ?_⟩; replace BK409 := aM (bb BK409 hb); replace HB := aM (qB bl hb); (try clear hb); (try clear hb2); (try clear hk); (try clear hi); (refine cb8 BK409 ?_; intro _ _ _ _ _ _ _ _); (refine cz8 BK409 ?_; intro _ _ _ _ _ _ _ _)) | (go_at_call 55; (with_reducible refine (qVA.calls _ _ l0 a1_0 a1_1 t411 _ ?side1 ?side2 A5.out).mono ?_); (case side1 => repeat (first | exact (Kd.qg HR0.out HB.out) | (with_reducible refine Kd.qW ?_ _) | (with_reducible refine Kd.qV ?_ _) | (with_reducible refine Kd.qe ?_))); (case side2 => exact HC0.out); rintro e w' ⟨rfl, ⟨nd, rfl⟩⟩))
  go_ret
  exact ⟨sR, bl⟩
 ·replace c4 := Bool.eq_false_iff.mpr c4
  subst c4
  replace H := iF H
  obtain rfl := Option.some.inj H
  go_enter Tryd.func51, Tryd.ntmps51
  go_wp2_with (first | ((with_reducible refine qK (N := 3) rfl ?_); refine qH ?hg (N := 3) ?hd (cs := #[.int .i64 a1_0, .int .i64 a1_1, .int .i64 a1_2, .int .i64 a1_3, .int .i64 a1_4, .int .i64 a1_5, .int .i64 a1_6, .int .i64 a1_7]) (t := 41) ?hr ?_; (case hd => rfl); (case hg => rfl); (case hr => exact gS); intro gb409 hg w10 hbox hb; have BK409 := aM (hbox); have GW409 := aM ((gg hg)); have GE409 := aM ((gg hg)); replace HB := aM (qB bl hb); clear hb hbox hg; (refine cb8 BK409 ?_; intro _ _ _ _ _ _ _ _); (refine cz8 BK409 ?_; intro _ _ _ _ _ _ _ _)) | ((with_reducible refine qJ (f := 61) rfl ?_); refine qr (some 7) rfl rfl Tryd.func61 (by kernel_rfl) rfl #[.agg #[.int .i64 a1_2, .int .i64 a1_3, .int .i64 a1_4, .int .i64 a1_5, .int .i64 a1_6, .int .i64 a1_7]] rfl gA ?_; (with_reducible refine (qeB.calls k a1_2 a1_3 a1_4 a1_5 a1_6 a1_7 false _ A3.out).mono ?_); rintro e w12 ⟨rfl, hb⟩; refine ⟨_, rfl, ?_⟩; replace BK409 := aM (bb BK409 hb); replace HB := aM (qB bl hb); (try clear hb); (try clear hb2); (try clear hk); (try clear hi)))
  go_ret
  exact ⟨sR, bl⟩
end Go.Proofs.YthhiiceligjleaaDoor.P
namespace Go.Proofs.YthhiiceligjleaaDoor
open Go.RowKit Go.Proofs.YthhiiceligjleaaDoor.P Go.Proofs.YthhiiceligjleaaDoorW.PrintWords Go.Proofs.YthhiiceligjleaaDoorW.PrintLast
set_option linter.unusedVariables false
set_option linter.unusedSimpArgs false
def PredOn {α : Type} (g : Nat) (lb : Array Value) (enc : α → Value) (p : α → Bool) (l : List α) (w : World) : Prop :=
 ∀ (W : World) (x : α), x ∈ l → Below w.heap.size w W → Calls Tryd.prog g (#[enc x] ++ lb) W fun e w' => e = .returned (.bool (p x)) ∧ Below W.heap.size W w'
theorem PredOn.later {α : Type} {g : Nat} {lb : Array Value} {enc : α → Value} {p : α → Bool} {l : List α} {w w1 : World} (h : PredOn g lb enc p l w) (hb : Below w.heap.size w w1) : PredOn g lb enc p l w1 :=
 fun W x hx hW => h W x hx (qtA hb hb.size hW)
def idxP {α : Type} (p : α → Bool) (l : List α) : Int := match l.findIdx? p with | some i => (i : Int) | none => -1
theorem idxP_hit {α : Type} (p : α → Bool) (l : List α) (k : Nat) (hk : k < l.length) (h0 : ∀ j, (h : j < k) → p (l[j]'(by omega)) = false) (h1 : p l[k] = true) : idxP p l = (k : Int) := by
 unfold idxP
 have : l.findIdx? p = some k := by
  rw [List.findIdx?_eq_some_iff_getElem]
  exact ⟨hk, h1, fun j hj => by rw [h0 j hj]; decide⟩
 rw [this]
theorem idxP_miss {α : Type} (p : α → Bool) (l : List α) (h0 : ∀ j, (h : j < l.length) → p l[j] = false) : idxP p l = -1 := by
 unfold idxP
 have : l.findIdx? p = none := by
  rw [List.findIdx?_eq_none_iff]
  intro x hx
  obtain ⟨j, hj, rfl⟩ := List.getElem_of_mem hx
  exact h0 j hj
 rw [this]
theorem idxP_any {α : Type} (p : α → Bool) (l : List α) : decide (idxP p l ≥ 0) = l.any p := by
 unfold idxP
 cases h : l.findIdx? p with
 | none =>
  rw [List.findIdx?_eq_none_iff] at h
  have : l.any p = false := by rw [List.any_eq_false]; intro x hx; simp [h x hx]
  rw [this]; decide
 | some i =>
  rw [List.findIdx?_eq_some_iff_getElem] at h
  obtain ⟨hi, hp, _⟩ := h
  have : l.any p = true := List.any_eq_true.2 ⟨l[i], List.getElem_mem hi, hp⟩
  rw [this]
  exact decide_eq_true (Int.natCast_nonneg i)
def encState (x : S41) : Value := .agg #[.int .i64 x.f0, .int .i64 x.f1, .int .i64 x.f2.f0, .int .i64 x.f2.f1, .int .i64 x.f2.f2, .int .i64 x.f2.f3, .int .i64 x.f2.f4, .int .i64 x.f2.f5]
theorem rd_getState (l : List S41) (j : Nat) (h : j < l.length) : qA l (j : Int) = l[j] := by
 unfold qA
 rw [Int.toNat_natCast, List.getD_eq_getElem?_getD, List.getElem?_eq_getElem h]; rfl
set_option maxHeartbeats 1000000 in
theorem indexFunc_State (p : S41 → Bool) (g : Nat) (lb : Array Value) (eg : ∀ args w, (callFunc g args).run Tryd.prog w = .ok (.enter g args) w) (A0 : Option Addr) (c0 : Nat) (l : List S41) (w : World)
  (hr : Kd.C k41 w A0 l.length l) (hp : PredOn g lb encState p l w) :
  Calls Tryd.prog 56 #[.slice A0 l.length c0, .func (.func g) #[] lb] w fun e w' => e = .returned (.int .i64 (idxP p l)) ∧ Below w.heap.size w w' := by
 have HR := Lib.hid hr
 have hn : l.length ≤ 9223372036854775807 := hr.2.1
 clear hr
 have hu := Tryd.underlying41
 go_enter Tryd.func56, Tryd.ntmps56
 go_wp2
 go_loopg [5, 8] l.length (fun gg _ s8 wr => ∃ kk : Nat, kk ≤ l.length ∧ l.length - kk ≤ gg ∧ s8 = .int .i64 kk ∧ Aside0 (Below w.heap.size w wr) ∧ Aside0 (∀ j, (h : j < l.length) → j < kk → p l[j] = false))
 case atStart => exact ⟨0, Nat.zero_le _, by omega, rfl, ⟨Below.refl _ w⟩, ⟨fun j _ hj => absurd hj (Nat.not_lt_zero _)⟩⟩
 case round =>
  obtain ⟨kk, hkk, hg, rfl, BW, A⟩ := hrel
  rename World => wr
  by_cases hlt : kk < l.length
  ·have hltz : (kk : Int) < (l.length : Int) := by omega
   obtain ⟨ad, e, h0, h1, h2, h3, h4, h5, h6, h7⟩ := qTB (Kd.qg HR.out BW.out) (kk : Int) (by omega) hltz
   cases e
   simp only [rd_getState l kk hlt, Int.toNat_natCast] at h0 h1 h2 h3 h4 h5 h6 h7
   have hcall := hp wr l[kk] (List.getElem_mem hlt) BW.out
   have B := Lib.hid (rfl : l[kk] = l[kk])
   generalize hy : l[kk] = y at h0 h1 h2 h3 h4 h5 h6 h7 hcall
   have HY := Lib.hid hy
   clear hy B
   cases hq : p y with
   | true =>
    rw [hq] at hcall
    have HQ := Lib.hid hq
    have HC := Lib.hid hcall
    clear hq hp hcall
    go_wp2
    refine HC.out.mono ?_
    rintro e w' ⟨rfl, hb'⟩
    clear HC h0 h1 h2 h3 h4 h5 h6 h7 eg
    go_wp2
    go_ret
    exact ⟨ret_i64 (idxP_hit p l kk hlt (fun j hj => A.out j _ hj) (by rw [HY.out]; exact HQ.out)).symm, qtA BW.out BW.out.size hb'⟩
   | false =>
    rw [hq] at hcall
    have HQ := Lib.hid hq
    have HC := Lib.hid hcall
    clear hq hp hcall
    go_wp2
    refine HC.out.mono ?_
    rintro e w' ⟨rfl, hb'⟩
    clear HC h0 h1 h2 h3 h4 h5 h6 h7 eg
    go_wp2
    go_roundg (l.length - (kk + 1))
    case measure => omega
    case rel =>
     refine ⟨kk + 1, by omega, by omega, by go_num, ⟨qtA BW.out BW.out.size hb'⟩, ⟨fun j h hj => ?_⟩⟩
     by_cases e : j = kk
     ·subst e
      rw [HY.out]; exact HQ.out
     ·exact A.out j h (by omega)
  ·have hltz : ¬ (kk : Int) < (l.length : Int) := by omega
   have hke : kk = l.length := by omega
   subst hke
   clear hp
   go_wp2
   go_ret
   exact ⟨ret_i64 (idxP_miss p l (fun j h => A.out j h h)).symm, BW.out⟩
theorem containsFunc_State (p : S41 → Bool) (g : Nat) (lb : Array Value) (eg : ∀ args w, (callFunc g args).run Tryd.prog w = .ok (.enter g args) w) (A0 : Option Addr) (c0 : Nat) (l : List S41) (w : World)
  (hr : Kd.C k41 w A0 l.length l) (hp : PredOn g lb encState p l w) :
  Calls Tryd.prog 39 #[.slice A0 l.length c0, .func (.func g) #[] lb] w fun e w' => e = .returned (.bool (l.any p)) ∧ Below w.heap.size w w' := by
 have hcall := fun c => indexFunc_State p g lb eg A0 c l w hr hp
 have HA := Lib.hid (idxP_any p l)
 clear hr hp
 go_enter Tryd.func39, Tryd.ntmps39
 go_wp2_with (go_at_call 56; refine (hcall _).mono ?_; rintro e w' ⟨rfl, hb'⟩)
 go_ret
 exact ⟨ret_bool HA.out, hb'⟩
end Go.Proofs.YthhiiceligjleaaDoor
namespace Go.Proofs.YthhiiceligjleaaDoor.P
open Go.RowKit Go.Proofs.YthhiiceligjleaaDoorW.PrintWords Go.Proofs.YthhiiceligjleaaDoorW.PrintLast Go.Proofs.YthhiiceligjleaaDoorW.PrintMore
attribute [local go_sem] qn ql qw qv qc qb qm qk
set_option linter.unusedVariables false
set_option linter.unusedSimpArgs false
def qjA.f (a0_0 : Int) (a0_1 : Int) (a0_2 : Int) (a0_3 : Int) (a0_4 : Int) (a0_5 : Int) (a0_6 : Int) (a0_7 : Int) (a1 : Int) (a2 : Int) : Option (Bool) := if a0_0 = a1 then (some (a0_1 == a2)) else (some false)
set_option maxHeartbeats 8000000 in
set_option maxRecDepth 100000 in
theorem qjA.calls (a0_0 : Int) (a0_1 : Int) (a0_2 : Int) (a0_3 : Int) (a0_4 : Int) (a0_5 : Int) (a0_6 : Int) (a0_7 : Int) (a1 : Int) (a2 : Int) (r : Bool) (w : World) (h : qjA.f a0_0 a0_1 a0_2 a0_3 a0_4 a0_5 a0_6 a0_7 a1 a2 = some r) :
  Calls Tryd.prog 41 #[.agg #[.int .i64 a0_0, .int .i64 a0_1, .int .i64 a0_2, .int .i64 a0_3, .int .i64 a0_4, .int .i64 a0_5, .int .i64 a0_6, .int .i64 a0_7], .int .i64 a1, .int .i64 a2] w fun e w' => e = .returned (.bool r) ∧ Below w.heap.size w w' := by
 have hu41 := Tryd.underlying41
 have HB := aM (Below.refl w.heap.size w)
 have H : (if a0_0 = a1 then (some (a0_1 == a2)) else (some false)) = some r := h
 clear h
 by_cases c4 : a0_0 = a1
 ·rw [if_pos c4] at H
  have c4b0 := beq_iff_eq.mpr c4
  have c4b1 := bne_eq_false_iff_eq.mpr c4
  clear c4
  obtain rfl := Option.some.inj H
  go_enter Tryd.func41, Tryd.ntmps41
  go_wp2_with (first | ((with_reducible refine qK (N := 3) rfl ?_); refine qH ?hg (N := 3) ?hd (cs := #[.int .i64 a0_0, .int .i64 a0_1, .int .i64 a0_2, .int .i64 a0_3, .int .i64 a0_4, .int .i64 a0_5, .int .i64 a0_6, .int .i64 a0_7]) (t := 41) ?hr ?_; (case hd => rfl); (case hg => rfl); (case hr => exact gS); intro gb494 hg w5 hbox hb; have BK494 := aM (hbox); have GW494 := aM ((gg hg)); have GE494 := aM ((gg hg)); replace HB := aM (qB bl hb); clear hb hbox hg; (refine cb8 BK494 ?_; intro _ _ _ _ _ _ _ _); (refine cz8 BK494 ?_; intro _ _ _ _ _ _ _ _)))
  go_ret
  exact ⟨sR, bl⟩
 ·rw [if_neg c4] at H
  have c4b0 := beq_eq_false_iff_ne.mpr c4
  have c4b1 := bne_iff_ne.mpr c4
  obtain rfl := Option.some.inj H
  go_enter Tryd.func41, Tryd.ntmps41
  go_wp2_with (first | ((with_reducible refine qK (N := 3) rfl ?_); refine qH ?hg (N := 3) ?hd (cs := #[.int .i64 a0_0, .int .i64 a0_1, .int .i64 a0_2, .int .i64 a0_3, .int .i64 a0_4, .int .i64 a0_5, .int .i64 a0_6, .int .i64 a0_7]) (t := 41) ?hr ?_; (case hd => rfl); (case hg => rfl); (case hr => exact gS); intro gb494 hg w7 hbox hb; have BK494 := aM (hbox); have GW494 := aM ((gg hg)); have GE494 := aM ((gg hg)); replace HB := aM (qB bl hb); clear hb hbox hg; (refine cb8 BK494 ?_; intro _ _ _ _ _ _ _ _); (refine cz8 BK494 ?_; intro _ _ _ _ _ _ _ _)))
  go_ret
  exact ⟨sR, bl⟩
end Go.Proofs.YthhiiceligjleaaDoor.P
namespace Go.Proofs.YthhiiceligjleaaDoor
open Go.RowKit Go.Proofs.YthhiiceligjleaaDoor.P Go.Proofs.YthhiiceligjleaaDoorW.PrintWords Go.Proofs.YthhiiceligjleaaDoorW.PrintLast
set_option linter.unusedVariables false
set_option linter.unusedSimpArgs false
def qtC.f (l : List S41) (y0 y1 y2 y3 y4 y5 y6 y7 : Int) : Option Bool := some (l.any fun x => decide (x.f0 = y0) && decide (x.f1 = y1))
theorem at1_any_isAt (x : S41) (y0 y1 : Int) : qjA.f x.f0 x.f1 x.f2.f0 x.f2.f1 x.f2.f2 x.f2.f3 x.f2.f4 x.f2.f5 y0 y1 = some (decide (x.f0 = y0) && decide (x.f1 = y1)) := by
 unfold qjA.f
 by_cases h : x.f0 = y0
 ·rw [if_pos h, decide_eq_true h, Bool.true_and]; rfl
 ·rw [if_neg h, decide_eq_false h, Bool.false_and]
set_option maxHeartbeats 1000000 in
set_option maxRecDepth 100000 in
theorem at1_any_calls (x : S41) (b : Nat) (y0 y1 : Int) (w : World) (h0 : w.cell? ⟨b, 0, none⟩ = some (.int .i64 y0)) (h1 : w.cell? ⟨b, 1, none⟩ = some (.int .i64 y1)) :
  Calls Tryd.prog 52 (#[encState x] ++ #[.pointer (some ⟨b, 0, none⟩)]) w fun e w' => e = .returned (.bool (decide (x.f0 = y0) && decide (x.f1 = y1))) ∧ Below w.heap.size w w' := by
 have hu := Tryd.underlying41
 show Calls Tryd.prog 52 #[encState x, .pointer (some ⟨b, 0, none⟩)] w _
 unfold encState
 have g7 := World.block_lt_of_cell? w _ h0
 have HH := fun (W : World) => Lib.hid (qjA.calls x.f0 x.f1 x.f2.f0 x.f2.f1 x.f2.f2 x.f2.f3 x.f2.f4 x.f2.f5 y0 y1 _ W (at1_any_isAt x y0 y1))
 go_enter Tryd.func52, Tryd.ntmps52
 go_wp2_with (first | (go_at_call 41; refine (HH _).out.mono ?_; rintro e w1 ⟨rfl, hb⟩; have HB := Lib.hid (qtA (qFA (Below.refl w.heap.size w) _) (qL (qFA (Below.refl w.heap.size w) _)) hb); clear hb))
 go_ret
 exact ⟨rfl, HB.out⟩
theorem qtC.calls (A0 : Option Addr) (c0 : Nat) (l0 : List S41) (b : Nat) (y0 y1 y2 y3 y4 y5 y6 y7 : Int) (r : Bool) (w : World) (hr0 : Kd.C k41 w A0 l0.length l0) (hc0 : l0.length ≤ c0) (h0 : w.cell? ⟨b, 0, none⟩ = some (.int .i64 y0)) (h1 : w.cell? ⟨b, 1, none⟩ = some (.int .i64 y1)) (_h2 : w.cell? ⟨b, 2, none⟩ = some (.int .i64 y2)) (_h3 : w.cell? ⟨b, 3, none⟩ = some (.int .i64 y3)) (_h4 : w.cell? ⟨b, 4, none⟩ = some (.int .i64 y4)) (_h5 : w.cell? ⟨b, 5, none⟩ = some (.int .i64 y5)) (_h6 : w.cell? ⟨b, 6, none⟩ = some (.int .i64 y6)) (_h7 : w.cell? ⟨b, 7, none⟩ = some (.int .i64 y7))
  (h : qtC.f l0 y0 y1 y2 y3 y4 y5 y6 y7 = some r) :
  Calls Tryd.prog 39 #[.slice A0 l0.length c0, .func (.func 52) #[] #[.pointer (some ⟨b, 0, none⟩)]] w fun e w' => e = .returned (.bool r) ∧ Below w.heap.size w w' := by
 obtain rfl := Option.some.inj h
 have eg := Go.Proofs.enters_of Tryd.func52 (by kernel_rfl) rfl
 exact containsFunc_State (fun x => decide (x.f0 = y0) && decide (x.f1 = y1)) 52 _ eg A0 c0 l0 w hr0 fun W x hx hb => at1_any_calls x b y0 y1 W (qFB hb h0) (qFB hb h1)
end Go.Proofs.YthhiiceligjleaaDoor
namespace Go.Proofs.YthhiiceligjleaaDoor.P
open Go.RowKit Go.Proofs.YthhiiceligjleaaDoorW.PrintWords Go.Proofs.YthhiiceligjleaaDoorW.PrintLast Go.Proofs.YthhiiceligjleaaDoorW.PrintMore
attribute [local go_sem] qn ql qw qv qc qb qm qk
set_option linter.unusedVariables false
set_option linter.unusedSimpArgs false
def qq.l0 : Nat → List ByteArray → List (S41) → List (S41) → Int → Int → Option (Bool)
 | 0, _, _, _, _, _ => none
 | k + 1, x0, x1, x7, x8, x9 => if x9 < x8 then (if 0 ≤ x9 then (if x9 < (x7.length : Int) then ((qeA.f k x0 ((qA x7 x9).f0) ((qA x7 x9).f1) ((qA x7 x9).f2.f0) ((qA x7 x9).f2.f1) ((qA x7 x9).f2.f2) ((qA x7 x9).f2.f3) ((qA x7 x9).f2.f4) ((qA x7 x9).f2.f5)).bind fun t415 => (if t415 = true then (if x9 ≤ (x1.length : Int) then ((qtC.f (x1.take (x9 : Int).toNat) ((qA x7 x9).f0) ((qA x7 x9).f1) ((qA x7 x9).f2.f0) ((qA x7 x9).f2.f1) ((qA x7 x9).f2.f2) ((qA x7 x9).f2.f3) ((qA x7 x9).f2.f4) ((qA x7 x9).f2.f5)).bind fun t420 => (if t420 = true then (some false) else (qq.l0 k x0 x1 x7 x8 (wrap64 (x9 + 1))))) else (none)) else (some false))) else (none)) else (none)) else ((qZA.f (x1.length : Int) 1 3).bind fun t412 => (some t412))
def qq.f (k : Nat) (l0 : List ByteArray) (l1 : List (S41)) : Option (Bool) := qq.l0 k l0 l1 l1 (l1.length : Int) 0
set_option maxHeartbeats 8000000 in
set_option maxRecDepth 100000 in
theorem qq.calls (k : Nat) (A0 : Option Addr) (c0 : Nat) (l0 : List ByteArray) (A1 : Option Addr) (c1 : Nat) (l1 : List (S41)) (r : Bool) (w : World) (hr0 : Kd.C Kd.string w A0 l0.length l0) (hc0 : l0.length ≤ c0) (hr1 : Kd.C k41 w A1 l1.length l1) (hc1 : l1.length ≤ c1) (h : qq.f k l0 l1 = some r) :
  Calls Tryd.prog 36 #[.slice A0 l0.length c0, .slice A1 l1.length c1] w fun e w' => e = .returned (.bool r) ∧ Below w.heap.size w w' := by
 have hu41 := Tryd.underlying41
 have HR0 := aM hr0
 have HC0 := aM hc0
 clear hr0 hc0
 have HR1 := aM hr1
 have HC1 := aM hc1
 clear hr1 hc1
 have HB := aM (Below.refl w.heap.size w)
 have H : (qq.l0 k l0 l1 l1 (l1.length : Int) 0) = some r := h
 clear h
 have H' := aM H
 clear H
 go_enter Tryd.func36, Tryd.ntmps36
 go_wp2
 go_loopg [9] k (fun kq v9 w' => ∃ (x9_1 : Int), v9 = .int .i64 x9_1 ∧ Aside0 (qq.l0 kq l0 l1 l1 (l1.length : Int) x9_1 = some r) ∧ Aside0 (kq ≤ k) ∧ Aside0 (Below w.heap.size w w'))
 case atStart => exact ⟨(0), sD, H', ⟨Nat.le_refl _⟩, ⟨bl⟩⟩
 case round =>
  clear H'; (try clear c1); (try clear p2)
  obtain ⟨x9_1, rfl, HA, HK1, HB⟩ := hrel
  cases gk with
  | zero => exact absurd HA.out (by simp [qq.l0])
  | succ k1 =>
   have H := HA.out
   clear HA
   simp only [qq.l0] at H
   by_cases c3 : x9_1 < (l1.length : Int)
   ·rw [if_pos c3] at H
    have c3b0 := decide_eq_true c3
    clear c3
    by_cases c4 : 0 ≤ x9_1
    ·rw [if_pos c4] at H
     have c4b0 := decide_eq_true c4
     clear c4
     by_cases c5 : x9_1 < (l1.length : Int)
     ·rw [if_pos c5] at H
      have c5b0 := decide_eq_true c5
      clear c5
      replace H := bO H
      obtain ⟨t415, A6, H⟩ := H
      by_cases c7 : t415 = true
      ·subst c7
       replace H := iT H
       have c8b0 := eq_true (of_decide_eq_true am : 0 ≤ x9_1)
       by_cases c9 : x9_1 ≤ (l1.length : Int)
       ·rw [if_pos c9] at H
        have c9b0 := eq_true c9
        have c9b1 := decide_eq_true c9
        clear c9
        obtain ⟨y416, hy416⟩ : ∃ y_ : List (S41), y_ = (l1.take (x9_1 : Int).toNat) := ⟨_, rfl⟩
        replace H : ((qtC.f y416 ((qA l1 x9_1).f0) ((qA l1 x9_1).f1) ((qA l1 x9_1).f2.f0) ((qA l1 x9_1).f2.f1) ((qA l1 x9_1).f2.f2) ((qA l1 x9_1).f2.f3) ((qA l1 x9_1).f2.f4) ((qA l1 x9_1).f2.f5)).bind fun t420 => (if t420 = true then (some false) else (qq.l0 k1 l0 l1 l1 (l1.length : Int) (wrap64 (x9_1 + 1))))) = some r := by first | (rw [hy416]; with_reducible exact H) | (have H2_ := (Option.bind_some _ _).symm.trans H; rw [hy416]; with_reducible exact H2_) | (have H2_ := (Option.bind_some _ _).symm.trans H; with_reducible exact H2_) | with_reducible exact H | (rw [hy416]; exact H) | exact H
        have Ny416 := aM hy416
        clear hy416
        replace H := bO H
        obtain ⟨t420, A10, H⟩ := H
        by_cases c11 : t420 = true
        ·subst c11
         replace H := iT H
         obtain rfl := Option.some.inj H
         have p413 : 0 ≤ (x9_1 : Int) := of_decide_eq_true am
         have q413 : x9_1 < (l1.length : Int) := of_decide_eq_true am
         obtain ⟨ad413, e413, hx413_0, hx413_1, hx413_2, hx413_3, hx413_4, hx413_5, hx413_6, hx413_7⟩ := qTB HR1.out x9_1 p413 q413
         cases e413
         replace hx413_0 := (HB.out.cell (World.block_lt_of_cell? w _ hx413_0)).trans hx413_0
         replace hx413_1 := (HB.out.cell (World.block_lt_of_cell? w _ hx413_1)).trans hx413_1
         replace hx413_2 := (HB.out.cell (World.block_lt_of_cell? w _ hx413_2)).trans hx413_2
         replace hx413_3 := (HB.out.cell (World.block_lt_of_cell? w _ hx413_3)).trans hx413_3
         replace hx413_4 := (HB.out.cell (World.block_lt_of_cell? w _ hx413_4)).trans hx413_4
         replace hx413_5 := (HB.out.cell (World.block_lt_of_cell? w _ hx413_5)).trans hx413_5
         replace hx413_6 := (HB.out.cell (World.block_lt_of_cell? w _ hx413_6)).trans hx413_6
         replace hx413_7 := (HB.out.cell (World.block_lt_of_cell? w _ hx413_7)).trans hx413_7
         replace p413 := eq_true p413
         replace q413 := eq_true q413
         go_wp2_with (first | ((with_reducible refine qK (N := 6) rfl ?_); refine qH ?hg (N := 6) ?hd (cs := #[.int .i64 0, .int .i64 0, .int .i64 0, .int .i64 0, .int .i64 0, .int .i64 0, .int .i64 0, .int .i64 0]) (t := 41) ?hr ?_; (case hd => rfl); (case hg => rfl); (case hr => exact gS); intro gb414 hg w12 hbox hb; have BK414 := aM (hbox); have GW414 := aM ((gg hg)); have GE414 := aM ((gg hg)); replace HB := aM (qB bl hb); clear hb hbox hg; (refine cb8 BK414 ?_; intro _ _ _ _ _ _ _ _); (refine cz8 BK414 ?_; intro _ _ _ _ _ _ _ _)) | ((with_reducible refine qJ (f := 51) rfl ?_); refine qr (some 16) rfl rfl Tryd.func51 (by kernel_rfl) rfl #[.slice A0 l0.length c0, .agg #[.int .i64 ((qA l1 x9_1).f0), .int .i64 ((qA l1 x9_1).f1), .int .i64 ((qA l1 x9_1).f2.f0), .int .i64 ((qA l1 x9_1).f2.f1), .int .i64 ((qA l1 x9_1).f2.f2), .int .i64 ((qA l1 x9_1).f2.f3), .int .i64 ((qA l1 x9_1).f2.f4), .int .i64 ((qA l1 x9_1).f2.f5)]] rfl gA ?_; (with_reducible refine (qeA.calls k1 _ _ l0 ((qA l1 x9_1).f0) ((qA l1 x9_1).f1) ((qA l1 x9_1).f2.f0) ((qA l1 x9_1).f2.f1) ((qA l1 x9_1).f2.f2) ((qA l1 x9_1).f2.f3) ((qA l1 x9_1).f2.f4) ((qA l1 x9_1).f2.f5) true _ ?side1 ?side2 A6.out).mono ?_); (case side1 => exact Kd.qg HR0.out bl); (case side2 => exact HC0.out); rintro e w14 ⟨rfl, hb⟩; refine ⟨_, rfl, ?_⟩; replace BK414 := aM (qPA (g := gb414) (o := .cells #[.int .i64 ((qA l1 x9_1).f0), .int .i64 ((qA l1 x9_1).f1), .int .i64 ((qA l1 x9_1).f2.f0), .int .i64 ((qA l1 x9_1).f2.f1), .int .i64 ((qA l1 x9_1).f2.f2), .int .i64 ((qA l1 x9_1).f2.f3), .int .i64 ((qA l1 x9_1).f2.f4), .int .i64 ((qA l1 x9_1).f2.f5)] 41 (0, 0)) (by (with_reducible repeat (first | refine qG ?_ _ | refine qE ?_ | refine qF ?_ _)); exact bP8 BK414) hb); replace HB := aM (qB bl hb); (try clear hb); (try clear hb2); (try clear hk); (try clear hi); have q15 : (x9_1 : Int) ≤ ((l1.length : Int) : Int) := of_decide_eq_true am; obtain ⟨i015, hi015, _, hsz15, _⟩ := info_parts info41; have hroom15 : l1.length ≤ c1 := HC1.out; have hC15 : Kd.C k41 _ (some ad413) l1.length l1 := HR1.out; have hcut15 := qiD (P := Tryd.prog) 26 41 .i64 Tryd.underlying26 hi015 (some ad413) l1.length c1 x9_1 (of_decide_eq_true am) q15 hroom15; have hr15 := Kd.qUC (m := (x9_1 : Int).toNat) hC15 (by omega); have hy15 : y416.length = (x9_1 : Int).toNat := (by rw [Ny416.out, List.length_take]; omega); rw [← Ny416.out] at hr15; rw [← hy15] at hcut15; have HR419 := aM hr15; have HC419 := aM (show y416.length ≤ c1 from by omega); clear hr15 hC15 hroom15 hi015 hsz15; have KY15 := aM hy15; clear hy15; replace q15 := eq_true q15) | (go_at_call 39; (with_reducible refine (qtC.calls _ _ y416 gb414 ((qA l1 x9_1).f0) ((qA l1 x9_1).f1) ((qA l1 x9_1).f2.f0) ((qA l1 x9_1).f2.f1) ((qA l1 x9_1).f2.f2) ((qA l1 x9_1).f2.f3) ((qA l1 x9_1).f2.f4) ((qA l1 x9_1).f2.f5) true _ ?side1 ?side2 ?side3 ?side4 ?side5 ?side6 ?side7 ?side8 ?side9 ?side10 A10.out).mono ?_); (case side1 => repeat (first | exact (Kd.qg HR419.out HB.out) | (with_reducible refine Kd.qW ?_ _) | (with_reducible refine Kd.qV ?_ _) | (with_reducible refine Kd.qe ?_))); (case side2 => exact HC419.out); (case side3 => exact (cell_of_row _ gb414 0 _ 41 (0, 0) (rB BK414)).trans rfl); (case side4 => exact (cell_of_row _ gb414 1 _ 41 (0, 0) (rB BK414)).trans rfl); (case side5 => exact (cell_of_row _ gb414 2 _ 41 (0, 0) (rB BK414)).trans rfl); (case side6 => exact (cell_of_row _ gb414 3 _ 41 (0, 0) (rB BK414)).trans rfl); (case side7 => exact (cell_of_row _ gb414 4 _ 41 (0, 0) (rB BK414)).trans rfl); (case side8 => exact (cell_of_row _ gb414 5 _ 41 (0, 0) (rB BK414)).trans rfl); (case side9 => exact (cell_of_row _ gb414 6 _ 41 (0, 0) (rB BK414)).trans rfl); (case side10 => exact (cell_of_row _ gb414 7 _ 41 (0, 0) (rB BK414)).trans rfl); rintro e w16 ⟨rfl, hb⟩; replace BK414 := aM (bb BK414 hb); replace HB := aM (qB bl hb); (try clear hb); (try clear hb2); (try clear hk); (try clear hi)))
         go_ret
         exact ⟨sR, bl⟩
        ·replace c11 := Bool.eq_false_iff.mpr c11
         subst c11
         replace H := iF H
         have H' := aM H
         clear H
         have p413 : 0 ≤ (x9_1 : Int) := of_decide_eq_true am
         have q413 : x9_1 < (l1.length : Int) := of_decide_eq_true am
         obtain ⟨ad413, e413, hx413_0, hx413_1, hx413_2, hx413_3, hx413_4, hx413_5, hx413_6, hx413_7⟩ := qTB HR1.out x9_1 p413 q413
         cases e413
         replace hx413_0 := (HB.out.cell (World.block_lt_of_cell? w _ hx413_0)).trans hx413_0
         replace hx413_1 := (HB.out.cell (World.block_lt_of_cell? w _ hx413_1)).trans hx413_1
         replace hx413_2 := (HB.out.cell (World.block_lt_of_cell? w _ hx413_2)).trans hx413_2
         replace hx413_3 := (HB.out.cell (World.block_lt_of_cell? w _ hx413_3)).trans hx413_3
         replace hx413_4 := (HB.out.cell (World.block_lt_of_cell? w _ hx413_4)).trans hx413_4
         replace hx413_5 := (HB.out.cell (World.block_lt_of_cell? w _ hx413_5)).trans hx413_5
         replace hx413_6 := (HB.out.cell (World.block_lt_of_cell? w _ hx413_6)).trans hx413_6
         replace hx413_7 := (HB.out.cell (World.block_lt_of_cell? w _ hx413_7)).trans hx413_7
         replace p413 := eq_true p413
         replace q413 := eq_true q413
         go_wp2_with (first | ((with_reducible refine qK (N := 6) rfl ?_); refine qH ?hg (N := 6) ?hd (cs := #[.int .i64 0, .int .i64 0, .int .i64 0, .int .i64 0, .int .i64 0, .int .i64 0, .int .i64 0, .int .i64 0]) (t := 41) ?hr ?_; (case hd => rfl); (case hg => rfl); (case hr => exact gS); intro gb414 hg w17 hbox hb; have BK414 := aM (hbox); have GW414 := aM ((gg hg)); have GE414 := aM ((gg hg)); replace HB := aM (qB bl hb); clear hb hbox hg; (refine cb8 BK414 ?_; intro _ _ _ _ _ _ _ _); (refine cz8 BK414 ?_; intro _ _ _ _ _ _ _ _)) | ((with_reducible refine qJ (f := 51) rfl ?_); refine qr (some 16) rfl rfl Tryd.func51 (by kernel_rfl) rfl #[.slice A0 l0.length c0, .agg #[.int .i64 ((qA l1 x9_1).f0), .int .i64 ((qA l1 x9_1).f1), .int .i64 ((qA l1 x9_1).f2.f0), .int .i64 ((qA l1 x9_1).f2.f1), .int .i64 ((qA l1 x9_1).f2.f2), .int .i64 ((qA l1 x9_1).f2.f3), .int .i64 ((qA l1 x9_1).f2.f4), .int .i64 ((qA l1 x9_1).f2.f5)]] rfl gA ?_; (with_reducible refine (qeA.calls k1 _ _ l0 ((qA l1 x9_1).f0) ((qA l1 x9_1).f1) ((qA l1 x9_1).f2.f0) ((qA l1 x9_1).f2.f1) ((qA l1 x9_1).f2.f2) ((qA l1 x9_1).f2.f3) ((qA l1 x9_1).f2.f4) ((qA l1 x9_1).f2.f5) true _ ?side1 ?side2 A6.out).mono ?_); (case side1 => exact Kd.qg HR0.out bl); (case side2 => exact HC0.out); rintro e w19 ⟨rfl, hb⟩; refine ⟨_, rfl, ?_⟩; replace BK414 := aM (qPA (g := gb414) (o := .cells #[.int .i64 ((qA l1 x9_1).f0), .int .i64 ((qA l1 x9_1).f1), .int .i64 ((qA l1 x9_1).f2.f0), .int .i64 ((qA l1 x9_1).f2.f1), .int .i64 ((qA l1 x9_1).f2.f2), .int .i64 ((qA l1 x9_1).f2.f3), .int .i64 ((qA l1 x9_1).f2.f4), .int .i64 ((qA l1 x9_1).f2.f5)] 41 (0, 0)) (by (with_reducible repeat (first | refine qG ?_ _ | refine qE ?_ | refine qF ?_ _)); exact bP8 BK414) hb); replace HB := aM (qB bl hb); (try clear hb); (try clear hb2); (try clear hk); (try clear hi); have q20 : (x9_1 : Int) ≤ ((l1.length : Int) : Int) := of_decide_eq_true am; obtain ⟨i020, hi020, _, hsz20, _⟩ := info_parts info41; have hroom20 : l1.length ≤ c1 := HC1.out; have hC20 : Kd.C k41 _ (some ad413) l1.length l1 := HR1.out; have hcut20 := qiD (P := Tryd.prog) 26 41 .i64 Tryd.underlying26 hi020 (some ad413) l1.length c1 x9_1 (of_decide_eq_true am) q20 hroom20; have hr20 := Kd.qUC (m := (x9_1 : Int).toNat) hC20 (by omega); have hy20 : y416.length = (x9_1 : Int).toNat := (by rw [Ny416.out, List.length_take]; omega); rw [← Ny416.out] at hr20; rw [← hy20] at hcut20; have HR419 := aM hr20; have HC419 := aM (show y416.length ≤ c1 from by omega); clear hr20 hC20 hroom20 hi020 hsz20; have KY20 := aM hy20; clear hy20; replace q20 := eq_true q20) | (go_at_call 39; (with_reducible refine (qtC.calls _ _ y416 gb414 ((qA l1 x9_1).f0) ((qA l1 x9_1).f1) ((qA l1 x9_1).f2.f0) ((qA l1 x9_1).f2.f1) ((qA l1 x9_1).f2.f2) ((qA l1 x9_1).f2.f3) ((qA l1 x9_1).f2.f4) ((qA l1 x9_1).f2.f5) false _ ?side1 ?side2 ?side3 ?side4 ?side5 ?side6 ?side7 ?side8 ?side9 ?side10 A10.out).mono ?_); (case side1 => repeat (first | exact (Kd.qg HR419.out HB.out) | (with_reducible refine Kd.qW ?_ _) | (with_reducible refine Kd.qV ?_ _) | (with_reducible refine Kd.qe ?_))); (case side2 => exact HC419.out); (case side3 => exact (cell_of_row _ gb414 0 _ 41 (0, 0) (rB BK414)).trans rfl); (case side4 => exact (cell_of_row _ gb414 1 _ 41 (0, 0) (rB BK414)).trans rfl); (case side5 => exact (cell_of_row _ gb414 2 _ 41 (0, 0) (rB BK414)).trans rfl); (case side6 => exact (cell_of_row _ gb414 3 _ 41 (0, 0) (rB BK414)).trans rfl); (case side7 => exact (cell_of_row _ gb414 4 _ 41 (0, 0) (rB BK414)).trans rfl); (case side8 => exact (cell_of_row _ gb414 5 _ 41 (0, 0) (rB BK414)).trans rfl); (case side9 => exact (cell_of_row _ gb414 6 _ 41 (0, 0) (rB BK414)).trans rfl); (case side10 => exact (cell_of_row _ gb414 7 _ 41 (0, 0) (rB BK414)).trans rfl); rintro e w21 ⟨rfl, hb⟩; replace BK414 := aM (bb BK414 hb); replace HB := aM (qB bl hb); (try clear hb); (try clear hb2); (try clear hk); (try clear hi)))
         go_roundg k1
         case measure => have := HK1.out; omega
         case rel => exact ⟨(wrap64 (x9_1 + 1)), sD, H', ⟨by have := HK1.out; omega⟩, ⟨bl⟩⟩
       ·rw [if_neg c9] at H
        exact absurd H (by simp)
      ·replace c7 := Bool.eq_false_iff.mpr c7
       subst c7
       replace H := iF H
       obtain rfl := Option.some.inj H
       have p413 : 0 ≤ (x9_1 : Int) := of_decide_eq_true am
       have q413 : x9_1 < (l1.length : Int) := of_decide_eq_true am
       obtain ⟨ad413, e413, hx413_0, hx413_1, hx413_2, hx413_3, hx413_4, hx413_5, hx413_6, hx413_7⟩ := qTB HR1.out x9_1 p413 q413
       cases e413
       replace hx413_0 := (HB.out.cell (World.block_lt_of_cell? w _ hx413_0)).trans hx413_0
       replace hx413_1 := (HB.out.cell (World.block_lt_of_cell? w _ hx413_1)).trans hx413_1
       replace hx413_2 := (HB.out.cell (World.block_lt_of_cell? w _ hx413_2)).trans hx413_2
       replace hx413_3 := (HB.out.cell (World.block_lt_of_cell? w _ hx413_3)).trans hx413_3
       replace hx413_4 := (HB.out.cell (World.block_lt_of_cell? w _ hx413_4)).trans hx413_4
       replace hx413_5 := (HB.out.cell (World.block_lt_of_cell? w _ hx413_5)).trans hx413_5
       replace hx413_6 := (HB.out.cell (World.block_lt_of_cell? w _ hx413_6)).trans hx413_6
       replace hx413_7 := (HB.out.cell (World.block_lt_of_cell? w _ hx413_7)).trans hx413_7
       replace p413 := eq_true p413
       replace q413 := eq_true q413
       go_wp2_with (first | ((with_reducible refine qK (N := 6) rfl ?_); refine qH ?hg (N := 6) ?hd (cs := #[.int .i64 0, .int .i64 0, .int .i64 0, .int .i64 0, .int .i64 0, .int .i64 0, .int .i64 0, .int .i64 0]) (t := 41) ?hr ?_; (case hd => rfl); (case hg => rfl); (case hr => exact gS); intro gb414 hg w22 hbox hb; have BK414 := aM (hbox); have GW414 := aM ((gg hg)); have GE414 := aM ((gg hg)); replace HB := aM (qB bl hb); clear hb hbox hg; (refine cb8 BK414 ?_; intro _ _ _ _ _ _ _ _); (refine cz8 BK414 ?_; intro _ _ _ _ _ _ _ _)) | ((with_reducible refine qJ (f := 51) rfl ?_); refine qr (some 16) rfl rfl Tryd.func51 (by kernel_rfl) rfl #[.slice A0 l0.length c0, .agg #[.int .i64 ((qA l1 x9_1).f0), .int .i64 ((qA l1 x9_1).f1), .int .i64 ((qA l1 x9_1).f2.f0), .int .i64 ((qA l1 x9_1).f2.f1), .int .i64 ((qA l1 x9_1).f2.f2), .int .i64 ((qA l1 x9_1).f2.f3), .int .i64 ((qA l1 x9_1).f2.f4), .int .i64 ((qA l1 x9_1).f2.f5)]] rfl gA ?_; (with_reducible refine (qeA.calls k1 _ _ l0 ((qA l1 x9_1).f0) ((qA l1 x9_1).f1) ((qA l1 x9_1).f2.f0) ((qA l1 x9_1).f2.f1) ((qA l1 x9_1).f2.f2) ((qA l1 x9_1).f2.f3) ((qA l1 x9_1).f2.f4) ((qA l1 x9_1).f2.f5) false _ ?side1 ?side2 A6.out).mono ?_); (case side1 => exact Kd.qg HR0.out bl); (case side2 => exact HC0.out); rintro e w24 ⟨rfl, hb⟩; refine ⟨_, rfl, ?_⟩; replace BK414 := aM (qPA (g := gb414) (o := .cells #[.int .i64 ((qA l1 x9_1).f0), .int .i64 ((qA l1 x9_1).f1), .int .i64 ((qA l1 x9_1).f2.f0), .int .i64 ((qA l1 x9_1).f2.f1), .int .i64 ((qA l1 x9_1).f2.f2), .int .i64 ((qA l1 x9_1).f2.f3), .int .i64 ((qA l1 x9_1).f2.f4), .int .i64 ((qA l1 x9_1).f2.f5)] 41 (0, 0)) (by (with_reducible repeat (first | refine qG ?_ _ | refine qE ?_ | refine qF ?_ _)); exact bP8 BK414) hb); replace HB := aM (qB bl hb); (try clear hb); (try clear hb2); (try clear hk); (try clear hi)))
       go_ret
       exact ⟨sR, bl⟩
     ·rw [if_neg c5] at H
      exact absurd H (by simp)
    ·rw [if_neg c4] at H
     exact absurd H (by simp)
   ·rw [if_neg c3] at H
    have c3b0 := decide_eq_false c3
    clear c3
    replace H := bO H
    obtain ⟨t412, A25, H⟩ := H
    obtain rfl := Option.some.inj H
    go_wp2_with (first | ((with_reducible refine qJ (f := 37) rfl ?_); refine qr (some 28) rfl rfl Tryd.func37 (by kernel_rfl) rfl #[.int .i64 (l1.length : Int), .int .i64 1, .int .i64 3] rfl gA ?_; (with_reducible refine (qZA.calls (l1.length : Int) 1 3 t412 _ A25.out).mono ?_); rintro e w' ⟨rfl, ⟨nd, rfl⟩⟩; refine ⟨_, rfl, ?_⟩))
    go_ret
    exact ⟨sR, bl⟩
def qGB.f (k : Nat) (a0 : ByteArray) (l1 : List (S41)) : Option (List ByteArray × Bool) := (qdB.f k a0).bind fun bt421 => (if bt421.2 = true then ((qq.f k bt421.1 l1).bind fun t425 => (some (bt421.1, t425))) else (some (bt421.1, false)))
set_option maxHeartbeats 8000000 in
set_option maxRecDepth 100000 in
theorem qGB.calls (k : Nat) (a0 : ByteArray) (A1 : Option Addr) (c1 : Nat) (l1 : List (S41)) (r1 : List ByteArray) (r2 : Bool) (w : World) (hr1 : Kd.C k41 w A1 l1.length l1) (hc1 : l1.length ≤ c1) (hL : Laid w) (h : qGB.f k a0 l1 = some (r1, r2)) :
  Calls Tryd.prog 21 #[.string a0, .slice A1 l1.length c1] w fun e w' => ∃ v0_ : Value, e = .returned (.tuple #[v0_, .bool r2]) ∧ Kd.R Kd.string 9 w' w.heap.size (fun _ => True) v0_ r1 ∧ Below w.heap.size w w' := by
 have HR1 := aM hr1
 have HC1 := aM hc1
 clear hr1 hc1
 have HLD := aM hL
 clear hL
 have HB := aM (Below.refl w.heap.size w)
 have H : ((qdB.f k a0).bind fun bt421 => (if bt421.2 = true then ((qq.f k bt421.1 l1).bind fun t425 => (some (bt421.1, t425))) else (some (bt421.1, false)))) = some (r1, r2) := h
 clear h
 replace H := bO H
 obtain ⟨⟨t421, t422⟩, A3, H⟩ := H
 dsimp only at H A3
 by_cases c4 : t422 = true
 ·subst c4
  replace H := iT H
  replace H := bO H
  obtain ⟨t425, A5, H⟩ := H
  simp only [Option.some.injEq, Prod.mk.injEq] at H
  obtain ⟨rfl, rfl⟩ := H
  go_enter Tryd.func21, Tryd.ntmps21
  go_wp2_with (first | ((with_reducible refine qJ (f := 35) rfl ?_); refine qr (some 10) rfl rfl Tryd.func35 (by kernel_rfl) rfl #[.string a0] rfl gA ?_; (with_reducible refine (qdB.calls k a0 t421 true _ ?side1 A3.out).mono ?_); (case side1 => first | (with_reducible exact HLD.out) | exact Laid.below HLD.out bl); rintro e w6 ⟨v423, rfl, ho0, hb⟩; refine ⟨_, rfl, ?_⟩; have HO424 := aM (Kd.qx ho0 (qL bl)); replace HB := aM (qB bl hb); (try clear hb); (try clear hb2); (try clear hk); (try clear hi); (try clear ho0); obtain ⟨Ao7, co7, eo7⟩ := Kd.qBA HO424.out; subst eo7) | (go_at_call 36; (with_reducible refine (qq.calls k _ _ t421 _ _ l1 t425 _ ?side1 ?side2 ?side3 ?side4 A5.out).mono ?_); (case side1 => repeat (first | exact (Kd.qP HO424.out).2.2 | (with_reducible refine Kd.qW ?_ _) | (with_reducible refine Kd.qV ?_ _) | (with_reducible refine Kd.qe ?_))); (case side2 => exact (Kd.qP HO424.out).2.1); (case side3 => repeat (first | exact (Kd.qg HR1.out HB.out) | (with_reducible refine Kd.qW ?_ _) | (with_reducible refine Kd.qV ?_ _) | (with_reducible refine Kd.qe ?_))); (case side4 => exact HC1.out); rintro e w8 ⟨rfl, hb⟩; replace HO424 := aM (Kd.qd (rR HO424) hb); replace HB := aM (qB bl hb); (try clear hb); (try clear hb2); (try clear hk); (try clear hi)))
  go_ret2
  exact ⟨_, sR, by (with_reducible repeat (first | apply Kd.qO | apply Kd.qQ | apply Kd.qS)); exact HO424.out, bl⟩
 ·replace c4 := Bool.eq_false_iff.mpr c4
  subst c4
  replace H := iF H
  simp only [Option.some.injEq, Prod.mk.injEq] at H
  obtain ⟨rfl, rfl⟩ := H
  go_enter Tryd.func21, Tryd.ntmps21
  go_wp2_with (first | ((with_reducible refine qJ (f := 35) rfl ?_); refine qr (some 10) rfl rfl Tryd.func35 (by kernel_rfl) rfl #[.string a0] rfl gA ?_; (with_reducible refine (qdB.calls k a0 t421 false _ ?side1 A3.out).mono ?_); (case side1 => first | (with_reducible exact HLD.out) | exact Laid.below HLD.out bl); rintro e w9 ⟨v423, rfl, ho0, hb⟩; refine ⟨_, rfl, ?_⟩; have HO424 := aM (Kd.qx ho0 (qL bl)); replace HB := aM (qB bl hb); (try clear hb); (try clear hb2); (try clear hk); (try clear hi); (try clear ho0)))
  go_ret2
  exact ⟨_, sR, by (with_reducible repeat (first | apply Kd.qO | apply Kd.qQ | apply Kd.qS)); exact HO424.out, bl⟩
end Go.Proofs.YthhiiceligjleaaDoor.P
namespace Go.Proofs.YthhiiceligjleaaDoor
open Go.RowKit Go.Proofs.YthhiiceligjleaaDoor.P Go.Proofs.YthhiiceligjleaaDoorW.PrintWords Go.Proofs.YthhiiceligjleaaDoorW.PrintLast
set_option linter.unusedVariables false
set_option linter.unusedSimpArgs false
def stateB (a : ByteArray) (s : XS) : Bool := floorB a s.f0 s.f1 && dieB s.f2.f0 s.f2.f1 s.f2.f2 s.f2.f3 s.f2.f4 s.f2.f5
def atCell (x y : Int) (t : XS) : Bool := decide (t.f0 = x) && decide (t.f1 = y)
abbrev csOf (a : ByteArray) : List Int := numsOf (flatT a.data.toList)
theorem boFloor_eq {a : ByteArray} (g : Gnd a) (x y : Int) : qcA.f (wideT a : Int) (highT a : Int) (csOf a) x y = some (floorB a x y) := by
 unfold qcA.f floorB
 rw [boCell_eq g, Option.bind_some]
 cases h : hasB a x y with
 | false => rw [if_neg (by decide)]; rfl
 | true =>
  obtain ⟨h1, h2, h3⟩ := spec_at g x y h
  rw [if_pos rfl, if_pos h1, if_pos h2, h3]; rfl
theorem isState_ev {a : ByteArray} (g : Gnd a) (s : XS) : Ev (fun k => qeA.f k (rowsT a) s.f0 s.f1 s.f2.f0 s.f2.f1 s.f2.f2 s.f2.f3 s.f2.f4 s.f2.f5) (stateB a s) := by
 unfold qeA.f stateB
 refine Ev.bind (impl_IsDie_ev _ _ _ _ _ _) ?_
 obtain ⟨c, h1, h2⟩ := at_floor g s.f0 s.f1
 cases hd : dieB s.f2.f0 s.f2.f1 s.f2.f2 s.f2.f3 s.f2.f4 s.f2.f5 with
 | false =>
  rw [Bool.and_false]
  exact Ev.neg (by decide) (Ev.now _)
 | true =>
  rw [Bool.and_true, ← h2]
  exact Ev.pos rfl (Ev.bindc h1 (Ev.some_ rfl))
theorem boState_ev {a : ByteArray} (g : Gnd a) (s : XS) : Ev (fun k => qDB.f k (wideT a : Int) (highT a : Int) (csOf a) s.f0 s.f1 s.f2.f0 s.f2.f1 s.f2.f2 s.f2.f3 s.f2.f4 s.f2.f5) (stateB a s) := by
 unfold qDB.f stateB
 refine Ev.bindc (boFloor_eq g _ _) ?_
 cases hd : floorB a s.f0 s.f1 with
 | false => exact Ev.neg (by decide) (Ev.now _)
 | true => exact Ev.pos rfl (Ev.bind (spec_diGood_ev _ _ _ _ _ _) (Ev.now _))
theorem myAt_loop (l : List XS) (hl : l.length ≤ 140737488355328) (x y : Int) (d : Nat) : ∀ i : Nat, i ≤ l.length → l.length - i = d →
  ∃ r : Int, Ev (fun k => qLA.l0 k x y l (l.length : Int) (i : Int)) r ∧ decide (r ≥ 0) = (l.drop i).any (atCell x y) := by
 induction d with
 | zero =>
  intro i hi hd
  refine ⟨-1, Ev.step (f := fun k => _) (fun k => by rw [qLA.l0]) (Ev.neg (by omega) (Ev.now _)), ?_⟩
  rw [List.drop_eq_nil_of_le (by omega)]; rfl
 | succ d ih =>
  intro i hi hd
  have h : i < l.length := by omega
  have w : wrap64 ((i : Int) + 1) = ((i + 1 : Nat) : Int) := by unfold wrap64; omega
  obtain ⟨r, h1, h2⟩ := ih (i + 1) (by omega) (by omega)
  rw [List.drop_eq_getElem_cons h, List.any_cons]
  by_cases hx : l[i].f0 = x
  ·by_cases hy : l[i].f1 = y
   ·refine ⟨(i : Int), Ev.step (f := fun k => _) (fun k => by rw [qLA.l0]) (Ev.pos (by omega) (Ev.pos (by omega) (Ev.pos (by omega) ?_))), ?_⟩
    ·rw [rdXS l i h]
     exact Ev.pos hx (Ev.pos hy (Ev.now _))
    ·rw [decide_eq_true (by omega)]
     unfold atCell
     rw [decide_eq_true hx, decide_eq_true hy]; rfl
   ·refine ⟨r, Ev.step (f := fun k => _) (fun k => by rw [qLA.l0]) (Ev.pos (by omega) (Ev.pos (by omega) (Ev.pos (by omega) ?_))), ?_⟩
    ·rw [rdXS l i h, w]
     exact Ev.pos hx (Ev.neg hy h1)
    ·rw [h2]
     unfold atCell
     rw [decide_eq_false hy, Bool.and_false, Bool.false_or]
  ·refine ⟨r, Ev.step (f := fun k => _) (fun k => by rw [qLA.l0]) (Ev.pos (by omega) (Ev.pos (by omega) (Ev.pos (by omega) ?_))), ?_⟩
   ·rw [rdXS l i h, w]
    exact Ev.neg hx h1
   ·rw [h2]
    unfold atCell
    rw [decide_eq_false hx, Bool.false_and, Bool.false_or]
theorem myAt_ev (l : List XS) (hl : l.length ≤ 140737488355328) (x y : Int) : ∃ r : Int, Ev (fun k => qLA.f k l x y) r ∧ decide (r ≥ 0) = l.any (atCell x y) := by
 have := myAt_loop l hl x y l.length 0 (by omega) (by omega)
 simpa [qLA.f] using this
def goodL (a : ByteArray) : List XS → List XS → Bool
 | _, [] => true
 | e, s :: r => stateB a s && !(e.any (atCell s.f0 s.f1)) && goodL a (e ++ [s]) r
def in3 (n : Nat) : Bool := decide ((1 : Int) ≤ (n : Int)) && decide ((n : Int) ≤ 3)
def goodB (a : ByteArray) (l : List XS) : Bool := in3 l.length && goodL a [] l
theorem take_succ_drop {l : List XS} {i : Nat} (h : i < l.length) : l.take (i + 1) = l.take i ++ [l[i]] := by
 rw [List.take_succ_eq_append_getElem h]
theorem areDice_loop {a : ByteArray} (g : Gnd a) (l : List XS) (hl : l.length ≤ 2000000) (d : Nat) : ∀ i : Nat, i ≤ l.length → l.length - i = d →
  Ev (fun k => qq.l0 k (rowsT a) l l (l.length : Int) (i : Int)) (goodL a (l.take i) (l.drop i) && in3 l.length) := by
 induction d with
 | zero =>
  intro i hi hd
  refine Ev.step (f := fun k => _) (fun k => by rw [qq.l0]) (Ev.neg (by omega) (Ev.bindc (qhC _ _ _) (Ev.some_ ?_)))
  rw [List.drop_eq_nil_of_le (by omega)]; rfl
 | succ d ih =>
  intro i hi hd
  have h : i < l.length := by omega
  have w : wrap64 ((i : Int) + 1) = ((i + 1 : Nat) : Int) := by unfold wrap64; omega
  have hs := isState_ev g l[i]
  have hn := ih (i + 1) (by omega) (by omega)
  rw [take_succ_drop h] at hn
  rw [List.drop_eq_getElem_cons h]
  refine Ev.step (f := fun k => _) (fun k => by rw [qq.l0]) (Ev.pos (by omega) (Ev.pos (by omega) (Ev.pos (by omega) ?_)))
  rw [rdXS l i h, w]
  refine Ev.bind hs ?_
  unfold goodL
  cases hb : stateB a l[i] with
  | false => exact Ev.neg (by decide) (Ev.now _)
  | true =>
   refine Ev.pos rfl (Ev.pos (by omega) (Ev.bindc (show qtC.f _ _ _ _ _ _ _ _ _ = some _ from rfl) ?_))
   rw [Int.toNat_natCast]
   show Ev (fun k => if (l.take i).any (atCell l[i].f0 l[i].f1) = true then _ else _) _
   cases hq : (l.take i).any (atCell l[i].f0 l[i].f1) with
   | true => exact Ev.pos rfl (Ev.now _)
   | false =>
    refine Ev.neg (by decide) ?_
    simpa using hn
theorem areDice_ev {a : ByteArray} (g : Gnd a) (l : List XS) (hl : l.length ≤ 2000000) : Ev (fun k => qq.f k (rowsT a) l) (goodB a l) := by
 have := areDice_loop g l hl l.length 0 (by omega) (by omega)
 rw [Bool.and_comm] at this
 exact this
theorem myGood_loop {a : ByteArray} (g : Gnd a) (l : List XS) (hl : l.length ≤ 2000000) (d : Nat) : ∀ i : Nat, i ≤ l.length → l.length - i = d →
  Ev (fun k => qp.l0 k l l (l.length : Int) (i : Int) (wideT a : Int) (highT a : Int) (csOf a)) (goodL a (l.take i) (l.drop i)) := by
 induction d with
 | zero =>
  intro i hi hd
  refine Ev.step (f := fun k => _) (fun k => by rw [qp.l0]) (Ev.neg (by omega) (Ev.some_ ?_))
  rw [List.drop_eq_nil_of_le (by omega)]; rfl
 | succ d ih =>
  intro i hi hd
  have h : i < l.length := by omega
  have w : wrap64 ((i : Int) + 1) = ((i + 1 : Nat) : Int) := by unfold wrap64; omega
  have hs := boState_ev g l[i]
  have hn := ih (i + 1) (by omega) (by omega)
  rw [take_succ_drop h] at hn
  rw [List.drop_eq_getElem_cons h]
  refine Ev.step (f := fun k => _) (fun k => by rw [qp.l0]) (Ev.pos (by omega) (Ev.pos (by omega) (Ev.pos (by omega) ?_)))
  rw [rdXS l i h, w]
  refine Ev.bind hs ?_
  unfold goodL
  cases hb : stateB a l[i] with
  | false => exact Ev.neg (by decide) (Ev.now _)
  | true =>
   obtain ⟨r, h1, h2⟩ := myAt_ev (l.take i) (by rw [List.length_take]; omega) l[i].f0 l[i].f1
   refine Ev.pos rfl (Ev.pos (by omega) ?_)
   rw [Int.toNat_natCast]
   refine Ev.bind h1 ?_
   rw [← h2]
   by_cases hq : r ≥ 0
   ·rw [decide_eq_true hq]
    exact Ev.pos hq (Ev.now _)
   ·rw [decide_eq_false hq]
    refine Ev.neg hq ?_
    simpa using hn
theorem myGood_ev {a : ByteArray} (g : Gnd a) (l : List XS) (hl : l.length ≤ 2000000) : Ev (fun k => qp.f k (wideT a : Int) (highT a : Int) (csOf a) l) (goodB a l) := by
 unfold qp.f goodB in3
 refine Ev.bindc (qbD _ _ _) ?_
 cases hb : (decide ((1 : Int) ≤ (l.length : Int)) && decide ((l.length : Int) ≤ 3)) with
 | false => exact Ev.neg (by decide) (Ev.now _)
 | true =>
  refine Ev.pos rfl ?_
  rw [Bool.true_and]
  exact myGood_loop g l hl l.length 0 (by omega) (by omega)
def askD (a : ByteArray) (l : List XS) : Bool := boardB a && goodB a l
theorem askD_board {a : ByteArray} {l : List XS} (h : askD a l = true) : boardB a = true := by
 unfold askD at h
 rw [Bool.and_eq_true] at h
 exact h.1
theorem askD_len {a : ByteArray} {l : List XS} (h : askD a l = true) : 1 ≤ l.length ∧ l.length ≤ 3 := by
 unfold askD goodB in3 at h
 simp only [Bool.and_eq_true, decide_eq_true_eq] at h
 omega
theorem goodL_state {a : ByteArray} : ∀ {e l : List XS}, goodL a e l = true → ∀ s ∈ l, stateB a s = true
 | _, [], _, s, hs => by cases hs
 | e, t :: r, h, s, hs => by
  unfold goodL at h
  simp only [Bool.and_eq_true] at h
  rcases List.mem_cons.1 hs with rfl | hs
  ·exact h.1.1
  ·exact goodL_state h.2 s hs
theorem askD_state {a : ByteArray} {l : List XS} (h : askD a l = true) : ∀ s ∈ l, stateB a s = true := by
 unfold askD goodB at h
 simp only [Bool.and_eq_true] at h
 exact goodL_state h.2.2
theorem together_ev (a : ByteArray) (l : List XS) (ha : a.size ≤ 1048576) (hl : l.length ≤ 2000000) : ∃ rows : List ByteArray, Ev (fun k => qGB.f k a l) (rows, askD a l) ∧ (askD a l = true → rows = rowsT a) := by
 obtain ⟨rows, h1, hr⟩ := board_ev a ha
 unfold qGB.f askD
 cases hg : boardB a with
 | false =>
  rw [hg] at h1
  exact ⟨rows, Ev.bind h1 (Ev.neg (by simp) (Ev.now _)), fun h => by cases h⟩
 | true =>
  have g := qLE hg
  have e := hr hg
  subst e
  rw [hg] at h1
  exact ⟨rowsT a, Ev.bind h1 (Ev.pos rfl (Ev.bind (areDice_ev g l hl) (Ev.now _))), fun _ => rfl⟩
theorem myAsked_ev (a : ByteArray) (l : List XS) (hl : l.length ≤ 2000000) : ∃ (w h : Int) (cs : List Int), Ev (fun k => qCA.f k a l) (w, h, cs, askD a l) ∧ (askD a l = true → w = (wideT a : Int) ∧ h = (highT a : Int) ∧ cs = csOf a) := by
 have h2 := boRead_ev a
 unfold qCA.f askD
 cases hg : boardB a with
 | false =>
  rw [hg, if_neg (by decide)] at h2
  exact ⟨_, _, _, Ev.bind h2 (Ev.neg (by simp [badG]) (Ev.now _)), fun h => by cases h⟩
 | true =>
  have g := qLE hg
  rw [hg, if_pos rfl] at h2
  exact ⟨_, _, _, Ev.bind h2 (Ev.pos rfl (Ev.bind (myGood_ev g l hl) (Ev.now _))), fun _ => ⟨rfl, rfl, rfl⟩⟩
end Go.Proofs.YthhiiceligjleaaDoor
namespace Go.Proofs.YthhiiceligjleaaDoor.P
open Go.RowKit Go.Proofs.YthhiiceligjleaaDoorW.PrintWords Go.Proofs.YthhiiceligjleaaDoorW.PrintLast Go.Proofs.YthhiiceligjleaaDoorW.PrintMore
attribute [local go_sem] qn ql qw qv qc qb qm qk
set_option linter.unusedVariables false
set_option linter.unusedSimpArgs false
def qxB.f (a0 : Int) (a1 : Int) (a2 : Int) : Option (Int × Int) := if a2 = 110 then (some (a0, wrap64 (a1 - 1))) else (if a2 = 101 then (some (wrap64 (a0 + 1), a1)) else (if a2 = 115 then (some (a0, wrap64 (a1 + 1))) else (some (wrap64 (a0 - 1), a1))))
set_option maxHeartbeats 8000000 in
set_option maxRecDepth 100000 in
theorem qxB.calls (a0 : Int) (a1 : Int) (a2 : Int) (r1 : Int) (r2 : Int) (w : World) (h : qxB.f a0 a1 a2 = some (r1, r2)) :
  Calls Tryd.prog 53 #[.int .i64 a0, .int .i64 a1, .int .u8 a2] w fun e w' => e = .returned (.tuple #[.int .i64 r1, .int .i64 r2]) ∧ Drawn0 w w' := by
 have H : (if a2 = 110 then (some (a0, wrap64 (a1 - 1))) else (if a2 = 101 then (some (wrap64 (a0 + 1), a1)) else (if a2 = 115 then (some (a0, wrap64 (a1 + 1))) else (some (wrap64 (a0 - 1), a1))))) = some (r1, r2) := h
 clear h
 by_cases c4 : a2 = 110
 ·rw [if_pos c4] at H
  have c4b0 := beq_iff_eq.mpr c4
  have c4b1 := bne_eq_false_iff_eq.mpr c4
  clear c4
  simp only [Option.some.injEq, Prod.mk.injEq] at H
  obtain ⟨rfl, rfl⟩ := H
  go_enter Tryd.func53, Tryd.ntmps53
  go_wp2
  go_ret2
  exact ⟨by first | rfl | (simp; done) | (simp [*]; done), dR⟩
 ·rw [if_neg c4] at H
  have c4b0 := beq_eq_false_iff_ne.mpr c4
  have c4b1 := bne_iff_ne.mpr c4
  by_cases c5 : a2 = 101
  ·rw [if_pos c5] at H
   have c5b0 := beq_iff_eq.mpr c5
   have c5b1 := bne_eq_false_iff_eq.mpr c5
   clear c5
   simp only [Option.some.injEq, Prod.mk.injEq] at H
   obtain ⟨rfl, rfl⟩ := H
   go_enter Tryd.func53, Tryd.ntmps53
   go_wp2
   go_ret2
   exact ⟨by first | rfl | (simp; done) | (simp [*]; done), dR⟩
  ·rw [if_neg c5] at H
   have c5b0 := beq_eq_false_iff_ne.mpr c5
   have c5b1 := bne_iff_ne.mpr c5
   by_cases c6 : a2 = 115
   ·rw [if_pos c6] at H
    have c6b0 := beq_iff_eq.mpr c6
    have c6b1 := bne_eq_false_iff_eq.mpr c6
    clear c6
    simp only [Option.some.injEq, Prod.mk.injEq] at H
    obtain ⟨rfl, rfl⟩ := H
    go_enter Tryd.func53, Tryd.ntmps53
    go_wp2
    go_ret2
    exact ⟨by first | rfl | (simp; done) | (simp [*]; done), dR⟩
   ·rw [if_neg c6] at H
    have c6b0 := beq_eq_false_iff_ne.mpr c6
    have c6b1 := bne_iff_ne.mpr c6
    simp only [Option.some.injEq, Prod.mk.injEq] at H
    obtain ⟨rfl, rfl⟩ := H
    go_enter Tryd.func53, Tryd.ntmps53
    go_wp2
    go_ret2
    exact ⟨by first | rfl | (simp; done) | (simp [*]; done), dR⟩
def qHB.f (a0_0 : Int) (a0_1 : Int) (a0_2 : Int) (a0_3 : Int) (a0_4 : Int) (a0_5 : Int) (a1 : Int) : Option (Int × Int × Int × Int × Int × Int) := if a1 = 110 then (some (a0_3, a0_0, a0_2, a0_5, a0_4, a0_1)) else (if a1 = 101 then (some (a0_4, a0_1, a0_0, a0_3, a0_5, a0_2)) else (if a1 = 115 then (some (a0_1, a0_5, a0_2, a0_0, a0_4, a0_3)) else (some (a0_2, a0_1, a0_5, a0_3, a0_0, a0_4))))
set_option maxHeartbeats 8000000 in
set_option maxRecDepth 100000 in
theorem qHB.calls (a0_0 : Int) (a0_1 : Int) (a0_2 : Int) (a0_3 : Int) (a0_4 : Int) (a0_5 : Int) (a1 : Int) (r1 : Int) (r2 : Int) (r3 : Int) (r4 : Int) (r5 : Int) (r6 : Int) (w : World) (h : qHB.f a0_0 a0_1 a0_2 a0_3 a0_4 a0_5 a1 = some (r1, r2, r3, r4, r5, r6)) :
  Calls Tryd.prog 54 #[.agg #[.int .i64 a0_0, .int .i64 a0_1, .int .i64 a0_2, .int .i64 a0_3, .int .i64 a0_4, .int .i64 a0_5], .int .u8 a1] w fun e w' => e = .returned (.agg #[.int .i64 r1, .int .i64 r2, .int .i64 r3, .int .i64 r4, .int .i64 r5, .int .i64 r6]) ∧ Below w.heap.size w w' := by
 have hu39 := Tryd.underlying39
 have HB := aM (Below.refl w.heap.size w)
 have H : (if a1 = 110 then (some (a0_3, a0_0, a0_2, a0_5, a0_4, a0_1)) else (if a1 = 101 then (some (a0_4, a0_1, a0_0, a0_3, a0_5, a0_2)) else (if a1 = 115 then (some (a0_1, a0_5, a0_2, a0_0, a0_4, a0_3)) else (some (a0_2, a0_1, a0_5, a0_3, a0_0, a0_4))))) = some (r1, r2, r3, r4, r5, r6) := h
 clear h
 by_cases c3 : a1 = 110
 ·rw [if_pos c3] at H
  have c3b0 := beq_iff_eq.mpr c3
  have c3b1 := bne_eq_false_iff_eq.mpr c3
  clear c3
  simp only [Option.some.injEq, Prod.mk.injEq] at H
  obtain ⟨rfl, rfl, rfl, rfl, rfl, rfl⟩ := H
  go_enter Tryd.func54, Tryd.ntmps54
  go_wp2_with (first | ((with_reducible refine qK (N := 2) rfl ?_); refine qH ?hg (N := 2) ?hd (cs := #[.int .i64 a0_0, .int .i64 a0_1, .int .i64 a0_2, .int .i64 a0_3, .int .i64 a0_4, .int .i64 a0_5]) (t := 39) ?hr ?_; (case hd => rfl); (case hg => rfl); (case hr => exact gS); intro gb426 hg w4 hbox hb; have BK426 := aM (hbox); have GW426 := aM ((gg hg)); have GE426 := aM ((gg hg)); replace HB := aM (qB bl hb); clear hb hbox hg) | ((with_reducible refine qK (N := 4) rfl ?_); refine qH ?hg (N := 4) ?hd (cs := #[.int .i64 0, .int .i64 0, .int .i64 0, .int .i64 0, .int .i64 0, .int .i64 0]) (t := 39) ?hr ?_; (case hd => rfl); (case hg => rfl); (case hr => exact gS); intro gb427 hg w5 hbox hb; have BK427 := aM (hbox); have GW427 := aM ((gg hg)); have GE427 := aM ((gg hg)); have NB426_427 := aM ((nl BK426 hg)); have NB427_426 := aM ((nr BK426 hg)); replace BK426 := aM (bb BK426 hb); replace HB := aM (qB bl hb); clear hb hbox hg; have hnb6 := NB426_427.out; have hnc6 := NB427_426.out; (refine cb6 BK426 ?_; intro _ _ _ _ _ _); (refine cz6 BK426 ?_; intro _ _ _ _ _ _); (refine cb6 BK427 ?_; intro _ _ _ _ _ _); (refine cz6 BK427 ?_; intro _ _ _ _ _ _)))
  refine bodyPost_ret (results_cell_row rfl _ _ gb427 39 #[.int .i64 a0_3, .int .i64 a0_0, .int .i64 a0_2, .int .i64 a0_5, .int .i64 a0_4, .int .i64 a0_1] (0, 0) _ rfl (by (with_reducible repeat (first | refine qG ?_ _ | refine qE ?_ | refine qF ?_ _)); exact bP6 BK427) Tryd.underlying39 rfl (by kernel_rfl)) rfl ?_
  exact ⟨sR, bl⟩
 ·rw [if_neg c3] at H
  have c3b0 := beq_eq_false_iff_ne.mpr c3
  have c3b1 := bne_iff_ne.mpr c3
  by_cases c9 : a1 = 101
  ·rw [if_pos c9] at H
   have c9b0 := beq_iff_eq.mpr c9
   have c9b1 := bne_eq_false_iff_eq.mpr c9
   clear c9
   simp only [Option.some.injEq, Prod.mk.injEq] at H
   obtain ⟨rfl, rfl, rfl, rfl, rfl, rfl⟩ := H
   go_enter Tryd.func54, Tryd.ntmps54
   go_wp2_with (first | ((with_reducible refine qK (N := 2) rfl ?_); refine qH ?hg (N := 2) ?hd (cs := #[.int .i64 a0_0, .int .i64 a0_1, .int .i64 a0_2, .int .i64 a0_3, .int .i64 a0_4, .int .i64 a0_5]) (t := 39) ?hr ?_; (case hd => rfl); (case hg => rfl); (case hr => exact gS); intro gb426 hg w10 hbox hb; have BK426 := aM (hbox); have GW426 := aM ((gg hg)); have GE426 := aM ((gg hg)); replace HB := aM (qB bl hb); clear hb hbox hg) | ((with_reducible refine qK (N := 4) rfl ?_); refine qH ?hg (N := 4) ?hd (cs := #[.int .i64 0, .int .i64 0, .int .i64 0, .int .i64 0, .int .i64 0, .int .i64 0]) (t := 39) ?hr ?_; (case hd => rfl); (case hg => rfl); (case hr => exact gS); intro gb427 hg w11 hbox hb; have BK427 := aM (hbox); have GW427 := aM ((gg hg)); have GE427 := aM ((gg hg)); have NB426_427 := aM ((nl BK426 hg)); have NB427_426 := aM ((nr BK426 hg)); replace BK426 := aM (bb BK426 hb); replace HB := aM (qB bl hb); clear hb hbox hg; have hnb12 := NB426_427.out; have hnc12 := NB427_426.out; (refine cb6 BK426 ?_; intro _ _ _ _ _ _); (refine cz6 BK426 ?_; intro _ _ _ _ _ _); (refine cb6 BK427 ?_; intro _ _ _ _ _ _); (refine cz6 BK427 ?_; intro _ _ _ _ _ _)))
   refine bodyPost_ret (results_cell_row rfl _ _ gb427 39 #[.int .i64 a0_4, .int .i64 a0_1, .int .i64 a0_0, .int .i64 a0_3, .int .i64 a0_5, .int .i64 a0_2] (0, 0) _ rfl (by (with_reducible repeat (first | refine qG ?_ _ | refine qE ?_ | refine qF ?_ _)); exact bP6 BK427) Tryd.underlying39 rfl (by kernel_rfl)) rfl ?_
   exact ⟨sR, bl⟩
  ·rw [if_neg c9] at H
   have c9b0 := beq_eq_false_iff_ne.mpr c9
   have c9b1 := bne_iff_ne.mpr c9
   by_cases c15 : a1 = 115
   ·rw [if_pos c15] at H
    have c15b0 := beq_iff_eq.mpr c15
    have c15b1 := bne_eq_false_iff_eq.mpr c15
    clear c15
    simp only [Option.some.injEq, Prod.mk.injEq] at H
    obtain ⟨rfl, rfl, rfl, rfl, rfl, rfl⟩ := H
    go_enter Tryd.func54, Tryd.ntmps54
    go_wp2_with (first | ((with_reducible refine qK (N := 2) rfl ?_); refine qH ?hg (N := 2) ?hd (cs := #[.int .i64 a0_0, .int .i64 a0_1, .int .i64 a0_2, .int .i64 a0_3, .int .i64 a0_4, .int .i64 a0_5]) (t := 39) ?hr ?_; (case hd => rfl); (case hg => rfl); (case hr => exact gS); intro gb426 hg w16 hbox hb; have BK426 := aM (hbox); have GW426 := aM ((gg hg)); have GE426 := aM ((gg hg)); replace HB := aM (qB bl hb); clear hb hbox hg) | ((with_reducible refine qK (N := 4) rfl ?_); refine qH ?hg (N := 4) ?hd (cs := #[.int .i64 0, .int .i64 0, .int .i64 0, .int .i64 0, .int .i64 0, .int .i64 0]) (t := 39) ?hr ?_; (case hd => rfl); (case hg => rfl); (case hr => exact gS); intro gb427 hg w17 hbox hb; have BK427 := aM (hbox); have GW427 := aM ((gg hg)); have GE427 := aM ((gg hg)); have NB426_427 := aM ((nl BK426 hg)); have NB427_426 := aM ((nr BK426 hg)); replace BK426 := aM (bb BK426 hb); replace HB := aM (qB bl hb); clear hb hbox hg; have hnb18 := NB426_427.out; have hnc18 := NB427_426.out; (refine cb6 BK426 ?_; intro _ _ _ _ _ _); (refine cz6 BK426 ?_; intro _ _ _ _ _ _); (refine cb6 BK427 ?_; intro _ _ _ _ _ _); (refine cz6 BK427 ?_; intro _ _ _ _ _ _)))
    refine bodyPost_ret (results_cell_row rfl _ _ gb427 39 #[.int .i64 a0_1, .int .i64 a0_5, .int .i64 a0_2, .int .i64 a0_0, .int .i64 a0_4, .int .i64 a0_3] (0, 0) _ rfl (by (with_reducible repeat (first | refine qG ?_ _ | refine qE ?_ | refine qF ?_ _)); exact bP6 BK427) Tryd.underlying39 rfl (by kernel_rfl)) rfl ?_
    exact ⟨sR, bl⟩
   ·rw [if_neg c15] at H
    have c15b0 := beq_eq_false_iff_ne.mpr c15
    have c15b1 := bne_iff_ne.mpr c15
    simp only [Option.some.injEq, Prod.mk.injEq] at H
    obtain ⟨rfl, rfl, rfl, rfl, rfl, rfl⟩ := H
    go_enter Tryd.func54, Tryd.ntmps54
    go_wp2_with (first | ((with_reducible refine qK (N := 2) rfl ?_); refine qH ?hg (N := 2) ?hd (cs := #[.int .i64 a0_0, .int .i64 a0_1, .int .i64 a0_2, .int .i64 a0_3, .int .i64 a0_4, .int .i64 a0_5]) (t := 39) ?hr ?_; (case hd => rfl); (case hg => rfl); (case hr => exact gS); intro gb426 hg w21 hbox hb; have BK426 := aM (hbox); have GW426 := aM ((gg hg)); have GE426 := aM ((gg hg)); replace HB := aM (qB bl hb); clear hb hbox hg) | ((with_reducible refine qK (N := 4) rfl ?_); refine qH ?hg (N := 4) ?hd (cs := #[.int .i64 0, .int .i64 0, .int .i64 0, .int .i64 0, .int .i64 0, .int .i64 0]) (t := 39) ?hr ?_; (case hd => rfl); (case hg => rfl); (case hr => exact gS); intro gb427 hg w22 hbox hb; have BK427 := aM (hbox); have GW427 := aM ((gg hg)); have GE427 := aM ((gg hg)); have NB426_427 := aM ((nl BK426 hg)); have NB427_426 := aM ((nr BK426 hg)); replace BK426 := aM (bb BK426 hb); replace HB := aM (qB bl hb); clear hb hbox hg; have hnb23 := NB426_427.out; have hnc23 := NB427_426.out; (refine cb6 BK426 ?_; intro _ _ _ _ _ _); (refine cz6 BK426 ?_; intro _ _ _ _ _ _); (refine cb6 BK427 ?_; intro _ _ _ _ _ _); (refine cz6 BK427 ?_; intro _ _ _ _ _ _)))
    refine bodyPost_ret (results_cell_row rfl _ _ gb427 39 #[.int .i64 a0_2, .int .i64 a0_1, .int .i64 a0_5, .int .i64 a0_3, .int .i64 a0_0, .int .i64 a0_4] (0, 0) _ rfl (by (with_reducible repeat (first | refine qG ?_ _ | refine qE ?_ | refine qF ?_ _)); exact bP6 BK427) Tryd.underlying39 rfl (by kernel_rfl)) rfl ?_
    exact ⟨sR, bl⟩
def qiA.f (l0 : List ByteArray) (a1_0 : Int) (a1_1 : Int) (a1_2 : Int) (a1_3 : Int) (a1_4 : Int) (a1_5 : Int) (a1_6 : Int) (a1_7 : Int) (a2 : Int) : Option (Int × Int × Int × Int × Int × Int × Int × Int × Bool) := (qxB.f a1_0 a1_1 a2).bind fun bt430 => ((qHB.f a1_2 a1_3 a1_4 a1_5 a1_6 a1_7 a2).bind fun bt432 => ((qVA.f l0 bt430.1 bt430.2).bind fun t438 => (some (bt430.1, bt430.2, bt432.1, bt432.2.1, bt432.2.2.1, bt432.2.2.2.1, bt432.2.2.2.2.1, bt432.2.2.2.2.2, (t438 == 46)))))
set_option maxHeartbeats 8000000 in
set_option maxRecDepth 100000 in
theorem qiA.calls (A0 : Option Addr) (c0 : Nat) (l0 : List ByteArray) (a1_0 : Int) (a1_1 : Int) (a1_2 : Int) (a1_3 : Int) (a1_4 : Int) (a1_5 : Int) (a1_6 : Int) (a1_7 : Int) (a2 : Int) (r1 : Int) (r2 : Int) (r3 : Int) (r4 : Int) (r5 : Int) (r6 : Int) (r7 : Int) (r8 : Int) (r9 : Bool) (w : World) (hr0 : Kd.C Kd.string w A0 l0.length l0) (hc0 : l0.length ≤ c0) (h : qiA.f l0 a1_0 a1_1 a1_2 a1_3 a1_4 a1_5 a1_6 a1_7 a2 = some (r1, r2, r3, r4, r5, r6, r7, r8, r9)) :
  Calls Tryd.prog 38 #[.slice A0 l0.length c0, .agg #[.int .i64 a1_0, .int .i64 a1_1, .int .i64 a1_2, .int .i64 a1_3, .int .i64 a1_4, .int .i64 a1_5, .int .i64 a1_6, .int .i64 a1_7], .int .u8 a2] w fun e w' => e = .returned (.tuple #[.agg #[.int .i64 r1, .int .i64 r2, .int .i64 r3, .int .i64 r4, .int .i64 r5, .int .i64 r6, .int .i64 r7, .int .i64 r8], .bool r9]) ∧ Below w.heap.size w w' := by
 have hu41 := Tryd.underlying41
 have hu39 := Tryd.underlying39
 have HR0 := aM hr0
 have HC0 := aM hc0
 clear hr0 hc0
 have HB := aM (Below.refl w.heap.size w)
 have H : ((qxB.f a1_0 a1_1 a2).bind fun bt430 => ((qHB.f a1_2 a1_3 a1_4 a1_5 a1_6 a1_7 a2).bind fun bt432 => ((qVA.f l0 bt430.1 bt430.2).bind fun t438 => (some (bt430.1, bt430.2, bt432.1, bt432.2.1, bt432.2.2.1, bt432.2.2.2.1, bt432.2.2.2.2.1, bt432.2.2.2.2.2, (t438 == 46)))))) = some (r1, r2, r3, r4, r5, r6, r7, r8, r9) := h
 clear h
 replace H := bO H
 obtain ⟨⟨t430, t431⟩, A4, H⟩ := H
 dsimp only at H A4
 replace H := bO H
 obtain ⟨⟨t432, t433, t434, t435, t436, t437⟩, A5, H⟩ := H
 dsimp only at H A5
 replace H := bO H
 obtain ⟨t438, A6, H⟩ := H
 simp only [Option.some.injEq, Prod.mk.injEq] at H
 obtain ⟨rfl, rfl, rfl, rfl, rfl, rfl, rfl, rfl, rfl⟩ := H
 go_enter Tryd.func38, Tryd.ntmps38
 go_wp2_with (first | ((with_reducible refine qK (N := 4) rfl ?_); refine qH ?hg (N := 4) ?hd (cs := #[.int .i64 a1_0, .int .i64 a1_1, .int .i64 a1_2, .int .i64 a1_3, .int .i64 a1_4, .int .i64 a1_5, .int .i64 a1_6, .int .i64 a1_7]) (t := 41) ?hr ?_; (case hd => rfl); (case hg => rfl); (case hr => exact gS); intro gb428 hg w7 hbox hb; have BK428 := aM (hbox); have GW428 := aM ((gg hg)); have GE428 := aM ((gg hg)); replace HB := aM (qB bl hb); clear hb hbox hg) | ((with_reducible refine qK (N := 6) rfl ?_); refine qH ?hg (N := 6) ?hd (cs := #[.int .i64 0, .int .i64 0, .int .i64 0, .int .i64 0, .int .i64 0, .int .i64 0, .int .i64 0, .int .i64 0]) (t := 41) ?hr ?_; (case hd => rfl); (case hg => rfl); (case hr => exact gS); intro gb429 hg w8 hbox hb; have BK429 := aM (hbox); have GW429 := aM ((gg hg)); have GE429 := aM ((gg hg)); have NB428_429 := aM ((nl BK428 hg)); have NB429_428 := aM ((nr BK428 hg)); replace BK428 := aM (bb BK428 hb); replace HB := aM (qB bl hb); clear hb hbox hg; have hnb9 := NB428_429.out; have hnc9 := NB429_428.out; (refine cb8 BK428 ?_; intro _ _ _ _ _ _ _ _); (refine cz8 BK428 ?_; intro _ _ _ _ _ _ _ _)) | ((with_reducible refine qJ (f := 53) rfl ?_); refine qr (some 16) rfl rfl Tryd.func53 (by kernel_rfl) rfl #[.int .i64 a1_0, .int .i64 a1_1, .int .u8 a2] rfl gA ?_; (with_reducible refine (qxB.calls a1_0 a1_1 a2 t430 t431 _ A4.out).mono ?_); rintro e w' ⟨rfl, ⟨nd, rfl⟩⟩; refine ⟨_, rfl, ?_⟩; (try (rw [qjC w8]; generalize hq_ : World.drewN w8 _ = w8; have n0_ : Aside0 (w8.heap[gb428]? = some (.cells #[.int .i64 a1_0, .int .i64 a1_1, .int .i64 a1_2, .int .i64 a1_3, .int .i64 a1_4, .int .i64 a1_5, .int .i64 a1_6, .int .i64 a1_7] 41 (0, 0))) := ⟨by rw [← hq_]; exact (rB BK428)⟩; have n1_ : Aside0 (w8.heap[gb429]? = some (.cells #[.int .i64 0, .int .i64 0, .int .i64 0, .int .i64 0, .int .i64 0, .int .i64 0, .int .i64 0, .int .i64 0] 41 (0, 0))) := ⟨by rw [← hq_]; exact (rB BK429)⟩; have n2_ : Aside0 (Below w.heap.size w w8) := ⟨by rw [← hq_]; exact bl⟩; clear BK428 BK429 HB hq_; have BK428 := n0_; have BK429 := n1_; have HB := n2_; clear n0_ n1_ n2_)); (refine cb8 BK428 ?_; intro _ _ _ _ _ _ _ _); (refine cz8 BK428 ?_; intro _ _ _ _ _ _ _ _)) | ((with_reducible refine qJ (f := 54) rfl ?_); refine qr (some 24) rfl rfl Tryd.func54 (by kernel_rfl) rfl #[.agg #[.int .i64 a1_2, .int .i64 a1_3, .int .i64 a1_4, .int .i64 a1_5, .int .i64 a1_6, .int .i64 a1_7], .int .u8 a2] rfl gA ?_; (with_reducible refine (qHB.calls a1_2 a1_3 a1_4 a1_5 a1_6 a1_7 a2 t432 t433 t434 t435 t436 t437 _ A5.out).mono ?_); rintro e w12 ⟨rfl, hb⟩; refine ⟨_, rfl, ?_⟩; replace BK428 := aM (bb BK428 hb); replace BK429 := aM (bb BK429 hb); replace HB := aM (qB bl hb); (try clear hb); (try clear hb2); (try clear hk); (try clear hi)) | ((with_reducible refine qJ (f := 55) rfl ?_); refine qr (some 29) rfl rfl Tryd.func55 (by kernel_rfl) rfl #[.slice A0 l0.length c0, .int .i64 t430, .int .i64 t431] rfl gA ?_; (with_reducible refine (qVA.calls _ _ l0 t430 t431 t438 _ ?side1 ?side2 A6.out).mono ?_); (case side1 => repeat (first | exact (Kd.qg HR0.out HB.out) | (with_reducible refine Kd.qW ?_ _) | (with_reducible refine Kd.qV ?_ _) | (with_reducible refine Kd.qe ?_))); (case side2 => exact HC0.out); rintro e w' ⟨rfl, ⟨nd, rfl⟩⟩; refine ⟨_, rfl, ?_⟩; (try (rw [qjC w12]; generalize hq_ : World.drewN w12 _ = w12; have n0_ : Aside0 (w12.heap[gb428]? = some (.cells #[.int .i64 a1_0, .int .i64 a1_1, .int .i64 a1_2, .int .i64 a1_3, .int .i64 a1_4, .int .i64 a1_5, .int .i64 a1_6, .int .i64 a1_7] 41 (0, 0))) := ⟨by rw [← hq_]; exact (rB BK428)⟩; have n1_ : Aside0 (w12.heap[gb429]? = some (.cells #[.int .i64 0, .int .i64 0, .int .i64 0, .int .i64 0, .int .i64 0, .int .i64 0, .int .i64 0, .int .i64 0] 41 (0, 0))) := ⟨by rw [← hq_]; exact (rB BK429)⟩; have n2_ : Aside0 (Below w.heap.size w w12) := ⟨by rw [← hq_]; exact bl⟩; clear BK428 BK429 HB hq_; have BK428 := n0_; have BK429 := n1_; have HB := n2_; clear n0_ n1_ n2_)); (refine cb8 BK429 ?_; intro _ _ _ _ _ _ _ _); (refine cz8 BK429 ?_; intro _ _ _ _ _ _ _ _)))
 refine bodyPost_ret (qmA rfl _ _ gb429 41 #[.int .i64 t430, .int .i64 t431, .int .i64 t432, .int .i64 t433, .int .i64 t434, .int .i64 t435, .int .i64 t436, .int .i64 t437] (0, 0) _ rfl (by (with_reducible repeat (first | refine qG ?_ _ | refine qE ?_ | refine qF ?_ _)); exact bP8 BK429) Tryd.underlying41 rfl (by kernel_rfl)) rfl ?_
 exact ⟨sR, bl⟩
end Go.Proofs.YthhiiceligjleaaDoor.P
namespace Go.Proofs.YthhiiceligjleaaDoor
open Go.RowKit Go.Proofs.YthhiiceligjleaaDoor.P Go.Proofs.YthhiiceligjleaaDoorW.PrintWords Go.Proofs.YthhiiceligjleaaDoorW.PrintLast
set_option linter.unusedVariables false
set_option linter.unusedSimpArgs false
def qKD.f (l : List S41) (y0 y1 y2 y3 y4 y5 y6 y7 : Int) : Option Bool := some (l.any fun x => decide (x.f0 = y0) && decide (x.f1 = y1))
theorem at2_any_isAt (x : S41) (y0 y1 : Int) : qjA.f x.f0 x.f1 x.f2.f0 x.f2.f1 x.f2.f2 x.f2.f3 x.f2.f4 x.f2.f5 y0 y1 = some (decide (x.f0 = y0) && decide (x.f1 = y1)) := by
 unfold qjA.f
 by_cases h : x.f0 = y0
 ·rw [if_pos h, decide_eq_true h, Bool.true_and]; rfl
 ·rw [if_neg h, decide_eq_false h, Bool.false_and]
set_option maxHeartbeats 1000000 in
set_option maxRecDepth 100000 in
theorem at2_any_calls (x : S41) (b : Nat) (y0 y1 : Int) (w : World) (h0 : w.cell? ⟨b, 0, none⟩ = some (.int .i64 y0)) (h1 : w.cell? ⟨b, 1, none⟩ = some (.int .i64 y1)) :
  Calls Tryd.prog 40 (#[encState x] ++ #[.pointer (some ⟨b, 0, none⟩)]) w fun e w' => e = .returned (.bool (decide (x.f0 = y0) && decide (x.f1 = y1))) ∧ Below w.heap.size w w' := by
 have hu := Tryd.underlying41
 show Calls Tryd.prog 40 #[encState x, .pointer (some ⟨b, 0, none⟩)] w _
 unfold encState
 have g7 := World.block_lt_of_cell? w _ h0
 have HH := fun (W : World) => Lib.hid (qjA.calls x.f0 x.f1 x.f2.f0 x.f2.f1 x.f2.f2 x.f2.f3 x.f2.f4 x.f2.f5 y0 y1 _ W (at2_any_isAt x y0 y1))
 go_enter Tryd.func40, Tryd.ntmps40
 go_wp2_with (first | (go_at_call 41; refine (HH _).out.mono ?_; rintro e w1 ⟨rfl, hb⟩; have HB := Lib.hid (qtA (qFA (Below.refl w.heap.size w) _) (qL (qFA (Below.refl w.heap.size w) _)) hb); clear hb))
 go_ret
 exact ⟨rfl, HB.out⟩
theorem qKD.calls (A0 : Option Addr) (c0 : Nat) (l0 : List S41) (b : Nat) (y0 y1 y2 y3 y4 y5 y6 y7 : Int) (r : Bool) (w : World) (hr0 : Kd.C k41 w A0 l0.length l0) (hc0 : l0.length ≤ c0) (h0 : w.cell? ⟨b, 0, none⟩ = some (.int .i64 y0)) (h1 : w.cell? ⟨b, 1, none⟩ = some (.int .i64 y1)) (_h2 : w.cell? ⟨b, 2, none⟩ = some (.int .i64 y2)) (_h3 : w.cell? ⟨b, 3, none⟩ = some (.int .i64 y3)) (_h4 : w.cell? ⟨b, 4, none⟩ = some (.int .i64 y4)) (_h5 : w.cell? ⟨b, 5, none⟩ = some (.int .i64 y5)) (_h6 : w.cell? ⟨b, 6, none⟩ = some (.int .i64 y6)) (_h7 : w.cell? ⟨b, 7, none⟩ = some (.int .i64 y7))
  (h : qKD.f l0 y0 y1 y2 y3 y4 y5 y6 y7 = some r) :
  Calls Tryd.prog 39 #[.slice A0 l0.length c0, .func (.func 40) #[] #[.pointer (some ⟨b, 0, none⟩)]] w fun e w' => e = .returned (.bool r) ∧ Below w.heap.size w w' := by
 obtain rfl := Option.some.inj h
 have eg := Go.Proofs.enters_of Tryd.func40 (by kernel_rfl) rfl
 exact containsFunc_State (fun x => decide (x.f0 = y0) && decide (x.f1 = y1)) 40 _ eg A0 c0 l0 w hr0 fun W x hx hb => at2_any_calls x b y0 y1 W (qFB hb h0) (qFB hb h1)
end Go.Proofs.YthhiiceligjleaaDoor
namespace Go.Proofs.YthhiiceligjleaaDoor
open Go.RowKit Go.Proofs.YthhiiceligjleaaDoor.P Go.Proofs.YthhiiceligjleaaDoorW.PrintWords Go.Proofs.YthhiiceligjleaaDoorW.PrintLast Go.Proofs.YthhiiceligjleaaDoorW.PrintMore
set_option linter.unusedVariables false
set_option linter.unusedSimpArgs false
def qcB.f (l : List S41) : Option (List S41) := if l.length < 2199023255552 then some l else none
set_option maxHeartbeats 1000000 in
set_option maxRecDepth 100000 in
theorem qcB.calls (A0 : Option Addr) (c0 : Nat) (l0 : List S41) (r : List S41) (w : World) (hr0 : Kd.C k41 w A0 l0.length l0) (hc0 : l0.length ≤ c0) (h : qcB.f l0 = some r) :
  Calls Tryd.prog 42 #[.slice A0 l0.length c0] w fun e w' => ∃ v0_ : Value, e = .returned v0_ ∧ Kd.R k41 41 w' w.heap.size (fun _ => True) v0_ r ∧ Below w.heap.size w w' := by
 unfold qcB.f at h
 split at h
 case isFalse => cases h
 rename_i hl
 obtain rfl := Option.some.inj h
 clear h
 have HR := aM hr0
 have HL := aM hl
 clear hl
 have HB := aM (Below.refl w.heap.size w)
 cases A0 with
 | none =>
  have hn : l0.length = 0 := by
   rcases Nat.eq_zero_or_pos l0.length with h | h
   ·exact h
   ·obtain ⟨ad, e, _⟩ := hr0.2.2 h
    cases e
  obtain rfl := List.length_eq_zero_iff.1 hn
  clear hr0 hc0
  have qT := fun (w : World) => Lib.run_eql_slice_nil w 26 41 none 0 c0 0 0 Tryd.underlying26
  go_enter Tryd.func42, Tryd.ntmps42
  go_wp2
  go_ret
  exact ⟨_, rfl, Kd.R_nil _ _ _ _ _, HB.out⟩
 | some ad =>
  clear hr0 hc0
  have qT := fun (w : World) => Lib.run_eql_slice_nil w 26 41 (some ad) l0.length c0 0 0 Tryd.underlying26
  go_enter Tryd.func42, Tryd.ntmps42
  go_wp2_with (first | ((with_reducible refine qK (N := 5) rfl ?_); refine Kd.R_lit k41 _ 41 ?hg (N := 5) ?hd (xs := ([] : List S41)) (inner := []) (ok := fun _ => True) (okp := fun _ => True) ?hr ?hp (fun _ hk => hk) trivial (Below.refl _ _) (Nat.le_refl _) (by simp) ?_; (case hd => rfl); (case hg => rfl); (case hr => exact gS); (case hp => exact (Reps.none _ _)); intro v1 w1 ho1 hb1 hg_ hnew_; clear hg_ hnew_; have HO := aM (Kd.qx ho1 (qL HB.out)); have HB1 := aM (qB HB.out hb1); clear hb1 ho1) | ((with_reducible refine qpA (b := .append) (xs := #[.tmp 5, .tmp 6]) rfl ?_); at_builtin; refine Kd.qtB k41 (w0 := w) w.heap.size rfl (.tmp 5) (.tmp 6) 26 41 (.agg #[(.int .i64 0), (.int .i64 0), (.int .i64 0), (.int .i64 0), (.int .i64 0), (.int .i64 0), (.int .i64 0), (.int .i64 0)]) 64 rfl Tryd.underlying26 info41 rfl (by decide) (by omega) v1 [] l0 _ _ _ (fun _ => True) (fun _ => False) rfl rfl ?aO ?aR (fun _ _ h => h) (fun _ h => h.elim) ?aF ?aB ?aS ?aL ?_; (case aR => exact Kd.qg HR.out HB1.out); (case aB => exact HB1.out); (case aF => exact fun _ _ => trivial); (case aO => exact HO.out); (case aS => exact qL HB1.out); (case aL => have := HL.out; simp only [List.length_nil]; omega); intro v2 w2 ho2 hb2 hg2 hat2; rw [List.nil_append] at ho2; have HO2 := aM ho2; have HB2 := aM hb2; clear ho2 hb2 hg2 hat2))
  go_ret
  exact ⟨_, rfl, HO2.out, HB2.out⟩
end Go.Proofs.YthhiiceligjleaaDoor
namespace Go.Proofs.YthhiiceligjleaaDoor.P
open Go.RowKit Go.Proofs.YthhiiceligjleaaDoorW.PrintWords Go.Proofs.YthhiiceligjleaaDoorW.PrintLast Go.Proofs.YthhiiceligjleaaDoorW.PrintMore
attribute [local go_sem] qn ql qw qv qc qb qm qk
set_option linter.unusedVariables false
set_option linter.unusedSimpArgs false
def qTA.f (l0 : List ByteArray) (l1 : List (S41)) (a2 : Int) (a3 : Int) : Option ((List (S41)) × Bool) := (qZA.f a2 0 (wrap64 ((l1.length : Int) - 1))).bind fun t439 => (if t439 = true then (if 0 ≤ a2 then (if a2 < (l1.length : Int) then ((qiA.f l0 ((qA l1 a2).f0) ((qA l1 a2).f1) ((qA l1 a2).f2.f0) ((qA l1 a2).f2.f1) ((qA l1 a2).f2.f2) ((qA l1 a2).f2.f3) ((qA l1 a2).f2.f4) ((qA l1 a2).f2.f5) a3).bind fun bt441 => (if bt441.2.2.2.2.2.2.2.2 = true then ((qKD.f l1 bt441.1 bt441.2.1 bt441.2.2.1 bt441.2.2.2.1 bt441.2.2.2.2.1 bt441.2.2.2.2.2.1 bt441.2.2.2.2.2.2.1 bt441.2.2.2.2.2.2.2.1).bind fun t451 => (if t451 = true then (some (([] : List (S41)), false)) else ((qcB.f l1).bind fun t452 => (if a2 < (t452.length : Int) then (some ((t452.set (a2 : Int).toNat (⟨bt441.1, bt441.2.1, (⟨bt441.2.2.1, bt441.2.2.2.1, bt441.2.2.2.2.1, bt441.2.2.2.2.2.1, bt441.2.2.2.2.2.2.1, bt441.2.2.2.2.2.2.2.1⟩ : S39)⟩ : S41)), true)) else (none))))) else (some (([] : List (S41)), false)))) else (none)) else (none)) else (some (([] : List (S41)), false)))
set_option maxHeartbeats 8000000 in
set_option maxRecDepth 100000 in
theorem qTA.calls (A0 : Option Addr) (c0 : Nat) (l0 : List ByteArray) (A1 : Option Addr) (c1 : Nat) (l1 : List (S41)) (a2 : Int) (a3 : Int) (r1 : List (S41)) (r2 : Bool) (w : World) (hr0 : Kd.C Kd.string w A0 l0.length l0) (hc0 : l0.length ≤ c0) (hr1 : Kd.C k41 w A1 l1.length l1) (hc1 : l1.length ≤ c1) (h : qTA.f l0 l1 a2 a3 = some (r1, r2)) :
  Calls Tryd.prog 24 #[.slice A0 l0.length c0, .slice A1 l1.length c1, .int .i64 a2, .int .u8 a3] w fun e w' => ∃ v0_ : Value, e = .returned (.tuple #[v0_, .bool r2]) ∧ Kd.R k41 41 w' w.heap.size (fun _ => True) v0_ r1 ∧ Below w.heap.size w w' := by
 have hu41 := Tryd.underlying41
 have HR0 := aM hr0
 have HC0 := aM hc0
 clear hr0 hc0
 have HR1 := aM hr1
 have HC1 := aM hc1
 clear hr1 hc1
 have HB := aM (Below.refl w.heap.size w)
 have H : ((qZA.f a2 0 (wrap64 ((l1.length : Int) - 1))).bind fun t439 => (if t439 = true then (if 0 ≤ a2 then (if a2 < (l1.length : Int) then ((qiA.f l0 ((qA l1 a2).f0) ((qA l1 a2).f1) ((qA l1 a2).f2.f0) ((qA l1 a2).f2.f1) ((qA l1 a2).f2.f2) ((qA l1 a2).f2.f3) ((qA l1 a2).f2.f4) ((qA l1 a2).f2.f5) a3).bind fun bt441 => (if bt441.2.2.2.2.2.2.2.2 = true then ((qKD.f l1 bt441.1 bt441.2.1 bt441.2.2.1 bt441.2.2.2.1 bt441.2.2.2.2.1 bt441.2.2.2.2.2.1 bt441.2.2.2.2.2.2.1 bt441.2.2.2.2.2.2.2.1).bind fun t451 => (if t451 = true then (some (([] : List (S41)), false)) else ((qcB.f l1).bind fun t452 => (if a2 < (t452.length : Int) then (some ((t452.set (a2 : Int).toNat (⟨bt441.1, bt441.2.1, (⟨bt441.2.2.1, bt441.2.2.2.1, bt441.2.2.2.2.1, bt441.2.2.2.2.2.1, bt441.2.2.2.2.2.2.1, bt441.2.2.2.2.2.2.2.1⟩ : S39)⟩ : S41)), true)) else (none))))) else (some (([] : List (S41)), false)))) else (none)) else (none)) else (some (([] : List (S41)), false)))) = some (r1, r2) := h
 clear h
 replace H := bO H
 obtain ⟨t439, A5, H⟩ := H
 by_cases c6 : t439 = true
 ·subst c6
  replace H := iT H
  by_cases c7 : 0 ≤ a2
  ·rw [if_pos c7] at H
   have c7b0 := decide_eq_true c7
   clear c7
   by_cases c8 : a2 < (l1.length : Int)
   ·rw [if_pos c8] at H
    have c8b0 := decide_eq_true c8
    clear c8
    replace H := bO H
    obtain ⟨⟨t441, t442, t443, t444, t445, t446, t447, t448, t449⟩, A9, H⟩ := H
    dsimp only at H A9
    by_cases c10 : t449 = true
    ·subst c10
     replace H := iT H
     replace H := bO H
     obtain ⟨t451, A11, H⟩ := H
     by_cases c12 : t451 = true
     ·subst c12
      replace H := iT H
      simp only [Option.some.injEq, Prod.mk.injEq] at H
      obtain ⟨rfl, rfl⟩ := H
      go_enter Tryd.func24, Tryd.ntmps24
      go_wp2_with (first | ((with_reducible refine qJ (f := 37) rfl ?_); refine qr (some 17) rfl rfl Tryd.func37 (by kernel_rfl) rfl #[.int .i64 a2, .int .i64 0, .int .i64 (wrap64 ((l1.length : Int) - 1))] rfl gA ?_; (with_reducible refine (qZA.calls a2 0 (wrap64 ((l1.length : Int) - 1)) true _ A5.out).mono ?_); rintro e w' ⟨rfl, ⟨nd, rfl⟩⟩; refine ⟨_, rfl, ?_⟩; have p440 : 0 ≤ (a2 : Int) := of_decide_eq_true am; have q440 : a2 < (l1.length : Int) := of_decide_eq_true am; obtain ⟨ad440, e440, hx440_0, hx440_1, hx440_2, hx440_3, hx440_4, hx440_5, hx440_6, hx440_7⟩ := qTB HR1.out a2 p440 q440; cases e440; replace p440 := eq_true p440; replace q440 := eq_true q440) | ((with_reducible refine qJ (f := 38) rfl ?_); refine qr (some 26) rfl rfl Tryd.func38 (by kernel_rfl) rfl #[.slice A0 l0.length c0, .agg #[.int .i64 ((qA l1 a2).f0), .int .i64 ((qA l1 a2).f1), .int .i64 ((qA l1 a2).f2.f0), .int .i64 ((qA l1 a2).f2.f1), .int .i64 ((qA l1 a2).f2.f2), .int .i64 ((qA l1 a2).f2.f3), .int .i64 ((qA l1 a2).f2.f4), .int .i64 ((qA l1 a2).f2.f5)], .int .u8 a3] rfl gA ?_; (with_reducible refine (qiA.calls _ _ l0 ((qA l1 a2).f0) ((qA l1 a2).f1) ((qA l1 a2).f2.f0) ((qA l1 a2).f2.f1) ((qA l1 a2).f2.f2) ((qA l1 a2).f2.f3) ((qA l1 a2).f2.f4) ((qA l1 a2).f2.f5) a3 t441 t442 t443 t444 t445 t446 t447 t448 true _ ?side1 ?side2 A9.out).mono ?_); (case side1 => repeat (first | exact HR0.out | (with_reducible refine Kd.qW ?_ _) | (with_reducible refine Kd.qV ?_ _) | (with_reducible refine Kd.qe ?_))); (case side2 => exact HC0.out); rintro e w13 ⟨rfl, hb⟩; refine ⟨_, rfl, ?_⟩; replace HB := aM (qB bl hb); (try clear hb); (try clear hb2); (try clear hk); (try clear hi)) | ((with_reducible refine qK (N := 10) rfl ?_); refine qH ?hg (N := 10) ?hd (cs := #[.int .i64 0, .int .i64 0, .int .i64 0, .int .i64 0, .int .i64 0, .int .i64 0, .int .i64 0, .int .i64 0]) (t := 41) ?hr ?_; (case hd => rfl); (case hg => rfl); (case hr => exact gS); intro gb450 hg w14 hbox hb; have BK450 := aM (hbox); have GW450 := aM ((gg hg)); have GE450 := aM ((gg hg)); replace HB := aM (qB bl hb); clear hb hbox hg; (refine cb8 BK450 ?_; intro _ _ _ _ _ _ _ _); (refine cz8 BK450 ?_; intro _ _ _ _ _ _ _ _)) | (go_at_call 39; (with_reducible refine (qKD.calls _ _ l1 gb450 t441 t442 t443 t444 t445 t446 t447 t448 true _ ?side1 ?side2 ?side3 ?side4 ?side5 ?side6 ?side7 ?side8 ?side9 ?side10 A11.out).mono ?_); (case side1 => exact Kd.qg HR1.out bl); (case side2 => exact HC1.out); (case side3 => exact (cell_of_row _ gb450 0 _ 41 (0, 0) (by (with_reducible repeat (first | refine qG ?_ _ | refine qE ?_ | refine qF ?_ _)); exact bP8 BK450)).trans rfl); (case side4 => exact (cell_of_row _ gb450 1 _ 41 (0, 0) (by (with_reducible repeat (first | refine qG ?_ _ | refine qE ?_ | refine qF ?_ _)); exact bP8 BK450)).trans rfl); (case side5 => exact (cell_of_row _ gb450 2 _ 41 (0, 0) (by (with_reducible repeat (first | refine qG ?_ _ | refine qE ?_ | refine qF ?_ _)); exact bP8 BK450)).trans rfl); (case side6 => exact (cell_of_row _ gb450 3 _ 41 (0, 0) (by (with_reducible repeat (first | refine qG ?_ _ | refine qE ?_ | refine qF ?_ _)); exact bP8 BK450)).trans rfl); (case side7 => exact (cell_of_row _ gb450 4 _ 41 (0, 0) (by (with_reducible repeat (first | refine qG ?_ _ | refine qE ?_ | refine qF ?_ _)); exact bP8 BK450)).trans rfl); (case side8 => exact (cell_of_row _ gb450 5 _ 41 (0, 0) (by (with_reducible repeat (first | refine qG ?_ _ | refine qE ?_ | refine qF ?_ _)); exact bP8 BK450)).trans rfl); (case side9 => exact (cell_of_row _ gb450 6 _ 41 (0, 0) (by (with_reducible repeat (first | refine qG ?_ _ | refine qE ?_ | refine qF ?_ _)); exact bP8 BK450)).trans rfl); (case side10 => exact (cell_of_row _ gb450 7 _ 41 (0, 0) (by (with_reducible repeat (first | refine qG ?_ _ | refine qE ?_ | refine qF ?_ _)); exact bP8 BK450)).trans rfl); rintro e w16 ⟨rfl, hb⟩; replace BK450 := aM (qPA (g := gb450) (o := .cells #[.int .i64 t441, .int .i64 t442, .int .i64 t443, .int .i64 t444, .int .i64 t445, .int .i64 t446, .int .i64 t447, .int .i64 t448] 41 (0, 0)) (by (with_reducible repeat (first | refine qG ?_ _ | refine qE ?_ | refine qF ?_ _)); exact bP8 BK450) hb); replace HB := aM (qB bl hb); (try clear hb); (try clear hb2); (try clear hk); (try clear hi)))
      go_ret2
      exact ⟨_, sR, nK, bl⟩
     ·replace c12 := Bool.eq_false_iff.mpr c12
      subst c12
      replace H := iF H
      replace H := bO H
      obtain ⟨t452, A17, H⟩ := H
      by_cases c18 : a2 < (t452.length : Int)
      ·rw [if_pos c18] at H
       have c18b0 := decide_eq_true c18
       clear c18
       obtain ⟨y455, hy455⟩ : ∃ y_ : List (S41), y_ = (t452.set (a2 : Int).toNat (⟨t441, t442, (⟨t443, t444, t445, t446, t447, t448⟩ : S39)⟩ : S41)) := ⟨_, rfl⟩
       replace H : (some (y455, true)) = some (r1, r2) := by first | (rw [hy455]; with_reducible exact H) | (have H2_ := (Option.bind_some _ _).symm.trans H; rw [hy455]; with_reducible exact H2_) | (have H2_ := (Option.bind_some _ _).symm.trans H; with_reducible exact H2_) | with_reducible exact H | (rw [hy455]; exact H) | exact H
       have Ny455 := aM hy455
       clear hy455
       simp only [Option.some.injEq, Prod.mk.injEq] at H
       obtain ⟨rfl, rfl⟩ := H
       go_enter Tryd.func24, Tryd.ntmps24
       go_wp2_with (first | ((with_reducible refine qJ (f := 37) rfl ?_); refine qr (some 17) rfl rfl Tryd.func37 (by kernel_rfl) rfl #[.int .i64 a2, .int .i64 0, .int .i64 (wrap64 ((l1.length : Int) - 1))] rfl gA ?_; (with_reducible refine (qZA.calls a2 0 (wrap64 ((l1.length : Int) - 1)) true _ A5.out).mono ?_); rintro e w' ⟨rfl, ⟨nd, rfl⟩⟩; refine ⟨_, rfl, ?_⟩; have p440 : 0 ≤ (a2 : Int) := of_decide_eq_true am; have q440 : a2 < (l1.length : Int) := of_decide_eq_true am; obtain ⟨ad440, e440, hx440_0, hx440_1, hx440_2, hx440_3, hx440_4, hx440_5, hx440_6, hx440_7⟩ := qTB HR1.out a2 p440 q440; cases e440; replace p440 := eq_true p440; replace q440 := eq_true q440) | ((with_reducible refine qJ (f := 38) rfl ?_); refine qr (some 26) rfl rfl Tryd.func38 (by kernel_rfl) rfl #[.slice A0 l0.length c0, .agg #[.int .i64 ((qA l1 a2).f0), .int .i64 ((qA l1 a2).f1), .int .i64 ((qA l1 a2).f2.f0), .int .i64 ((qA l1 a2).f2.f1), .int .i64 ((qA l1 a2).f2.f2), .int .i64 ((qA l1 a2).f2.f3), .int .i64 ((qA l1 a2).f2.f4), .int .i64 ((qA l1 a2).f2.f5)], .int .u8 a3] rfl gA ?_; (with_reducible refine (qiA.calls _ _ l0 ((qA l1 a2).f0) ((qA l1 a2).f1) ((qA l1 a2).f2.f0) ((qA l1 a2).f2.f1) ((qA l1 a2).f2.f2) ((qA l1 a2).f2.f3) ((qA l1 a2).f2.f4) ((qA l1 a2).f2.f5) a3 t441 t442 t443 t444 t445 t446 t447 t448 true _ ?side1 ?side2 A9.out).mono ?_); (case side1 => repeat (first | exact HR0.out | (with_reducible refine Kd.qW ?_ _) | (with_reducible refine Kd.qV ?_ _) | (with_reducible refine Kd.qe ?_))); (case side2 => exact HC0.out); rintro e w20 ⟨rfl, hb⟩; refine ⟨_, rfl, ?_⟩; replace HB := aM (qB bl hb); (try clear hb); (try clear hb2); (try clear hk); (try clear hi)) | ((with_reducible refine qK (N := 10) rfl ?_); refine qH ?hg (N := 10) ?hd (cs := #[.int .i64 0, .int .i64 0, .int .i64 0, .int .i64 0, .int .i64 0, .int .i64 0, .int .i64 0, .int .i64 0]) (t := 41) ?hr ?_; (case hd => rfl); (case hg => rfl); (case hr => exact gS); intro gb450 hg w21 hbox hb; have BK450 := aM (hbox); have GW450 := aM ((gg hg)); have GE450 := aM ((gg hg)); replace HB := aM (qB bl hb); clear hb hbox hg; (refine cb8 BK450 ?_; intro _ _ _ _ _ _ _ _); (refine cz8 BK450 ?_; intro _ _ _ _ _ _ _ _)) | (go_at_call 39; (with_reducible refine (qKD.calls _ _ l1 gb450 t441 t442 t443 t444 t445 t446 t447 t448 false _ ?side1 ?side2 ?side3 ?side4 ?side5 ?side6 ?side7 ?side8 ?side9 ?side10 A11.out).mono ?_); (case side1 => exact Kd.qg HR1.out bl); (case side2 => exact HC1.out); (case side3 => exact (cell_of_row _ gb450 0 _ 41 (0, 0) (by (with_reducible repeat (first | refine qG ?_ _ | refine qE ?_ | refine qF ?_ _)); exact bP8 BK450)).trans rfl); (case side4 => exact (cell_of_row _ gb450 1 _ 41 (0, 0) (by (with_reducible repeat (first | refine qG ?_ _ | refine qE ?_ | refine qF ?_ _)); exact bP8 BK450)).trans rfl); (case side5 => exact (cell_of_row _ gb450 2 _ 41 (0, 0) (by (with_reducible repeat (first | refine qG ?_ _ | refine qE ?_ | refine qF ?_ _)); exact bP8 BK450)).trans rfl); (case side6 => exact (cell_of_row _ gb450 3 _ 41 (0, 0) (by (with_reducible repeat (first | refine qG ?_ _ | refine qE ?_ | refine qF ?_ _)); exact bP8 BK450)).trans rfl); (case side7 => exact (cell_of_row _ gb450 4 _ 41 (0, 0) (by (with_reducible repeat (first | refine qG ?_ _ | refine qE ?_ | refine qF ?_ _)); exact bP8 BK450)).trans rfl); (case side8 => exact (cell_of_row _ gb450 5 _ 41 (0, 0) (by (with_reducible repeat (first | refine qG ?_ _ | refine qE ?_ | refine qF ?_ _)); exact bP8 BK450)).trans rfl); (case side9 => exact (cell_of_row _ gb450 6 _ 41 (0, 0) (by (with_reducible repeat (first | refine qG ?_ _ | refine qE ?_ | refine qF ?_ _)); exact bP8 BK450)).trans rfl); (case side10 => exact (cell_of_row _ gb450 7 _ 41 (0, 0) (by (with_reducible repeat (first | refine qG ?_ _ | refine qE ?_ | refine qF ?_ _)); exact bP8 BK450)).trans rfl); rintro e w23 ⟨rfl, hb⟩; replace BK450 := aM (qPA (g := gb450) (o := .cells #[.int .i64 t441, .int .i64 t442, .int .i64 t443, .int .i64 t444, .int .i64 t445, .int .i64 t446, .int .i64 t447, .int .i64 t448] 41 (0, 0)) (by (with_reducible repeat (first | refine qG ?_ _ | refine qE ?_ | refine qF ?_ _)); exact bP8 BK450) hb); replace HB := aM (qB bl hb); (try clear hb); (try clear hb2); (try clear hk); (try clear hi)) | ((with_reducible refine qJ (f := 42) rfl ?_); refine qr (some 37) rfl rfl Tryd.func42 (by kernel_rfl) rfl #[.slice (some ad440) l1.length c1] rfl gA ?_; (with_reducible refine (qcB.calls _ _ l1 t452 _ ?side1 ?side2 A17.out).mono ?_); (case side1 => repeat (first | exact (Kd.qg HR1.out HB.out) | (with_reducible refine Kd.qW ?_ _) | (with_reducible refine Kd.qV ?_ _) | (with_reducible refine Kd.qe ?_))); (case side2 => exact HC1.out); rintro e w24 ⟨v453, rfl, ho0, hb⟩; refine ⟨_, rfl, ?_⟩; have HO454 := aM (Kd.qx (Kd.qNB ho0 (rB BK450)) (qL bl)); replace BK450 := aM (bb BK450 hb); replace HB := aM (qB bl hb); (try clear hb); (try clear hb2); (try clear hk); (try clear hi); (try clear ho0); (refine cb8 BK450 ?_; intro _ _ _ _ _ _ _ _); (refine cz8 BK450 ?_; intro _ _ _ _ _ _ _ _); have p19 : 0 ≤ (a2 : Int) := of_decide_eq_true am; have q19 : (a2 : Int) < ((t452.length : Int) : Int) := of_decide_eq_true am; obtain ⟨go19, co19, eo19, gb19, gl19, cl19, HG19⟩ := Kd.qNE HO454.out (by omega); (first | cases eo19 | (injection eo19 with ea_ en_ ec_; (first | subst ea_ | (injection ea_ with ea_; subst ea_)); subst ec_; clear en_)); have GB19 := aM gb19; have GG19 := aM HG19; clear gb19 gl19 HG19; obtain ⟨ce19, hcl19, hM19, hcc19, hfr19⟩ := Kd.qfD HO454.out z41 (a2 : Int) p19 q19; obtain rfl := qMC hM19; have hx19_0 : w24.cell? ⟨go19, (a2 : Int).toNat * 8, none⟩ = some (.int .i64 ((qA t452 a2).f0)) := hcc19 0 _ rfl; have hx19_1 : w24.cell? ⟨go19, (a2 : Int).toNat * 8 + 1, none⟩ = some (.int .i64 ((qA t452 a2).f1)) := hcc19 1 _ rfl; have hx19_2 : w24.cell? ⟨go19, (a2 : Int).toNat * 8 + 2, none⟩ = some (.int .i64 ((qA t452 a2).f2.f0)) := hcc19 2 _ rfl; have hx19_3 : w24.cell? ⟨go19, (a2 : Int).toNat * 8 + 3, none⟩ = some (.int .i64 ((qA t452 a2).f2.f1)) := hcc19 3 _ rfl; have hx19_4 : w24.cell? ⟨go19, (a2 : Int).toNat * 8 + 4, none⟩ = some (.int .i64 ((qA t452 a2).f2.f2)) := hcc19 4 _ rfl; have hx19_5 : w24.cell? ⟨go19, (a2 : Int).toNat * 8 + 5, none⟩ = some (.int .i64 ((qA t452 a2).f2.f3)) := hcc19 5 _ rfl; have hx19_6 : w24.cell? ⟨go19, (a2 : Int).toNat * 8 + 6, none⟩ = some (.int .i64 ((qA t452 a2).f2.f4)) := hcc19 6 _ rfl; have hx19_7 : w24.cell? ⟨go19, (a2 : Int).toNat * 8 + 7, none⟩ = some (.int .i64 ((qA t452 a2).f2.f5)) := hcc19 7 _ rfl; have hf19_0 : w24.frozen? ⟨go19, (a2 : Int).toNat * 8, none⟩ = false := hfr19 0; have hf19_1 : w24.frozen? ⟨go19, (a2 : Int).toNat * 8 + 1, none⟩ = false := hfr19 1; have hf19_2 : w24.frozen? ⟨go19, (a2 : Int).toNat * 8 + 2, none⟩ = false := hfr19 2; have hf19_3 : w24.frozen? ⟨go19, (a2 : Int).toNat * 8 + 3, none⟩ = false := hfr19 3; have hf19_4 : w24.frozen? ⟨go19, (a2 : Int).toNat * 8 + 4, none⟩ = false := hfr19 4; have hf19_5 : w24.frozen? ⟨go19, (a2 : Int).toNat * 8 + 5, none⟩ = false := hfr19 5; have hf19_6 : w24.frozen? ⟨go19, (a2 : Int).toNat * 8 + 6, none⟩ = false := hfr19 6; have hf19_7 : w24.frozen? ⟨go19, (a2 : Int).toNat * 8 + 7, none⟩ = false := hfr19 7; clear hcl19 hcc19 hfr19 hM19; replace p19 := eq_true p19; replace q19 := eq_true q19; have n_ := aM (Kd.qZ (ok' := (fun k_ => k_ ≠ gb450)) HO454.out (fun k_ hk => hk.2)); clear HO454; have HO454 := n_; clear n_; have HX26 := aM (show Kd.R k41 41 w24 w.heap.size (fun k_ => k_ ≠ gb450) (.slice (some ⟨go19, 0, none⟩) t452.length co19) t452 from (rR HO454)); obtain ⟨ce26, hcl26, hM26, hcc26, hfr26⟩ := Kd.qfD HX26.out z41 (a2 : Int) (of_decide_eq_true am) (by have h_ : (a2 : Int) < ((t452.length : Int) : Int) := of_decide_eq_true am; first | exact h_ | (have e_ := (Kd.qP HO454.out).1; omega) | simpa using h_); obtain rfl := qMC hM26; have HP26 := Kd.R_seg HX26.out (a2 : Int) (of_decide_eq_true am) (by have h_ : (a2 : Int) < ((t452.length : Int) : Int) := of_decide_eq_true am; first | exact h_ | (have e_ := (Kd.qP HO454.out).1; omega) | simpa using h_) (seg := [.int .i64 t441, .int .i64 t442, .int .i64 t443, .int .i64 t444, .int .i64 t445, .int .i64 t446, .int .i64 t447, .int .i64 t448]) (j := 0) hcl26 hcc26 (show 8 ≤ 8 from by decide) (x' := (⟨t441, t442, (⟨t443, t444, t445, t446, t447, t448⟩ : S39)⟩ : S41)) (quD _ _ _ (⟨t441, t442, (⟨t443, t444, t445, t446, t447, t448⟩ : S39)⟩ : S41) ) (fun _ hk => hk); have hx26_0 := hcc26 0 _ rfl; (try simp only [show (k41).sz = 8 from rfl, Nat.mul_one, Nat.add_zero] at hx26_0); have hf26_0 := hfr26 0; (try simp only [show (k41).sz = 8 from rfl, Nat.mul_one, Nat.add_zero] at hf26_0); have hx26_1 := hcc26 1 _ rfl; (try simp only [show (k41).sz = 8 from rfl, Nat.mul_one, Nat.add_zero] at hx26_1); have hf26_1 := hfr26 1; (try simp only [show (k41).sz = 8 from rfl, Nat.mul_one, Nat.add_zero] at hf26_1); have hx26_2 := hcc26 2 _ rfl; (try simp only [show (k41).sz = 8 from rfl, Nat.mul_one, Nat.add_zero] at hx26_2); have hf26_2 := hfr26 2; (try simp only [show (k41).sz = 8 from rfl, Nat.mul_one, Nat.add_zero] at hf26_2); have hx26_3 := hcc26 3 _ rfl; (try simp only [show (k41).sz = 8 from rfl, Nat.mul_one, Nat.add_zero] at hx26_3); have hf26_3 := hfr26 3; (try simp only [show (k41).sz = 8 from rfl, Nat.mul_one, Nat.add_zero] at hf26_3); have hx26_4 := hcc26 4 _ rfl; (try simp only [show (k41).sz = 8 from rfl, Nat.mul_one, Nat.add_zero] at hx26_4); have hf26_4 := hfr26 4; (try simp only [show (k41).sz = 8 from rfl, Nat.mul_one, Nat.add_zero] at hf26_4); have hx26_5 := hcc26 5 _ rfl; (try simp only [show (k41).sz = 8 from rfl, Nat.mul_one, Nat.add_zero] at hx26_5); have hf26_5 := hfr26 5; (try simp only [show (k41).sz = 8 from rfl, Nat.mul_one, Nat.add_zero] at hf26_5); have hx26_6 := hcc26 6 _ rfl; (try simp only [show (k41).sz = 8 from rfl, Nat.mul_one, Nat.add_zero] at hx26_6); have hf26_6 := hfr26 6; (try simp only [show (k41).sz = 8 from rfl, Nat.mul_one, Nat.add_zero] at hf26_6); have hx26_7 := hcc26 7 _ rfl; (try simp only [show (k41).sz = 8 from rfl, Nat.mul_one, Nat.add_zero] at hx26_7); have hf26_7 := hfr26 7; (try simp only [show (k41).sz = 8 from rfl, Nat.mul_one, Nat.add_zero] at hf26_7); clear hcl26 hcc26 hfr26 hM26) | ((with_reducible refine qlB (t := 41) (p := 41) rfl ?_); refine qiB (t := 41) (p := 41) (v := ?vo_w27) (w1 := ((((((((w24.setCell ⟨go19, (a2 : Int).toNat * 8, none⟩ (.int .i64 t441)).setCell ⟨go19, (a2 : Int).toNat * 8 + 1, none⟩ (.int .i64 t442)).setCell ⟨go19, (a2 : Int).toNat * 8 + 2, none⟩ (.int .i64 t443)).setCell ⟨go19, (a2 : Int).toNat * 8 + 3, none⟩ (.int .i64 t444)).setCell ⟨go19, (a2 : Int).toNat * 8 + 4, none⟩ (.int .i64 t445)).setCell ⟨go19, (a2 : Int).toNat * 8 + 5, none⟩ (.int .i64 t446)).setCell ⟨go19, (a2 : Int).toNat * 8 + 6, none⟩ (.int .i64 t447)).setCell ⟨go19, (a2 : Int).toNat * 8 + 7, none⟩ (.int .i64 t448))) ?hg ?ho ?hn ?hr ?_; (case ho => rfl); (case hg => rfl); (case hn => rfl); (case hr => exact gS); intro w27 hw; have hg : w24.grownBy w27 (some go19) := (by rw [hw]; exact HP26.2); have hp_ : Kd.R k41 41 w27 w.heap.size (fun k_ => k_ ≠ gb450) (.slice (some ⟨go19, 0, none⟩) t452.length co19) y455 := (by rw [hw, Ny455.out]; exact HP26.1); clear HP26; replace BK450 := aM (qi (rB BK450) hg (Kd.qJB HO454.out (fun _ hk => hk))); replace HO454 := aM (hp_); replace HB := aM ((by rw [hw]; exact qy (qy (qy (qy (qy (qy (qy (qy (HB.out) GB19.out) GB19.out) GB19.out) GB19.out) GB19.out) GB19.out) GB19.out) GB19.out : Below w.heap.size w w27)); clear hg hw hp_))
       go_ret2
       exact ⟨_, sR, by (with_reducible repeat (first | apply Kd.qO | apply Kd.qQ | apply Kd.qS)); exact Kd.qZ HO454.out (fun _ hk => trivial), bl⟩
      ·rw [if_neg c18] at H
       exact absurd H (by simp)
    ·replace c10 := Bool.eq_false_iff.mpr c10
     subst c10
     replace H := iF H
     simp only [Option.some.injEq, Prod.mk.injEq] at H
     obtain ⟨rfl, rfl⟩ := H
     go_enter Tryd.func24, Tryd.ntmps24
     go_wp2_with (first | ((with_reducible refine qJ (f := 37) rfl ?_); refine qr (some 17) rfl rfl Tryd.func37 (by kernel_rfl) rfl #[.int .i64 a2, .int .i64 0, .int .i64 (wrap64 ((l1.length : Int) - 1))] rfl gA ?_; (with_reducible refine (qZA.calls a2 0 (wrap64 ((l1.length : Int) - 1)) true _ A5.out).mono ?_); rintro e w' ⟨rfl, ⟨nd, rfl⟩⟩; refine ⟨_, rfl, ?_⟩; have p440 : 0 ≤ (a2 : Int) := of_decide_eq_true am; have q440 : a2 < (l1.length : Int) := of_decide_eq_true am; obtain ⟨ad440, e440, hx440_0, hx440_1, hx440_2, hx440_3, hx440_4, hx440_5, hx440_6, hx440_7⟩ := qTB HR1.out a2 p440 q440; cases e440; replace p440 := eq_true p440; replace q440 := eq_true q440) | ((with_reducible refine qJ (f := 38) rfl ?_); refine qr (some 26) rfl rfl Tryd.func38 (by kernel_rfl) rfl #[.slice A0 l0.length c0, .agg #[.int .i64 ((qA l1 a2).f0), .int .i64 ((qA l1 a2).f1), .int .i64 ((qA l1 a2).f2.f0), .int .i64 ((qA l1 a2).f2.f1), .int .i64 ((qA l1 a2).f2.f2), .int .i64 ((qA l1 a2).f2.f3), .int .i64 ((qA l1 a2).f2.f4), .int .i64 ((qA l1 a2).f2.f5)], .int .u8 a3] rfl gA ?_; (with_reducible refine (qiA.calls _ _ l0 ((qA l1 a2).f0) ((qA l1 a2).f1) ((qA l1 a2).f2.f0) ((qA l1 a2).f2.f1) ((qA l1 a2).f2.f2) ((qA l1 a2).f2.f3) ((qA l1 a2).f2.f4) ((qA l1 a2).f2.f5) a3 t441 t442 t443 t444 t445 t446 t447 t448 false _ ?side1 ?side2 A9.out).mono ?_); (case side1 => repeat (first | exact HR0.out | (with_reducible refine Kd.qW ?_ _) | (with_reducible refine Kd.qV ?_ _) | (with_reducible refine Kd.qe ?_))); (case side2 => exact HC0.out); rintro e w28 ⟨rfl, hb⟩; refine ⟨_, rfl, ?_⟩; replace HB := aM (qB bl hb); (try clear hb); (try clear hb2); (try clear hk); (try clear hi)) | ((with_reducible refine qK (N := 10) rfl ?_); refine qH ?hg (N := 10) ?hd (cs := #[.int .i64 0, .int .i64 0, .int .i64 0, .int .i64 0, .int .i64 0, .int .i64 0, .int .i64 0, .int .i64 0]) (t := 41) ?hr ?_; (case hd => rfl); (case hg => rfl); (case hr => exact gS); intro gb450 hg w29 hbox hb; have BK450 := aM (hbox); have GW450 := aM ((gg hg)); have GE450 := aM ((gg hg)); replace HB := aM (qB bl hb); clear hb hbox hg; (refine cb8 BK450 ?_; intro _ _ _ _ _ _ _ _); (refine cz8 BK450 ?_; intro _ _ _ _ _ _ _ _)))
     go_ret2
     exact ⟨_, sR, nK, bl⟩
   ·rw [if_neg c8] at H
    exact absurd H (by simp)
  ·rw [if_neg c7] at H
   exact absurd H (by simp)
 ·replace c6 := Bool.eq_false_iff.mpr c6
  subst c6
  replace H := iF H
  simp only [Option.some.injEq, Prod.mk.injEq] at H
  obtain ⟨rfl, rfl⟩ := H
  go_enter Tryd.func24, Tryd.ntmps24
  go_wp2_with (first | ((with_reducible refine qJ (f := 37) rfl ?_); refine qr (some 17) rfl rfl Tryd.func37 (by kernel_rfl) rfl #[.int .i64 a2, .int .i64 0, .int .i64 (wrap64 ((l1.length : Int) - 1))] rfl gA ?_; (with_reducible refine (qZA.calls a2 0 (wrap64 ((l1.length : Int) - 1)) false _ A5.out).mono ?_); rintro e w' ⟨rfl, ⟨nd, rfl⟩⟩; refine ⟨_, rfl, ?_⟩))
  go_ret2
  exact ⟨_, sR, nK, bl⟩
end Go.Proofs.YthhiiceligjleaaDoor.P
namespace Go.Proofs.YthhiiceligjleaaDoor
open Go.RowKit Go.Proofs.YthhiiceligjleaaDoor.P Go.Proofs.YthhiiceligjleaaDoorW.PrintWords Go.Proofs.YthhiiceligjleaaDoorW.PrintLast
set_option linter.unusedVariables false
set_option linter.unusedSimpArgs false
def dOf (c : Int) : Int := if c = 110 then 0 else if c = 101 then 1 else if c = 115 then 2 else 3
def nextC (x y d : Int) : Int × Int := if d = 0 then (x, wrap64 (y - 1)) else if d = 1 then (wrap64 (x + 1), y) else if d = 2 then (x, wrap64 (y + 1)) else (wrap64 (x - 1), y)
abbrev XD := S39
def rollD (x : XD) (d : Int) : XD := if d = 0 then ⟨x.f3, x.f0, x.f2, x.f5, x.f4, x.f1⟩ else if d = 1 then ⟨x.f4, x.f1, x.f0, x.f3, x.f5, x.f2⟩ else if d = 2 then ⟨x.f1, x.f5, x.f2, x.f0, x.f4, x.f3⟩ else ⟨x.f2, x.f1, x.f5, x.f3, x.f0, x.f4⟩
def tupD (x : XD) : Int × Int × Int × Int × Int × Int := (x.f0, x.f1, x.f2, x.f3, x.f4, x.f5)
def rollS (s : XS) (d : Int) : XS := ⟨(nextC s.f0 s.f1 d).1, (nextC s.f0 s.f1 d).2, rollD s.f2 d⟩
theorem implNext_eq (x y c : Int) : qxB.f x y c = some (nextC x y (dOf c)) := by
 unfold qxB.f nextC dOf
 by_cases h1 : c = 110
 ·simp [h1]
 by_cases h2 : c = 101
 ·simp [h1, h2]
 by_cases h3 : c = 115
 ·simp [h1, h2, h3]
 simp [h1, h2, h3]
theorem specNext_eq (x y d : Int) : qOB.f x y d = some (nextC x y d) := by
 unfold qOB.f nextC
 by_cases h1 : d = 0
 ·simp [h1]
 by_cases h2 : d = 1
 ·simp [h1, h2]
 by_cases h3 : d = 2
 ·simp [h1, h2, h3]
 simp [h1, h2, h3]
theorem implDie_eq (x : XD) (c : Int) : qHB.f x.f0 x.f1 x.f2 x.f3 x.f4 x.f5 c = some (tupD (rollD x (dOf c))) := by
 unfold qHB.f rollD dOf
 by_cases h1 : c = 110
 ·simp [tupD, h1]
 by_cases h2 : c = 101
 ·simp [tupD, h1, h2]
 by_cases h3 : c = 115
 ·simp [tupD, h1, h2, h3]
 simp [tupD, h1, h2, h3]
theorem specDie_eq (x : XD) (d : Int) : qqA.f x.f0 x.f1 x.f2 x.f3 x.f4 x.f5 d = some (tupD (rollD x d)) := by
 unfold qqA.f rollD
 by_cases h1 : d = 0
 ·simp [tupD, h1]
 by_cases h2 : d = 1
 ·simp [tupD, h1, h2]
 by_cases h3 : d = 2
 ·simp [tupD, h1, h2, h3]
 simp [tupD, h1, h2, h3]
theorem implRoll_eq {a : ByteArray} (g : Gnd a) (s : XS) (c : Int) : qiA.f (rowsT a) s.f0 s.f1 s.f2.f0 s.f2.f1 s.f2.f2 s.f2.f3 s.f2.f4 s.f2.f5 c = some ((rollS s (dOf c)).f0, (rollS s (dOf c)).f1, (rollS s (dOf c)).f2.f0, (rollS s (dOf c)).f2.f1, (rollS s (dOf c)).f2.f2, (rollS s (dOf c)).f2.f3, (rollS s (dOf c)).f2.f4, (rollS s (dOf c)).f2.f5, floorB a (rollS s (dOf c)).f0 (rollS s (dOf c)).f1) := by
 unfold qiA.f
 obtain ⟨q, h1, h2⟩ := at_floor g (rollS s (dOf c)).f0 (rollS s (dOf c)).f1
 rw [implNext_eq, Option.bind_some, implDie_eq, Option.bind_some]
 rw [show qVA.f (rowsT a) (nextC s.f0 s.f1 (dOf c)).1 (nextC s.f0 s.f1 (dOf c)).2 = some q from h1, Option.bind_some, ← h2]
 rfl
theorem specRoll_eq {a : ByteArray} (g : Gnd a) (s : XS) (d : Int) : qoA.f (wideT a : Int) (highT a : Int) (csOf a) s.f0 s.f1 s.f2.f0 s.f2.f1 s.f2.f2 s.f2.f3 s.f2.f4 s.f2.f5 d = some (if floorB a (rollS s d).f0 (rollS s d).f1 = true then ((rollS s d).f0, (rollS s d).f1, (rollS s d).f2.f0, (rollS s d).f2.f1, (rollS s d).f2.f2, (rollS s d).f2.f3, (rollS s d).f2.f4, (rollS s d).f2.f5, true) else (0, 0, 0, 0, 0, 0, 0, 0, false)) := by
 unfold qoA.f
 rw [specNext_eq, Option.bind_some, show qcA.f (wideT a : Int) (highT a : Int) (csOf a) (nextC s.f0 s.f1 d).1 (nextC s.f0 s.f1 d).2 = some (floorB a (rollS s d).f0 (rollS s d).f1) from boFloor_eq g _ _, Option.bind_some]
 cases h : floorB a (rollS s d).f0 (rollS s d).f1 with
 | true =>
  rw [if_pos rfl, specDie_eq, Option.bind_some, if_pos rfl]; rfl
 | false => rw [if_neg (by decide), if_neg (by decide)]
def moveB (a : ByteArray) (l : List XS) (k : Nat) (d : Int) : List XS × Bool :=
 if h : k < l.length then (if floorB a (rollS l[k] d).f0 (rollS l[k] d).f1 = true ∧ l.any (atCell (rollS l[k] d).f0 (rollS l[k] d).f1) = false then (l.set k (rollS l[k] d), true) else ([], false)) else ([], false)
theorem moveB_len {a : ByteArray} {l : List XS} {k : Nat} {d : Int} (h : (moveB a l k d).2 = true) : (moveB a l k d).1.length = l.length := by
 unfold moveB at h ⊢
 split
 ·rename_i hk
  rw [dif_pos hk] at h
  split
  ·simp
  ·rename_i hc
   rw [if_neg hc] at h; cases h
 ·rename_i hk
  rw [dif_neg hk] at h; cases h
theorem implMove_eq {a : ByteArray} (g : Gnd a) (l : List XS) (hl : l.length ≤ 2000000) (k : Nat) (c : Int) : qTA.f (rowsT a) l (k : Int) c = some (moveB a l k (dOf c)) := by
 unfold qTA.f moveB
 have w : wrap64 ((l.length : Int) - 1) = (l.length : Int) - 1 := by unfold wrap64; omega
 rw [qhC, w, Option.bind_some]
 by_cases hk : k < l.length
 ·rw [dif_pos hk, if_pos (by simp only [Bool.and_eq_true, decide_eq_true_eq]; omega), if_pos (by omega), if_pos (by omega), rdXS l k hk, implRoll_eq g, Option.bind_some]
  show (if floorB a (rollS l[k] (dOf c)).f0 (rollS l[k] (dOf c)).f1 = true then _ else _) = _
  cases hf : floorB a (rollS l[k] (dOf c)).f0 (rollS l[k] (dOf c)).f1 with
  | false => rw [if_neg (by decide), if_neg (by simp)]
  | true =>
   rw [if_pos rfl]
   show (if l.any (atCell (rollS l[k] (dOf c)).f0 (rollS l[k] (dOf c)).f1) = true then _ else _) = _
   cases ha : l.any (atCell (rollS l[k] (dOf c)).f0 (rollS l[k] (dOf c)).f1) with
   | true => rw [if_pos rfl, if_neg (by simp)]
   | false =>
    rw [if_neg (by decide), if_pos ⟨rfl, rfl⟩]
    unfold qcB.f
    rw [if_pos (by omega), Option.bind_some, if_pos (by omega), Int.toNat_natCast]
 ·rw [dif_neg hk, if_neg (by simp only [Bool.and_eq_true, decide_eq_true_eq]; omega)]
theorem specMove_ev {a : ByteArray} (g : Gnd a) (l : List XS) (hl : l.length ≤ 2000000) (k : Nat) (hk : k < l.length) (d : Int) : Ev (fun n => qIA.f n (wideT a : Int) (highT a : Int) (csOf a) l (k : Int) d) (moveB a l k d) := by
 unfold qIA.f moveB
 rw [dif_pos hk]
 obtain ⟨r, h1, h2⟩ := myAt_ev l (by omega) (rollS l[k] d).f0 (rollS l[k] d).f1
 refine Ev.pos (by omega) (Ev.pos (by omega) ?_)
 rw [rdXS l k hk]
 refine Ev.bindc (specRoll_eq g l[k] d) ?_
 cases hf : floorB a (rollS l[k] d).f0 (rollS l[k] d).f1 with
 | false => exact Ev.neg (by simp) (Ev.some_ (by simp))
 | true =>
  refine Ev.pos rfl (Ev.bind h1 ?_)
  rw [← h2]
  by_cases hq : r ≥ 0
  ·rw [decide_eq_true hq]
   exact Ev.pos hq (Ev.some_ (by simp))
  ·rw [decide_eq_false hq]
   refine Ev.neg hq (Ev.bindc rfl (Ev.pos (by simp; omega) (Ev.bindc rfl (Ev.pos (by simp; omega) (Ev.some_ ?_)))))
   rw [List.nil_append, Int.toNat_natCast]
   exact (if_pos ⟨rfl, rfl⟩).symm
end Go.Proofs.YthhiiceligjleaaDoor
namespace Go.Proofs.YthhiiceligjleaaDoor.P
open Go.RowKit Go.Proofs.YthhiiceligjleaaDoorW.PrintWords Go.Proofs.YthhiiceligjleaaDoorW.PrintLast Go.Proofs.YthhiiceligjleaaDoorW.PrintMore
attribute [local go_sem] qn ql qw qv qc qb qm qk
set_option linter.unusedVariables false
set_option linter.unusedSimpArgs false
mutual
def qa.l0 : Nat → List ByteArray → List (S41) → List ByteArray → Int → Int → Option (List ByteArray)
 | 0, _, _, _, _, _ => none
 | k + 1, x0, x1, x5, x12, x13 => if x13 < x12 then (qa.l1 k x0 x1 x5 x13 x12 x13 0) else (some x5)
def qa.l1 : Nat → List ByteArray → List (S41) → List ByteArray → Int → Int → Int → Int → Option (List ByteArray)
 | 0, _, _, _, _, _, _, _ => none
 | k + 1, x0, x1, x5, x6, x12, x13, x16 => if x16 < 4 then (if 0 ≤ x16 then ((qTA.f x0 x1 x6 (bt (⟨#[110, 101, 115, 119]⟩ : ByteArray) x16)).bind fun bt459 => (if bt459.2 = true then (if x5.length < 8796093022208 then (qa.l1 k x0 x1 (x5 ++ [strOfNums (([(wrap64 (48 + x6)) % 256, bt (⟨#[110, 101, 115, 119]⟩ : ByteArray) x16] : List Int))]) x6 x12 x13 (wrap64 (x16 + 1))) else (none)) else (qa.l1 k x0 x1 x5 x6 x12 x13 (wrap64 (x16 + 1))))) else (none)) else (qa.l0 k x0 x1 x5 x12 (wrap64 (x13 + 1)))
end
def qa.f (k : Nat) (l0 : List ByteArray) (l1 : List (S41)) : Option (List ByteArray) := qa.l0 k l0 l1 (([] : List ByteArray)) (l1.length : Int) 0
set_option maxHeartbeats 8000000 in
set_option maxRecDepth 100000 in
theorem qa.calls (k : Nat) (A0 : Option Addr) (c0 : Nat) (l0 : List ByteArray) (A1 : Option Addr) (c1 : Nat) (l1 : List (S41)) (r : List ByteArray) (w : World) (hr0 : Kd.C Kd.string w A0 l0.length l0) (hc0 : l0.length ≤ c0) (hr1 : Kd.C k41 w A1 l1.length l1) (hc1 : l1.length ≤ c1) (h : qa.f k l0 l1 = some r) :
  Calls Tryd.prog 23 #[.slice A0 l0.length c0, .slice A1 l1.length c1] w fun e w' => ∃ v0_ : Value, e = .returned (v0_) ∧ Kd.R Kd.string 9 w' w.heap.size (fun _ => True) v0_ r ∧ Below w.heap.size w w' := by
 have HR0 := aM hr0
 have HC0 := aM hc0
 clear hr0 hc0
 have HR1 := aM hr1
 have HC1 := aM hc1
 clear hr1 hc1
 have HB := aM (Below.refl w.heap.size w)
 have H : (qa.l0 k l0 l1 (([] : List ByteArray)) (l1.length : Int) 0) = some r := h
 clear h
 obtain ⟨y456, hy456⟩ : ∃ y_ : List ByteArray, y_ = (([] : List ByteArray)) := ⟨_, rfl⟩
 replace H : (qa.l0 k l0 l1 y456 (l1.length : Int) 0) = some r := by first | (rw [hy456]; with_reducible exact H) | (have H2_ := (Option.bind_some _ _).symm.trans H; rw [hy456]; with_reducible exact H2_) | (have H2_ := (Option.bind_some _ _).symm.trans H; with_reducible exact H2_) | with_reducible exact H | (rw [hy456]; exact H) | exact H
 have Ny456 := aM hy456
 clear hy456
 have H' := aM H
 clear H
 go_enter Tryd.func23, Tryd.ntmps23
 go_wp2_with (first | ((with_reducible refine qK (N := 10) rfl ?_); refine Kd.R_lit Kd.string _ 9 ?hg (N := 10) ?hd (xs := ([] : List ByteArray)) (inner := []) (ok := fun _ => True) (okp := fun _ => True) ?hr ?hp (fun _ hk => hk) trivial (Below.refl _ _) (Nat.le_refl _) (by simp) ?_; (case hd => rfl); (case hg => rfl); (case hr => exact gS); (case hp => exact (Reps.none _ _)); intro v457 w3 ho4 hb hg_ hnew_; clear hg_ hnew_; (first | rw [← Ny456.out] at ho4 | (simp only [Int.reduceToNat] at ho4; rw [← Ny456.out] at ho4)); have HO458 := aM (Kd.qx ho4 (qL bl)); replace HB := aM (qB bl hb); clear hb ho4))
 go_loopg [5, 13] k (fun kq v5 v13 w' => ∃ (x5_1 : List ByteArray) (x13_1 : Int), v13 = .int .i64 x13_1 ∧ Aside0 (qa.l0 kq l0 l1 x5_1 (l1.length : Int) x13_1 = some r) ∧ Aside0 (kq ≤ k) ∧ Aside0 (Kd.R Kd.string 9 w' w.heap.size (fun _ => True) v5 x5_1) ∧ Aside0 (Below w.heap.size w w'))
 case atStart => exact ⟨(y456), (0), sD, H', ⟨Nat.le_refl _⟩, ⟨rR HO458⟩, ⟨bl⟩⟩
 case round =>
  clear H'; (try clear c1); (try clear c2); (try clear p2)
  obtain ⟨x5_1, x13_1, rfl, HA, HK1, HO_5, HB⟩ := hrel
  cases gk with
  | zero => exact absurd HA.out (by simp [qa.l0])
  | succ k1 =>
   have H := HA.out
   clear HA
   simp only [qa.l0] at H
   by_cases c5 : x13_1 < (l1.length : Int)
   ·rw [if_pos c5] at H
    have c5b0 := decide_eq_true c5
    clear c5
    have H' := aM H
    clear H
    go_wp2
    go_loopg [5, 16] k1 (fun kq v5 v16 w' => ∃ (x5_2 : List ByteArray) (x16_2 : Int), v16 = .int .i64 x16_2 ∧ Aside0 (qa.l1 kq l0 l1 x5_2 x13_1 (l1.length : Int) x13_1 x16_2 = some r) ∧ Aside0 (kq ≤ k1) ∧ Aside0 (Kd.R Kd.string 9 w' w.heap.size (fun _ => True) v5 x5_2) ∧ Aside0 (Below w.heap.size w w'))
    case atStart => exact ⟨(x5_1), (0), sD, H', ⟨Nat.le_refl _⟩, ⟨rR HO_5⟩, ⟨bl⟩⟩
    case round =>
     clear H'; (try clear c1); (try clear c2); (try clear p2); (try clear c5); (try clear c5b0); (try clear p2)
     obtain ⟨x5_2, x16_2, rfl, HA, HK2, HO_5, HB⟩ := hrel
     cases gk with
     | zero => exact absurd HA.out (by simp [qa.l1])
     | succ k2 =>
      have H := HA.out
      clear HA
      simp only [qa.l1] at H
      by_cases c6 : x16_2 < 4
      ·rw [if_pos c6] at H
       have c6b0 := decide_eq_true c6
       clear c6
       by_cases c7 : 0 ≤ x16_2
       ·rw [if_pos c7] at H
        have c7b0 := decide_eq_true c7
        clear c7
        replace H := bO H
        obtain ⟨⟨t459, t460⟩, A9, H⟩ := H
        dsimp only at H A9
        by_cases c10 : t460 = true
        ·subst c10
         replace H := iT H
         obtain ⟨y463, hy463⟩ : ∃ y_ : List Int, y_ = (([(wrap64 (48 + x13_1)) % 256, bt (⟨#[110, 101, 115, 119]⟩ : ByteArray) x16_2] : List Int)) := ⟨_, rfl⟩
         replace H : (if x5_2.length < 8796093022208 then (qa.l1 k2 l0 l1 (x5_2 ++ [strOfNums y463]) x13_1 (l1.length : Int) x13_1 (wrap64 (x16_2 + 1))) else (none)) = some r := by first | (rw [hy463]; with_reducible exact H) | (have H2_ := (Option.bind_some _ _).symm.trans H; rw [hy463]; with_reducible exact H2_) | (have H2_ := (Option.bind_some _ _).symm.trans H; with_reducible exact H2_) | with_reducible exact H | (rw [hy463]; exact H) | exact H
         have Ny463 := aM hy463
         clear hy463
         by_cases c12 : x5_2.length < 8796093022208
         ·rw [if_pos c12] at H
          have LMc12 := aM c12
          clear c12
          obtain ⟨y466, hy466⟩ : ∃ y_ : List ByteArray, y_ = (x5_2 ++ [strOfNums y463]) := ⟨_, rfl⟩
          replace H : (qa.l1 k2 l0 l1 y466 x13_1 (l1.length : Int) x13_1 (wrap64 (x16_2 + 1))) = some r := by first | (rw [hy466]; with_reducible exact H) | (have H2_ := (Option.bind_some _ _).symm.trans H; rw [hy466]; with_reducible exact H2_) | (have H2_ := (Option.bind_some _ _).symm.trans H; with_reducible exact H2_) | with_reducible exact H | (rw [hy466]; exact H) | exact H
          have Ny466 := aM hy466
          clear hy466
          have H' := aM H
          clear H
          have p8 : 0 ≤ (x16_2 : Int) := of_decide_eq_true am
          have q8 : x16_2 < (4 : Int) := of_decide_eq_true am
          have hx8 := bt_at (⟨#[110, 101, 115, 119]⟩ : ByteArray) x16_2
          replace p8 := eq_true p8
          replace q8 := eq_true q8
          go_wp2_with (first | ((with_reducible refine qJ (f := 24) rfl ?_); refine qr (some 25) rfl rfl Tryd.func24 (by kernel_rfl) rfl #[.slice A0 l0.length c0, .slice A1 l1.length c1, .int .i64 x13_1, .int .u8 (bt (⟨#[110, 101, 115, 119]⟩ : ByteArray) x16_2)] rfl gA ?_; (with_reducible refine (qTA.calls _ _ l0 _ _ l1 x13_1 (bt (⟨#[110, 101, 115, 119]⟩ : ByteArray) x16_2) t459 true _ ?side1 ?side2 ?side3 ?side4 A9.out).mono ?_); (case side1 => repeat (first | exact (Kd.qg HR0.out HB.out) | (with_reducible refine Kd.qW ?_ _) | (with_reducible refine Kd.qV ?_ _) | (with_reducible refine Kd.qe ?_))); (case side2 => exact HC0.out); (case side3 => repeat (first | exact (Kd.qg HR1.out HB.out) | (with_reducible refine Kd.qW ?_ _) | (with_reducible refine Kd.qV ?_ _) | (with_reducible refine Kd.qe ?_))); (case side4 => exact HC1.out); rintro e w13 ⟨v461, rfl, ho0, hb⟩; refine ⟨_, rfl, ?_⟩; have HO462 := aM (Kd.qx ho0 (qL bl)); replace HO_5 := aM (Kd.qd (rR HO_5) hb); replace HB := aM (qB bl hb); (try clear hb); (try clear hb2); (try clear hk); (try clear hi); (try clear ho0); have p11 : 0 ≤ (x16_2 : Int) := of_decide_eq_true am; have q11 : x16_2 < (4 : Int) := of_decide_eq_true am; have hx11 := bt_at (⟨#[110, 101, 115, 119]⟩ : ByteArray) x16_2; replace p11 := eq_true p11; replace q11 := eq_true q11) | ((with_reducible refine qK (N := 35) rfl ?_); refine Kd.R_lit (Kd.int .u8) _ 5 ?hg (N := 35) ?hd (xs := ([(wrap64 (48 + x13_1)) % 256, bt (⟨#[110, 101, 115, 119]⟩ : ByteArray) x16_2] : List Int)) (inner := [.int .u8 ((wrap64 (48 + x13_1)) % 256), .int .u8 (bt (⟨#[110, 101, 115, 119]⟩ : ByteArray) x16_2)]) (ok := fun _ => True) (okp := fun _ => True) ?hr ?hp (fun _ hk => hk) trivial (Below.refl _ _) (Nat.le_refl _) (by simp) ?_; (case hd => rfl); (case hg => rfl); (case hr => exact gS); (case hp => exact (Reps.one (show Kd.M (Kd.int .u8) _ _ _ ((wrap64 (48 + x13_1)) % 256) [.int .u8 ((wrap64 (48 + x13_1)) % 256)] from rfl) (Reps.one (show Kd.M (Kd.int .u8) _ _ _ (bt (⟨#[110, 101, 115, 119]⟩ : ByteArray) x16_2) [.int .u8 (bt (⟨#[110, 101, 115, 119]⟩ : ByteArray) x16_2)] from rfl) (Reps.none _ _)))); intro v464 w14 ho15 hb hg_ hnew_; clear hg_ hnew_; (first | rw [← Ny463.out] at ho15 | (simp only [Int.reduceToNat] at ho15; rw [← Ny463.out] at ho15)); have HO465 := aM (Kd.qx ho15 (qL bl)); replace HO_5 := aM (Kd.qd (rR HO_5) hb); replace HO462 := aM (Kd.qd (rR HO462) hb); replace HB := aM (qB bl hb); clear hb ho15; have hcv16 := qJC (P := Tryd.prog) Tryd.underlying30 Tryd.underlying5 Tryd.underlying9 (Kd.qRC HO465.out)) | ((with_reducible refine qpA (b := .append) (xs := #[.tmp 29, .tmp 37]) rfl ?_); at_builtin; refine Kd.qRD Kd.string (w0 := w) w.heap.size rfl (.tmp 29) (.tmp 37) 51 9 (.string ⟨#[]⟩) 16 rfl Tryd.underlying51 info9 rfl (by decide) (by omega) u5 x5_2 (strOfNums y463) [.string (strOfNums y463)] (fun _ => True) (fun _ => False) rfl rfl ?aP (fun _ hk => hk.elim) ?aF ?aO ?aB ?aS ?aL ?_; (case aP => exact rfl); (case aB => exact bl); (case aF => exact (fun _ _ => trivial)); (case aO => exact (rR HO_5)); (case aS => exact (qL bl)); (case aL => have := LMc12.out; omega); intro v467 w17 ho hb hg hat; rw [← Ny466.out] at ho; have HO468 := aM (ho); replace HO462 := aM (Kd.qMB (rR HO462) (Kd.qyA (rR HO_5)) (by decide) hg); replace HO465 := aM (Kd.qMB (rR HO465) (Kd.qyA (rR HO_5)) (by decide) hg); replace HB := aM (hb); clear HO_5; clear ho hb hg hat))
          go_roundg k2
          case measure => have := HK1.out; have := HK2.out; omega
          case rel => exact ⟨(y466), (wrap64 (x16_2 + 1)), sD, H', ⟨by have := HK1.out; have := HK2.out; omega⟩, ⟨rR HO468⟩, ⟨bl⟩⟩
         ·rw [if_neg c12] at H
          exact absurd H (by simp)
        ·replace c10 := Bool.eq_false_iff.mpr c10
         subst c10
         replace H := iF H
         have H' := aM H
         clear H
         have p8 : 0 ≤ (x16_2 : Int) := of_decide_eq_true am
         have q8 : x16_2 < (4 : Int) := of_decide_eq_true am
         have hx8 := bt_at (⟨#[110, 101, 115, 119]⟩ : ByteArray) x16_2
         replace p8 := eq_true p8
         replace q8 := eq_true q8
         go_wp2_with (first | ((with_reducible refine qJ (f := 24) rfl ?_); refine qr (some 25) rfl rfl Tryd.func24 (by kernel_rfl) rfl #[.slice A0 l0.length c0, .slice A1 l1.length c1, .int .i64 x13_1, .int .u8 (bt (⟨#[110, 101, 115, 119]⟩ : ByteArray) x16_2)] rfl gA ?_; (with_reducible refine (qTA.calls _ _ l0 _ _ l1 x13_1 (bt (⟨#[110, 101, 115, 119]⟩ : ByteArray) x16_2) t459 false _ ?side1 ?side2 ?side3 ?side4 A9.out).mono ?_); (case side1 => repeat (first | exact (Kd.qg HR0.out HB.out) | (with_reducible refine Kd.qW ?_ _) | (with_reducible refine Kd.qV ?_ _) | (with_reducible refine Kd.qe ?_))); (case side2 => exact HC0.out); (case side3 => repeat (first | exact (Kd.qg HR1.out HB.out) | (with_reducible refine Kd.qW ?_ _) | (with_reducible refine Kd.qV ?_ _) | (with_reducible refine Kd.qe ?_))); (case side4 => exact HC1.out); rintro e w18 ⟨v461, rfl, ho0, hb⟩; refine ⟨_, rfl, ?_⟩; have HO462 := aM (Kd.qx ho0 (qL bl)); replace HO_5 := aM (Kd.qd (rR HO_5) hb); replace HB := aM (qB bl hb); (try clear hb); (try clear hb2); (try clear hk); (try clear hi); (try clear ho0)))
         go_roundg k2
         case measure => have := HK1.out; have := HK2.out; omega
         case rel => exact ⟨(x5_2), (wrap64 (x16_2 + 1)), sD, H', ⟨by have := HK1.out; have := HK2.out; omega⟩, ⟨rR HO_5⟩, ⟨bl⟩⟩
       ·rw [if_neg c7] at H
        exact absurd H (by simp)
      ·rw [if_neg c6] at H
       have c6b0 := decide_eq_false c6
       clear c6
       have H' := aM H
       clear H
       go_wp2
       go_roundg k2
       case measure => have := HK1.out; have := HK2.out; omega
       case rel => exact ⟨(x5_2), (wrap64 (x13_1 + 1)), sD, H', ⟨by have := HK1.out; have := HK2.out; omega⟩, ⟨rR HO_5⟩, ⟨bl⟩⟩
   ·rw [if_neg c5] at H
    have c5b0 := decide_eq_false c5
    clear c5
    obtain rfl := Option.some.inj H
    go_wp2
    go_ret
    exact ⟨_, sR, by (with_reducible repeat (first | apply Kd.qO | apply Kd.qQ | apply Kd.qS)); exact HO_5.out, bl⟩
end Go.Proofs.YthhiiceligjleaaDoor.P
namespace Go.Proofs.YthhiiceligjleaaDoor
open Go.RowKit Go.Proofs.YthhiiceligjleaaDoor.P Go.Proofs.YthhiiceligjleaaDoorW.PrintWords Go.Proofs.YthhiiceligjleaaDoorW.PrintLast
set_option linter.unusedVariables false
set_option linter.unusedSimpArgs false
def dirsT : ByteArray := ⟨#[110, 101, 115, 119]⟩
def signN (k i : Nat) : ByteArray := strOfNums [48 + (k : Int), bt dirsT (i : Int)]
theorem dOf_bt (i : Nat) (h : i < 4) : dOf (bt dirsT (i : Int)) = (i : Int) := by
 have : i = 0 ∨ i = 1 ∨ i = 2 ∨ i = 3 := by omega
 rcases this with rfl | rfl | rfl | rfl <;> decide +kernel
theorem sign_spec (k i : Nat) (hk : k < 3) (hi : i < 4) : Ev (fun n => qaB.f n (k : Int) (i : Int)) (signN k i) := by
 have h1 : i = 0 ∨ i = 1 ∨ i = 2 ∨ i = 3 := by omega
 have h2 : k = 0 ∨ k = 1 ∨ k = 2 := by omega
 refine Ev.at_ 1 fun n => ?_
 unfold qaB.f
 rw [qSA.f, if_pos (by omega)]
 rcases h2 with rfl | rfl | rfl <;> rcases h1 with rfl | rfl | rfl | rfl <;> decide +kernel
theorem sign_size (k i : Nat) : (signN k i).size = 2 := rfl
theorem qlD (k i : Nat) (hk : k < 3) (hi : i < 4) : (bt (signN k i) 0 - 48) % 256 = (k : Int) := by
 have h1 : i = 0 ∨ i = 1 ∨ i = 2 ∨ i = 3 := by omega
 have h2 : k = 0 ∨ k = 1 ∨ k = 2 := by omega
 rcases h2 with rfl | rfl | rfl <;> rcases h1 with rfl | rfl | rfl | rfl <;> decide +kernel
def mv1 (a : ByteArray) (l : List XS) (k i : Nat) : List ByteArray := if (moveB a l k (i : Int)).2 = true then [signN k i] else []
def mvK (a : ByteArray) (l : List XS) (k : Nat) : List ByteArray := mv1 a l k 0 ++ (mv1 a l k 1 ++ (mv1 a l k 2 ++ mv1 a l k 3))
def mvs (a : ByteArray) (l : List XS) : Nat → Nat → List ByteArray
 | _, 0 => []
 | k, d + 1 => mvK a l k ++ mvs a l (k + 1) d
theorem qXC (a : ByteArray) (l : List XS) (k i : Nat) : (mv1 a l k i).length ≤ 1 := by
 unfold mv1; split <;> simp
theorem mvK_len (a : ByteArray) (l : List XS) (k : Nat) : (mvK a l k).length ≤ 4 := by
 have h0 := qXC a l k 0
 have h1 := qXC a l k 1
 have h2 := qXC a l k 2
 have h3 := qXC a l k 3
 unfold mvK
 simp only [List.length_append]; omega
theorem mvs_len (a : ByteArray) (l : List XS) (d : Nat) : ∀ k, (mvs a l k d).length ≤ 4 * d := by
 induction d with
 | zero => intro k; simp [mvs]
 | succ d ih =>
  intro k
  have := ih (k + 1)
  have h := mvK_len a l k
  unfold mvs
  simp only [List.length_append]; omega
theorem qfC {a : ByteArray} (g : Gnd a) (l : List XS) (hl : l.length ≤ 3) (k : Nat) (hk : k < l.length) (i : Nat) (hi : i < 4) (out : List ByteArray) (ho : out.length ≤ 1000) (r : List ByteArray)
  (h : Ev (fun n => qa.l1 n (rowsT a) l (out ++ mv1 a l k i) (k : Int) (l.length : Int) (k : Int) ((i + 1 : Nat) : Int)) r) :
  Ev (fun n => qa.l1 n (rowsT a) l out (k : Int) (l.length : Int) (k : Int) (i : Int)) r := by
 have w : wrap64 ((i : Int) + 1) = ((i + 1 : Nat) : Int) := by unfold wrap64; omega
 have w2 : wrap64 (48 + (k : Int)) % 256 = 48 + (k : Int) := by unfold wrap64; omega
 refine Ev.step (f := fun n => _) (fun n => by rw [qa.l1]) (Ev.pos (by omega) (Ev.pos (by omega) (Ev.bindc (implMove_eq g l (by omega) k _) ?_)))
 rw [w, w2, show dOf (bt (⟨#[110, 101, 115, 119]⟩ : ByteArray) (i : Int)) = (i : Int) from dOf_bt i hi]
 unfold mv1 at h
 cases hm : (moveB a l k (i : Int)).2 with
 | true =>
  rw [hm, if_pos rfl] at h
  exact Ev.pos rfl (Ev.pos (by omega) h)
 | false =>
  rw [hm, if_neg (by decide), List.append_nil] at h
  exact Ev.neg (by decide) h
theorem moves_loop {a : ByteArray} (g : Gnd a) (l : List XS) (hl : l.length ≤ 3) (d : Nat) : ∀ (k : Nat) (out : List ByteArray), k ≤ l.length → l.length - k = d → out.length ≤ 100 * k →
  Ev (fun n => qa.l0 n (rowsT a) l out (l.length : Int) (k : Int)) (out ++ mvs a l k d) := by
 induction d with
 | zero =>
  intro k out hk hd ho
  refine Ev.step (f := fun n => _) (fun n => by rw [qa.l0]) (Ev.neg (by omega) (Ev.some_ ?_))
  simp [mvs]
 | succ d ih =>
  intro k out hk hd ho
  have h : k < l.length := by omega
  have w : wrap64 ((k : Int) + 1) = ((k + 1 : Nat) : Int) := by unfold wrap64; omega
  have h0 := qXC a l k 0
  have h1 := qXC a l k 1
  have h2 := qXC a l k 2
  have h3 := qXC a l k 3
  have hn := ih (k + 1) (out ++ mvK a l k) (by omega) (by omega) (by have := mvK_len a l k; simp only [List.length_append]; omega)
  refine Ev.step (f := fun n => _) (fun n => by rw [qa.l0]) (Ev.pos (by omega) ?_)
  refine qfC g l hl k h 0 (by omega) _ (by omega) _ (qfC g l hl k h 1 (by omega) _ (by simp only [List.length_append]; omega) _ (qfC g l hl k h 2 (by omega) _ (by simp only [List.length_append]; omega) _ (qfC g l hl k h 3 (by omega) _ (by simp only [List.length_append]; omega) _ ?_)))
  refine Ev.step (f := fun n => _) (fun n => by rw [qa.l1]) (Ev.neg (by omega) ?_)
  rw [w]
  unfold mvs
  unfold mvK at hn
  simpa only [mvK, List.append_assoc] using hn
theorem moves_ev {a : ByteArray} (g : Gnd a) (l : List XS) (hl : l.length ≤ 3) : Ev (fun n => qa.f n (rowsT a) l) (mvs a l 0 l.length) := by
 have := moves_loop g l hl l.length 0 [] (by omega) (by omega) (by simp)
 rwa [List.nil_append] at this
end Go.Proofs.YthhiiceligjleaaDoor
set_option linter.unusedSectionVars false
namespace Go.Proofs.YthhiiceligjleaaDoor.Bfs
section
variable {α β : Type} [DecidableEq α]
def put (L : List (α × β)) (y : Option α) (p : β) : List (α × β) := match y with
 | none => L
 | some y => if y ∈ L.map Prod.fst then L else L ++ [(y, p)]
def puts (L : List (α × β)) : List (Option α × β) → List (α × β)
 | [] => L
 | (y, p) :: r => puts (put L y p) r
variable (next : Nat → α → β → List (Option α × β))
def round (i : Nat) (L : List (α × β)) : List (α × β) := match L[i]? with
 | none => L
 | some x => puts L (next i x.1 x.2)
def run : Nat → Nat → List (α × β) → List (α × β)
 | 0, _, L => L
 | n + 1, i, L => if i < L.length then run n (i + 1) (round next i L) else L
theorem qoD {L : List (α × β)} {y : α} (h : y ∈ L.map Prod.fst) (p : β) : put L (some y) p = L := if_pos h
theorem qnD {L : List (α × β)} {y : α} (h : ¬ y ∈ L.map Prod.fst) (p : β) : put L (some y) p = L ++ [(y, p)] := if_neg h
theorem put_prefix (L : List (α × β)) (y : Option α) (p : β) : L <+: put L y p := by
 unfold put
 split
 ·exact List.prefix_refl _
 ·split
  ·exact List.prefix_refl _
  ·exact List.prefix_append _ _
theorem puts_prefix (l : List (Option α × β)) : ∀ L : List (α × β), L <+: puts L l := by
 induction l with
 | nil => intro L; exact List.prefix_refl _
 | cons x l ih => intro L; exact (put_prefix L x.1 x.2).trans (ih _)
theorem qWC (i : Nat) (L : List (α × β)) : L <+: round next i L := by
 unfold round
 split
 ·exact List.prefix_refl _
 ·exact puts_prefix _ _
theorem qcC : ∀ (n i : Nat) (L : List (α × β)), L <+: run next n i L
 | 0, _, L => List.prefix_refl _
 | n + 1, i, L => by
  unfold run
  split
  ·exact (qWC next i L).trans (qcC n (i + 1) _)
  ·exact List.prefix_refl _
theorem put_nodup {L : List (α × β)} (h : (L.map Prod.fst).Nodup) (y : Option α) (p : β) : ((put L y p).map Prod.fst).Nodup := by
 unfold put
 split
 ·exact h
 ·rename_i y
  split
  ·exact h
  ·rename_i hy
   rw [List.map_append, List.nodup_append]
   refine ⟨h, by simp, ?_⟩
   intro a ha b hb e
   simp at hb
   subst hb
   subst e
   exact hy ha
theorem puts_nodup (l : List (Option α × β)) : ∀ {L : List (α × β)}, (L.map Prod.fst).Nodup → ((puts L l).map Prod.fst).Nodup := by
 induction l with
 | nil => intro L h; exact h
 | cons x l ih => intro L h; exact ih (put_nodup h _ _)
theorem round_nodup {L : List (α × β)} (h : (L.map Prod.fst).Nodup) (i : Nat) : ((round next i L).map Prod.fst).Nodup := by
 unfold round
 split
 ·exact h
 ·exact puts_nodup _ h
theorem run_nodup : ∀ (n i : Nat) {L : List (α × β)}, (L.map Prod.fst).Nodup → ((run next n i L).map Prod.fst).Nodup
 | 0, _, L, h => h
 | n + 1, i, L, h => by
  unfold run
  split
  ·exact run_nodup n (i + 1) (round_nodup next h i)
  ·exact h
theorem put_all {Q : α × β → Prop} {L : List (α × β)} (h : ∀ x ∈ L, Q x) (y : Option α) (p : β) (hy : ∀ z, y = some z → Q (z, p)) : ∀ x ∈ put L y p, Q x := by
 unfold put
 split
 ·exact h
 ·rename_i z
  split
  ·exact h
  ·intro x hx
   rcases List.mem_append.1 hx with hx | hx
   ·exact h x hx
   ·simp at hx; subst hx; exact hy z rfl
theorem qmD {Q : α × β → Prop} : ∀ (l : List (Option α × β)) {L : List (α × β)}, (∀ x ∈ L, Q x) → (∀ s ∈ l, ∀ z, s.1 = some z → Q (z, s.2)) → ∀ x ∈ puts L l, Q x
 | [], L, h, _ => h
 | s :: l, L, h, hs => qmD l (put_all h s.1 s.2 (hs s (by simp))) (fun t ht => hs t (by simp [ht]))
theorem round_all {Q : α × β → Prop} (hn : ∀ i x p, Q (x, p) → ∀ s ∈ next i x p, ∀ z, s.1 = some z → Q (z, s.2)) (i : Nat) {L : List (α × β)} (h : ∀ x ∈ L, Q x) : ∀ x ∈ round next i L, Q x := by
 unfold round
 split
 ·exact h
 ·rename_i x hx
  exact qmD _ h (hn i x.1 x.2 (h x (List.mem_of_getElem? hx)))
theorem run_all {Q : α × β → Prop} (hn : ∀ i x p, Q (x, p) → ∀ s ∈ next i x p, ∀ z, s.1 = some z → Q (z, s.2)) : ∀ (n i : Nat) {L : List (α × β)}, (∀ x ∈ L, Q x) → ∀ x ∈ run next n i L, Q x
 | 0, _, L, h => h
 | n + 1, i, L, h => by
  unfold run
  split
  ·exact run_all hn n (i + 1) (round_all next hn i h)
  ·exact h
theorem nodup_len {U : List α} : ∀ {l : List α}, l.Nodup → (∀ x ∈ l, x ∈ U) → l.length ≤ U.length := by
 intro l
 induction l generalizing U with
 | nil => intro _ _; simp
 | cons a l ih =>
  intro hn hu
  obtain ⟨h1, h2⟩ := List.nodup_cons.1 hn
  have ha : a ∈ U := hu a (by simp)
  have := ih (U := U.erase a) h2 (fun x hx => by
   have hne : x ≠ a := fun e => h1 (e ▸ hx)
   exact (List.mem_erase_of_ne hne).2 (hu x (by simp [hx])))
  rw [List.length_erase_of_mem ha] at this
  have : 0 < U.length := List.length_pos_of_mem ha
  simp only [List.length_cons]
  omega
theorem run_stop : ∀ (n i : Nat) {L : List (α × β)}, L.length ≤ i → run next n i L = L
 | 0, _, _, _ => rfl
 | n + 1, i, L, h => by unfold run; rw [if_neg (by omega)]
theorem put_mem (L : List (α × β)) (y : α) (p : β) : y ∈ (put L (some y) p).map Prod.fst := by
 unfold put
 split
 ·cases ‹some y = none›
 ·rename_i z hz
  cases hz
  split
  ·assumption
  ·simp
theorem qID {L M : List (α × β)} (h : L <+: M) {y : α} (hy : y ∈ L.map Prod.fst) : y ∈ M.map Prod.fst := by
 obtain ⟨t, rfl⟩ := h
 rw [List.map_append]
 exact List.mem_append_left _ hy
theorem puts_mem : ∀ (l : List (Option α × β)) (L : List (α × β)) (s : Option α × β), s ∈ l → ∀ z, s.1 = some z → z ∈ (puts L l).map Prod.fst
 | [], _, _, h, _, _ => by cases h
 | t :: l, L, s, h, z, hz => by
  rcases List.mem_cons.1 h with rfl | h
  ·have := put_mem L z s.2
   rw [← hz] at this
   exact qID (puts_prefix l _) this
  ·exact puts_mem l _ s h z hz
theorem run_closed : ∀ (n i : Nat) (L : List (α × β)) (N : Nat), (∀ m, (run next m i L).length ≤ N) → N ≤ i + n →
  ∀ (j : Nat), i ≤ j → ∀ x, (run next n i L)[j]? = some x → ∀ s ∈ next j x.1 x.2, ∀ z, s.1 = some z → z ∈ (run next n i L).map Prod.fst
 | 0, i, L, N, hN, hn, j, hj, x, hx, s, hs, z, hz => by
  have := hN 0
  unfold run at this hx
  have := (List.getElem?_eq_some_iff.1 hx).1
  omega
 | n + 1, i, L, N, hN, hn, j, hj, x, hx, s, hs, z, hz => by
  by_cases hi : i < L.length
  ·have e : run next (n + 1) i L = run next n (i + 1) (round next i L) := by rw [run, if_pos hi]
   rw [e] at hx ⊢
   by_cases hji : j = i
   ·subst hji
    have hp := (qWC next j L).trans (qcC next n (j + 1) (round next j L))
    obtain ⟨t, ht⟩ := hp
    rw [← ht, List.getElem?_append_left hi] at hx
    have hr : round next j L = puts L (next j x.1 x.2) := by unfold round; rw [hx]
    have hm := puts_mem (next j x.1 x.2) L s hs z hz
    rw [← hr] at hm
    exact qID (qcC next n (j + 1) _) hm
   ·refine run_closed n (i + 1) (round next i L) N (fun m => ?_) (by omega) j (by omega) x hx s hs z hz
    have := hN (m + 1)
    rw [run, if_pos hi] at this
    exact this
  ·rw [run_stop next _ _ (by omega)] at hx
   have := (List.getElem?_eq_some_iff.1 hx).1
   omega
end
end Go.Proofs.YthhiiceligjleaaDoor.Bfs
