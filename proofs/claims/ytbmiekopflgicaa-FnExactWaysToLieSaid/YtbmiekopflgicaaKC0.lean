/- A part of the proofs of the rows of this seat: functions that all reach. -/
import Derived.Test.YtbmiekopflgicaaKB0
import Derived.Test.YtbmiekopflgicaaProg
import Derived.Below
import Derived.Deep.Draws
import Derived.Deep.AppendLies
import Derived.Maps.AppendAt
import Derived.OwnWalk
import Derived.Laws.BytesArg
import Derived.Laws.MakeOwn
import Derived.Laws.OwnMore
import Derived.Deep.OwnRows
import Derived.Tactics
import Derived.Lib.ConvBytes
import Derived.Laws.Slices
import Derived.WalkKit
import Derived.KernelRfl
import Derived.RowKit3
import Derived.Deep.LoopGhost
import Derived.Deep.QuietTactic
import Derived.BigQuiet
import Derived.WideLaws
import Derived.Deep.DeepCutAuto
import Derived.Deep.CutBlock
import Derived.Deep.RegionHeld3
import Derived.Laws.Rows
import Derived.Lib.AppendStr
import Derived.ArgAppend
import Derived.Laws.IdiomCopy
import Derived.OrdersHeld
import Derived.Laws.BitsLemmas
import Derived.RowKit

namespace Go.Proofs.Ytbmiekopflgicaa.P
open Go.RowKit Go.Proofs.YtbmiekopflgicaaW.PrintWords Go.Proofs.YtbmiekopflgicaaW.PrintLast Go.Proofs.YtbmiekopflgicaaW.PrintMore
attribute [local go_sem] qn ql qx qw qh qg qm qk
set_option linter.unusedVariables false
set_option linter.unusedSimpArgs false
def errW : Option Int → Value
 | none => .nilIface
 | some c => .iface 0 (.int .i64 c)
theorem qP : errW none = .nilIface := rfl
theorem qO (c : Int) : errW (some c) = .iface 0 (.int .i64 c) := rfl
theorem info9 : (Try.prog.info? 9).map (fun i => (i.zero, i.size, i.bytes)) = some (some (.string ⟨#[]⟩), 1, 16) := by kernel_rfl
theorem info29 : (Try.prog.info? 29).map (fun i => (i.zero, i.size, i.bytes)) = some (some (.agg #[(.int .i64 0), (.int .i64 0), (.int .i64 0), (.int .i64 0), (.int .i64 0), (.int .i64 0)]), 6, 48) := by kernel_rfl
structure S25 where
 f0 : Int
 f1 : Int
 f2 : Int
 f3 : Int
 f4 : Int
 f5 : Int
def z25 : S25 := ⟨(0 : Int), (0 : Int), (0 : Int), (0 : Int), (0 : Int), (0 : Int)⟩
structure S29 where
 f0 : Int
 f1 : Int
 f2 : Int
 f3 : Int
 f4 : Int
 f5 : Int
def z29 : S29 := ⟨(0 : Int), (0 : Int), (0 : Int), (0 : Int), (0 : Int), (0 : Int)⟩
def k29 : Kd S29 := Kd.iso (Kd.pair (Kd.int .i64) (Kd.pair (Kd.int .i64) (Kd.pair (Kd.int .i64) (Kd.pair (Kd.int .i64) (Kd.pair (Kd.int .i64) (Kd.int .i64)))))) (fun x : S29 => (x.f0, x.f1, x.f2, x.f3, x.f4, x.f5))
theorem k29_open {w : World} {x : S29} {cs : List Value} (h : k29.K w x cs) : cs = [.int .i64 x.f0, .int .i64 x.f1, .int .i64 x.f2, .int .i64 x.f3, .int .i64 x.f4, .int .i64 x.f5] := by
 obtain ⟨_, _, rfl, rfl, ⟨_, _, rfl, rfl, ⟨_, _, rfl, rfl, ⟨_, _, rfl, rfl, ⟨_, _, rfl, rfl, rfl⟩⟩⟩⟩⟩ := h
 exact rfl
theorem qaA {w : World} {base : Nat} {ok : Nat → Prop} {x : S29} {cs : List Value} (h : k29.M w base ok x cs) : cs = [.int .i64 x.f0, .int .i64 x.f1, .int .i64 x.f2, .int .i64 x.f3, .int .i64 x.f4, .int .i64 x.f5] := by
 obtain ⟨_, _, rfl, rfl, ⟨_, _, rfl, rfl, ⟨_, _, rfl, rfl, ⟨_, _, rfl, rfl, ⟨_, _, rfl, rfl, rfl⟩⟩⟩⟩⟩ := h
 exact rfl
theorem qdA (w : World) (base : Nat) (ok : Nat → Prop) (x : S29)  : k29.M w base ok x [.int .i64 x.f0, .int .i64 x.f1, .int .i64 x.f2, .int .i64 x.f3, .int .i64 x.f4, .int .i64 x.f5] := ⟨[.int .i64 x.f0], [.int .i64 x.f1, .int .i64 x.f2, .int .i64 x.f3, .int .i64 x.f4, .int .i64 x.f5], rfl, rfl, ⟨[.int .i64 x.f1], [.int .i64 x.f2, .int .i64 x.f3, .int .i64 x.f4, .int .i64 x.f5], rfl, rfl, ⟨[.int .i64 x.f2], [.int .i64 x.f3, .int .i64 x.f4, .int .i64 x.f5], rfl, rfl, ⟨[.int .i64 x.f3], [.int .i64 x.f4, .int .i64 x.f5], rfl, rfl, ⟨[.int .i64 x.f4], [.int .i64 x.f5], rfl, rfl, rfl⟩⟩⟩⟩⟩
def qB (xs : List S29) (i : Int) : S29 := xs.getD i.toNat z29
theorem qOA {w : World} {A : Option Addr} {n : Nat} {xs : List S29} (h : Kd.C k29 w A n xs) (i : Int) (h0 : 0 ≤ i) (h1 : i < n) : ∃ ad , A = some ad ∧ w.cell? (ad.add (i.toNat * 6)) = some (.int .i64 (qB xs i).f0) ∧ w.cell? ⟨(ad.add (i.toNat * 6)).block, (ad.add (i.toNat * 6)).off + 1, none⟩ = some (.int .i64 (qB xs i).f1) ∧ w.cell? ⟨(ad.add (i.toNat * 6)).block, (ad.add (i.toNat * 6)).off + 2, none⟩ = some (.int .i64 (qB xs i).f2) ∧ w.cell? ⟨(ad.add (i.toNat * 6)).block, (ad.add (i.toNat * 6)).off + 3, none⟩ = some (.int .i64 (qB xs i).f3) ∧ w.cell? ⟨(ad.add (i.toNat * 6)).block, (ad.add (i.toNat * 6)).off + 4, none⟩ = some (.int .i64 (qB xs i).f4) ∧ w.cell? ⟨(ad.add (i.toNat * 6)).block, (ad.add (i.toNat * 6)).off + 5, none⟩ = some (.int .i64 (qB xs i).f5) := by
 obtain ⟨ad, c, e, _, hK, hc0⟩ := Kd.C_get h z29 i h0 h1
 have hc : ∀ j u, c[j]? = some u → w.cell? (ad.add (i.toNat * 6 + j)) = some u := hc0
 obtain rfl := k29_open hK
 exact ⟨ad, e, hc 0 _ rfl, by rw [← qLB _ _ 1 (by omega)]; exact hc 1 _ rfl, by rw [← qLB _ _ 2 (by omega)]; exact hc 2 _ rfl, by rw [← qLB _ _ 3 (by omega)]; exact hc 3 _ rfl, by rw [← qLB _ _ 4 (by omega)]; exact hc 4 _ rfl, by rw [← qLB _ _ 5 (by omega)]; exact hc 5 _ rfl⟩
def qd.f (a0_0 : Int) (a0_1 : Int) (a0_2 : Int) (a0_3 : Int) (a0_4 : Int) (a0_5 : Int) : Option (Int × Int × Int × Int × Int × Int) := some (a0_0, a0_1, a0_2, a0_3, a0_4, a0_5)
set_option maxHeartbeats 8000000 in
set_option maxRecDepth 100000 in
theorem qd.calls (a0_0 : Int) (a0_1 : Int) (a0_2 : Int) (a0_3 : Int) (a0_4 : Int) (a0_5 : Int) (r1 : Int) (r2 : Int) (r3 : Int) (r4 : Int) (r5 : Int) (r6 : Int) (w : World) (h : qd.f a0_0 a0_1 a0_2 a0_3 a0_4 a0_5 = some (r1, r2, r3, r4, r5, r6)) :
  Calls Try.prog 12 #[.agg #[.int .i64 a0_0, .int .i64 a0_1, .int .i64 a0_2, .int .i64 a0_3, .int .i64 a0_4, .int .i64 a0_5]] w fun e w' => e = .returned (.agg #[.int .i64 r1, .int .i64 r2, .int .i64 r3, .int .i64 r4, .int .i64 r5, .int .i64 r6]) ∧ Below w.heap.size w w' := by
 have hu25 := Try.underlying25
 have hu29 := Try.underlying29
 have HB := Aside0.mk (Below.refl w.heap.size w)
 have H : (some (a0_0, a0_1, a0_2, a0_3, a0_4, a0_5)) = some (r1, r2, r3, r4, r5, r6) := h
 clear h
 simp only [Option.some.injEq, Prod.mk.injEq] at H
 obtain ⟨rfl, rfl, rfl, rfl, rfl, rfl⟩ := H
 go_enter Try.func12, Try.ntmps12
 go_wp2_with (first | ((with_reducible refine qU (N := 1) rfl ?_); refine qS ?hg (N := 1) ?hd (cs := #[.int .i64 a0_0, .int .i64 a0_1, .int .i64 a0_2, .int .i64 a0_3, .int .i64 a0_4, .int .i64 a0_5]) (t := 25) ?hr ?_; (case hd => rfl); (case hg => rfl); (case hr => first | (go_simp; done) | (go_simp; rfl)); intro gb178 hg w2 hbox hb; have n0_ := Aside0.mk (qF bl hb); have n1_ := Aside0.mk (hbox); have n2_ := Aside0.mk ((gg hg)); have n3_ := Aside0.mk ((gg hg)); clear HB; have HB := n0_; have BK178 := n1_; have GW178 := n2_; have GE178 := n3_; clear n0_ n1_ n2_ n3_; clear hb hbox hg) | ((with_reducible refine qU (N := 2) rfl ?_); refine qS ?hg (N := 2) ?hd (cs := #[.int .i64 0, .int .i64 0, .int .i64 0, .int .i64 0, .int .i64 0, .int .i64 0]) (t := 29) ?hr ?_; (case hd => rfl); (case hg => rfl); (case hr => first | (go_simp; done) | (go_simp; rfl)); intro gb179 hg w3 hbox hb; have n0_ := Aside0.mk (bb BK178 hb); have n1_ := Aside0.mk (qF bl hb); have n2_ := Aside0.mk (hbox); have n3_ := Aside0.mk ((gg hg)); have n4_ := Aside0.mk ((gg hg)); have n5_ := Aside0.mk ((nl BK178 hg)); have n6_ := Aside0.mk ((nr BK178 hg)); clear BK178; clear HB; have BK178 := n0_; have HB := n1_; have BK179 := n2_; have GW179 := n3_; have GE179 := n4_; have NB178_179 := n5_; have NB179_178 := n6_; clear n0_ n1_ n2_ n3_ n4_ n5_ n6_; clear hb hbox hg) | ((with_reducible refine qU (N := 3) rfl ?_); refine qS ?hg (N := 3) ?hd (cs := #[.int .i64 0, .int .i64 0, .int .i64 0, .int .i64 0, .int .i64 0, .int .i64 0]) (t := 29) ?hr ?_; (case hd => rfl); (case hg => rfl); (case hr => first | (go_simp; done) | (go_simp; rfl)); intro gb180 hg w4 hbox hb; have n0_ := Aside0.mk (bb BK178 hb); have n1_ := Aside0.mk (bb BK179 hb); have n2_ := Aside0.mk (qF bl hb); have n3_ := Aside0.mk (hbox); have n4_ := Aside0.mk ((gg hg)); have n5_ := Aside0.mk ((gg hg)); have n6_ := Aside0.mk ((nl BK178 hg)); have n7_ := Aside0.mk ((nr BK178 hg)); have n8_ := Aside0.mk ((nl BK179 hg)); have n9_ := Aside0.mk ((nr BK179 hg)); clear BK178; clear BK179; clear HB; have BK178 := n0_; have BK179 := n1_; have HB := n2_; have BK180 := n3_; have GW180 := n4_; have GE180 := n5_; have NB178_180 := n6_; have NB180_178 := n7_; have NB179_180 := n8_; have NB180_179 := n9_; clear n0_ n1_ n2_ n3_ n4_ n5_ n6_ n7_ n8_ n9_; clear hb hbox hg; have hnb5 := NB178_179.out; have hnc5 := NB179_178.out; have hnb6 := NB178_180.out; have hnc6 := NB180_178.out; have hcz7_0 := bc BK178 0; have hcz7_1 := bc BK178 1; have hcz7_2 := bc BK178 2; have hcz7_3 := bc BK178 3; have hcz7_4 := bc BK178 4; have hcz7_5 := bc BK178 5; have hfz7_0 := qA BK178.out 0; have hfz7_1 := qA BK178.out 1; have hfz7_2 := qA BK178.out 2; have hfz7_3 := qA BK178.out 3; have hfz7_4 := qA BK178.out 4; have hfz7_5 := qA BK178.out 5; have hnb8 := NB180_179.out; have hnc8 := NB179_180.out; have hcz9_0 := bc BK180 0; have hcz9_1 := bc BK180 1; have hcz9_2 := bc BK180 2; have hcz9_3 := bc BK180 3; have hcz9_4 := bc BK180 4; have hcz9_5 := bc BK180 5; have hfz9_0 := qA BK180.out 0; have hfz9_1 := qA BK180.out 1; have hfz9_2 := qA BK180.out 2; have hfz9_3 := qA BK180.out 3; have hfz9_4 := qA BK180.out 4; have hfz9_5 := qA BK180.out 5; have hcz10_0 := bc BK179 0; have hcz10_1 := bc BK179 1; have hcz10_2 := bc BK179 2; have hcz10_3 := bc BK179 3; have hcz10_4 := bc BK179 4; have hcz10_5 := bc BK179 5; have hfz10_0 := qA BK179.out 0; have hfz10_1 := qA BK179.out 1; have hfz10_2 := qA BK179.out 2; have hfz10_3 := qA BK179.out 3; have hfz10_4 := qA BK179.out 4; have hfz10_5 := qA BK179.out 5))
 refine bodyPost_ret (results_cell_row rfl _ _ gb179 29 #[.int .i64 a0_0, .int .i64 a0_1, .int .i64 a0_2, .int .i64 a0_3, .int .i64 a0_4, .int .i64 a0_5] (0, 0) _ rfl (by (with_reducible repeat (first | refine qC ?_ _ | refine qE ?_ | refine qD ?_ _)); refine qR (cs := #[.int .i64 a0_0, .int .i64 a0_1, .int .i64 a0_2, .int .i64 a0_3, .int .i64 a0_4, .int .i64 0]) ?_ 5 _ rfl; (with_reducible repeat (first | refine qC ?_ _ | refine qE ?_ | refine qD ?_ _)); refine qR (cs := #[.int .i64 a0_0, .int .i64 a0_1, .int .i64 a0_2, .int .i64 a0_3, .int .i64 0, .int .i64 0]) ?_ 4 _ rfl; (with_reducible repeat (first | refine qC ?_ _ | refine qE ?_ | refine qD ?_ _)); refine qR (cs := #[.int .i64 a0_0, .int .i64 a0_1, .int .i64 a0_2, .int .i64 0, .int .i64 0, .int .i64 0]) ?_ 3 _ rfl; (with_reducible repeat (first | refine qC ?_ _ | refine qE ?_ | refine qD ?_ _)); refine qR (cs := #[.int .i64 a0_0, .int .i64 a0_1, .int .i64 0, .int .i64 0, .int .i64 0, .int .i64 0]) ?_ 2 _ rfl; (with_reducible repeat (first | refine qC ?_ _ | refine qE ?_ | refine qD ?_ _)); refine qR (cs := #[.int .i64 a0_0, .int .i64 0, .int .i64 0, .int .i64 0, .int .i64 0, .int .i64 0]) ?_ 1 _ rfl; (with_reducible repeat (first | refine qC ?_ _ | refine qE ?_ | refine qD ?_ _)); refine qR (cs := #[.int .i64 0, .int .i64 0, .int .i64 0, .int .i64 0, .int .i64 0, .int .i64 0]) ?_ 0 _ rfl; (with_reducible repeat (first | refine qC ?_ _ | refine qE ?_ | refine qD ?_ _)); refine qV ?_ NB179_180.out _; (with_reducible repeat (first | refine qC ?_ _ | refine qE ?_ | refine qD ?_ _)); refine qV ?_ NB179_180.out _; (with_reducible repeat (first | refine qC ?_ _ | refine qE ?_ | refine qD ?_ _)); refine qV ?_ NB179_180.out _; (with_reducible repeat (first | refine qC ?_ _ | refine qE ?_ | refine qD ?_ _)); refine qV ?_ NB179_180.out _; (with_reducible repeat (first | refine qC ?_ _ | refine qE ?_ | refine qD ?_ _)); refine qV ?_ NB179_180.out _; (with_reducible repeat (first | refine qC ?_ _ | refine qE ?_ | refine qD ?_ _)); refine qV ?_ NB179_180.out _; (with_reducible repeat (first | refine qC ?_ _ | refine qE ?_ | refine qD ?_ _)); exact BK179.out) Try.underlying29 rfl (by kernel_rfl)) rfl ?_
 exact ⟨by first | rfl | (simp [qP, qO] <;> rfl) | (simp [*, qP, qO] <;> rfl), bl⟩
def qzA.f (a0 : Int) (a1 : Int) (a2 : Int) : Option (Bool) := if a0 ≥ a1 then (some (decide (a0 ≤ a2))) else (some false)
set_option maxHeartbeats 8000000 in
set_option maxRecDepth 100000 in
theorem qzA.calls (a0 : Int) (a1 : Int) (a2 : Int) (r : Bool) (w : World) (h : qzA.f a0 a1 a2 = some r) :
  Calls Try.prog 54 #[.int .i64 a0, .int .i64 a1, .int .i64 a2] w fun e w' => e = .returned (.bool r) ∧ Drawn0 w w' := by
 have H : (if a0 ≥ a1 then (some (decide (a0 ≤ a2))) else (some false)) = some r := h
 clear h
 by_cases c4 : a0 ≥ a1
 ·rw [if_pos c4] at H
  have c4b0 : decide (a1 ≤ a0) = true := decide_eq_true c4
  clear c4
  obtain rfl := Option.some.inj H
  go_enter Try.func54, Try.ntmps54
  go_wp2
  go_ret
  exact ⟨by first | rfl | (simp; done) | (simp [*]; done), by repeat (first | exact Drawn0.refl _ | apply Drawn0.step)⟩
 ·rw [if_neg c4] at H
  have c4b0 : decide (a1 ≤ a0) = false := decide_eq_false c4
  clear c4
  obtain rfl := Option.some.inj H
  go_enter Try.func54, Try.ntmps54
  go_wp2
  go_ret
  exact ⟨by first | rfl | (simp; done) | (simp [*]; done), by repeat (first | exact Drawn0.refl _ | apply Drawn0.step)⟩
def qBA.l0 : Nat → Int → Int → List Int → Int → Int → Option (Bool)
 | 0, _, _, _, _, _ => none
 | k + 1, x1, x2, x9, x10, x11 => if x11 < x10 then (if 0 ≤ x11 then (if x11 < (x9.length : Int) then ((qzA.f (rd x9 x11) x1 x2).bind fun t144 => (if t144 = true then (qBA.l0 k x1 x2 x9 x10 (wrap64 (x11 + 1))) else (some false))) else (none)) else (none)) else (some true)
def qBA.f (k : Nat) (l0 : List Int) (a1 : Int) (a2 : Int) : Option (Bool) := qBA.l0 k a1 a2 l0 (l0.length : Int) 0
set_option maxHeartbeats 8000000 in
set_option maxRecDepth 100000 in
theorem qBA.calls (k : Nat) (A0 : Option Addr) (c0 : Nat) (l0 : List Int) (a1 : Int) (a2 : Int) (r : Bool) (w : World) (hr0 : Kd.C (Kd.int .i64) w A0 l0.length l0) (hc0 : l0.length ≤ c0) (h : qBA.f k l0 a1 a2 = some r) :
  Calls Try.prog 47 #[.slice A0 l0.length c0, .int .i64 a1, .int .i64 a2] w fun e w' => e = .returned (.bool r) ∧ Drawn0 w w' := by
 have HR0 := Aside0.mk hr0
 have HC0 := Aside0.mk hc0
 clear hr0 hc0
 have H : (qBA.l0 k a1 a2 l0 (l0.length : Int) 0) = some r := h
 clear h
 have H' := Aside0.mk H
 clear H
 go_enter Try.func47, Try.ntmps47
 go_wp2
 go_loopg [11] k (fun kq v11 w' => ∃ (x11_1 : Int), v11 = .int .i64 x11_1 ∧ Aside0 (qBA.l0 kq a1 a2 l0 (l0.length : Int) x11_1 = some r) ∧ Aside0 (kq ≤ k) ∧ Drawn0 w w')
 case atStart => exact ⟨(0), (by first | rfl | (simp; done) | (simp [*]; done)), H', ⟨Nat.le_refl _⟩, by repeat (first | exact Drawn0.refl _ | apply Drawn0.step)⟩
 case round =>
  clear H'
  try clear p2
  obtain ⟨x11_1, rfl, HA, HK1, ⟨m1, rfl⟩⟩ := hrel
  cases gk with
  | zero => exact absurd HA.out (by simp [qBA.l0])
  | succ k1 =>
   have H := HA.out
   clear HA
   simp only [qBA.l0] at H
   by_cases c4 : x11_1 < (l0.length : Int)
   ·rw [if_pos c4] at H
    have c4b0 : decide (x11_1 < (l0.length : Int)) = true := decide_eq_true c4
    clear c4
    by_cases c5 : 0 ≤ x11_1
    ·rw [if_pos c5] at H
     have c5b0 : decide (0 ≤ x11_1) = true := decide_eq_true c5
     clear c5
     by_cases c6 : x11_1 < (l0.length : Int)
     ·rw [if_pos c6] at H
      have c6b0 : decide (x11_1 < (l0.length : Int)) = true := decide_eq_true c6
      clear c6
      replace H := Option.bind_eq_some_iff.mp H
      obtain ⟨t144, A70, H⟩ := H
      replace H : (if t144 = true then (qBA.l0 k1 a1 a2 l0 (l0.length : Int) (wrap64 (x11_1 + 1))) else (some false)) = some r := H
      have A7 := Aside0.mk A70
      clear A70
      by_cases c8 : t144 = true
      ·subst c8
       have H1 : (qBA.l0 k1 a1 a2 l0 (l0.length : Int) (wrap64 (x11_1 + 1))) = some r := by rw [if_pos rfl] at H; exact H
       clear H
       have H := H1
       clear H1
       have H' := Aside0.mk H
       clear H
       have p143 : 0 ≤ (x11_1 : Int) := of_decide_eq_true (by first | (with_reducible assumption) | assumption)
       have q143 : x11_1 < (l0.length : Int) := of_decide_eq_true (by first | (with_reducible assumption) | assumption)
       obtain ⟨ad143, e143, hx143_0⟩ := Kd.qCB HR0.out x11_1 p143 q143
       cases e143
       replace p143 := eq_true p143
       replace q143 := eq_true q143
       go_wp2_with (first | ((with_reducible refine qL (f := 54) rfl ?_); refine qc (some 18) rfl rfl Try.func54 (by kernel_rfl) rfl #[.int .i64 (rd l0 x11_1), .int .i64 a1, .int .i64 a2] rfl (by (try simp only [List.map_toArray, List.map_cons, List.map_nil]); first | done | rfl | (simp only [List.length_drop, List.length_take]; rfl)) ?_; (with_reducible refine (qzA.calls (rd l0 x11_1) a1 a2 true _ A7.out).mono ?_); rintro e w' ⟨rfl, ⟨nd, rfl⟩⟩; refine ⟨_, rfl, ?_⟩))
       go_roundg k1
       case measure => have := HK1.out; omega
       case rel => exact ⟨(wrap64 (x11_1 + 1)), (by first | rfl | (simp; done) | (simp [*]; done)), H', ⟨by have := HK1.out; omega⟩, by repeat (first | exact Drawn0.refl _ | apply Drawn0.step)⟩
      ·replace c8 := Bool.eq_false_iff.mpr c8
       subst c8
       have H1 : (some false) = some r := by rw [if_neg (show ¬ (false = true) by decide)] at H; exact H
       clear H
       have H := H1
       clear H1
       obtain rfl := Option.some.inj H
       have p143 : 0 ≤ (x11_1 : Int) := of_decide_eq_true (by first | (with_reducible assumption) | assumption)
       have q143 : x11_1 < (l0.length : Int) := of_decide_eq_true (by first | (with_reducible assumption) | assumption)
       obtain ⟨ad143, e143, hx143_0⟩ := Kd.qCB HR0.out x11_1 p143 q143
       cases e143
       replace p143 := eq_true p143
       replace q143 := eq_true q143
       go_wp2_with (first | ((with_reducible refine qL (f := 54) rfl ?_); refine qc (some 18) rfl rfl Try.func54 (by kernel_rfl) rfl #[.int .i64 (rd l0 x11_1), .int .i64 a1, .int .i64 a2] rfl (by (try simp only [List.map_toArray, List.map_cons, List.map_nil]); first | done | rfl | (simp only [List.length_drop, List.length_take]; rfl)) ?_; (with_reducible refine (qzA.calls (rd l0 x11_1) a1 a2 false _ A7.out).mono ?_); rintro e w' ⟨rfl, ⟨nd, rfl⟩⟩; refine ⟨_, rfl, ?_⟩))
       go_ret
       exact ⟨by first | rfl | (simp; done) | (simp [*]; done), by repeat (first | exact Drawn0.refl _ | apply Drawn0.step)⟩
     ·rw [if_neg c6] at H
      exact absurd H (by simp)
    ·rw [if_neg c5] at H
     exact absurd H (by simp)
   ·rw [if_neg c4] at H
    have c4b0 : decide (x11_1 < (l0.length : Int)) = false := decide_eq_false c4
    clear c4
    obtain rfl := Option.some.inj H
    go_wp2
    go_ret
    exact ⟨by first | rfl | (simp; done) | (simp [*]; done), by repeat (first | exact Drawn0.refl _ | apply Drawn0.step)⟩
def qIA.f (a0_0 : Int) (a0_1 : Int) (a0_2 : Int) (a0_3 : Int) (a0_4 : Int) (a0_5 : Int) : Option (List Int) := some (([a0_0, a0_1, a0_2, a0_3, a0_4, a0_5] : List Int))
set_option maxHeartbeats 8000000 in
set_option maxRecDepth 100000 in
theorem qIA.calls (a0_0 : Int) (a0_1 : Int) (a0_2 : Int) (a0_3 : Int) (a0_4 : Int) (a0_5 : Int) (r : List Int) (w : World) (h : qIA.f a0_0 a0_1 a0_2 a0_3 a0_4 a0_5 = some r) :
  Calls Try.prog 48 #[.agg #[.int .i64 a0_0, .int .i64 a0_1, .int .i64 a0_2, .int .i64 a0_3, .int .i64 a0_4, .int .i64 a0_5]] w fun e w' => ∃ v0_ : Value, e = .returned (v0_) ∧ Kd.R (Kd.int .i64) 3 w' w.heap.size (fun _ => True) v0_ r ∧ Below w.heap.size w w' := by
 have hu29 := Try.underlying29
 have HB := Aside0.mk (Below.refl w.heap.size w)
 have H : (some (([a0_0, a0_1, a0_2, a0_3, a0_4, a0_5] : List Int))) = some r := h
 clear h
 obtain ⟨y146, hy146⟩ : ∃ y_ : List Int, y_ = (([a0_0, a0_1, a0_2, a0_3, a0_4, a0_5] : List Int)) := ⟨_, rfl⟩
 replace H : (some y146) = some r := by first | (rw [hy146]; with_reducible exact H) | (have H2_ := (Option.bind_some _ _).symm.trans H; rw [hy146]; with_reducible exact H2_) | (have H2_ := (Option.bind_some _ _).symm.trans H; with_reducible exact H2_) | with_reducible exact H | (rw [hy146]; exact H) | exact H
 have Ny146 := Aside0.mk hy146
 clear hy146
 obtain rfl := Option.some.inj H
 go_enter Try.func48, Try.ntmps48
 go_wp2_with (first | ((with_reducible refine qU (N := 1) rfl ?_); refine qS ?hg (N := 1) ?hd (cs := #[.int .i64 a0_0, .int .i64 a0_1, .int .i64 a0_2, .int .i64 a0_3, .int .i64 a0_4, .int .i64 a0_5]) (t := 29) ?hr ?_; (case hd => rfl); (case hg => rfl); (case hr => first | (go_simp; done) | (go_simp; rfl)); intro gb145 hg w2 hbox hb; have n0_ := Aside0.mk (qF bl hb); have n1_ := Aside0.mk (hbox); have n2_ := Aside0.mk ((gg hg)); have n3_ := Aside0.mk ((gg hg)); clear HB; have HB := n0_; have BK145 := n1_; have GW145 := n2_; have GE145 := n3_; clear n0_ n1_ n2_ n3_; clear hb hbox hg; have hcz3_0 := bc BK145 0; have hcz3_1 := bc BK145 1; have hcz3_2 := bc BK145 2; have hcz3_3 := bc BK145 3; have hcz3_4 := bc BK145 4; have hcz3_5 := bc BK145 5; have hfz3_0 := qA BK145.out 0; have hfz3_1 := qA BK145.out 1; have hfz3_2 := qA BK145.out 2; have hfz3_3 := qA BK145.out 3; have hfz3_4 := qA BK145.out 4; have hfz3_5 := qA BK145.out 5) | ((with_reducible refine qU (N := 15) rfl ?_); refine Kd.R_lit (Kd.int .i64) _ 3 ?hg (N := 15) ?hd (xs := ([a0_0, a0_1, a0_2, a0_3, a0_4, a0_5] : List Int)) (inner := [.int .i64 a0_0, .int .i64 a0_1, .int .i64 a0_2, .int .i64 a0_3, .int .i64 a0_4, .int .i64 a0_5]) (ok := fun _ => True) (okp := fun _ => True) ?hr ?hp (fun _ hk => hk) trivial (Below.refl _ _) (Nat.le_refl _) (by simp) ?_; (case hd => rfl); (case hg => rfl); (case hr => first | (go_simp; done) | (go_simp; rfl)); (case hp => exact (Reps.one (show Kd.M (Kd.int .i64) _ _ _ a0_0 [.int .i64 a0_0] from rfl) (Reps.one (show Kd.M (Kd.int .i64) _ _ _ a0_1 [.int .i64 a0_1] from rfl) (Reps.one (show Kd.M (Kd.int .i64) _ _ _ a0_2 [.int .i64 a0_2] from rfl) (Reps.one (show Kd.M (Kd.int .i64) _ _ _ a0_3 [.int .i64 a0_3] from rfl) (Reps.one (show Kd.M (Kd.int .i64) _ _ _ a0_4 [.int .i64 a0_4] from rfl) (Reps.one (show Kd.M (Kd.int .i64) _ _ _ a0_5 [.int .i64 a0_5] from rfl) (Reps.none _ _)))))))); intro v147 w4 ho5 hb hg_ hnew_; clear hg_ hnew_; (first | rw [← Ny146.out] at ho5 | (simp only [Int.reduceToNat] at ho5; rw [← Ny146.out] at ho5)); have n0_ := Aside0.mk (Kd.qLA ho5 (qb bl)); have n1_ := Aside0.mk (bb BK145 hb); have n2_ := Aside0.mk (qF bl hb); clear BK145; clear HB; have HO148 := n0_; have BK145 := n1_; have HB := n2_; clear n0_ n1_ n2_; clear hb ho5))
 go_ret
 exact ⟨_, by first | rfl | (simp [qP, qO] <;> rfl) | (simp [*, qP, qO] <;> rfl), by (with_reducible repeat (first | apply Kd.qH | apply Kd.qI | apply Kd.qK)); exact HO148.out, bl⟩
def qFA.f (k : Nat) (a0_0 : Int) (a0_1 : Int) (a0_2 : Int) (a0_3 : Int) (a0_4 : Int) (a0_5 : Int) : Option (Bool) := (qIA.f a0_0 a0_1 a0_2 a0_3 a0_4 a0_5).bind fun t150 => ((qBA.f k t150 0 9).bind fun t153 => (some t153))
set_option maxHeartbeats 8000000 in
set_option maxRecDepth 100000 in
theorem qFA.calls (k : Nat) (a0_0 : Int) (a0_1 : Int) (a0_2 : Int) (a0_3 : Int) (a0_4 : Int) (a0_5 : Int) (r : Bool) (w : World) (h : qFA.f k a0_0 a0_1 a0_2 a0_3 a0_4 a0_5 = some r) :
  Calls Try.prog 33 #[.agg #[.int .i64 a0_0, .int .i64 a0_1, .int .i64 a0_2, .int .i64 a0_3, .int .i64 a0_4, .int .i64 a0_5]] w fun e w' => e = .returned (.bool r) ∧ Below w.heap.size w w' := by
 have hu29 := Try.underlying29
 have HB := Aside0.mk (Below.refl w.heap.size w)
 have H : ((qIA.f a0_0 a0_1 a0_2 a0_3 a0_4 a0_5).bind fun t150 => ((qBA.f k t150 0 9).bind fun t153 => (some t153))) = some r := h
 clear h
 replace H := Option.bind_eq_some_iff.mp H
 obtain ⟨t150, A20, H⟩ := H
 replace H : ((qBA.f k t150 0 9).bind fun t153 => (some t153)) = some r := H
 have A2 := Aside0.mk A20
 clear A20
 replace H := Option.bind_eq_some_iff.mp H
 obtain ⟨t153, A30, H⟩ := H
 replace H : (some t153) = some r := H
 have A3 := Aside0.mk A30
 clear A30
 obtain rfl := Option.some.inj H
 go_enter Try.func33, Try.ntmps33
 go_wp2_with (first | ((with_reducible refine qU (N := 1) rfl ?_); refine qS ?hg (N := 1) ?hd (cs := #[.int .i64 a0_0, .int .i64 a0_1, .int .i64 a0_2, .int .i64 a0_3, .int .i64 a0_4, .int .i64 a0_5]) (t := 29) ?hr ?_; (case hd => rfl); (case hg => rfl); (case hr => first | (go_simp; done) | (go_simp; rfl)); intro gb149 hg w4 hbox hb; have n0_ := Aside0.mk (qF bl hb); have n1_ := Aside0.mk (hbox); have n2_ := Aside0.mk ((gg hg)); have n3_ := Aside0.mk ((gg hg)); clear HB; have HB := n0_; have BK149 := n1_; have GW149 := n2_; have GE149 := n3_; clear n0_ n1_ n2_ n3_; clear hb hbox hg; have hcz5_0 := bc BK149 0; have hcz5_1 := bc BK149 1; have hcz5_2 := bc BK149 2; have hcz5_3 := bc BK149 3; have hcz5_4 := bc BK149 4; have hcz5_5 := bc BK149 5; have hfz5_0 := qA BK149.out 0; have hfz5_1 := qA BK149.out 1; have hfz5_2 := qA BK149.out 2; have hfz5_3 := qA BK149.out 3; have hfz5_4 := qA BK149.out 4; have hfz5_5 := qA BK149.out 5) | ((with_reducible refine qL (f := 48) rfl ?_); refine qc (some 4) rfl rfl Try.func48 (by kernel_rfl) rfl #[.agg #[.int .i64 a0_0, .int .i64 a0_1, .int .i64 a0_2, .int .i64 a0_3, .int .i64 a0_4, .int .i64 a0_5]] rfl (by (try simp only [List.map_toArray, List.map_cons, List.map_nil]); first | done | rfl | (simp only [List.length_drop, List.length_take]; rfl)) ?_; (with_reducible refine (qIA.calls a0_0 a0_1 a0_2 a0_3 a0_4 a0_5 t150 _ A2.out).mono ?_); rintro e w6 ⟨v151, rfl, ho0, hb⟩; refine ⟨_, rfl, ?_⟩; have n0_ := Aside0.mk (Kd.qLA ho0 (qb bl)); have n1_ := Aside0.mk (bb BK149 hb); have n2_ := Aside0.mk (qF bl hb); clear BK149; clear HB; have HO152 := n0_; have BK149 := n1_; have HB := n2_; clear n0_ n1_ n2_; (try clear hb); (try clear hb2); (try clear hk); (try clear hi); (try clear ho0); obtain ⟨Ao7, co7, eo7⟩ := Kd.qHA HO152.out; subst eo7) | ((with_reducible refine qL (f := 47) rfl ?_); refine qc (some 5) rfl rfl Try.func47 (by kernel_rfl) rfl #[.slice Ao7 t150.length co7, .int .i64 0, .int .i64 9] rfl (by (try simp only [List.map_toArray, List.map_cons, List.map_nil]); first | done | rfl | (simp only [List.length_drop, List.length_take]; rfl)) ?_; (with_reducible refine (qBA.calls k _ _ t150 0 9 t153 _ ?side1 ?side2 A3.out).mono ?_); (case side1 => repeat (first | exact (Kd.qT HO152.out).2.2 | (with_reducible refine Kd.qq ?_ _) | (with_reducible refine Kd.qp ?_ _) | (with_reducible refine Kd.qEA ?_))); (case side2 => exact (Kd.qT HO152.out).2.1); rintro e w' ⟨rfl, ⟨nd, rfl⟩⟩; refine ⟨_, rfl, ?_⟩))
 go_ret
 exact ⟨by first | rfl | (simp [qP, qO] <;> rfl) | (simp [*, qP, qO] <;> rfl), bl⟩
theorem eqA29 (d : Nat) (w : World) (x0 y0 : Int) (x1 y1 : Int) (x2 y2 : Int) (x3 y3 : Int) (x4 y4 : Int) (x5 y5 : Int) :
  (Op.equalIn (d + 2) 29 (.agg #[.int .i64 x0, .int .i64 x1, .int .i64 x2, .int .i64 x3, .int .i64 x4, .int .i64 x5]) (.agg #[.int .i64 y0, .int .i64 y1, .int .i64 y2, .int .i64 y3, .int .i64 y4, .int .i64 y5])).run Try.prog w = .ok (x0 == y0 && (x1 == y1 && (x2 == y2 && (x3 == y3 && (x4 == y4 && (x5 == y5)))))) w := by
 refine eqA_of Try.underlying29 (by kernel_rfl) ?_
 refine qcB (by rfl) (by go_simp; rfl) (by go_simp; rfl) (by go_simp) ?_
 refine qcB (by rfl) (by go_simp; rfl) (by go_simp; rfl) (by go_simp) ?_
 refine qcB (by rfl) (by go_simp; rfl) (by go_simp; rfl) (by go_simp) ?_
 refine qcB (by rfl) (by go_simp; rfl) (by go_simp; rfl) (by go_simp) ?_
 refine qcB (by rfl) (by go_simp; rfl) (by go_simp; rfl) (by go_simp) ?_
 exact eqf_last (by rfl) (by go_simp; rfl) (by go_simp; rfl) (by go_simp)
def qoA.f (a0_0 : Int) (a0_1 : Int) (a0_2 : Int) (a0_3 : Int) (a0_4 : Int) (a0_5 : Int) (a1 : Int) : Option (Int × Int × Int × Int × Int × Int) := if a1 = 0 then (some (a0_3, a0_0, a0_2, a0_5, a0_4, a0_1)) else (if a1 = 1 then (some (a0_4, a0_1, a0_0, a0_3, a0_5, a0_2)) else (if a1 = 2 then (some (a0_1, a0_5, a0_2, a0_0, a0_4, a0_3)) else (some (a0_2, a0_1, a0_5, a0_3, a0_0, a0_4))))
set_option maxHeartbeats 8000000 in
set_option maxRecDepth 100000 in
theorem qoA.calls (a0_0 : Int) (a0_1 : Int) (a0_2 : Int) (a0_3 : Int) (a0_4 : Int) (a0_5 : Int) (a1 : Int) (r1 : Int) (r2 : Int) (r3 : Int) (r4 : Int) (r5 : Int) (r6 : Int) (w : World) (h : qoA.f a0_0 a0_1 a0_2 a0_3 a0_4 a0_5 a1 = some (r1, r2, r3, r4, r5, r6)) :
  Calls Try.prog 66 #[.agg #[.int .i64 a0_0, .int .i64 a0_1, .int .i64 a0_2, .int .i64 a0_3, .int .i64 a0_4, .int .i64 a0_5], .int .i64 a1] w fun e w' => e = .returned (.agg #[.int .i64 r1, .int .i64 r2, .int .i64 r3, .int .i64 r4, .int .i64 r5, .int .i64 r6]) ∧ Below w.heap.size w w' := by
 have hu29 := Try.underlying29
 have HB := Aside0.mk (Below.refl w.heap.size w)
 have H : (if a1 = 0 then (some (a0_3, a0_0, a0_2, a0_5, a0_4, a0_1)) else (if a1 = 1 then (some (a0_4, a0_1, a0_0, a0_3, a0_5, a0_2)) else (if a1 = 2 then (some (a0_1, a0_5, a0_2, a0_0, a0_4, a0_3)) else (some (a0_2, a0_1, a0_5, a0_3, a0_0, a0_4))))) = some (r1, r2, r3, r4, r5, r6) := h
 clear h
 by_cases c3 : a1 = 0
 ·rw [if_pos c3] at H
  have c3b0 : (a1 == 0) = true := beq_iff_eq.mpr c3
  have c3b1 : (a1 != 0) = false := bne_eq_false_iff_eq.mpr c3
  clear c3
  simp only [Option.some.injEq, Prod.mk.injEq] at H
  obtain ⟨rfl, rfl, rfl, rfl, rfl, rfl⟩ := H
  go_enter Try.func66, Try.ntmps66
  go_wp2_with (first | ((with_reducible refine qU (N := 2) rfl ?_); refine qS ?hg (N := 2) ?hd (cs := #[.int .i64 a0_0, .int .i64 a0_1, .int .i64 a0_2, .int .i64 a0_3, .int .i64 a0_4, .int .i64 a0_5]) (t := 29) ?hr ?_; (case hd => rfl); (case hg => rfl); (case hr => first | (go_simp; done) | (go_simp; rfl)); intro gb303 hg w4 hbox hb; have n0_ := Aside0.mk (qF bl hb); have n1_ := Aside0.mk (hbox); have n2_ := Aside0.mk ((gg hg)); have n3_ := Aside0.mk ((gg hg)); clear HB; have HB := n0_; have BK303 := n1_; have GW303 := n2_; have GE303 := n3_; clear n0_ n1_ n2_ n3_; clear hb hbox hg) | ((with_reducible refine qU (N := 4) rfl ?_); refine qS ?hg (N := 4) ?hd (cs := #[.int .i64 0, .int .i64 0, .int .i64 0, .int .i64 0, .int .i64 0, .int .i64 0]) (t := 29) ?hr ?_; (case hd => rfl); (case hg => rfl); (case hr => first | (go_simp; done) | (go_simp; rfl)); intro gb304 hg w5 hbox hb; have n0_ := Aside0.mk (bb BK303 hb); have n1_ := Aside0.mk (qF bl hb); have n2_ := Aside0.mk (hbox); have n3_ := Aside0.mk ((gg hg)); have n4_ := Aside0.mk ((gg hg)); have n5_ := Aside0.mk ((nl BK303 hg)); have n6_ := Aside0.mk ((nr BK303 hg)); clear BK303; clear HB; have BK303 := n0_; have HB := n1_; have BK304 := n2_; have GW304 := n3_; have GE304 := n4_; have NB303_304 := n5_; have NB304_303 := n6_; clear n0_ n1_ n2_ n3_ n4_ n5_ n6_; clear hb hbox hg; have hnb6 := NB303_304.out; have hnc6 := NB304_303.out; have hcz7_0 := bc BK303 0; have hcz7_1 := bc BK303 1; have hcz7_2 := bc BK303 2; have hcz7_3 := bc BK303 3; have hcz7_4 := bc BK303 4; have hcz7_5 := bc BK303 5; have hfz7_0 := qA BK303.out 0; have hfz7_1 := qA BK303.out 1; have hfz7_2 := qA BK303.out 2; have hfz7_3 := qA BK303.out 3; have hfz7_4 := qA BK303.out 4; have hfz7_5 := qA BK303.out 5; have hcz8_0 := bc BK304 0; have hcz8_1 := bc BK304 1; have hcz8_2 := bc BK304 2; have hcz8_3 := bc BK304 3; have hcz8_4 := bc BK304 4; have hcz8_5 := bc BK304 5; have hfz8_0 := qA BK304.out 0; have hfz8_1 := qA BK304.out 1; have hfz8_2 := qA BK304.out 2; have hfz8_3 := qA BK304.out 3; have hfz8_4 := qA BK304.out 4; have hfz8_5 := qA BK304.out 5))
  refine bodyPost_ret (results_cell_row rfl _ _ gb304 29 #[.int .i64 a0_3, .int .i64 a0_0, .int .i64 a0_2, .int .i64 a0_5, .int .i64 a0_4, .int .i64 a0_1] (0, 0) _ rfl (by (with_reducible repeat (first | refine qC ?_ _ | refine qE ?_ | refine qD ?_ _)); refine qR (cs := #[.int .i64 a0_3, .int .i64 a0_0, .int .i64 a0_2, .int .i64 a0_5, .int .i64 a0_4, .int .i64 0]) ?_ 5 _ rfl; (with_reducible repeat (first | refine qC ?_ _ | refine qE ?_ | refine qD ?_ _)); refine qR (cs := #[.int .i64 a0_3, .int .i64 a0_0, .int .i64 a0_2, .int .i64 a0_5, .int .i64 0, .int .i64 0]) ?_ 4 _ rfl; (with_reducible repeat (first | refine qC ?_ _ | refine qE ?_ | refine qD ?_ _)); refine qR (cs := #[.int .i64 a0_3, .int .i64 a0_0, .int .i64 a0_2, .int .i64 0, .int .i64 0, .int .i64 0]) ?_ 3 _ rfl; (with_reducible repeat (first | refine qC ?_ _ | refine qE ?_ | refine qD ?_ _)); refine qR (cs := #[.int .i64 a0_3, .int .i64 a0_0, .int .i64 0, .int .i64 0, .int .i64 0, .int .i64 0]) ?_ 2 _ rfl; (with_reducible repeat (first | refine qC ?_ _ | refine qE ?_ | refine qD ?_ _)); refine qR (cs := #[.int .i64 a0_3, .int .i64 0, .int .i64 0, .int .i64 0, .int .i64 0, .int .i64 0]) ?_ 1 _ rfl; (with_reducible repeat (first | refine qC ?_ _ | refine qE ?_ | refine qD ?_ _)); refine qR (cs := #[.int .i64 0, .int .i64 0, .int .i64 0, .int .i64 0, .int .i64 0, .int .i64 0]) ?_ 0 _ rfl; (with_reducible repeat (first | refine qC ?_ _ | refine qE ?_ | refine qD ?_ _)); exact BK304.out) Try.underlying29 rfl (by kernel_rfl)) rfl ?_
  exact ⟨by first | rfl | (simp [qP, qO] <;> rfl) | (simp [*, qP, qO] <;> rfl), bl⟩
 ·rw [if_neg c3] at H
  have c3b0 : (a1 == 0) = false := beq_eq_false_iff_ne.mpr c3
  have c3b1 : (a1 != 0) = true := bne_iff_ne.mpr c3
  by_cases c9 : a1 = 1
  ·rw [if_pos c9] at H
   have c9b0 : (a1 == 1) = true := beq_iff_eq.mpr c9
   have c9b1 : (a1 != 1) = false := bne_eq_false_iff_eq.mpr c9
   clear c9
   simp only [Option.some.injEq, Prod.mk.injEq] at H
   obtain ⟨rfl, rfl, rfl, rfl, rfl, rfl⟩ := H
   go_enter Try.func66, Try.ntmps66
   go_wp2_with (first | ((with_reducible refine qU (N := 2) rfl ?_); refine qS ?hg (N := 2) ?hd (cs := #[.int .i64 a0_0, .int .i64 a0_1, .int .i64 a0_2, .int .i64 a0_3, .int .i64 a0_4, .int .i64 a0_5]) (t := 29) ?hr ?_; (case hd => rfl); (case hg => rfl); (case hr => first | (go_simp; done) | (go_simp; rfl)); intro gb303 hg w10 hbox hb; have n0_ := Aside0.mk (qF bl hb); have n1_ := Aside0.mk (hbox); have n2_ := Aside0.mk ((gg hg)); have n3_ := Aside0.mk ((gg hg)); clear HB; have HB := n0_; have BK303 := n1_; have GW303 := n2_; have GE303 := n3_; clear n0_ n1_ n2_ n3_; clear hb hbox hg) | ((with_reducible refine qU (N := 4) rfl ?_); refine qS ?hg (N := 4) ?hd (cs := #[.int .i64 0, .int .i64 0, .int .i64 0, .int .i64 0, .int .i64 0, .int .i64 0]) (t := 29) ?hr ?_; (case hd => rfl); (case hg => rfl); (case hr => first | (go_simp; done) | (go_simp; rfl)); intro gb304 hg w11 hbox hb; have n0_ := Aside0.mk (bb BK303 hb); have n1_ := Aside0.mk (qF bl hb); have n2_ := Aside0.mk (hbox); have n3_ := Aside0.mk ((gg hg)); have n4_ := Aside0.mk ((gg hg)); have n5_ := Aside0.mk ((nl BK303 hg)); have n6_ := Aside0.mk ((nr BK303 hg)); clear BK303; clear HB; have BK303 := n0_; have HB := n1_; have BK304 := n2_; have GW304 := n3_; have GE304 := n4_; have NB303_304 := n5_; have NB304_303 := n6_; clear n0_ n1_ n2_ n3_ n4_ n5_ n6_; clear hb hbox hg; have hnb12 := NB303_304.out; have hnc12 := NB304_303.out; have hcz13_0 := bc BK303 0; have hcz13_1 := bc BK303 1; have hcz13_2 := bc BK303 2; have hcz13_3 := bc BK303 3; have hcz13_4 := bc BK303 4; have hcz13_5 := bc BK303 5; have hfz13_0 := qA BK303.out 0; have hfz13_1 := qA BK303.out 1; have hfz13_2 := qA BK303.out 2; have hfz13_3 := qA BK303.out 3; have hfz13_4 := qA BK303.out 4; have hfz13_5 := qA BK303.out 5; have hcz14_0 := bc BK304 0; have hcz14_1 := bc BK304 1; have hcz14_2 := bc BK304 2; have hcz14_3 := bc BK304 3; have hcz14_4 := bc BK304 4; have hcz14_5 := bc BK304 5; have hfz14_0 := qA BK304.out 0; have hfz14_1 := qA BK304.out 1; have hfz14_2 := qA BK304.out 2; have hfz14_3 := qA BK304.out 3; have hfz14_4 := qA BK304.out 4; have hfz14_5 := qA BK304.out 5))
   refine bodyPost_ret (results_cell_row rfl _ _ gb304 29 #[.int .i64 a0_4, .int .i64 a0_1, .int .i64 a0_0, .int .i64 a0_3, .int .i64 a0_5, .int .i64 a0_2] (0, 0) _ rfl (by (with_reducible repeat (first | refine qC ?_ _ | refine qE ?_ | refine qD ?_ _)); refine qR (cs := #[.int .i64 a0_4, .int .i64 a0_1, .int .i64 a0_0, .int .i64 a0_3, .int .i64 a0_5, .int .i64 0]) ?_ 5 _ rfl; (with_reducible repeat (first | refine qC ?_ _ | refine qE ?_ | refine qD ?_ _)); refine qR (cs := #[.int .i64 a0_4, .int .i64 a0_1, .int .i64 a0_0, .int .i64 a0_3, .int .i64 0, .int .i64 0]) ?_ 4 _ rfl; (with_reducible repeat (first | refine qC ?_ _ | refine qE ?_ | refine qD ?_ _)); refine qR (cs := #[.int .i64 a0_4, .int .i64 a0_1, .int .i64 a0_0, .int .i64 0, .int .i64 0, .int .i64 0]) ?_ 3 _ rfl; (with_reducible repeat (first | refine qC ?_ _ | refine qE ?_ | refine qD ?_ _)); refine qR (cs := #[.int .i64 a0_4, .int .i64 a0_1, .int .i64 0, .int .i64 0, .int .i64 0, .int .i64 0]) ?_ 2 _ rfl; (with_reducible repeat (first | refine qC ?_ _ | refine qE ?_ | refine qD ?_ _)); refine qR (cs := #[.int .i64 a0_4, .int .i64 0, .int .i64 0, .int .i64 0, .int .i64 0, .int .i64 0]) ?_ 1 _ rfl; (with_reducible repeat (first | refine qC ?_ _ | refine qE ?_ | refine qD ?_ _)); refine qR (cs := #[.int .i64 0, .int .i64 0, .int .i64 0, .int .i64 0, .int .i64 0, .int .i64 0]) ?_ 0 _ rfl; (with_reducible repeat (first | refine qC ?_ _ | refine qE ?_ | refine qD ?_ _)); exact BK304.out) Try.underlying29 rfl (by kernel_rfl)) rfl ?_
   exact ⟨by first | rfl | (simp [qP, qO] <;> rfl) | (simp [*, qP, qO] <;> rfl), bl⟩
  ·rw [if_neg c9] at H
   have c9b0 : (a1 == 1) = false := beq_eq_false_iff_ne.mpr c9
   have c9b1 : (a1 != 1) = true := bne_iff_ne.mpr c9
   by_cases c15 : a1 = 2
   ·rw [if_pos c15] at H
    have c15b0 : (a1 == 2) = true := beq_iff_eq.mpr c15
    have c15b1 : (a1 != 2) = false := bne_eq_false_iff_eq.mpr c15
    clear c15
    simp only [Option.some.injEq, Prod.mk.injEq] at H
    obtain ⟨rfl, rfl, rfl, rfl, rfl, rfl⟩ := H
    go_enter Try.func66, Try.ntmps66
    go_wp2_with (first | ((with_reducible refine qU (N := 2) rfl ?_); refine qS ?hg (N := 2) ?hd (cs := #[.int .i64 a0_0, .int .i64 a0_1, .int .i64 a0_2, .int .i64 a0_3, .int .i64 a0_4, .int .i64 a0_5]) (t := 29) ?hr ?_; (case hd => rfl); (case hg => rfl); (case hr => first | (go_simp; done) | (go_simp; rfl)); intro gb303 hg w16 hbox hb; have n0_ := Aside0.mk (qF bl hb); have n1_ := Aside0.mk (hbox); have n2_ := Aside0.mk ((gg hg)); have n3_ := Aside0.mk ((gg hg)); clear HB; have HB := n0_; have BK303 := n1_; have GW303 := n2_; have GE303 := n3_; clear n0_ n1_ n2_ n3_; clear hb hbox hg) | ((with_reducible refine qU (N := 4) rfl ?_); refine qS ?hg (N := 4) ?hd (cs := #[.int .i64 0, .int .i64 0, .int .i64 0, .int .i64 0, .int .i64 0, .int .i64 0]) (t := 29) ?hr ?_; (case hd => rfl); (case hg => rfl); (case hr => first | (go_simp; done) | (go_simp; rfl)); intro gb304 hg w17 hbox hb; have n0_ := Aside0.mk (bb BK303 hb); have n1_ := Aside0.mk (qF bl hb); have n2_ := Aside0.mk (hbox); have n3_ := Aside0.mk ((gg hg)); have n4_ := Aside0.mk ((gg hg)); have n5_ := Aside0.mk ((nl BK303 hg)); have n6_ := Aside0.mk ((nr BK303 hg)); clear BK303; clear HB; have BK303 := n0_; have HB := n1_; have BK304 := n2_; have GW304 := n3_; have GE304 := n4_; have NB303_304 := n5_; have NB304_303 := n6_; clear n0_ n1_ n2_ n3_ n4_ n5_ n6_; clear hb hbox hg; have hnb18 := NB303_304.out; have hnc18 := NB304_303.out; have hcz19_0 := bc BK303 0; have hcz19_1 := bc BK303 1; have hcz19_2 := bc BK303 2; have hcz19_3 := bc BK303 3; have hcz19_4 := bc BK303 4; have hcz19_5 := bc BK303 5; have hfz19_0 := qA BK303.out 0; have hfz19_1 := qA BK303.out 1; have hfz19_2 := qA BK303.out 2; have hfz19_3 := qA BK303.out 3; have hfz19_4 := qA BK303.out 4; have hfz19_5 := qA BK303.out 5; have hcz20_0 := bc BK304 0; have hcz20_1 := bc BK304 1; have hcz20_2 := bc BK304 2; have hcz20_3 := bc BK304 3; have hcz20_4 := bc BK304 4; have hcz20_5 := bc BK304 5; have hfz20_0 := qA BK304.out 0; have hfz20_1 := qA BK304.out 1; have hfz20_2 := qA BK304.out 2; have hfz20_3 := qA BK304.out 3; have hfz20_4 := qA BK304.out 4; have hfz20_5 := qA BK304.out 5))
    refine bodyPost_ret (results_cell_row rfl _ _ gb304 29 #[.int .i64 a0_1, .int .i64 a0_5, .int .i64 a0_2, .int .i64 a0_0, .int .i64 a0_4, .int .i64 a0_3] (0, 0) _ rfl (by (with_reducible repeat (first | refine qC ?_ _ | refine qE ?_ | refine qD ?_ _)); refine qR (cs := #[.int .i64 a0_1, .int .i64 a0_5, .int .i64 a0_2, .int .i64 a0_0, .int .i64 a0_4, .int .i64 0]) ?_ 5 _ rfl; (with_reducible repeat (first | refine qC ?_ _ | refine qE ?_ | refine qD ?_ _)); refine qR (cs := #[.int .i64 a0_1, .int .i64 a0_5, .int .i64 a0_2, .int .i64 a0_0, .int .i64 0, .int .i64 0]) ?_ 4 _ rfl; (with_reducible repeat (first | refine qC ?_ _ | refine qE ?_ | refine qD ?_ _)); refine qR (cs := #[.int .i64 a0_1, .int .i64 a0_5, .int .i64 a0_2, .int .i64 0, .int .i64 0, .int .i64 0]) ?_ 3 _ rfl; (with_reducible repeat (first | refine qC ?_ _ | refine qE ?_ | refine qD ?_ _)); refine qR (cs := #[.int .i64 a0_1, .int .i64 a0_5, .int .i64 0, .int .i64 0, .int .i64 0, .int .i64 0]) ?_ 2 _ rfl; (with_reducible repeat (first | refine qC ?_ _ | refine qE ?_ | refine qD ?_ _)); refine qR (cs := #[.int .i64 a0_1, .int .i64 0, .int .i64 0, .int .i64 0, .int .i64 0, .int .i64 0]) ?_ 1 _ rfl; (with_reducible repeat (first | refine qC ?_ _ | refine qE ?_ | refine qD ?_ _)); refine qR (cs := #[.int .i64 0, .int .i64 0, .int .i64 0, .int .i64 0, .int .i64 0, .int .i64 0]) ?_ 0 _ rfl; (with_reducible repeat (first | refine qC ?_ _ | refine qE ?_ | refine qD ?_ _)); exact BK304.out) Try.underlying29 rfl (by kernel_rfl)) rfl ?_
    exact ⟨by first | rfl | (simp [qP, qO] <;> rfl) | (simp [*, qP, qO] <;> rfl), bl⟩
   ·rw [if_neg c15] at H
    have c15b0 : (a1 == 2) = false := beq_eq_false_iff_ne.mpr c15
    have c15b1 : (a1 != 2) = true := bne_iff_ne.mpr c15
    simp only [Option.some.injEq, Prod.mk.injEq] at H
    obtain ⟨rfl, rfl, rfl, rfl, rfl, rfl⟩ := H
    go_enter Try.func66, Try.ntmps66
    go_wp2_with (first | ((with_reducible refine qU (N := 2) rfl ?_); refine qS ?hg (N := 2) ?hd (cs := #[.int .i64 a0_0, .int .i64 a0_1, .int .i64 a0_2, .int .i64 a0_3, .int .i64 a0_4, .int .i64 a0_5]) (t := 29) ?hr ?_; (case hd => rfl); (case hg => rfl); (case hr => first | (go_simp; done) | (go_simp; rfl)); intro gb303 hg w21 hbox hb; have n0_ := Aside0.mk (qF bl hb); have n1_ := Aside0.mk (hbox); have n2_ := Aside0.mk ((gg hg)); have n3_ := Aside0.mk ((gg hg)); clear HB; have HB := n0_; have BK303 := n1_; have GW303 := n2_; have GE303 := n3_; clear n0_ n1_ n2_ n3_; clear hb hbox hg) | ((with_reducible refine qU (N := 4) rfl ?_); refine qS ?hg (N := 4) ?hd (cs := #[.int .i64 0, .int .i64 0, .int .i64 0, .int .i64 0, .int .i64 0, .int .i64 0]) (t := 29) ?hr ?_; (case hd => rfl); (case hg => rfl); (case hr => first | (go_simp; done) | (go_simp; rfl)); intro gb304 hg w22 hbox hb; have n0_ := Aside0.mk (bb BK303 hb); have n1_ := Aside0.mk (qF bl hb); have n2_ := Aside0.mk (hbox); have n3_ := Aside0.mk ((gg hg)); have n4_ := Aside0.mk ((gg hg)); have n5_ := Aside0.mk ((nl BK303 hg)); have n6_ := Aside0.mk ((nr BK303 hg)); clear BK303; clear HB; have BK303 := n0_; have HB := n1_; have BK304 := n2_; have GW304 := n3_; have GE304 := n4_; have NB303_304 := n5_; have NB304_303 := n6_; clear n0_ n1_ n2_ n3_ n4_ n5_ n6_; clear hb hbox hg; have hnb23 := NB303_304.out; have hnc23 := NB304_303.out; have hcz24_0 := bc BK303 0; have hcz24_1 := bc BK303 1; have hcz24_2 := bc BK303 2; have hcz24_3 := bc BK303 3; have hcz24_4 := bc BK303 4; have hcz24_5 := bc BK303 5; have hfz24_0 := qA BK303.out 0; have hfz24_1 := qA BK303.out 1; have hfz24_2 := qA BK303.out 2; have hfz24_3 := qA BK303.out 3; have hfz24_4 := qA BK303.out 4; have hfz24_5 := qA BK303.out 5; have hcz25_0 := bc BK304 0; have hcz25_1 := bc BK304 1; have hcz25_2 := bc BK304 2; have hcz25_3 := bc BK304 3; have hcz25_4 := bc BK304 4; have hcz25_5 := bc BK304 5; have hfz25_0 := qA BK304.out 0; have hfz25_1 := qA BK304.out 1; have hfz25_2 := qA BK304.out 2; have hfz25_3 := qA BK304.out 3; have hfz25_4 := qA BK304.out 4; have hfz25_5 := qA BK304.out 5))
    refine bodyPost_ret (results_cell_row rfl _ _ gb304 29 #[.int .i64 a0_2, .int .i64 a0_1, .int .i64 a0_5, .int .i64 a0_3, .int .i64 a0_0, .int .i64 a0_4] (0, 0) _ rfl (by (with_reducible repeat (first | refine qC ?_ _ | refine qE ?_ | refine qD ?_ _)); refine qR (cs := #[.int .i64 a0_2, .int .i64 a0_1, .int .i64 a0_5, .int .i64 a0_3, .int .i64 a0_0, .int .i64 0]) ?_ 5 _ rfl; (with_reducible repeat (first | refine qC ?_ _ | refine qE ?_ | refine qD ?_ _)); refine qR (cs := #[.int .i64 a0_2, .int .i64 a0_1, .int .i64 a0_5, .int .i64 a0_3, .int .i64 0, .int .i64 0]) ?_ 4 _ rfl; (with_reducible repeat (first | refine qC ?_ _ | refine qE ?_ | refine qD ?_ _)); refine qR (cs := #[.int .i64 a0_2, .int .i64 a0_1, .int .i64 a0_5, .int .i64 0, .int .i64 0, .int .i64 0]) ?_ 3 _ rfl; (with_reducible repeat (first | refine qC ?_ _ | refine qE ?_ | refine qD ?_ _)); refine qR (cs := #[.int .i64 a0_2, .int .i64 a0_1, .int .i64 0, .int .i64 0, .int .i64 0, .int .i64 0]) ?_ 2 _ rfl; (with_reducible repeat (first | refine qC ?_ _ | refine qE ?_ | refine qD ?_ _)); refine qR (cs := #[.int .i64 a0_2, .int .i64 0, .int .i64 0, .int .i64 0, .int .i64 0, .int .i64 0]) ?_ 1 _ rfl; (with_reducible repeat (first | refine qC ?_ _ | refine qE ?_ | refine qD ?_ _)); refine qR (cs := #[.int .i64 0, .int .i64 0, .int .i64 0, .int .i64 0, .int .i64 0, .int .i64 0]) ?_ 0 _ rfl; (with_reducible repeat (first | refine qC ?_ _ | refine qE ?_ | refine qD ?_ _)); exact BK304.out) Try.underlying29 rfl (by kernel_rfl)) rfl ?_
    exact ⟨by first | rfl | (simp [qP, qO] <;> rfl) | (simp [*, qP, qO] <;> rfl), bl⟩
def qjA.f  : Option (ByteArray) := some (⟨#[110, 101, 115, 119]⟩ : ByteArray)
set_option maxHeartbeats 8000000 in
set_option maxRecDepth 100000 in
theorem qjA.calls  (r : ByteArray) (w : World) (h : qjA.f  = some r) :
  Calls Try.prog 67 #[] w fun e w' => e = .returned (.string r) ∧ Drawn0 w w' := by
 have H : (some (⟨#[110, 101, 115, 119]⟩ : ByteArray)) = some r := h
 clear h
 obtain rfl := Option.some.inj H
 go_enter Try.func67, Try.ntmps67
 go_wp2
 go_ret
 exact ⟨by first | rfl | (simp; done) | (simp [*]; done), by repeat (first | exact Drawn0.refl _ | apply Drawn0.step)⟩
end Go.Proofs.Ytbmiekopflgicaa.P
namespace Go.Proofs.Ytbmiekopflgicaa.P
open Go.RowKit Go.Proofs.YtbmiekopflgicaaW.PrintWords Go.Proofs.YtbmiekopflgicaaW.PrintLast Go.Proofs.YtbmiekopflgicaaW.PrintMore
attribute [local go_sem] qn ql qx qw qh qg qm qk
set_option linter.unusedVariables false
set_option linter.unusedSimpArgs false
attribute [local go_sem high] eqA29
mutual
def qQ.l0 : Nat → List (S29) → List ByteArray → Int → Option ((List (S29)) × List ByteArray)
 | 0, _, _, _ => none
 | k + 1, x4, x5, x6 => if x6 < (x4.length : Int) then (qQ.l1 k x4 x5 x6 0) else (some (x4, x5))
def qQ.l1 : Nat → List (S29) → List ByteArray → Int → Int → Option ((List (S29)) × List ByteArray)
 | 0, _, _, _, _ => none
 | k + 1, x4, x5, x6, x7 => if x7 < 4 then (if 0 ≤ x6 then (if x6 < (x4.length : Int) then ((qoA.f ((qB x4 x6).f0) ((qB x4 x6).f1) ((qB x4 x6).f2) ((qB x4 x6).f3) ((qB x4 x6).f4) ((qB x4 x6).f5) x7).bind fun bt313 => (qQ.l2 k x4 x5 x6 x7 false (x4.length : Int) 0 bt313.1 bt313.2.1 bt313.2.2.1 bt313.2.2.2.1 bt313.2.2.2.2.1 bt313.2.2.2.2.2)) else (none)) else (none)) else (qQ.l0 k x4 x5 (wrap64 (x6 + 1)))
def qQ.l2 : Nat → List (S29) → List ByteArray → Int → Int → Bool → Int → Int → Int → Int → Int → Int → Int → Int → Option ((List (S29)) × List ByteArray)
 | 0, _, _, _, _, _, _, _, _, _, _, _, _, _ => none
 | k + 1, x4, x5, x6, x7, x9, x32, x33, x320000, x320001, x320002, x320003, x320004, x320005 => if x33 < x32 then (if 0 ≤ x33 then (if x33 < (x4.length : Int) then (if x9 = true then (qQ.l2 k x4 x5 x6 x7 true x32 (wrap64 (x33 + 1)) x320000 x320001 x320002 x320003 x320004 x320005) else (qQ.l2 k x4 x5 x6 x7 (((qB x4 x33).f0) == x320000 && (((qB x4 x33).f1) == x320001 && (((qB x4 x33).f2) == x320002 && (((qB x4 x33).f3) == x320003 && (((qB x4 x33).f4) == x320004 && (((qB x4 x33).f5) == x320005)))))) x32 (wrap64 (x33 + 1)) x320000 x320001 x320002 x320003 x320004 x320005)) else (none)) else (none)) else (if x9 = true then (qQ.l1 k x4 x5 x6 (wrap64 (x7 + 1))) else (if x4.length < 2932031007402 then (if 0 ≤ x6 then (if x6 < (x5.length : Int) then ((qjA.f).bind fun t326 => (if 0 ≤ x7 then (if x7 ≤ (wrap64 (x7 + 1)) then (if (wrap64 (x7 + 1)) ≤ (t326.size : Int) then (if (rdOf ByteArray.empty x5 x6).size + (t326.extract (x7 : Int).toNat ((wrap64 (x7 + 1)) : Int).toNat).size ≤ 9223372036854775807 then (if x5.length < 8796093022208 then (qQ.l1 k (x4 ++ [(⟨x320000, x320001, x320002, x320003, x320004, x320005⟩ : S29)]) (x5 ++ [(rdOf ByteArray.empty x5 x6) ++ (t326.extract (x7 : Int).toNat ((wrap64 (x7 + 1)) : Int).toNat)]) x6 (wrap64 (x7 + 1))) else (none)) else (none)) else (none)) else (none)) else (none))) else (none)) else (none)) else (none)))
end
def qQ.f (k : Nat) (a0_0 : Int) (a0_1 : Int) (a0_2 : Int) (a0_3 : Int) (a0_4 : Int) (a0_5 : Int) : Option ((List (S29)) × List ByteArray) := qQ.l0 k (([(⟨a0_0, a0_1, a0_2, a0_3, a0_4, a0_5⟩ : S29)] : List (S29))) (([(⟨#[]⟩ : ByteArray)] : List ByteArray)) 0
def qQ.T17 : Bool × List (List Nat × List Nat) := (true, [([], []), ([], []), ([], []), ([1, 2], [1, 2]), ([3], [3]), ([], []), ([], []), ([], []), ([7], [7]), ([5, 6, 8], [5, 6, 8]), ([4, 9], [4, 9]), ([10], [10]), ([0, 11, 5], [0, 11]), ([12, 12, 0, 1, 2, 3, 4, 5, 6, 7, 8, 9, 10, 11, 12], [0, 1, 12])])
def qQ.B17 : List Nat := [0, 0, 0, 6, 14, 0, 0, 0, 128, 480, 1022, 2046, 4095, 8191]
theorem qQ.tab17 : rtab .any (opsOf Try.f59 17) = qQ.T17 := by kernel_rfl
theorem qQ.bits17 : waitsOk qQ.T17.2 qQ.B17 = true := by kernel_rfl
set_option maxHeartbeats 8000000 in
set_option maxRecDepth 100000 in
theorem qQ.calls (k : Nat) (a0_0 : Int) (a0_1 : Int) (a0_2 : Int) (a0_3 : Int) (a0_4 : Int) (a0_5 : Int) (r1 : List (S29)) (r2 : List ByteArray) (w : World) (h : qQ.f k a0_0 a0_1 a0_2 a0_3 a0_4 a0_5 = some (r1, r2)) :
  Calls Try.prog 59 #[.agg #[.int .i64 a0_0, .int .i64 a0_1, .int .i64 a0_2, .int .i64 a0_3, .int .i64 a0_4, .int .i64 a0_5]] w fun e w' => ∃ v0_ v1_ : Value, e = .returned (.tuple #[v0_, v1_]) ∧ Kd.R k29 29 w' w.heap.size (fun _ => True) v0_ r1 ∧ Kd.R Kd.string 9 w' w.heap.size (fun _ => True) v1_ r2 ∧ Below w.heap.size w w' := by
 have hu29 := Try.underlying29
 have HB := Aside0.mk (Below.refl w.heap.size w)
 have H : (qQ.l0 k (([(⟨a0_0, a0_1, a0_2, a0_3, a0_4, a0_5⟩ : S29)] : List (S29))) (([(⟨#[]⟩ : ByteArray)] : List ByteArray)) 0) = some (r1, r2) := h
 clear h
 obtain ⟨y306, hy306⟩ : ∃ y_ : List (S29), y_ = (([(⟨a0_0, a0_1, a0_2, a0_3, a0_4, a0_5⟩ : S29)] : List (S29))) := ⟨_, rfl⟩
 replace H : (qQ.l0 k y306 (([(⟨#[]⟩ : ByteArray)] : List ByteArray)) 0) = some (r1, r2) := by first | (rw [hy306]; with_reducible exact H) | (have H2_ := (Option.bind_some _ _).symm.trans H; rw [hy306]; with_reducible exact H2_) | (have H2_ := (Option.bind_some _ _).symm.trans H; with_reducible exact H2_) | with_reducible exact H | (rw [hy306]; exact H) | exact H
 have Ny306 := Aside0.mk hy306
 clear hy306
 obtain ⟨y309, hy309⟩ : ∃ y_ : List ByteArray, y_ = (([(⟨#[]⟩ : ByteArray)] : List ByteArray)) := ⟨_, rfl⟩
 replace H : (qQ.l0 k y306 y309 0) = some (r1, r2) := by first | (rw [hy309]; with_reducible exact H) | (have H2_ := (Option.bind_some _ _).symm.trans H; rw [hy309]; with_reducible exact H2_) | (have H2_ := (Option.bind_some _ _).symm.trans H; with_reducible exact H2_) | with_reducible exact H | (rw [hy309]; exact H) | exact H
 have Ny309 := Aside0.mk hy309
 clear hy309
 have H' := Aside0.mk H
 clear H
 go_enter Try.func59, Try.ntmps59
 go_wp2_with (first | ((with_reducible refine qU (N := 1) rfl ?_); refine qS ?hg (N := 1) ?hd (cs := #[.int .i64 a0_0, .int .i64 a0_1, .int .i64 a0_2, .int .i64 a0_3, .int .i64 a0_4, .int .i64 a0_5]) (t := 29) ?hr ?_; (case hd => rfl); (case hg => rfl); (case hr => first | (go_simp; done) | (go_simp; rfl)); intro gb305 hg w2 hbox hb; have n0_ := Aside0.mk (qF bl hb); have n1_ := Aside0.mk (hbox); have n2_ := Aside0.mk ((gg hg)); have n3_ := Aside0.mk ((gg hg)); clear HB; have HB := n0_; have BK305 := n1_; have GW305 := n2_; have GE305 := n3_; clear n0_ n1_ n2_ n3_; clear hb hbox hg; have hcz3_0 := bc BK305 0; have hcz3_1 := bc BK305 1; have hcz3_2 := bc BK305 2; have hcz3_3 := bc BK305 3; have hcz3_4 := bc BK305 4; have hcz3_5 := bc BK305 5; have hfz3_0 := qA BK305.out 0; have hfz3_1 := qA BK305.out 1; have hfz3_2 := qA BK305.out 2; have hfz3_3 := qA BK305.out 3; have hfz3_4 := qA BK305.out 4; have hfz3_5 := qA BK305.out 5) | ((with_reducible refine qU (N := 13) rfl ?_); refine Kd.R_lit k29 _ 29 ?hg (N := 13) ?hd (xs := ([(⟨a0_0, a0_1, a0_2, a0_3, a0_4, a0_5⟩ : S29)] : List (S29))) (inner := [.int .i64 a0_0, .int .i64 a0_1, .int .i64 a0_2, .int .i64 a0_3, .int .i64 a0_4, .int .i64 a0_5]) (ok := fun _ => True) (okp := fun _ => True) ?hr ?hp (fun _ hk => hk) trivial (Below.refl _ _) (Nat.le_refl _) (by simp) ?_; (case hd => rfl); (case hg => rfl); (case hr => first | (go_simp; done) | (go_simp; rfl)); (case hp => exact (Reps.c6 (show Kd.M k29 _ _ _ (⟨a0_0, a0_1, a0_2, a0_3, a0_4, a0_5⟩ : S29) [.int .i64 a0_0, .int .i64 a0_1, .int .i64 a0_2, .int .i64 a0_3, .int .i64 a0_4, .int .i64 a0_5] from (qdA _ _ _ (⟨a0_0, a0_1, a0_2, a0_3, a0_4, a0_5⟩ : S29) )) (Reps.none _ _))); intro v307 w4 ho5 hb hg_ hnew_; clear hg_ hnew_; (first | rw [← Ny306.out] at ho5 | (simp only [Int.reduceToNat] at ho5; rw [← Ny306.out] at ho5)); have n0_ := Aside0.mk (Kd.qLA (Kd.qWA ho5 (g := gb305) (o := .cells #[.int .i64 a0_0, .int .i64 a0_1, .int .i64 a0_2, .int .i64 a0_3, .int .i64 a0_4, .int .i64 a0_5] 29 (0, 0)) (by (with_reducible repeat (first | refine qC ?_ _ | refine qE ?_ | refine qD ?_ _)); exact BK305.out)) (qb bl)); have n1_ := Aside0.mk (bb BK305 hb); have n2_ := Aside0.mk (qF bl hb); clear BK305; clear HB; have HO308 := n0_; have BK305 := n1_; have HB := n2_; clear n0_ n1_ n2_; clear hb ho5) | ((with_reducible refine qU (N := 14) rfl ?_); refine Kd.R_lit Kd.string _ 9 ?hg (N := 14) ?hd (xs := ([(⟨#[]⟩ : ByteArray)] : List ByteArray)) (inner := [.string (⟨#[]⟩ : ByteArray)]) (ok := fun _ => True) (okp := fun _ => True) ?hr ?hp (fun _ hk => hk) trivial (Below.refl _ _) (Nat.le_refl _) (by simp) ?_; (case hd => rfl); (case hg => rfl); (case hr => first | (go_simp; done) | (go_simp; rfl)); (case hp => exact (Reps.one (show Kd.M Kd.string _ _ _ (⟨#[]⟩ : ByteArray) [.string (⟨#[]⟩ : ByteArray)] from rfl) (Reps.none _ _))); intro v310 w6 ho7 hb hg_ hnew_; clear hg_ hnew_; (first | rw [← Ny309.out] at ho7 | (simp only [Int.reduceToNat] at ho7; rw [← Ny309.out] at ho7)); have n0_ := Aside0.mk (Kd.qAA (by (with_reducible repeat (first | apply Kd.qH | apply Kd.qI | apply Kd.qK)); exact HO308.out) hb); have n1_ := Aside0.mk (Kd.qLA ho7 (qb bl)); have n2_ := Aside0.mk (bb BK305 hb); have n3_ := Aside0.mk (qF bl hb); clear HO308; clear BK305; clear HB; have HO308 := n0_; have HO311 := n1_; have BK305 := n2_; have HB := n3_; clear n0_ n1_ n2_ n3_; clear hb ho7))
 go_loopg [4, 5, 6] k (fun kq v4 v5 v6 w' => ∃ (x4_1 : List (S29)) (x5_1 : List ByteArray) (x6_1 : Int), v6 = .int .i64 x6_1 ∧ Aside0 (qQ.l0 kq x4_1 x5_1 x6_1 = some (r1, r2)) ∧ Aside0 (kq ≤ k) ∧ Aside0 (Kd.R k29 29 w' w.heap.size (fun k_ => k_ ≠ gb305) v4 x4_1) ∧ Aside0 (Kd.R Kd.string 9 w' w.heap.size (fun _ => True) v5 x5_1) ∧ Aside0 (w'.heap[gb305]? = some (.cells #[.int .i64 a0_0, .int .i64 a0_1, .int .i64 a0_2, .int .i64 a0_3, .int .i64 a0_4, .int .i64 a0_5] 29 (0, 0))) ∧ Aside0 (Below w.heap.size w w'))
 case atStart => exact ⟨(y306), (y309), (0), (by first | rfl | (simp; done) | (simp [*]; done)), H', ⟨Nat.le_refl _⟩, ⟨by (with_reducible repeat (first | apply Kd.qH | apply Kd.qI | apply Kd.qK)); exact Kd.qa HO308.out (fun _ hk => hk.2)⟩, ⟨by (with_reducible repeat (first | apply Kd.qH | apply Kd.qI | apply Kd.qK)); exact HO311.out⟩, ⟨by (with_reducible repeat (first | refine qC ?_ _ | refine qE ?_ | refine qD ?_ _)); exact BK305.out⟩, ⟨bl⟩⟩
 case round =>
  clear H'
  try clear p2
  try clear c5
  try clear c6
  try clear hcz3_0
  try clear hcz3_1
  try clear hcz3_2
  try clear hcz3_3
  try clear hcz3_4
  try clear hcz3_5
  try clear hfz3_0
  try clear hfz3_1
  try clear hfz3_2
  try clear hfz3_3
  try clear hfz3_4
  try clear hfz3_5
  obtain ⟨x4_1, x5_1, x6_1, rfl, HA, HK1, HO_4, HO_5, BK305, HB⟩ := hrel
  cases gk with
  | zero => exact absurd HA.out (by simp [qQ.l0])
  | succ k1 =>
   have H := HA.out
   clear HA
   simp only [qQ.l0] at H
   by_cases c8 : x6_1 < (x4_1.length : Int)
   ·rw [if_pos c8] at H
    have c8b0 : decide (x6_1 < (x4_1.length : Int)) = true := decide_eq_true c8
    clear c8
    have H' := Aside0.mk H
    clear H
    obtain ⟨Ao9, co9, eo9⟩ := Kd.qHA HO_4.out
    subst eo9
    go_wp2
    go_loopg [4, 5, 7] k1 (fun kq v4 v5 v7 w' => ∃ (x4_2 : List (S29)) (x5_2 : List ByteArray) (x7_2 : Int), v7 = .int .i64 x7_2 ∧ Aside0 (qQ.l1 kq x4_2 x5_2 x6_1 x7_2 = some (r1, r2)) ∧ Aside0 (kq ≤ k1) ∧ Aside0 (Kd.R k29 29 w' w.heap.size (fun k_ => k_ ≠ gb305) v4 x4_2) ∧ Aside0 (Kd.R Kd.string 9 w' w.heap.size (fun _ => True) v5 x5_2) ∧ Aside0 (w'.heap[gb305]? = some (.cells #[.int .i64 a0_0, .int .i64 a0_1, .int .i64 a0_2, .int .i64 a0_3, .int .i64 a0_4, .int .i64 a0_5] 29 (0, 0))) ∧ Aside0 (Below w.heap.size w w'))
    case atStart => exact ⟨(x4_1), (x5_1), (0), (by first | rfl | (simp; done) | (simp [*]; done)), H', ⟨Nat.le_refl _⟩, ⟨by (with_reducible repeat (first | apply Kd.qH | apply Kd.qI | apply Kd.qK)); exact HO_4.out⟩, ⟨by (with_reducible repeat (first | apply Kd.qH | apply Kd.qI | apply Kd.qK)); exact HO_5.out⟩, ⟨by (with_reducible repeat (first | refine qC ?_ _ | refine qE ?_ | refine qD ?_ _)); exact BK305.out⟩, ⟨bl⟩⟩
    case round =>
     clear H'
     try clear p2
     try clear c5
     try clear c6
     try clear c8
     try clear c8b0
     try clear hcz3_0
     try clear hcz3_1
     try clear hcz3_2
     try clear hcz3_3
     try clear hcz3_4
     try clear hcz3_5
     try clear hfz3_0
     try clear hfz3_1
     try clear hfz3_2
     try clear hfz3_3
     try clear hfz3_4
     try clear hfz3_5
     try clear p2
     obtain ⟨x4_2, x5_2, x7_2, rfl, HA, HK2, HO_4, HO_5, BK305, HB⟩ := hrel
     cases gk with
     | zero => exact absurd HA.out (by simp [qQ.l1])
     | succ k2 =>
      have H := HA.out
      clear HA
      simp only [qQ.l1] at H
      by_cases c10 : x7_2 < 4
      ·rw [if_pos c10] at H
       have c10b0 : decide (x7_2 < 4) = true := decide_eq_true c10
       clear c10
       by_cases c11 : 0 ≤ x6_1
       ·rw [if_pos c11] at H
        have c11b0 : decide (0 ≤ x6_1) = true := decide_eq_true c11
        clear c11
        by_cases c12 : x6_1 < (x4_2.length : Int)
        ·rw [if_pos c12] at H
         have c12b0 : decide (x6_1 < (x4_2.length : Int)) = true := decide_eq_true c12
         clear c12
         replace H := Option.bind_eq_some_iff.mp H
         obtain ⟨⟨t313, t314, t315, t316, t317, t318⟩, A130, H⟩ := H
         replace H : (qQ.l2 k2 x4_2 x5_2 x6_1 x7_2 false (x4_2.length : Int) 0 t313 t314 t315 t316 t317 t318) = some (r1, r2) := H
         have A13 := Aside0.mk A130
         clear A130
         have H' := Aside0.mk H
         clear H
         obtain ⟨Ao14, co14, eo14⟩ := Kd.qHA HO_4.out
         subst eo14
         have p312 : 0 ≤ (x6_1 : Int) := of_decide_eq_true (by first | (with_reducible assumption) | assumption)
         have q312 : x6_1 < (x4_2.length : Int) := of_decide_eq_true (by first | (with_reducible assumption) | assumption)
         obtain ⟨ad312, e312, hx312_0, hx312_1, hx312_2, hx312_3, hx312_4, hx312_5⟩ := qOA (Kd.qT HO_4.out).2.2 x6_1 p312 q312
         cases e312
         replace p312 := eq_true p312
         replace q312 := eq_true q312
         go_wp2_with (first | ((with_reducible refine qL (f := 66) rfl ?_); refine qc (some 30) rfl rfl Try.func66 (by kernel_rfl) rfl #[.agg #[.int .i64 ((qB x4_2 x6_1).f0), .int .i64 ((qB x4_2 x6_1).f1), .int .i64 ((qB x4_2 x6_1).f2), .int .i64 ((qB x4_2 x6_1).f3), .int .i64 ((qB x4_2 x6_1).f4), .int .i64 ((qB x4_2 x6_1).f5)], .int .i64 x7_2] rfl (by (try simp only [List.map_toArray, List.map_cons, List.map_nil]); first | done | rfl | (simp only [List.length_drop, List.length_take]; rfl)) ?_; (with_reducible refine (qoA.calls ((qB x4_2 x6_1).f0) ((qB x4_2 x6_1).f1) ((qB x4_2 x6_1).f2) ((qB x4_2 x6_1).f3) ((qB x4_2 x6_1).f4) ((qB x4_2 x6_1).f5) x7_2 t313 t314 t315 t316 t317 t318 _ A13.out).mono ?_); rintro e w15 ⟨rfl, hb⟩; refine ⟨_, rfl, ?_⟩; have n0_ := Aside0.mk (Kd.qAA (by (with_reducible repeat (first | apply Kd.qH | apply Kd.qI | apply Kd.qK)); exact HO_4.out) hb); have n1_ := Aside0.mk (Kd.qAA (by (with_reducible repeat (first | apply Kd.qH | apply Kd.qI | apply Kd.qK)); exact HO_5.out) hb); have n2_ := Aside0.mk (bb BK305 hb); have n3_ := Aside0.mk (qF bl hb); clear HO_4; clear HO_5; clear BK305; clear HB; have HO_4 := n0_; have HO_5 := n1_; have BK305 := n2_; have HB := n3_; clear n0_ n1_ n2_ n3_; (try clear hb); (try clear hb2); (try clear hk); (try clear hi)) | ((with_reducible refine qU (N := 8) rfl ?_); refine qS ?hg (N := 8) ?hd (cs := #[.int .i64 0, .int .i64 0, .int .i64 0, .int .i64 0, .int .i64 0, .int .i64 0]) (t := 29) ?hr ?_; (case hd => rfl); (case hg => rfl); (case hr => first | (go_simp; done) | (go_simp; rfl)); intro gb319 hg w16 hbox hb; have n0_ := Aside0.mk (Kd.qAA (Kd.qeB (by (with_reducible repeat (first | apply Kd.qH | apply Kd.qI | apply Kd.qK)); exact HO_4.out) gb319 (Nat.le_of_eq hg.symm)) hb); have n1_ := Aside0.mk (Kd.qAA (by (with_reducible repeat (first | apply Kd.qH | apply Kd.qI | apply Kd.qK)); exact HO_5.out) hb); have n2_ := Aside0.mk (bb BK305 hb); have n3_ := Aside0.mk (qF bl hb); have n4_ := Aside0.mk (hbox); have n5_ := Aside0.mk ((gg hg)); have n6_ := Aside0.mk ((gg hg)); have n7_ := Aside0.mk ((nl BK305 hg)); have n8_ := Aside0.mk ((nr BK305 hg)); clear HO_4; clear HO_5; clear BK305; clear HB; have HO_4 := n0_; have HO_5 := n1_; have BK305 := n2_; have HB := n3_; have BK319 := n4_; have GW319 := n5_; have GE319 := n6_; have NB305_319 := n7_; have NB319_305 := n8_; clear n0_ n1_ n2_ n3_ n4_ n5_ n6_ n7_ n8_; clear hb hbox hg; have hnb17 := NB319_305.out; have hnc17 := NB305_319.out; have hcz18_0 := bc BK319 0; have hcz18_1 := bc BK319 1; have hcz18_2 := bc BK319 2; have hcz18_3 := bc BK319 3; have hcz18_4 := bc BK319 4; have hcz18_5 := bc BK319 5; have hfz18_0 := qA BK319.out 0; have hfz18_1 := qA BK319.out 1; have hfz18_2 := qA BK319.out 2; have hfz18_3 := qA BK319.out 3; have hfz18_4 := qA BK319.out 4; have hfz18_5 := qA BK319.out 5))
         go_loopg [9, 33] k2 (fun kq v9 v33 w' => ∃ (x9_3 : Bool) (x33_3 : Int), v9 = .bool x9_3 ∧ v33 = .int .i64 x33_3 ∧ Aside0 (qQ.l2 kq x4_2 x5_2 x6_1 x7_2 x9_3 (x4_2.length : Int) x33_3 t313 t314 t315 t316 t317 t318 = some (r1, r2)) ∧ Aside0 (kq ≤ k2) ∧ Aside0 (Kd.R k29 29 w' w.heap.size (fun k_ => k_ ≠ gb305 ∧ k_ ≠ gb319) (.slice (some ad312) x4_2.length co14) x4_2) ∧ Aside0 (Kd.R Kd.string 9 w' w.heap.size (fun _ => True) u5 x5_2) ∧ Aside0 (w'.heap[gb305]? = some (.cells #[.int .i64 a0_0, .int .i64 a0_1, .int .i64 a0_2, .int .i64 a0_3, .int .i64 a0_4, .int .i64 a0_5] 29 (0, 0))) ∧ Aside0 (w'.heap[gb319]? = some (.cells #[.int .i64 t313, .int .i64 t314, .int .i64 t315, .int .i64 t316, .int .i64 t317, .int .i64 t318] 29 (0, 0))) ∧ Aside0 (Below w.heap.size w w'))
         case atStart => exact ⟨(false), (0), (by first | rfl | (simp; done) | (simp [*]; done)), (by first | rfl | (simp; done) | (simp [*]; done)), H', ⟨Nat.le_refl _⟩, ⟨by (with_reducible repeat (first | apply Kd.qH | apply Kd.qI | apply Kd.qK)); exact Kd.qa (Kd.R_far (p := ⟨gb319, 5, none⟩) (Kd.R_far (p := ⟨gb319, 4, none⟩) (Kd.R_far (p := ⟨gb319, 3, none⟩) (Kd.R_far (p := ⟨gb319, 2, none⟩) (Kd.R_far (p := ⟨gb319, 1, none⟩) (Kd.R_far (p := ⟨gb319, 0, none⟩) (Kd.qa HO_4.out (fun k_ hk => (⟨hk, hk.2⟩ : _ ∧ k_ ≠ gb319))) (fun _ hk => hk.2) (.int .i64 t313)) (fun _ hk => hk.2) (.int .i64 t314)) (fun _ hk => hk.2) (.int .i64 t315)) (fun _ hk => hk.2) (.int .i64 t316)) (fun _ hk => hk.2) (.int .i64 t317)) (fun _ hk => hk.2) (.int .i64 t318)) (fun _ hk => ⟨hk.1.1, hk.1.2⟩)⟩, ⟨by (with_reducible repeat (first | apply Kd.qH | apply Kd.qI | apply Kd.qK)); exact Kd.qa (Kd.R_far (p := ⟨gb319, 5, none⟩) (Kd.R_far (p := ⟨gb319, 4, none⟩) (Kd.R_far (p := ⟨gb319, 3, none⟩) (Kd.R_far (p := ⟨gb319, 2, none⟩) (Kd.R_far (p := ⟨gb319, 1, none⟩) (Kd.R_far (p := ⟨gb319, 0, none⟩) (Kd.qNC HO_5.out BK319.out (by decide)) (fun _ hk => hk.2) (.int .i64 t313)) (fun _ hk => hk.2) (.int .i64 t314)) (fun _ hk => hk.2) (.int .i64 t315)) (fun _ hk => hk.2) (.int .i64 t316)) (fun _ hk => hk.2) (.int .i64 t317)) (fun _ hk => hk.2) (.int .i64 t318)) (fun _ hk => trivial)⟩, ⟨by (with_reducible repeat (first | refine qC ?_ _ | refine qE ?_ | refine qD ?_ _)); refine qV ?_ NB305_319.out _; (with_reducible repeat (first | refine qC ?_ _ | refine qE ?_ | refine qD ?_ _)); refine qV ?_ NB305_319.out _; (with_reducible repeat (first | refine qC ?_ _ | refine qE ?_ | refine qD ?_ _)); refine qV ?_ NB305_319.out _; (with_reducible repeat (first | refine qC ?_ _ | refine qE ?_ | refine qD ?_ _)); refine qV ?_ NB305_319.out _; (with_reducible repeat (first | refine qC ?_ _ | refine qE ?_ | refine qD ?_ _)); refine qV ?_ NB305_319.out _; (with_reducible repeat (first | refine qC ?_ _ | refine qE ?_ | refine qD ?_ _)); refine qV ?_ NB305_319.out _; (with_reducible repeat (first | refine qC ?_ _ | refine qE ?_ | refine qD ?_ _)); exact BK305.out⟩, ⟨by (with_reducible repeat (first | refine qC ?_ _ | refine qE ?_ | refine qD ?_ _)); refine qR (cs := #[.int .i64 t313, .int .i64 t314, .int .i64 t315, .int .i64 t316, .int .i64 t317, .int .i64 0]) ?_ 5 _ rfl; (with_reducible repeat (first | refine qC ?_ _ | refine qE ?_ | refine qD ?_ _)); refine qR (cs := #[.int .i64 t313, .int .i64 t314, .int .i64 t315, .int .i64 t316, .int .i64 0, .int .i64 0]) ?_ 4 _ rfl; (with_reducible repeat (first | refine qC ?_ _ | refine qE ?_ | refine qD ?_ _)); refine qR (cs := #[.int .i64 t313, .int .i64 t314, .int .i64 t315, .int .i64 0, .int .i64 0, .int .i64 0]) ?_ 3 _ rfl; (with_reducible repeat (first | refine qC ?_ _ | refine qE ?_ | refine qD ?_ _)); refine qR (cs := #[.int .i64 t313, .int .i64 t314, .int .i64 0, .int .i64 0, .int .i64 0, .int .i64 0]) ?_ 2 _ rfl; (with_reducible repeat (first | refine qC ?_ _ | refine qE ?_ | refine qD ?_ _)); refine qR (cs := #[.int .i64 t313, .int .i64 0, .int .i64 0, .int .i64 0, .int .i64 0, .int .i64 0]) ?_ 1 _ rfl; (with_reducible repeat (first | refine qC ?_ _ | refine qE ?_ | refine qD ?_ _)); refine qR (cs := #[.int .i64 0, .int .i64 0, .int .i64 0, .int .i64 0, .int .i64 0, .int .i64 0]) ?_ 0 _ rfl; (with_reducible repeat (first | refine qC ?_ _ | refine qE ?_ | refine qD ?_ _)); exact BK319.out⟩, ⟨bl⟩⟩
         case round =>
          clear H'
          try clear c1
          try clear p2
          try clear p3
          try clear q3
          try clear hx3
          try clear c5
          try clear c6
          try clear c8
          try clear c8b0
          try clear c10
          try clear c10b0
          try clear c11
          try clear c11b0
          try clear c12
          try clear c12b0
          try clear c17
          try clear hcz18_0
          try clear hcz18_1
          try clear hcz18_2
          try clear hcz18_3
          try clear hcz18_4
          try clear hcz18_5
          try clear hcz3_0
          try clear hcz3_1
          try clear hcz3_2
          try clear hcz3_3
          try clear hcz3_4
          try clear hcz3_5
          try clear hfz18_0
          try clear hfz18_1
          try clear hfz18_2
          try clear hfz18_3
          try clear hfz18_4
          try clear hfz18_5
          try clear hfz3_0
          try clear hfz3_1
          try clear hfz3_2
          try clear hfz3_3
          try clear hfz3_4
          try clear hfz3_5
          try clear hx312_0
          try clear hx312_1
          try clear hx312_2
          try clear hx312_3
          try clear hx312_4
          try clear hx312_5
          try clear p2
          try clear p312
          try clear q312
          obtain ⟨x9_3, x33_3, rfl, rfl, HA, HK3, HO_4, HO_5, BK305, BK319, HB⟩ := hrel
          cases gk with
          | zero => exact absurd HA.out (by simp [qQ.l2])
          | succ k3 =>
           have H := HA.out
           clear HA
           simp only [qQ.l2] at H
           by_cases c19 : x33_3 < (x4_2.length : Int)
           ·rw [if_pos c19] at H
            have c19b0 : decide (x33_3 < (x4_2.length : Int)) = true := decide_eq_true c19
            clear c19
            by_cases c20 : 0 ≤ x33_3
            ·rw [if_pos c20] at H
             have c20b0 : decide (0 ≤ x33_3) = true := decide_eq_true c20
             clear c20
             by_cases c21 : x33_3 < (x4_2.length : Int)
             ·rw [if_pos c21] at H
              have c21b0 : decide (x33_3 < (x4_2.length : Int)) = true := decide_eq_true c21
              clear c21
              by_cases c22 : x9_3 = true
              ·subst c22
               have H1 : (qQ.l2 k3 x4_2 x5_2 x6_1 x7_2 true (x4_2.length : Int) (wrap64 (x33_3 + 1)) t313 t314 t315 t316 t317 t318) = some (r1, r2) := by rw [if_pos rfl] at H; exact H
               clear H
               have H := H1
               clear H1
               have H' := Aside0.mk H
               clear H
               have p320 : 0 ≤ (x33_3 : Int) := of_decide_eq_true (by first | (with_reducible assumption) | assumption)
               have q320 : x33_3 < (x4_2.length : Int) := of_decide_eq_true (by first | (with_reducible assumption) | assumption)
               obtain ⟨ad320, e320, hx320_0, hx320_1, hx320_2, hx320_3, hx320_4, hx320_5⟩ := qOA (Kd.qT HO_4.out).2.2 x33_3 p320 q320
               obtain rfl : ad312 = ad320 := (by injection e320)
               replace p320 := eq_true p320
               replace q320 := eq_true q320
               go_wp2_with (first | ((with_reducible refine qU (N := 11) rfl ?_); refine qS ?hg (N := 11) ?hd (cs := #[.int .i64 0, .int .i64 0, .int .i64 0, .int .i64 0, .int .i64 0, .int .i64 0]) (t := 29) ?hr ?_; (case hd => rfl); (case hg => rfl); (case hr => first | (go_simp; done) | (go_simp; rfl)); intro gb321 hg w23 hbox hb; have n0_ := Aside0.mk (Kd.qAA (Kd.qeB (by (with_reducible repeat (first | apply Kd.qH | apply Kd.qI | apply Kd.qK)); exact HO_4.out) gb321 (Nat.le_of_eq hg.symm)) hb); have n1_ := Aside0.mk (Kd.qAA (by (with_reducible repeat (first | apply Kd.qH | apply Kd.qI | apply Kd.qK)); exact HO_5.out) hb); have n2_ := Aside0.mk (bb BK305 hb); have n3_ := Aside0.mk (bb BK319 hb); have n4_ := Aside0.mk (qF bl hb); have n5_ := Aside0.mk (hbox); have n6_ := Aside0.mk ((gg hg)); have n7_ := Aside0.mk ((gg hg)); have n8_ := Aside0.mk ((nl BK305 hg)); have n9_ := Aside0.mk ((nr BK305 hg)); have n10_ := Aside0.mk ((nl BK319 hg)); have n11_ := Aside0.mk ((nr BK319 hg)); clear HO_4; clear HO_5; clear BK305; clear BK319; clear HB; have HO_4 := n0_; have HO_5 := n1_; have BK305 := n2_; have BK319 := n3_; have HB := n4_; have BK321 := n5_; have GW321 := n6_; have GE321 := n7_; have NB305_321 := n8_; have NB321_305 := n9_; have NB319_321 := n10_; have NB321_319 := n11_; clear n0_ n1_ n2_ n3_ n4_ n5_ n6_ n7_ n8_ n9_ n10_ n11_; clear hb hbox hg; have hnb24 := NB321_305.out; have hnc24 := NB305_321.out; have hnb25 := NB321_319.out; have hnc25 := NB319_321.out; have hcz26_0 := bc BK321 0; have hcz26_1 := bc BK321 1; have hcz26_2 := bc BK321 2; have hcz26_3 := bc BK321 3; have hcz26_4 := bc BK321 4; have hcz26_5 := bc BK321 5; have hfz26_0 := qA BK321.out 0; have hfz26_1 := qA BK321.out 1; have hfz26_2 := qA BK321.out 2; have hfz26_3 := qA BK321.out 3; have hfz26_4 := qA BK321.out 4; have hfz26_5 := qA BK321.out 5))
               go_roundg k3
               case measure => have := HK1.out; have := HK2.out; have := HK3.out; omega
               case rel => exact ⟨(true), (wrap64 (x33_3 + 1)), (by first | rfl | (simp; done) | (simp [*]; done)), (by first | rfl | (simp; done) | (simp [*]; done)), H', ⟨by have := HK1.out; have := HK2.out; have := HK3.out; omega⟩, ⟨by (with_reducible repeat (first | apply Kd.qH | apply Kd.qI | apply Kd.qK)); exact Kd.qa (Kd.R_far (p := ⟨gb321, 5, none⟩) (Kd.R_far (p := ⟨gb321, 4, none⟩) (Kd.R_far (p := ⟨gb321, 3, none⟩) (Kd.R_far (p := ⟨gb321, 2, none⟩) (Kd.R_far (p := ⟨gb321, 1, none⟩) (Kd.R_far (p := ⟨gb321, 0, none⟩) (Kd.qa HO_4.out (fun k_ hk => (⟨hk, hk.2⟩ : _ ∧ k_ ≠ gb321))) (fun _ hk => hk.2) (.int .i64 ((qB x4_2 x33_3).f0))) (fun _ hk => hk.2) (.int .i64 ((qB x4_2 x33_3).f1))) (fun _ hk => hk.2) (.int .i64 ((qB x4_2 x33_3).f2))) (fun _ hk => hk.2) (.int .i64 ((qB x4_2 x33_3).f3))) (fun _ hk => hk.2) (.int .i64 ((qB x4_2 x33_3).f4))) (fun _ hk => hk.2) (.int .i64 ((qB x4_2 x33_3).f5))) (fun _ hk => ⟨hk.1.1.1, hk.1.1.2⟩)⟩, ⟨by (with_reducible repeat (first | apply Kd.qH | apply Kd.qI | apply Kd.qK)); exact Kd.qa (Kd.R_far (p := ⟨gb321, 5, none⟩) (Kd.R_far (p := ⟨gb321, 4, none⟩) (Kd.R_far (p := ⟨gb321, 3, none⟩) (Kd.R_far (p := ⟨gb321, 2, none⟩) (Kd.R_far (p := ⟨gb321, 1, none⟩) (Kd.R_far (p := ⟨gb321, 0, none⟩) (Kd.qNC HO_5.out BK321.out (by decide)) (fun _ hk => hk.2) (.int .i64 ((qB x4_2 x33_3).f0))) (fun _ hk => hk.2) (.int .i64 ((qB x4_2 x33_3).f1))) (fun _ hk => hk.2) (.int .i64 ((qB x4_2 x33_3).f2))) (fun _ hk => hk.2) (.int .i64 ((qB x4_2 x33_3).f3))) (fun _ hk => hk.2) (.int .i64 ((qB x4_2 x33_3).f4))) (fun _ hk => hk.2) (.int .i64 ((qB x4_2 x33_3).f5))) (fun _ hk => trivial)⟩, ⟨by (with_reducible repeat (first | refine qC ?_ _ | refine qE ?_ | refine qD ?_ _)); refine qV ?_ NB305_321.out _; (with_reducible repeat (first | refine qC ?_ _ | refine qE ?_ | refine qD ?_ _)); refine qV ?_ NB305_321.out _; (with_reducible repeat (first | refine qC ?_ _ | refine qE ?_ | refine qD ?_ _)); refine qV ?_ NB305_321.out _; (with_reducible repeat (first | refine qC ?_ _ | refine qE ?_ | refine qD ?_ _)); refine qV ?_ NB305_321.out _; (with_reducible repeat (first | refine qC ?_ _ | refine qE ?_ | refine qD ?_ _)); refine qV ?_ NB305_321.out _; (with_reducible repeat (first | refine qC ?_ _ | refine qE ?_ | refine qD ?_ _)); refine qV ?_ NB305_321.out _; (with_reducible repeat (first | refine qC ?_ _ | refine qE ?_ | refine qD ?_ _)); exact BK305.out⟩, ⟨by (with_reducible repeat (first | refine qC ?_ _ | refine qE ?_ | refine qD ?_ _)); refine qV ?_ NB319_321.out _; (with_reducible repeat (first | refine qC ?_ _ | refine qE ?_ | refine qD ?_ _)); refine qV ?_ NB319_321.out _; (with_reducible repeat (first | refine qC ?_ _ | refine qE ?_ | refine qD ?_ _)); refine qV ?_ NB319_321.out _; (with_reducible repeat (first | refine qC ?_ _ | refine qE ?_ | refine qD ?_ _)); refine qV ?_ NB319_321.out _; (with_reducible repeat (first | refine qC ?_ _ | refine qE ?_ | refine qD ?_ _)); refine qV ?_ NB319_321.out _; (with_reducible repeat (first | refine qC ?_ _ | refine qE ?_ | refine qD ?_ _)); refine qV ?_ NB319_321.out _; (with_reducible repeat (first | refine qC ?_ _ | refine qE ?_ | refine qD ?_ _)); exact BK319.out⟩, ⟨bl⟩⟩
              ·replace c22 := Bool.eq_false_iff.mpr c22
               subst c22
               have H1 : (qQ.l2 k3 x4_2 x5_2 x6_1 x7_2 (((qB x4_2 x33_3).f0) == t313 && (((qB x4_2 x33_3).f1) == t314 && (((qB x4_2 x33_3).f2) == t315 && (((qB x4_2 x33_3).f3) == t316 && (((qB x4_2 x33_3).f4) == t317 && (((qB x4_2 x33_3).f5) == t318)))))) (x4_2.length : Int) (wrap64 (x33_3 + 1)) t313 t314 t315 t316 t317 t318) = some (r1, r2) := by rw [if_neg (show ¬ (false = true) by decide)] at H; exact H
               clear H
               have H := H1
               clear H1
               have H' := Aside0.mk H
               clear H
               have p320 : 0 ≤ (x33_3 : Int) := of_decide_eq_true (by first | (with_reducible assumption) | assumption)
               have q320 : x33_3 < (x4_2.length : Int) := of_decide_eq_true (by first | (with_reducible assumption) | assumption)
               obtain ⟨ad320, e320, hx320_0, hx320_1, hx320_2, hx320_3, hx320_4, hx320_5⟩ := qOA (Kd.qT HO_4.out).2.2 x33_3 p320 q320
               obtain rfl : ad312 = ad320 := (by injection e320)
               replace p320 := eq_true p320
               replace q320 := eq_true q320
               go_wp2_with (first | ((with_reducible refine qU (N := 11) rfl ?_); refine qS ?hg (N := 11) ?hd (cs := #[.int .i64 0, .int .i64 0, .int .i64 0, .int .i64 0, .int .i64 0, .int .i64 0]) (t := 29) ?hr ?_; (case hd => rfl); (case hg => rfl); (case hr => first | (go_simp; done) | (go_simp; rfl)); intro gb321 hg w27 hbox hb; have n0_ := Aside0.mk (Kd.qAA (Kd.qeB (by (with_reducible repeat (first | apply Kd.qH | apply Kd.qI | apply Kd.qK)); exact HO_4.out) gb321 (Nat.le_of_eq hg.symm)) hb); have n1_ := Aside0.mk (Kd.qAA (by (with_reducible repeat (first | apply Kd.qH | apply Kd.qI | apply Kd.qK)); exact HO_5.out) hb); have n2_ := Aside0.mk (bb BK305 hb); have n3_ := Aside0.mk (bb BK319 hb); have n4_ := Aside0.mk (qF bl hb); have n5_ := Aside0.mk (hbox); have n6_ := Aside0.mk ((gg hg)); have n7_ := Aside0.mk ((gg hg)); have n8_ := Aside0.mk ((nl BK305 hg)); have n9_ := Aside0.mk ((nr BK305 hg)); have n10_ := Aside0.mk ((nl BK319 hg)); have n11_ := Aside0.mk ((nr BK319 hg)); clear HO_4; clear HO_5; clear BK305; clear BK319; clear HB; have HO_4 := n0_; have HO_5 := n1_; have BK305 := n2_; have BK319 := n3_; have HB := n4_; have BK321 := n5_; have GW321 := n6_; have GE321 := n7_; have NB305_321 := n8_; have NB321_305 := n9_; have NB319_321 := n10_; have NB321_319 := n11_; clear n0_ n1_ n2_ n3_ n4_ n5_ n6_ n7_ n8_ n9_ n10_ n11_; clear hb hbox hg; have hnb28 := NB321_305.out; have hnc28 := NB305_321.out; have hnb29 := NB321_319.out; have hnc29 := NB319_321.out; have hcz30_0 := bc BK321 0; have hcz30_1 := bc BK321 1; have hcz30_2 := bc BK321 2; have hcz30_3 := bc BK321 3; have hcz30_4 := bc BK321 4; have hcz30_5 := bc BK321 5; have hfz30_0 := qA BK321.out 0; have hfz30_1 := qA BK321.out 1; have hfz30_2 := qA BK321.out 2; have hfz30_3 := qA BK321.out 3; have hfz30_4 := qA BK321.out 4; have hfz30_5 := qA BK321.out 5; have hnb31 := NB319_305.out; have hnc31 := NB305_319.out; have hcz32_0 := bc BK319 0; have hcz32_1 := bc BK319 1; have hcz32_2 := bc BK319 2; have hcz32_3 := bc BK319 3; have hcz32_4 := bc BK319 4; have hcz32_5 := bc BK319 5; have hfz32_0 := qA BK319.out 0; have hfz32_1 := qA BK319.out 1; have hfz32_2 := qA BK319.out 2; have hfz32_3 := qA BK319.out 3; have hfz32_4 := qA BK319.out 4; have hfz32_5 := qA BK319.out 5))
               go_roundg k3
               case measure => have := HK1.out; have := HK2.out; have := HK3.out; omega
               case rel => exact ⟨((((qB x4_2 x33_3).f0) == t313 && (((qB x4_2 x33_3).f1) == t314 && (((qB x4_2 x33_3).f2) == t315 && (((qB x4_2 x33_3).f3) == t316 && (((qB x4_2 x33_3).f4) == t317 && (((qB x4_2 x33_3).f5) == t318))))))), (wrap64 (x33_3 + 1)), (by first | rfl | (simp; done) | (simp [*]; done)), (by first | rfl | (simp; done) | (simp [*]; done)), H', ⟨by have := HK1.out; have := HK2.out; have := HK3.out; omega⟩, ⟨by (with_reducible repeat (first | apply Kd.qH | apply Kd.qI | apply Kd.qK)); exact Kd.qa (Kd.R_far (p := ⟨gb321, 5, none⟩) (Kd.R_far (p := ⟨gb321, 4, none⟩) (Kd.R_far (p := ⟨gb321, 3, none⟩) (Kd.R_far (p := ⟨gb321, 2, none⟩) (Kd.R_far (p := ⟨gb321, 1, none⟩) (Kd.R_far (p := ⟨gb321, 0, none⟩) (Kd.qa HO_4.out (fun k_ hk => (⟨hk, hk.2⟩ : _ ∧ k_ ≠ gb321))) (fun _ hk => hk.2) (.int .i64 ((qB x4_2 x33_3).f0))) (fun _ hk => hk.2) (.int .i64 ((qB x4_2 x33_3).f1))) (fun _ hk => hk.2) (.int .i64 ((qB x4_2 x33_3).f2))) (fun _ hk => hk.2) (.int .i64 ((qB x4_2 x33_3).f3))) (fun _ hk => hk.2) (.int .i64 ((qB x4_2 x33_3).f4))) (fun _ hk => hk.2) (.int .i64 ((qB x4_2 x33_3).f5))) (fun _ hk => ⟨hk.1.1.1, hk.1.1.2⟩)⟩, ⟨by (with_reducible repeat (first | apply Kd.qH | apply Kd.qI | apply Kd.qK)); exact Kd.qa (Kd.R_far (p := ⟨gb321, 5, none⟩) (Kd.R_far (p := ⟨gb321, 4, none⟩) (Kd.R_far (p := ⟨gb321, 3, none⟩) (Kd.R_far (p := ⟨gb321, 2, none⟩) (Kd.R_far (p := ⟨gb321, 1, none⟩) (Kd.R_far (p := ⟨gb321, 0, none⟩) (Kd.qNC HO_5.out BK321.out (by decide)) (fun _ hk => hk.2) (.int .i64 ((qB x4_2 x33_3).f0))) (fun _ hk => hk.2) (.int .i64 ((qB x4_2 x33_3).f1))) (fun _ hk => hk.2) (.int .i64 ((qB x4_2 x33_3).f2))) (fun _ hk => hk.2) (.int .i64 ((qB x4_2 x33_3).f3))) (fun _ hk => hk.2) (.int .i64 ((qB x4_2 x33_3).f4))) (fun _ hk => hk.2) (.int .i64 ((qB x4_2 x33_3).f5))) (fun _ hk => trivial)⟩, ⟨by (with_reducible repeat (first | refine qC ?_ _ | refine qE ?_ | refine qD ?_ _)); refine qV ?_ NB305_321.out _; (with_reducible repeat (first | refine qC ?_ _ | refine qE ?_ | refine qD ?_ _)); refine qV ?_ NB305_321.out _; (with_reducible repeat (first | refine qC ?_ _ | refine qE ?_ | refine qD ?_ _)); refine qV ?_ NB305_321.out _; (with_reducible repeat (first | refine qC ?_ _ | refine qE ?_ | refine qD ?_ _)); refine qV ?_ NB305_321.out _; (with_reducible repeat (first | refine qC ?_ _ | refine qE ?_ | refine qD ?_ _)); refine qV ?_ NB305_321.out _; (with_reducible repeat (first | refine qC ?_ _ | refine qE ?_ | refine qD ?_ _)); refine qV ?_ NB305_321.out _; (with_reducible repeat (first | refine qC ?_ _ | refine qE ?_ | refine qD ?_ _)); exact BK305.out⟩, ⟨by (with_reducible repeat (first | refine qC ?_ _ | refine qE ?_ | refine qD ?_ _)); refine qV ?_ NB319_321.out _; (with_reducible repeat (first | refine qC ?_ _ | refine qE ?_ | refine qD ?_ _)); refine qV ?_ NB319_321.out _; (with_reducible repeat (first | refine qC ?_ _ | refine qE ?_ | refine qD ?_ _)); refine qV ?_ NB319_321.out _; (with_reducible repeat (first | refine qC ?_ _ | refine qE ?_ | refine qD ?_ _)); refine qV ?_ NB319_321.out _; (with_reducible repeat (first | refine qC ?_ _ | refine qE ?_ | refine qD ?_ _)); refine qV ?_ NB319_321.out _; (with_reducible repeat (first | refine qC ?_ _ | refine qE ?_ | refine qD ?_ _)); refine qV ?_ NB319_321.out _; (with_reducible repeat (first | refine qC ?_ _ | refine qE ?_ | refine qD ?_ _)); exact BK319.out⟩, ⟨bl⟩⟩
             ·rw [if_neg c21] at H
              exact absurd H (by simp)
            ·rw [if_neg c20] at H
             exact absurd H (by simp)
           ·rw [if_neg c19] at H
            have c19b0 : decide (x33_3 < (x4_2.length : Int)) = false := decide_eq_false c19
            clear c19
            by_cases c33 : x9_3 = true
            ·subst c33
             have H1 : (qQ.l1 k3 x4_2 x5_2 x6_1 (wrap64 (x7_2 + 1))) = some (r1, r2) := by rw [if_pos rfl] at H; exact H
             clear H
             have H := H1
             clear H1
             have H' := Aside0.mk H
             clear H
             go_wp2
             go_roundg k3
             case measure => have := HK1.out; have := HK2.out; have := HK3.out; omega
             case rel => exact ⟨(x4_2), (x5_2), (wrap64 (x7_2 + 1)), (by first | rfl | (simp; done) | (simp [*]; done)), H', ⟨by have := HK1.out; have := HK2.out; have := HK3.out; omega⟩, ⟨by (with_reducible repeat (first | apply Kd.qH | apply Kd.qI | apply Kd.qK)); exact Kd.qa HO_4.out (fun _ hk => hk.1)⟩, ⟨by (with_reducible repeat (first | apply Kd.qH | apply Kd.qI | apply Kd.qK)); exact HO_5.out⟩, ⟨by (with_reducible repeat (first | refine qC ?_ _ | refine qE ?_ | refine qD ?_ _)); exact BK305.out⟩, ⟨bl⟩⟩
            ·replace c33 := Bool.eq_false_iff.mpr c33
             subst c33
             have H1 : (if x4_2.length < 2932031007402 then (if 0 ≤ x6_1 then (if x6_1 < (x5_2.length : Int) then ((qjA.f).bind fun t326 => (if 0 ≤ x7_2 then (if x7_2 ≤ (wrap64 (x7_2 + 1)) then (if (wrap64 (x7_2 + 1)) ≤ (t326.size : Int) then (if (rdOf ByteArray.empty x5_2 x6_1).size + (t326.extract (x7_2 : Int).toNat ((wrap64 (x7_2 + 1)) : Int).toNat).size ≤ 9223372036854775807 then (if x5_2.length < 8796093022208 then (qQ.l1 k3 (x4_2 ++ [(⟨t313, t314, t315, t316, t317, t318⟩ : S29)]) (x5_2 ++ [(rdOf ByteArray.empty x5_2 x6_1) ++ (t326.extract (x7_2 : Int).toNat ((wrap64 (x7_2 + 1)) : Int).toNat)]) x6_1 (wrap64 (x7_2 + 1))) else (none)) else (none)) else (none)) else (none)) else (none))) else (none)) else (none)) else (none)) = some (r1, r2) := by rw [if_neg (show ¬ (false = true) by decide)] at H; exact H
             clear H
             have H := H1
             clear H1
             by_cases c34 : x4_2.length < 2932031007402
             ·rw [if_pos c34] at H
              have LMc34 := Aside0.mk c34
              clear c34
              obtain ⟨y322, hy322⟩ : ∃ y_ : List (S29), y_ = (x4_2 ++ [(⟨t313, t314, t315, t316, t317, t318⟩ : S29)]) := ⟨_, rfl⟩
              replace H : (if 0 ≤ x6_1 then (if x6_1 < (x5_2.length : Int) then ((qjA.f).bind fun t326 => (if 0 ≤ x7_2 then (if x7_2 ≤ (wrap64 (x7_2 + 1)) then (if (wrap64 (x7_2 + 1)) ≤ (t326.size : Int) then (if (rdOf ByteArray.empty x5_2 x6_1).size + (t326.extract (x7_2 : Int).toNat ((wrap64 (x7_2 + 1)) : Int).toNat).size ≤ 9223372036854775807 then (if x5_2.length < 8796093022208 then (qQ.l1 k3 y322 (x5_2 ++ [(rdOf ByteArray.empty x5_2 x6_1) ++ (t326.extract (x7_2 : Int).toNat ((wrap64 (x7_2 + 1)) : Int).toNat)]) x6_1 (wrap64 (x7_2 + 1))) else (none)) else (none)) else (none)) else (none)) else (none))) else (none)) else (none)) = some (r1, r2) := by first | (rw [hy322]; with_reducible exact H) | (have H2_ := (Option.bind_some _ _).symm.trans H; rw [hy322]; with_reducible exact H2_) | (have H2_ := (Option.bind_some _ _).symm.trans H; with_reducible exact H2_) | with_reducible exact H | (rw [hy322]; exact H) | exact H
              have Ny322 := Aside0.mk hy322
              clear hy322
              by_cases c35 : 0 ≤ x6_1
              ·rw [if_pos c35] at H
               have c35b0 : decide (0 ≤ x6_1) = true := decide_eq_true c35
               clear c35
               by_cases c36 : x6_1 < (x5_2.length : Int)
               ·rw [if_pos c36] at H
                have c36b0 : decide (x6_1 < (x5_2.length : Int)) = true := decide_eq_true c36
                clear c36
                replace H := Option.bind_eq_some_iff.mp H
                obtain ⟨t326, A370, H⟩ := H
                replace H : (if 0 ≤ x7_2 then (if x7_2 ≤ (wrap64 (x7_2 + 1)) then (if (wrap64 (x7_2 + 1)) ≤ (t326.size : Int) then (if (rdOf ByteArray.empty x5_2 x6_1).size + (t326.extract (x7_2 : Int).toNat ((wrap64 (x7_2 + 1)) : Int).toNat).size ≤ 9223372036854775807 then (if x5_2.length < 8796093022208 then (qQ.l1 k3 y322 (x5_2 ++ [(rdOf ByteArray.empty x5_2 x6_1) ++ (t326.extract (x7_2 : Int).toNat ((wrap64 (x7_2 + 1)) : Int).toNat)]) x6_1 (wrap64 (x7_2 + 1))) else (none)) else (none)) else (none)) else (none)) else (none)) = some (r1, r2) := H
                have A37 := Aside0.mk A370
                clear A370
                by_cases c38 : 0 ≤ x7_2
                ·rw [if_pos c38] at H
                 have c38b0 := eq_true c38
                 have c38b1 : decide (0 ≤ x7_2) = true := decide_eq_true c38
                 clear c38
                 by_cases c39 : x7_2 ≤ (wrap64 (x7_2 + 1))
                 ·rw [if_pos c39] at H
                  have c39b0 := eq_true c39
                  have c39b1 : decide (x7_2 ≤ (wrap64 (x7_2 + 1))) = true := decide_eq_true c39
                  by_cases c40 : (wrap64 (x7_2 + 1)) ≤ (t326.size : Int)
                  ·rw [if_pos c40] at H
                   have c40b0 := eq_true c40
                   have c40b1 : decide ((wrap64 (x7_2 + 1)) ≤ (t326.size : Int)) = true := decide_eq_true c40
                   by_cases c41 : (rdOf ByteArray.empty x5_2 x6_1).size + (t326.extract (x7_2 : Int).toNat ((wrap64 (x7_2 + 1)) : Int).toNat).size ≤ 9223372036854775807
                   ·rw [if_pos c41] at H
                    have c41b0 := eq_true c41
                    have c41b1 : decide ((rdOf ByteArray.empty x5_2 x6_1).size + (t326.extract (x7_2 : Int).toNat ((wrap64 (x7_2 + 1)) : Int).toNat).size ≤ 9223372036854775807) = true := decide_eq_true c41
                    try have c41b2 : (9223372036854775807 < (rdOf ByteArray.empty x5_2 x6_1).size + (t326.extract (x7_2 : Int).toNat ((wrap64 (x7_2 + 1)) : Int).toNat).size) = False := eq_false (Nat.not_lt.2 c41)
                    by_cases c42 : x5_2.length < 8796093022208
                    ·rw [if_pos c42] at H
                     have LMc42 := Aside0.mk c42
                     clear c42
                     obtain ⟨y327, hy327⟩ : ∃ y_ : List ByteArray, y_ = (x5_2 ++ [(rdOf ByteArray.empty x5_2 x6_1) ++ (t326.extract (x7_2 : Int).toNat ((wrap64 (x7_2 + 1)) : Int).toNat)]) := ⟨_, rfl⟩
                     replace H : (qQ.l1 k3 y322 y327 x6_1 (wrap64 (x7_2 + 1))) = some (r1, r2) := by first | (rw [hy327]; with_reducible exact H) | (have H2_ := (Option.bind_some _ _).symm.trans H; rw [hy327]; with_reducible exact H2_) | (have H2_ := (Option.bind_some _ _).symm.trans H; with_reducible exact H2_) | with_reducible exact H | (rw [hy327]; exact H) | exact H
                     have Ny327 := Aside0.mk hy327
                     clear hy327
                     have H' := Aside0.mk H
                     clear H
                     have hnb43 := NB319_305.out
                     have hnc43 := NB305_319.out
                     have hcz44_0 := bc BK319 0
                     have hcz44_1 := bc BK319 1
                     have hcz44_2 := bc BK319 2
                     have hcz44_3 := bc BK319 3
                     have hcz44_4 := bc BK319 4
                     have hcz44_5 := bc BK319 5
                     have hfz44_0 := qA BK319.out 0
                     have hfz44_1 := qA BK319.out 1
                     have hfz44_2 := qA BK319.out 2
                     have hfz44_3 := qA BK319.out 3
                     have hfz44_4 := qA BK319.out 4
                     have hfz44_5 := qA BK319.out 5
                     try go_wp2_with (first | ((with_reducible refine qtA (b := .append) (xs := #[.tmp 46, .tmp 48]) rfl ?_); at_builtin; refine Kd.qHC k29 (w0 := w) w.heap.size rfl (.tmp 46) (.tmp 48) 38 29 (.agg #[(.int .i64 0), (.int .i64 0), (.int .i64 0), (.int .i64 0), (.int .i64 0), (.int .i64 0)]) 48 rfl Try.underlying38 info29 rfl (by decide) (by omega) (.slice (some ad312) x4_2.length co14) x4_2 (⟨t313, t314, t315, t316, t317, t318⟩ : S29) [.int .i64 t313, .int .i64 t314, .int .i64 t315, .int .i64 t316, .int .i64 t317, .int .i64 t318] (fun k_ => k_ ≠ gb305 ∧ k_ ≠ gb319) (fun _ => False) rfl rfl ?aP (fun _ hk => hk.elim) ?aF ?aO ?aB ?aS ?aL ?_; (case aP => exact qdA _ _ _ (⟨t313, t314, t315, t316, t317, t318⟩ : S29)); (case aB => exact bl); (case aF => exact (fun k_ hk => ⟨Kd.freshB (g := gb305) (o := .cells #[.int .i64 a0_0, .int .i64 a0_1, .int .i64 a0_2, .int .i64 a0_3, .int .i64 a0_4, .int .i64 a0_5] 29 (0, 0)) (by (with_reducible repeat (first | refine qC ?_ _ | refine qE ?_ | refine qD ?_ _)); exact BK305.out) k_ hk, Kd.freshB (g := gb319) (o := .cells #[.int .i64 t313, .int .i64 t314, .int .i64 t315, .int .i64 t316, .int .i64 t317, .int .i64 t318] 29 (0, 0)) (by (with_reducible repeat (first | refine qC ?_ _ | refine qE ?_ | refine qD ?_ _)); exact BK319.out) k_ hk⟩)); (case aO => exact (by (with_reducible repeat (first | apply Kd.qH | apply Kd.qI | apply Kd.qK)); exact HO_4.out)); (case aS => exact (qb bl)); (case aL => have := LMc34.out; omega); intro v323 w45 ho hb hg hat; rw [← Ny322.out] at ho; have n0_ := Aside0.mk (Kd.qPC (by (with_reducible repeat (first | apply Kd.qH | apply Kd.qI | apply Kd.qK)); exact HO_5.out) (Kd.qOC (by (with_reducible repeat (first | apply Kd.qH | apply Kd.qI | apply Kd.qK)); exact HO_4.out)) (by decide) hg); have n1_ := Aside0.mk (qv (g := gb305) (o := .cells #[.int .i64 a0_0, .int .i64 a0_1, .int .i64 a0_2, .int .i64 a0_3, .int .i64 a0_4, .int .i64 a0_5] 29 (0, 0)) (by (with_reducible repeat (first | refine qC ?_ _ | refine qE ?_ | refine qD ?_ _)); exact BK305.out) hg (Kd.qhA HO_4.out (fun _ hk => hk.1))); have n2_ := Aside0.mk (qv (g := gb319) (o := .cells #[.int .i64 t313, .int .i64 t314, .int .i64 t315, .int .i64 t316, .int .i64 t317, .int .i64 t318] 29 (0, 0)) (by (with_reducible repeat (first | refine qC ?_ _ | refine qE ?_ | refine qD ?_ _)); exact BK319.out) hg (Kd.qhA HO_4.out (fun _ hk => hk.2))); have n3_ := Aside0.mk (hb); have n4_ := Aside0.mk (ho); clear HO_5; clear BK305; clear BK319; clear HB; clear HO_4; have HO_5 := n0_; have BK305 := n1_; have BK319 := n2_; have HB := n3_; have HO324 := n4_; clear n0_ n1_ n2_ n3_ n4_; clear ho hb hg hat))
                     have n0_ := Aside0.mk (Kd.qK HO_5.out)
                     have n1_ := Aside0.mk (Kd.qK HO324.out)
                     have n2_ := Aside0.mk (qE BK305.out)
                     have n3_ := Aside0.mk (qE BK319.out)
                     have n4_ := Aside0.mk (qt HB.out)
                     clear HO_5
                     clear HO324
                     clear BK305
                     clear BK319
                     clear HB
                     have HO_5 := n0_
                     have HO324 := n1_
                     have BK305 := n2_
                     have BK319 := n3_
                     have HB := n4_
                     clear n0_ n1_ n2_ n3_ n4_
                     obtain ⟨Ao47, co47, eo47⟩ := Kd.qHA HO_5.out
                     (first | subst eo47 | (injection eo47 with f1_ f2_ f3_; have f4_ := f1_.symm; have f5_ := f3_.symm; clear f1_ f2_ f3_; subst f4_; subst f5_))
                     have p325 : 0 ≤ (x6_1 : Int) := of_decide_eq_true (by first | (with_reducible assumption) | assumption)
                     have q325 : x6_1 < (x5_2.length : Int) := of_decide_eq_true (by first | (with_reducible assumption) | assumption)
                     obtain ⟨ad325, e325, hx325_0⟩ := Kd.qyB (Kd.qT HO_5.out).2.2 x6_1 p325 q325
                     cases e325
                     replace p325 := eq_true p325
                     replace q325 := eq_true q325
                     refine qyA (n := 14) (S := fun w' => w'.cell? (ad325.add (x6_1).toNat) = some (.string (rdOf ByteArray.empty x5_2 x6_1))) (ds := [11, 12]) #[false, false, false, false, false, false, false, false, false, false, false, false, false, false] (by kernel_rfl) rfl rfl (hx325_0) (fun hHeld => ?_); refine qbA qQ.tab17 qQ.bits17 (fun HT_ HW_ => ?_)
                     generalize w45.drew = w46 at HO_5 HO324 BK305 BK319 HB hx325_0 hHeld ⊢
                     refine pS (i := 0) (N := some 50) #[true, false, false, false, false, false, false, false, false, false, false, false, false, false] HT_ ?_
                     refine pS (i := 1) (N := some 51) #[true, true, false, false, false, false, false, false, false, false, false, false, false, false] HT_ ?_
                     refine pS (i := 2) (N := some 52) #[true, true, true, false, false, false, false, false, false, false, false, false, false, false] HT_ ?_
                     refine pS (i := 3) (N := some 53) #[true, true, true, true, false, false, false, false, false, false, false, false, false, false] HT_ ?_
                     refine pS (i := 6) (N := some 56) #[true, true, true, true, false, false, true, false, false, false, false, false, false, false] HT_ ?_
                     refine pS (i := 7) (N := some 57) #[true, true, true, true, false, false, true, true, false, false, false, false, false, false] HT_ ?_
                     refine pS (i := 8) (N := some 58) #[true, true, true, true, false, false, true, true, true, false, false, false, false, false] HT_ ?_
                     refine tS (i := 4) (N := some 54) #[true, true, true, true, true, false, true, true, true, false, false, false, false, false] HT_ HW_ hHeld ?_
                     refine one_ (i := 5) (N := some 55) #[true, true, true, true, true, true, true, true, true, false, false, false, false, false] rfl rfl (qsA HT_.out (by kernel_rfl)) (by decide) (fun K hK => ?_)
                     refine goes_ Try.func67 (by kernel_rfl) rfl #[] (by rfl) rfl rfl (by (try simp only [List.map_toArray, List.map_cons, List.map_nil]); first | done | rfl | (simp only [List.length_drop, List.length_take]; rfl)) ?_
                     with_reducible refine (qjA.calls  t326 _ A37.out).mono ?_
                     rintro e w' ⟨rfl, ⟨nd, rfl⟩⟩
                     refine ⟨_, rfl, ?_⟩
                     refine hK.out _ _ (hHeld) (fun hHeld => ?_)
                     clear hK K
                     refine norm_ (a' := ?_) ?_ ?_
                     rotate_left
                     ·show Act.put _ (some 55) _ = _
                      simp only [Act.put, List.setIfInBounds_toArray, List.set_cons_zero, List.set_cons_succ, i64_w, i32_w]
                      rfl
                     refine pS (i := 9) (N := some 59) #[true, true, true, true, true, true, true, true, true, true, false, false, false, false] HT_ ?_
                     refine pS (i := 10) (N := some 60) #[true, true, true, true, true, true, true, true, true, true, true, false, false, false] HT_ ?_
                     refine last_ (i := 11) (N := some 61) #[true, true, true, true, true, true, true, true, true, true, true, true, false, false] rfl rfl (qsA HT_.out (by kernel_rfl)) (by decide) (fun K hK => ?_)
                     refine qjB (w1 := ?_) (v := ?_) (by rfl) rfl ?_ ?_
                     rotate_left 2
                     ·go_simp
                      constructor
                      ·rfl
                      ·rfl
                     refine hK.out _ _ ?_
                     clear hK K
                     refine norm_ (a' := ?_) ?_ ?_
                     rotate_left
                     ·show Act.put _ (some 61) _ = _
                      simp only [Act.put, List.setIfInBounds_toArray, List.set_cons_zero, List.set_cons_succ, i64_w, i32_w]
                      rfl
                     refine last_ (i := 12) (N := some 62) #[true, true, true, true, true, true, true, true, true, true, true, true, true, false] rfl rfl (qsA HT_.out (by kernel_rfl)) (by decide) (fun K hK => ?_)
                     refine Kd.R_append_step Kd.string (w0 := w) w.heap.size (by rfl) (.tmp 50) (.tmp 61) 77 9 (.string ⟨#[]⟩) 16 rfl Try.underlying77 info9 rfl (by decide) (by omega) (.slice (some ad325) x5_2.length co47) x5_2 ((rdOf ByteArray.empty x5_2 x6_1) ++ (t326.extract (x7_2 : Int).toNat ((wrap64 (x7_2 + 1)) : Int).toNat)) [.string ((rdOf ByteArray.empty x5_2 x6_1) ++ (t326.extract (x7_2 : Int).toNat ((wrap64 (x7_2 + 1)) : Int).toNat))] (fun _ => True) (fun _ => False) rfl rfl ?aP (fun _ hk => hk.elim) ?aF ?aO ?aB ?aS ?aL ?_
                     (case aP => exact rfl)
                     (case aB => exact bl)
                     (case aF => exact (fun _ _ => trivial))
                     (case aO => exact (by (with_reducible repeat (first | apply Kd.qH | apply Kd.qI | apply Kd.qK)); exact HO_5.out))
                     (case aS => exact (qb bl))
                     (case aL => have := LMc42.out; omega)
                     intro v328 w48 ho hb hg hat
                     rw [← Ny327.out] at ho
                     have n0_ := Aside0.mk (qv (g := gb305) (o := .cells #[.int .i64 a0_0, .int .i64 a0_1, .int .i64 a0_2, .int .i64 a0_3, .int .i64 a0_4, .int .i64 a0_5] 29 (0, 0)) (by (with_reducible repeat (first | refine qC ?_ _ | refine qE ?_ | refine qD ?_ _)); exact BK305.out) hg (Kd.R_ne HO_5.out BK305.out (by decide)))
                     have n1_ := Aside0.mk (qv (g := gb319) (o := .cells #[.int .i64 t313, .int .i64 t314, .int .i64 t315, .int .i64 t316, .int .i64 t317, .int .i64 t318] 29 (0, 0)) (by (with_reducible repeat (first | refine qC ?_ _ | refine qE ?_ | refine qD ?_ _)); exact BK319.out) hg (Kd.R_ne HO_5.out BK319.out (by decide)))
                     have n2_ := Aside0.mk (Kd.qPC (by (with_reducible repeat (first | apply Kd.qH | apply Kd.qI | apply Kd.qK)); exact HO324.out) (Kd.qOC (by (with_reducible repeat (first | apply Kd.qH | apply Kd.qI | apply Kd.qK)); exact HO_5.out)) (by decide) hg)
                     have n3_ := Aside0.mk (hb)
                     have n4_ := Aside0.mk (ho)
                     clear BK305
                     clear BK319
                     clear HO324
                     clear HB
                     clear HO_5
                     have BK305 := n0_
                     have BK319 := n1_
                     have HO324 := n2_
                     have HB := n3_
                     have HO329 := n4_
                     clear n0_ n1_ n2_ n3_ n4_
                     clear ho hb hg hat
                     refine hK.out _ _ ?_
                     clear hK K
                     refine norm_ (a' := ?_) ?_ ?_
                     rotate_left
                     ·show Act.put _ (some 62) _ = _
                      simp only [Act.put, List.setIfInBounds_toArray, List.set_cons_zero, List.set_cons_succ, i64_w, i32_w]
                      rfl
                     refine pS (i := 13) (N := some 5) #[true, true, true, true, true, true, true, true, true, true, true, true, true, true] HT_ ?_
                     refine done_ (qBB HT_.out (by kernel_rfl)) ?_
                     try go_wp2
                     go_roundg k3
                     case measure => have := HK1.out; have := HK2.out; have := HK3.out; omega
                     case rel => exact ⟨(y322), (y327), (wrap64 (x7_2 + 1)), (by first | rfl | (simp; done) | (simp [*]; done)), H', ⟨by have := HK1.out; have := HK2.out; have := HK3.out; omega⟩, ⟨by (with_reducible repeat (first | apply Kd.qH | apply Kd.qI | apply Kd.qK)); exact Kd.qa HO324.out (fun _ hk => hk.1)⟩, ⟨by (with_reducible repeat (first | apply Kd.qH | apply Kd.qI | apply Kd.qK)); exact HO329.out⟩, ⟨by (with_reducible repeat (first | refine qC ?_ _ | refine qE ?_ | refine qD ?_ _)); exact BK305.out⟩, ⟨bl⟩⟩
                    ·rw [if_neg c42] at H
                     exact absurd H (by simp)
                   ·rw [if_neg c41] at H
                    exact absurd H (by simp)
                  ·rw [if_neg c40] at H
                   exact absurd H (by simp)
                 ·rw [if_neg c39] at H
                  exact absurd H (by simp)
                ·rw [if_neg c38] at H
                 exact absurd H (by simp)
               ·rw [if_neg c36] at H
                exact absurd H (by simp)
              ·rw [if_neg c35] at H
               exact absurd H (by simp)
             ·rw [if_neg c34] at H
              exact absurd H (by simp)
        ·rw [if_neg c12] at H
         exact absurd H (by simp)
       ·rw [if_neg c11] at H
        exact absurd H (by simp)
      ·rw [if_neg c10] at H
       have c10b0 : decide (x7_2 < 4) = false := decide_eq_false c10
       clear c10
       have H' := Aside0.mk H
       clear H
       go_wp2
       go_roundg k2
       case measure => have := HK1.out; have := HK2.out; omega
       case rel => exact ⟨(x4_2), (x5_2), (wrap64 (x6_1 + 1)), (by first | rfl | (simp; done) | (simp [*]; done)), H', ⟨by have := HK1.out; have := HK2.out; omega⟩, ⟨by (with_reducible repeat (first | apply Kd.qH | apply Kd.qI | apply Kd.qK)); exact HO_4.out⟩, ⟨by (with_reducible repeat (first | apply Kd.qH | apply Kd.qI | apply Kd.qK)); exact HO_5.out⟩, ⟨by (with_reducible repeat (first | refine qC ?_ _ | refine qE ?_ | refine qD ?_ _)); exact BK305.out⟩, ⟨bl⟩⟩
   ·rw [if_neg c8] at H
    have c8b0 : decide (x6_1 < (x4_1.length : Int)) = false := decide_eq_false c8
    clear c8
    simp only [Option.some.injEq, Prod.mk.injEq] at H
    obtain ⟨rfl, rfl⟩ := H
    obtain ⟨Ao49, co49, eo49⟩ := Kd.qHA HO_4.out
    subst eo49
    go_wp2
    go_ret2
    exact ⟨_, _, by first | rfl | (simp [qP, qO] <;> rfl) | (simp [*, qP, qO] <;> rfl), by (with_reducible repeat (first | apply Kd.qH | apply Kd.qI | apply Kd.qK)); exact Kd.qa HO_4.out (fun _ hk => trivial), by (with_reducible repeat (first | apply Kd.qH | apply Kd.qI | apply Kd.qK)); exact HO_5.out, bl⟩
end Go.Proofs.Ytbmiekopflgicaa.P
namespace Go.Proofs.Ytbmiekopflgicaa.P
open Go.RowKit Go.Proofs.YtbmiekopflgicaaW.PrintWords Go.Proofs.YtbmiekopflgicaaW.PrintLast Go.Proofs.YtbmiekopflgicaaW.PrintMore
attribute [local go_sem] qn ql qx qw qh qg qm qk
set_option linter.unusedVariables false
set_option linter.unusedSimpArgs false
def qZ.l0 : Nat → List Int → List Int → Int → Int → Option (Bool)
 | 0, _, _, _, _ => none
 | k + 1, x9, x11, x13, x14 => if x14 < x13 then (if 0 ≤ x14 then (if x14 < (x9.length : Int) then (if x14 < (x11.length : Int) then (if (rd x9 x14) = (rd x11 x14) then (qZ.l0 k x9 x11 x13 (wrap64 (x14 + 1))) else (some (decide ((rd x9 x14) < (rd x11 x14))))) else (none)) else (none)) else (none)) else (some false)
def qZ.f (k : Nat) (a0_0 : Int) (a0_1 : Int) (a0_2 : Int) (a0_3 : Int) (a0_4 : Int) (a0_5 : Int) (a1_0 : Int) (a1_1 : Int) (a1_2 : Int) (a1_3 : Int) (a1_4 : Int) (a1_5 : Int) : Option (Bool) := (qIA.f a0_0 a0_1 a0_2 a0_3 a0_4 a0_5).bind fun t332 => ((qIA.f a1_0 a1_1 a1_2 a1_3 a1_4 a1_5).bind fun t335 => (qZ.l0 k t332 t335 (t332.length : Int) 0))
def qZ.T5 : Bool × List (List Nat × List Nat) := (true, [([], []), ([], []), ([0, 1], [0, 1]), ([2], [2]), ([], []), ([], []), ([4, 5], [4, 5]), ([6], [6]), ([3, 7], [3, 7])])
def qZ.B5 : List Nat := [0, 0, 3, 7, 0, 0, 48, 112, 255]
theorem qZ.tab5 : rtab .any (opsOf Try.f60 5) = qZ.T5 := by kernel_rfl
theorem qZ.bits5 : waitsOk qZ.T5.2 qZ.B5 = true := by kernel_rfl
def qZ.T6 : Bool × List (List Nat × List Nat) := (true, [([], []), ([], []), ([0, 1], [0, 1]), ([2], [2]), ([], []), ([], []), ([4, 5], [4, 5]), ([6], [6]), ([3, 7], [3, 7]), ([8, 0, 1, 2, 3, 4, 5, 6, 7, 8], [8])])
def qZ.B6 : List Nat := [0, 0, 3, 7, 0, 0, 48, 112, 255, 511]
theorem qZ.tab6 : rtab .any (opsOf Try.f60 6) = qZ.T6 := by kernel_rfl
theorem qZ.bits6 : waitsOk qZ.T6.2 qZ.B6 = true := by kernel_rfl
set_option maxHeartbeats 8000000 in
set_option maxRecDepth 100000 in
theorem qZ.calls (k : Nat) (a0_0 : Int) (a0_1 : Int) (a0_2 : Int) (a0_3 : Int) (a0_4 : Int) (a0_5 : Int) (a1_0 : Int) (a1_1 : Int) (a1_2 : Int) (a1_3 : Int) (a1_4 : Int) (a1_5 : Int) (r : Bool) (w : World) (h : qZ.f k a0_0 a0_1 a0_2 a0_3 a0_4 a0_5 a1_0 a1_1 a1_2 a1_3 a1_4 a1_5 = some r) :
  Calls Try.prog 60 #[.agg #[.int .i64 a0_0, .int .i64 a0_1, .int .i64 a0_2, .int .i64 a0_3, .int .i64 a0_4, .int .i64 a0_5], .agg #[.int .i64 a1_0, .int .i64 a1_1, .int .i64 a1_2, .int .i64 a1_3, .int .i64 a1_4, .int .i64 a1_5]] w fun e w' => e = .returned (.bool r) ∧ Below w.heap.size w w' := by
 have hu29 := Try.underlying29
 have HB := Aside0.mk (Below.refl w.heap.size w)
 have H : ((qIA.f a0_0 a0_1 a0_2 a0_3 a0_4 a0_5).bind fun t332 => ((qIA.f a1_0 a1_1 a1_2 a1_3 a1_4 a1_5).bind fun t335 => (qZ.l0 k t332 t335 (t332.length : Int) 0))) = some r := h
 clear h
 replace H := Option.bind_eq_some_iff.mp H
 obtain ⟨t332, A30, H⟩ := H
 replace H : ((qIA.f a1_0 a1_1 a1_2 a1_3 a1_4 a1_5).bind fun t335 => (qZ.l0 k t332 t335 (t332.length : Int) 0)) = some r := H
 have A3 := Aside0.mk A30
 clear A30
 replace H := Option.bind_eq_some_iff.mp H
 obtain ⟨t335, A40, H⟩ := H
 replace H : (qZ.l0 k t332 t335 (t332.length : Int) 0) = some r := H
 have A4 := Aside0.mk A40
 clear A40
 have H' := Aside0.mk H
 clear H
 go_enter Try.func60, Try.ntmps60
 try go_wp2_with (first | ((with_reducible refine qU (N := 2) rfl ?_); refine qS ?hg (N := 2) ?hd (cs := #[.int .i64 a0_0, .int .i64 a0_1, .int .i64 a0_2, .int .i64 a0_3, .int .i64 a0_4, .int .i64 a0_5]) (t := 29) ?hr ?_; (case hd => rfl); (case hg => rfl); (case hr => first | (go_simp; done) | (go_simp; rfl)); intro gb330 hg w5 hbox hb; have n0_ := Aside0.mk (qF bl hb); have n1_ := Aside0.mk (hbox); have n2_ := Aside0.mk ((gg hg)); have n3_ := Aside0.mk ((gg hg)); clear HB; have HB := n0_; have BK330 := n1_; have GW330 := n2_; have GE330 := n3_; clear n0_ n1_ n2_ n3_; clear hb hbox hg) | ((with_reducible refine qU (N := 3) rfl ?_); refine qS ?hg (N := 3) ?hd (cs := #[.int .i64 a1_0, .int .i64 a1_1, .int .i64 a1_2, .int .i64 a1_3, .int .i64 a1_4, .int .i64 a1_5]) (t := 29) ?hr ?_; (case hd => rfl); (case hg => rfl); (case hr => first | (go_simp; done) | (go_simp; rfl)); intro gb331 hg w6 hbox hb; have n0_ := Aside0.mk (bb BK330 hb); have n1_ := Aside0.mk (qF bl hb); have n2_ := Aside0.mk (hbox); have n3_ := Aside0.mk ((gg hg)); have n4_ := Aside0.mk ((gg hg)); have n5_ := Aside0.mk ((nl BK330 hg)); have n6_ := Aside0.mk ((nr BK330 hg)); clear BK330; clear HB; have BK330 := n0_; have HB := n1_; have BK331 := n2_; have GW331 := n3_; have GE331 := n4_; have NB330_331 := n5_; have NB331_330 := n6_; clear n0_ n1_ n2_ n3_ n4_ n5_ n6_; clear hb hbox hg))
 have n0_ := Aside0.mk (qE BK330.out)
 have n1_ := Aside0.mk (qE BK331.out)
 have n2_ := Aside0.mk (qt HB.out)
 clear BK330
 clear BK331
 clear HB
 have BK330 := n0_
 have BK331 := n1_
 have HB := n2_
 clear n0_ n1_ n2_
 refine qyA (n := 6) (S := fun w' => w'.cell? ⟨gb330, 0, none⟩ = some (.int .i64 a0_0) ∧ w'.cell? ⟨gb330, 1, none⟩ = some (.int .i64 a0_1) ∧ w'.cell? ⟨gb330, 2, none⟩ = some (.int .i64 a0_2) ∧ w'.cell? ⟨gb330, 3, none⟩ = some (.int .i64 a0_3) ∧ w'.cell? ⟨gb330, 4, none⟩ = some (.int .i64 a0_4) ∧ w'.cell? ⟨gb330, 5, none⟩ = some (.int .i64 a0_5) ∧ w'.cell? ⟨gb331, 0, none⟩ = some (.int .i64 a1_0) ∧ w'.cell? ⟨gb331, 1, none⟩ = some (.int .i64 a1_1) ∧ w'.cell? ⟨gb331, 2, none⟩ = some (.int .i64 a1_2) ∧ w'.cell? ⟨gb331, 3, none⟩ = some (.int .i64 a1_3) ∧ w'.cell? ⟨gb331, 4, none⟩ = some (.int .i64 a1_4) ∧ w'.cell? ⟨gb331, 5, none⟩ = some (.int .i64 a1_5)) (ds := []) #[false, false, false, false, false, false] (by kernel_rfl) rfl rfl ⟨(qG BK330.out 0).trans rfl, (qG BK330.out 1).trans rfl, (qG BK330.out 2).trans rfl, (qG BK330.out 3).trans rfl, (qG BK330.out 4).trans rfl, (qG BK330.out 5).trans rfl, (qG BK331.out 0).trans rfl, (qG BK331.out 1).trans rfl, (qG BK331.out 2).trans rfl, (qG BK331.out 3).trans rfl, (qG BK331.out 4).trans rfl, (qG BK331.out 5).trans rfl⟩ (fun hHeld => ?_)
 generalize w6.drew = w7 at BK330 BK331 HB hHeld ⊢
 refine take_ (i := 0) (N := some 8) (v := ?_) (a' := ?_) #[true, false, false, false, false, false] rfl rfl (by kernel_rfl) (fun _ _ _ h => h) (Or.inl ⟨by rfl, ?_⟩) hHeld ?_ ?_
 rotate_left
 ·rintro w' ⟨s0, s1, s2, s3, s4, s5, s6, s7, s8, s9, s10, s11⟩
  go_simp
  first | (with_reducible rfl) | (rw [if_neg (by simp only [ByteArray.size_extract, ByteArray.size_append] at * <;> omega)]; try with_reducible rfl)
 rotate_left
 ·simp only [Act.put, List.setIfInBounds_toArray, List.set_cons_zero, List.set_cons_succ, i64_w, i32_w]
  rfl
 refine take_ (i := 2) (N := some 10) (v := ?_) (a' := ?_) #[true, false, true, false, false, false] rfl rfl (by kernel_rfl) (fun _ _ _ h => h) (Or.inl ⟨by rfl, ?_⟩) hHeld ?_ ?_
 rotate_left
 ·rintro w' ⟨s0, s1, s2, s3, s4, s5, s6, s7, s8, s9, s10, s11⟩
  go_simp
  first | (with_reducible rfl) | (rw [if_neg (by simp only [ByteArray.size_extract, ByteArray.size_append] at * <;> omega)]; try with_reducible rfl)
 rotate_left
 ·simp only [Act.put, List.setIfInBounds_toArray, List.set_cons_zero, List.set_cons_succ, i64_w, i32_w]
  rfl
 refine one_ (i := 1) (N := some 9) #[true, true, true, false, false, false] rfl rfl (by kernel_rfl) (by decide) (fun K hK => ?_)
 refine goes_ Try.func48 (by kernel_rfl) rfl #[.agg #[.int .i64 a0_0, .int .i64 a0_1, .int .i64 a0_2, .int .i64 a0_3, .int .i64 a0_4, .int .i64 a0_5]] (by rfl) rfl rfl (by (try simp only [List.map_toArray, List.map_cons, List.map_nil]); first | done | rfl | (simp only [List.length_drop, List.length_take]; rfl)) ?_
 with_reducible refine (qIA.calls a0_0 a0_1 a0_2 a0_3 a0_4 a0_5 t332 _ A3.out).mono ?_
 rintro e w8 ⟨v333, rfl, ho0, hb⟩
 refine ⟨_, rfl, ?_⟩
 have n0_ := Aside0.mk (Kd.qLA ho0 (qb bl))
 have n1_ := Aside0.mk (bb BK330 hb)
 have n2_ := Aside0.mk (bb BK331 hb)
 have n3_ := Aside0.mk (qF bl hb)
 clear BK330
 clear BK331
 clear HB
 have HO334 := n0_
 have BK330 := n1_
 have BK331 := n2_
 have HB := n3_
 clear n0_ n1_ n2_ n3_
 (try clear hb)
 (try clear hb2)
 (try clear hk)
 (try clear hi)
 (try clear ho0)
 refine hK.out _ _ ⟨(qG BK330.out 0).trans rfl, (qG BK330.out 1).trans rfl, (qG BK330.out 2).trans rfl, (qG BK330.out 3).trans rfl, (qG BK330.out 4).trans rfl, (qG BK330.out 5).trans rfl, (qG BK331.out 0).trans rfl, (qG BK331.out 1).trans rfl, (qG BK331.out 2).trans rfl, (qG BK331.out 3).trans rfl, (qG BK331.out 4).trans rfl, (qG BK331.out 5).trans rfl⟩ (fun hHeld => ?_)
 clear hK K
 refine norm_ (a' := ?_) ?_ ?_
 rotate_left
 ·show Act.put _ (some 9) _ = _
  simp only [Act.put, List.setIfInBounds_toArray, List.set_cons_zero, List.set_cons_succ, i64_w, i32_w]
  rfl
 refine one_ (i := 3) (N := some 11) #[true, true, true, true, false, false] rfl rfl (by kernel_rfl) (by decide) (fun K hK => ?_)
 refine goes_ Try.func48 (by kernel_rfl) rfl #[.agg #[.int .i64 a1_0, .int .i64 a1_1, .int .i64 a1_2, .int .i64 a1_3, .int .i64 a1_4, .int .i64 a1_5]] (by rfl) rfl rfl (by (try simp only [List.map_toArray, List.map_cons, List.map_nil]); first | done | rfl | (simp only [List.length_drop, List.length_take]; rfl)) ?_
 with_reducible refine (qIA.calls a1_0 a1_1 a1_2 a1_3 a1_4 a1_5 t335 _ A4.out).mono ?_
 rintro e w9 ⟨v336, rfl, ho0, hb⟩
 refine ⟨_, rfl, ?_⟩
 have n0_ := Aside0.mk (Kd.qz (by (with_reducible repeat (first | apply Kd.qH | apply Kd.qI | apply Kd.qK)); exact HO334.out) (Kd.qYA ho0) hb)
 have n1_ := Aside0.mk (Kd.qLA (Kd.qXA ho0 (Kd.R_lt (by (with_reducible repeat (first | apply Kd.qH | apply Kd.qI | apply Kd.qK)); exact HO334.out))) (qb bl))
 have n2_ := Aside0.mk (bb BK330 hb)
 have n3_ := Aside0.mk (bb BK331 hb)
 have n4_ := Aside0.mk (qF bl hb)
 clear HO334
 clear BK330
 clear BK331
 clear HB
 have HO334 := n0_
 have HO337 := n1_
 have BK330 := n2_
 have BK331 := n3_
 have HB := n4_
 clear n0_ n1_ n2_ n3_ n4_
 (try clear hb)
 (try clear hb2)
 (try clear hk)
 (try clear hi)
 (try clear ho0)
 refine hK.out _ _ ⟨(qG BK330.out 0).trans rfl, (qG BK330.out 1).trans rfl, (qG BK330.out 2).trans rfl, (qG BK330.out 3).trans rfl, (qG BK330.out 4).trans rfl, (qG BK330.out 5).trans rfl, (qG BK331.out 0).trans rfl, (qG BK331.out 1).trans rfl, (qG BK331.out 2).trans rfl, (qG BK331.out 3).trans rfl, (qG BK331.out 4).trans rfl, (qG BK331.out 5).trans rfl⟩ (fun hHeld => ?_)
 clear hK K
 refine norm_ (a' := ?_) ?_ ?_
 rotate_left
 ·show Act.put _ (some 11) _ = _
  simp only [Act.put, List.setIfInBounds_toArray, List.set_cons_zero, List.set_cons_succ, i64_w, i32_w]
  rfl
 refine pure_ (i := 4) (N := some 5) (v := ?_) (a' := ?_) #[true, true, true, true, true, false] rfl rfl (by kernel_rfl) (fun _ _ _ h => h) (Or.inl ⟨by rfl, ?_⟩) ?_ ?_
 rotate_left
 ·intro w'
  go_simp
  first | (with_reducible rfl) | (rw [if_neg (by simp only [ByteArray.size_extract, ByteArray.size_append] at * <;> omega)]; try with_reducible rfl)
 rotate_left
 ·simp only [Act.put, List.setIfInBounds_toArray, List.set_cons_zero, List.set_cons_succ, i64_w, i32_w]
  rfl
 refine pure_ (i := 5) (N := some 6) (v := ?_) (a' := ?_) #[true, true, true, true, true, true] rfl rfl (by kernel_rfl) (fun _ _ _ h => h) (Or.inl ⟨by rfl, ?_⟩) ?_ ?_
 rotate_left
 ·intro w'
  go_simp
  first | (with_reducible rfl) | (rw [if_neg (by simp only [ByteArray.size_extract, ByteArray.size_append] at * <;> omega)]; try with_reducible rfl)
 rotate_left
 ·simp only [Act.put, List.setIfInBounds_toArray, List.set_cons_zero, List.set_cons_succ, i64_w, i32_w]
  rfl
 refine done_ (by kernel_rfl) ?_
 obtain ⟨Ao10, co10, eo10⟩ := Kd.qHA HO334.out
 subst eo10
 try go_wp2
 go_loopg [14] k (fun kq v14 w' => ∃ (x14_1 : Int), v14 = .int .i64 x14_1 ∧ Aside0 (qZ.l0 kq t332 t335 (t332.length : Int) x14_1 = some r) ∧ Aside0 (kq ≤ k) ∧ Aside0 (Kd.R (Kd.int .i64) 3 w' w.heap.size (fun k_ => some k_ ≠ (v336 : Value).ownBlock) (.slice Ao10 t332.length co10) t332) ∧ Aside0 (Kd.R (Kd.int .i64) 3 w' w.heap.size (fun k_ => some k_ ≠ ((.slice Ao10 t332.length co10) : Value).ownBlock) v336 t335) ∧ Aside0 (w'.heap[gb330]? = some (.cells #[.int .i64 a0_0, .int .i64 a0_1, .int .i64 a0_2, .int .i64 a0_3, .int .i64 a0_4, .int .i64 a0_5] 29 (0, 0))) ∧ Aside0 (w'.heap[gb331]? = some (.cells #[.int .i64 a1_0, .int .i64 a1_1, .int .i64 a1_2, .int .i64 a1_3, .int .i64 a1_4, .int .i64 a1_5] 29 (0, 0))) ∧ Aside0 (Below w.heap.size w w'))
 case atStart => exact ⟨(0), (by first | rfl | (simp; done) | (simp [*]; done)), H', ⟨Nat.le_refl _⟩, ⟨by (with_reducible repeat (first | apply Kd.qH | apply Kd.qI | apply Kd.qK)); exact Kd.qa HO334.out (fun _ hk => hk.2)⟩, ⟨by (with_reducible repeat (first | apply Kd.qH | apply Kd.qI | apply Kd.qK)); exact Kd.qa HO337.out (fun _ hk => hk.2)⟩, ⟨by (with_reducible repeat (first | refine qC ?_ _ | refine qE ?_ | refine qD ?_ _)); exact BK330.out⟩, ⟨by (with_reducible repeat (first | refine qC ?_ _ | refine qE ?_ | refine qD ?_ _)); exact BK331.out⟩, ⟨bl⟩⟩
 case round =>
  clear H'
  try clear p2
  try clear c4
  try clear c6
  obtain ⟨x14_1, rfl, HA, HK1, HO_9, HO_11, BK330, BK331, HB⟩ := hrel
  cases gk with
  | zero => exact absurd HA.out (by simp [qZ.l0])
  | succ k1 =>
   have H := HA.out
   clear HA
   simp only [qZ.l0] at H
   by_cases c11 : x14_1 < (t332.length : Int)
   ·rw [if_pos c11] at H
    have c11b0 : decide (x14_1 < (t332.length : Int)) = true := decide_eq_true c11
    clear c11
    by_cases c12 : 0 ≤ x14_1
    ·rw [if_pos c12] at H
     have c12b0 : decide (0 ≤ x14_1) = true := decide_eq_true c12
     clear c12
     by_cases c13 : x14_1 < (t332.length : Int)
     ·rw [if_pos c13] at H
      have c13b0 : decide (x14_1 < (t332.length : Int)) = true := decide_eq_true c13
      clear c13
      by_cases c14 : x14_1 < (t335.length : Int)
      ·rw [if_pos c14] at H
       have c14b0 : decide (x14_1 < (t335.length : Int)) = true := decide_eq_true c14
       clear c14
       by_cases c15 : (rd t332 x14_1) = (rd t335 x14_1)
       ·rw [if_pos c15] at H
        have c15b0 : ((rd t332 x14_1) == (rd t335 x14_1)) = true := beq_iff_eq.mpr c15
        have c15b1 : ((rd t332 x14_1) != (rd t335 x14_1)) = false := bne_eq_false_iff_eq.mpr c15
        clear c15
        have H' := Aside0.mk H
        clear H
        try go_wp2
        have n0_ := Aside0.mk (Kd.qK HO_9.out)
        have n1_ := Aside0.mk (Kd.qK HO_11.out)
        have n2_ := Aside0.mk (qE BK330.out)
        have n3_ := Aside0.mk (qE BK331.out)
        have n4_ := Aside0.mk (qt HB.out)
        clear HO_9
        clear HO_11
        clear BK330
        clear BK331
        clear HB
        have HO_9 := n0_
        have HO_11 := n1_
        have BK330 := n2_
        have BK331 := n3_
        have HB := n4_
        clear n0_ n1_ n2_ n3_ n4_
        have p338 : 0 ≤ (x14_1 : Int) := of_decide_eq_true (by first | (with_reducible assumption) | assumption)
        have q338 : x14_1 < (t332.length : Int) := of_decide_eq_true (by first | (with_reducible assumption) | assumption)
        obtain ⟨ad338, e338, hx338_0⟩ := Kd.qCB (Kd.qT HO_9.out).2.2 x14_1 p338 q338
        cases e338
        replace p338 := eq_true p338
        replace q338 := eq_true q338
        obtain ⟨Ao17, co17, eo17⟩ := Kd.qHA HO_11.out
        (first | subst eo17 | (injection eo17 with f1_ f2_ f3_; have f4_ := f1_.symm; have f5_ := f3_.symm; clear f1_ f2_ f3_; subst f4_; subst f5_))
        have p339 : 0 ≤ (x14_1 : Int) := of_decide_eq_true (by first | (with_reducible assumption) | assumption)
        have q339 : x14_1 < (t335.length : Int) := of_decide_eq_true (by first | (with_reducible assumption) | assumption)
        obtain ⟨ad339, e339, hx339_0⟩ := Kd.qCB (Kd.qT HO_11.out).2.2 x14_1 p339 q339
        cases e339
        replace p339 := eq_true p339
        replace q339 := eq_true q339
        refine qyA (n := 9) (S := fun w' => w'.cell? (ad338.add (x14_1).toNat) = some (.int .i64 (rd t332 x14_1)) ∧ w'.cell? (ad339.add (x14_1).toNat) = some (.int .i64 (rd t335 x14_1))) (ds := []) #[false, false, false, false, false, false, false, false, false] (by kernel_rfl) rfl rfl ⟨hx338_0, hx339_0⟩ (fun hHeld => ?_); refine qbA qZ.tab5 qZ.bits5 (fun HT_ HW_ => ?_)
        generalize wr.drew = w16 at HO_9 HO_11 BK330 BK331 HB hx338_0 hx339_0 hHeld ⊢
        refine pS (i := 0) (N := some 17) #[true, false, false, false, false, false, false, false, false] HT_ ?_
        refine pS (i := 1) (N := some 18) #[true, true, false, false, false, false, false, false, false] HT_ ?_
        refine pS (i := 2) (N := some 19) #[true, true, true, false, false, false, false, false, false] HT_ ?_
        refine pS (i := 4) (N := some 21) #[true, true, true, false, true, false, false, false, false] HT_ ?_
        refine pS (i := 5) (N := some 22) #[true, true, true, false, true, true, false, false, false] HT_ ?_
        refine pS (i := 6) (N := some 23) #[true, true, true, false, true, true, true, false, false] HT_ ?_
        refine tS (i := 3) (N := some 20) #[true, true, true, true, true, true, true, false, false] HT_ HW_ hHeld ?_
        refine tS (i := 7) (N := some 24) #[true, true, true, true, true, true, true, true, false] HT_ HW_ hHeld ?_
        refine pS (i := 8) (N := some 25) #[true, true, true, true, true, true, true, true, true] HT_ ?_
        refine done_ (qBB HT_.out (by kernel_rfl)) ?_
        try go_wp2
        go_roundg k1
        case measure => have := HK1.out; omega
        case rel => exact ⟨(wrap64 (x14_1 + 1)), (by first | rfl | (simp; done) | (simp [*]; done)), H', ⟨by have := HK1.out; omega⟩, ⟨by (with_reducible repeat (first | apply Kd.qH | apply Kd.qI | apply Kd.qK)); exact HO_9.out⟩, ⟨by (with_reducible repeat (first | apply Kd.qH | apply Kd.qI | apply Kd.qK)); exact HO_11.out⟩, ⟨by (with_reducible repeat (first | refine qC ?_ _ | refine qE ?_ | refine qD ?_ _)); exact BK330.out⟩, ⟨by (with_reducible repeat (first | refine qC ?_ _ | refine qE ?_ | refine qD ?_ _)); exact BK331.out⟩, ⟨bl⟩⟩
       ·rw [if_neg c15] at H
        have c15b0 : ((rd t332 x14_1) == (rd t335 x14_1)) = false := beq_eq_false_iff_ne.mpr c15
        have c15b1 : ((rd t332 x14_1) != (rd t335 x14_1)) = true := bne_iff_ne.mpr c15
        obtain rfl := Option.some.inj H
        try go_wp2
        have n0_ := Aside0.mk (Kd.qK HO_9.out)
        have n1_ := Aside0.mk (Kd.qK HO_11.out)
        have n2_ := Aside0.mk (qE BK330.out)
        have n3_ := Aside0.mk (qE BK331.out)
        have n4_ := Aside0.mk (qt HB.out)
        clear HO_9
        clear HO_11
        clear BK330
        clear BK331
        clear HB
        have HO_9 := n0_
        have HO_11 := n1_
        have BK330 := n2_
        have BK331 := n3_
        have HB := n4_
        clear n0_ n1_ n2_ n3_ n4_
        have p338 : 0 ≤ (x14_1 : Int) := of_decide_eq_true (by first | (with_reducible assumption) | assumption)
        have q338 : x14_1 < (t332.length : Int) := of_decide_eq_true (by first | (with_reducible assumption) | assumption)
        obtain ⟨ad338, e338, hx338_0⟩ := Kd.qCB (Kd.qT HO_9.out).2.2 x14_1 p338 q338
        cases e338
        replace p338 := eq_true p338
        replace q338 := eq_true q338
        obtain ⟨Ao19, co19, eo19⟩ := Kd.qHA HO_11.out
        (first | subst eo19 | (injection eo19 with f1_ f2_ f3_; have f4_ := f1_.symm; have f5_ := f3_.symm; clear f1_ f2_ f3_; subst f4_; subst f5_))
        have p339 : 0 ≤ (x14_1 : Int) := of_decide_eq_true (by first | (with_reducible assumption) | assumption)
        have q339 : x14_1 < (t335.length : Int) := of_decide_eq_true (by first | (with_reducible assumption) | assumption)
        obtain ⟨ad339, e339, hx339_0⟩ := Kd.qCB (Kd.qT HO_11.out).2.2 x14_1 p339 q339
        cases e339
        replace p339 := eq_true p339
        replace q339 := eq_true q339
        refine qyA (n := 9) (S := fun w' => w'.cell? (ad338.add (x14_1).toNat) = some (.int .i64 (rd t332 x14_1)) ∧ w'.cell? (ad339.add (x14_1).toNat) = some (.int .i64 (rd t335 x14_1))) (ds := []) #[false, false, false, false, false, false, false, false, false] (by kernel_rfl) rfl rfl ⟨hx338_0, hx339_0⟩ (fun hHeld => ?_); refine qbA qZ.tab5 qZ.bits5 (fun HT_ HW_ => ?_)
        generalize wr.drew = w18 at HO_9 HO_11 BK330 BK331 HB hx338_0 hx339_0 hHeld ⊢
        refine pS (i := 0) (N := some 17) #[true, false, false, false, false, false, false, false, false] HT_ ?_
        refine pS (i := 1) (N := some 18) #[true, true, false, false, false, false, false, false, false] HT_ ?_
        refine pS (i := 2) (N := some 19) #[true, true, true, false, false, false, false, false, false] HT_ ?_
        refine pS (i := 4) (N := some 21) #[true, true, true, false, true, false, false, false, false] HT_ ?_
        refine pS (i := 5) (N := some 22) #[true, true, true, false, true, true, false, false, false] HT_ ?_
        refine pS (i := 6) (N := some 23) #[true, true, true, false, true, true, true, false, false] HT_ ?_
        refine tS (i := 3) (N := some 20) #[true, true, true, true, true, true, true, false, false] HT_ HW_ hHeld ?_
        refine tS (i := 7) (N := some 24) #[true, true, true, true, true, true, true, true, false] HT_ HW_ hHeld ?_
        refine pS (i := 8) (N := some 25) #[true, true, true, true, true, true, true, true, true] HT_ ?_
        refine done_ (qBB HT_.out (by kernel_rfl)) ?_
        try go_wp2
        have n0_ := Aside0.mk (Kd.qK HO_9.out)
        have n1_ := Aside0.mk (Kd.qK HO_11.out)
        have n2_ := Aside0.mk (qE BK330.out)
        have n3_ := Aside0.mk (qE BK331.out)
        have n4_ := Aside0.mk (qt HB.out)
        clear HO_9
        clear HO_11
        clear BK330
        clear BK331
        clear HB
        have HO_9 := n0_
        have HO_11 := n1_
        have BK330 := n2_
        have BK331 := n3_
        have HB := n4_
        clear n0_ n1_ n2_ n3_ n4_
        have p340 : 0 ≤ (x14_1 : Int) := of_decide_eq_true (by first | (with_reducible assumption) | assumption)
        have q340 : x14_1 < (t332.length : Int) := of_decide_eq_true (by first | (with_reducible assumption) | assumption)
        obtain ⟨ad340, e340, hx340_0⟩ := Kd.qCB (Kd.qT HO_9.out).2.2 x14_1 p340 q340
        obtain rfl : ad338 = ad340 := (by injection e340)
        replace p340 := eq_true p340
        replace q340 := eq_true q340
        have p341 : 0 ≤ (x14_1 : Int) := of_decide_eq_true (by first | (with_reducible assumption) | assumption)
        have q341 : x14_1 < (t335.length : Int) := of_decide_eq_true (by first | (with_reducible assumption) | assumption)
        obtain ⟨ad341, e341, hx341_0⟩ := Kd.qCB (Kd.qT HO_11.out).2.2 x14_1 p341 q341
        obtain rfl : ad339 = ad341 := (by injection e341)
        replace p341 := eq_true p341
        replace q341 := eq_true q341
        refine qyA (n := 10) (S := fun w' => w'.cell? (ad338.add (x14_1).toNat) = some (.int .i64 (rd t332 x14_1)) ∧ w'.cell? (ad339.add (x14_1).toNat) = some (.int .i64 (rd t335 x14_1))) (ds := []) #[false, false, false, false, false, false, false, false, false, false] (by kernel_rfl) rfl rfl ⟨hx340_0, hx341_0⟩ (fun hHeld => ?_); refine qbA qZ.tab6 qZ.bits6 (fun HT_ HW_ => ?_)
        generalize w18.drew = w20 at HO_9 HO_11 BK330 BK331 HB hx340_0 hx341_0 hHeld ⊢
        refine pS (i := 0) (N := some 26) #[true, false, false, false, false, false, false, false, false, false] HT_ ?_
        refine pS (i := 1) (N := some 27) #[true, true, false, false, false, false, false, false, false, false] HT_ ?_
        refine pS (i := 2) (N := some 28) #[true, true, true, false, false, false, false, false, false, false] HT_ ?_
        refine pS (i := 4) (N := some 30) #[true, true, true, false, true, false, false, false, false, false] HT_ ?_
        refine pS (i := 5) (N := some 31) #[true, true, true, false, true, true, false, false, false, false] HT_ ?_
        refine pS (i := 6) (N := some 32) #[true, true, true, false, true, true, true, false, false, false] HT_ ?_
        refine tS (i := 3) (N := some 29) #[true, true, true, true, true, true, true, false, false, false] HT_ HW_ hHeld ?_
        refine tS (i := 7) (N := some 33) #[true, true, true, true, true, true, true, true, false, false] HT_ HW_ hHeld ?_
        refine pS (i := 8) (N := some 34) #[true, true, true, true, true, true, true, true, true, false] HT_ ?_
        refine pS (i := 9) (N := some 4) #[true, true, true, true, true, true, true, true, true, true] HT_ ?_
        refine done_ (qBB HT_.out (by kernel_rfl)) ?_
        try go_wp2
        go_ret
        exact ⟨by first | rfl | (simp [qP, qO] <;> rfl) | (simp [*, qP, qO] <;> rfl), bl⟩
      ·rw [if_neg c14] at H
       exact absurd H (by simp)
     ·rw [if_neg c13] at H
      exact absurd H (by simp)
    ·rw [if_neg c12] at H
     exact absurd H (by simp)
   ·rw [if_neg c11] at H
    have c11b0 : decide (x14_1 < (t332.length : Int)) = false := decide_eq_false c11
    clear c11
    obtain rfl := Option.some.inj H
    go_wp2
    go_ret
    exact ⟨by first | rfl | (simp [qP, qO] <;> rfl) | (simp [*, qP, qO] <;> rfl), bl⟩
end Go.Proofs.Ytbmiekopflgicaa.P
