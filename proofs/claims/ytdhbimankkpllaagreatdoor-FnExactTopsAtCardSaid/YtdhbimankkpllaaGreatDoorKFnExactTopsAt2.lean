/- The program's TopsAt and the reference's: the same, at all texts, states and cells. -/
import Derived.Test.YtdhbimankkpllaaGreatDoorKFnExactTopsAt1
import Derived.Maps.OwnSet
import Derived.DeepKeys4
import Derived.Shelf.SlGeneric
import Derived.Shelf.Small.Strs
import Derived.Shelf.Strings.Search1
import Derived.Ground.NamesProg
import Derived.Shelf.Strings.Split
import Derived.Shelf.Strings.Count
import Derived.Shelf.Strings.SlTrimAscii
import Derived.Test.YtdhbimankkpllaaGreatDoorProg
import Derived.Lib.Strings
import Derived.Lib.SplitLaws

namespace Go.Proofs.YtdhbimankkpllaaGreatDoor.P
open Go.RowKit Go.Proofs.YtdhbimankkpllaaGreatDoorW.PrintWords Go.Proofs.YtdhbimankkpllaaGreatDoorW.PrintLast Go.Proofs.YtdhbimankkpllaaGreatDoorW.PrintMore
attribute [local go_sem] qq qo qBA qAA qe qd qp qn
set_option linter.unusedVariables false
set_option linter.unusedSimpArgs false
mutual
def qM.l0 : Nat → Int → Int → List (S29) → List (S68) → Int → Int → Option ((List (S29)))
 | 0, _, _, _, _, _, _ => none
 | k + 1, x1, x2, x7, x12, x13, x14 => if x14 < x13 then (if 0 ≤ x14 then (if x14 < (x12.length : Int) then (if ((qA x12 x14).f0.f0) = x1 then (qM.j1 k x1 x2 x7 x12 x13 x14 (((qA x12 x14).f0.f1) != x2) ((qA x12 x14).f0.f0) ((qA x12 x14).f0.f1) ((qA x12 x14).f0.f2.f0) ((qA x12 x14).f0.f2.f1) ((qA x12 x14).f0.f2.f2) ((qA x12 x14).f0.f2.f3) ((qA x12 x14).f0.f2.f4) ((qA x12 x14).f0.f2.f5) ((qA x12 x14).f1) ((qA x12 x14).f2) ((qA x12 x14).f3) ((qA x12 x14).f4) ((qA x12 x14).f5.f0) ((qA x12 x14).f5.f1) ((qA x12 x14).f5.f2) ((qA x12 x14).f5.f3)) else (qM.j1 k x1 x2 x7 x12 x13 x14 true ((qA x12 x14).f0.f0) ((qA x12 x14).f0.f1) ((qA x12 x14).f0.f2.f0) ((qA x12 x14).f0.f2.f1) ((qA x12 x14).f0.f2.f2) ((qA x12 x14).f0.f2.f3) ((qA x12 x14).f0.f2.f4) ((qA x12 x14).f0.f2.f5) ((qA x12 x14).f1) ((qA x12 x14).f2) ((qA x12 x14).f3) ((qA x12 x14).f4) ((qA x12 x14).f5.f0) ((qA x12 x14).f5.f1) ((qA x12 x14).f5.f2) ((qA x12 x14).f5.f3))) else (none)) else (none)) else (some x7)
def qM.j1 : Nat → Int → Int → List (S29) → List (S68) → Int → Int → Bool → Int → Int → Int → Int → Int → Int → Int → Int → Int → Int → Int → Int → Int → Int → Int → Int → Option ((List (S29)))
 | 0, _, _, _, _, _, _, _, _, _, _, _, _, _, _, _, _, _, _, _, _, _, _, _ => none
 | k + 1, x1, x2, x7, x12, x13, x14, x29, x222000, x222001, x222002, x222003, x222004, x222005, x222006, x222007, x222008, x222009, x222010, x222011, x222012, x222013, x222014, x222015 => if x29 = true then (qM.l0 k x1 x2 x7 x12 x13 (wrap64 (x14 + 1))) else (qM.l1 k x1 x2 x7 0 x12 x13 x14 x222000 x222001 x222002 x222003 x222004 x222005 x222006 x222007 x222008 x222009 x222010 x222011 x222012 x222013 x222014 x222015)
def qM.l1 : Nat → Int → Int → List (S29) → Int → List (S68) → Int → Int → Int → Int → Int → Int → Int → Int → Int → Int → Int → Int → Int → Int → Int → Int → Int → Int → Option ((List (S29)))
 | 0, _, _, _, _, _, _, _, _, _, _, _, _, _, _, _, _, _, _, _, _, _, _, _ => none
 | k + 1, x1, x2, x7, x10, x12, x13, x14, x222000, x222001, x222002, x222003, x222004, x222005, x222006, x222007, x222008, x222009, x222010, x222011, x222012, x222013, x222014, x222015 => if x10 < (x7.length : Int) then (if 0 ≤ x10 then ((qa.f k ((qZ x7 x10).f0) ((qZ x7 x10).f1) ((qZ x7 x10).f2) ((qZ x7 x10).f3) ((qZ x7 x10).f4) ((qZ x7 x10).f5) x222002 x222003 x222004 x222005 x222006 x222007).bind fun t223 => (if t223 = true then (qM.l1 k x1 x2 x7 (wrap64 (x10 + 1)) x12 x13 x14 x222000 x222001 x222002 x222003 x222004 x222005 x222006 x222007 x222008 x222009 x222010 x222011 x222012 x222013 x222014 x222015) else ((some (([] : List (S29)) : List (S29))).bind fun y224 => (if x10 ≤ (x7.length : Int) then ((some (x7.take (x10 : Int).toNat : List (S29))).bind fun y227 => (if y224.length + y227.length < 2932031007402 then ((some (y224 ++ y227 : List (S29))).bind fun y231 => ((some (([(⟨x222002, x222003, x222004, x222005, x222006, x222007⟩ : S29)] : List (S29)) : List (S29))).bind fun y234 => (if y231.length + y234.length < 2932031007402 then ((some (y231 ++ y234 : List (S29))).bind fun y237 => ((some (x7.drop (x10 : Int).toNat : List (S29))).bind fun y240 => (if y237.length + y240.length < 2932031007402 then (qM.l0 k x1 x2 (y237 ++ y240) x12 x13 (wrap64 (x14 + 1))) else (none)))) else (none)))) else (none))) else (none))))) else (none)) else ((some (([] : List (S29)) : List (S29))).bind fun y247 => (if 0 ≤ x10 then (if x10 ≤ (x7.length : Int) then ((some (x7.take (x10 : Int).toNat : List (S29))).bind fun y250 => (if y247.length + y250.length < 2932031007402 then ((some (y247 ++ y250 : List (S29))).bind fun y254 => ((some (([(⟨x222002, x222003, x222004, x222005, x222006, x222007⟩ : S29)] : List (S29)) : List (S29))).bind fun y257 => (if y254.length + y257.length < 2932031007402 then ((some (y254 ++ y257 : List (S29))).bind fun y260 => ((some (x7.drop (x10 : Int).toNat : List (S29))).bind fun y263 => (if y260.length + y263.length < 2932031007402 then (qM.l0 k x1 x2 (y260 ++ y263) x12 x13 (wrap64 (x14 + 1))) else (none)))) else (none)))) else (none))) else (none)) else (none)))
end
def qM.f (k : Nat) (l0 : List (S68)) (a1 : Int) (a2 : Int) : Option ((List (S29))) := qM.l0 k a1 a2 ([] : List (S29)) l0 (l0.length : Int) 0
def qM.T7 : Bool × List (List Nat × List Nat) := (true, [([], []), ([], []), ([1], [1]), ([0, 2], [0, 2]), ([3], [3]), ([4], [4]), ([4], [4]), ([5, 6, 4], [4, 5, 6]), ([7, 4], [4, 7]), ([4], [4]), ([9, 4], [4, 9]), ([10, 4], [4, 10]), ([8, 11, 4, 4], [4, 8, 11]), ([4, 12], [4, 12])])
def qM.B7 : List Nat := [0, 0, 2, 7, 15, 31, 31, 127, 255, 31, 543, 1567, 4095, 8191]
theorem qM.tab7 : rtab .any (opsOf Tryz.f17 7) = qM.T7 := by kernel_rfl
theorem qM.bits7 : waitsOk qM.T7.2 qM.B7 = true := by kernel_rfl
def qM.T9 : Bool × List (List Nat × List Nat) := (true, [([], []), ([], []), ([], []), ([1, 2], [1, 2]), ([0, 3], [0, 3]), ([], []), ([5], [5]), ([6], [6]), ([7], [7]), ([4, 8, 4], [4, 8]), ([9, 9, 0, 1, 2, 3, 4, 5, 6, 7, 8, 9], [9])])
def qM.B9 : List Nat := [0, 0, 0, 6, 15, 0, 32, 96, 224, 511, 1023]
theorem qM.tab9 : rtab .any (opsOf Tryz.f17 9) = qM.T9 := by kernel_rfl
theorem qM.bits9 : waitsOk qM.T9.2 qM.B9 = true := by kernel_rfl
theorem heapCells_ : ∀ (vs : List Value) (w : World) (g o : Nat) (t : TypeId) (cs : List Value), w.heap[g]? = some (.cells cs.toArray t (0, 0)) → o + vs.length ≤ cs.length → (w.setCells g o vs).heap[g]? = some (.cells (cs.take o ++ vs ++ cs.drop (o + vs.length)).toArray t (0, 0))
 | [], w, g, o, t, cs, h, _ => by
  show w.heap[g]? = _
  rw [h, List.append_nil, List.length_nil, Nat.add_zero, List.take_append_drop]
 | v :: vs, w, g, o, t, cs, h, hl => by
  have hl' : o + 1 + vs.length ≤ cs.length := by rw [List.length_cons] at hl; omega
  have h1 := heapCells_ vs (w.setCell ⟨g, o, none⟩ v) g (o + 1) t (cs.set o v) (by rw [qWD h o v, List.setIfInBounds_toArray]) (by rw [List.length_set]; exact hl')
  show ((w.setCell ⟨g, o, none⟩ v).setCells g (o + 1) vs).heap[g]? = _
  rw [h1]
  congr 3
  have e1 : (cs.set o v).take (o + 1) = cs.take o ++ [v] := by
   rw [List.take_succ_eq_append_getElem (by rw [List.length_set]; omega), List.getElem_set_self, List.take_set_of_le (Nat.le_refl o)]
  rw [e1, List.drop_set_of_lt (by omega), List.length_cons, show o + (vs.length + 1) = o + 1 + vs.length by omega, List.append_assoc (cs.take o) [v] vs]
  rfl
theorem belowCells_ : ∀ (vs : List Value) (w W : World) (g o : Nat), Below W.heap.size W w → W.heap.size ≤ g → Below W.heap.size W (w.setCells g o vs)
 | [], w, W, g, o, h, _ => h
 | v :: vs, w, W, g, o, h, hg => belowCells_ vs _ W g (o + 1) (qw h hg) hg
theorem alsto16_ {ops : Array Oper} {rest : List Oper} {o1 o2 : Oper} {a : Act} {Q : Exit → Act → World → Prop} {W : World} {N : Tmp} {v : Operand} (y0 y1 y2 y3 y4 y5 y6 y7 y8 y9 y10 y11 y12 y13 y14 y15 : Int) (g1 : o1.guard = none) (h1 : o1.op = .alloc 68) (d1 : o1.dst = some N) (g2 : o2.guard = none) (h2 : o2.op = .store 68 (.tmp N) v) (d2 : o2.dst = none)
  (hx : (a.put (some N) (.pointer (some ⟨W.heap.size, 0, none⟩))).eval (.tmp N) = .pointer (some ⟨W.heap.size, 0, none⟩)) (hv : (a.put (some N) (.pointer (some ⟨W.heap.size, 0, none⟩))).eval v = .agg #[.int .i64 y0, .int .i64 y1, .int .i64 y2, .int .i64 y3, .int .i64 y4, .int .i64 y5, .int .i64 y6, .int .i64 y7, .int .i64 y8, .int .i64 y9, .int .i64 y10, .int .i64 y11, .int .i64 y12, .int .i64 y13, .int .i64 y14, .int .i64 y15])
  (h : ∀ g, g = W.heap.size → ∀ w1, w1.heap[g]? = some (.cells #[.int .i64 y0, .int .i64 y1, .int .i64 y2, .int .i64 y3, .int .i64 y4, .int .i64 y5, .int .i64 y6, .int .i64 y7, .int .i64 y8, .int .i64 y9, .int .i64 y10, .int .i64 y11, .int .i64 y12, .int .i64 y13, .int .i64 y14, .int .i64 y15] 68 (0, 0)) → Below W.heap.size W w1 → wpList Tryz.prog ops Q rest (a.put (some N) (.pointer (some ⟨g, 0, none⟩))) w1) : wpList Tryz.prog ops Q (o1 :: o2 :: rest) a W := by
 have hrun : (execOp a.eval o1).run Tryz.prog W = .ok (.value (.pointer (some ⟨W.heap.size, 0, none⟩))) (W.alloc (.cells #[.int .i64 0, .int .i64 0, .int .i64 0, .int .i64 0, .int .i64 0, .int .i64 0, .int .i64 0, .int .i64 0, .int .i64 0, .int .i64 0, .int .i64 0, .int .i64 0, .int .i64 0, .int .i64 0, .int .i64 0, .int .i64 0] 68 (0, 0))) := by
  unfold execOp
  simp only [h1]
  first | (go_simp; done) | (go_simp; rfl)
 refine box_event g1 d1 hrun ?_
 rintro g rfl w1 hb hbl
 rw [d1]
 refine wpList_store_mid g2 68 (.tmp N) v h2 W.heap.size 0 #[.int .i64 y0, .int .i64 y1, .int .i64 y2, .int .i64 y3, .int .i64 y4, .int .i64 y5, .int .i64 y6, .int .i64 y7, .int .i64 y8, .int .i64 y9, .int .i64 y10, .int .i64 y11, .int .i64 y12, .int .i64 y13, .int .i64 y14, .int .i64 y15] hx hv ?_ (by kernel_rfl) (by simp [Value.oneCell']) ?_
 ·intro j hj
  have hj' : j < 16 := hj
  rw [Nat.zero_add]
  refine ⟨?_, qJ hb j⟩
  rw [qD hb j, Array.getElem?_eq_getElem (show j < (#[.int .i64 0, .int .i64 0, .int .i64 0, .int .i64 0, .int .i64 0, .int .i64 0, .int .i64 0, .int .i64 0, .int .i64 0, .int .i64 0, .int .i64 0, .int .i64 0, .int .i64 0, .int .i64 0, .int .i64 0, .int .i64 0] : Array Value).size from hj')]
  rfl
 ·rw [d2]
  refine h _ rfl _ ?_ (belowCells_ _ _ _ _ _ hbl (Nat.le_refl _))
  have h3 := heapCells_ [.int .i64 y0, .int .i64 y1, .int .i64 y2, .int .i64 y3, .int .i64 y4, .int .i64 y5, .int .i64 y6, .int .i64 y7, .int .i64 y8, .int .i64 y9, .int .i64 y10, .int .i64 y11, .int .i64 y12, .int .i64 y13, .int .i64 y14, .int .i64 y15] w1 W.heap.size 0 68 [.int .i64 0, .int .i64 0, .int .i64 0, .int .i64 0, .int .i64 0, .int .i64 0, .int .i64 0, .int .i64 0, .int .i64 0, .int .i64 0, .int .i64 0, .int .i64 0, .int .i64 0, .int .i64 0, .int .i64 0, .int .i64 0] hb (Nat.le_refl 16)
  exact h3
theorem load16_ {ops : Array Oper} {rest : List Oper} {o : Oper} {a : Act} {Q : Exit → Act → World → Prop} {w : World} {N : Tmp} {ad : Addr} (p : Operand) {y0 y1 y2 y3 y4 y5 y6 y7 y8 y9 y10 y11 y12 y13 y14 y15 : Int} (g : o.guard = none) (h1 : o.op = .load 68 p) (d : o.dst = some N) (hp : a.eval p = .pointer (some ad)) (hx0 : w.cell? ad = some (.int .i64 y0)) (hx1 : w.cell? ⟨ad.block, ad.off + 1, none⟩ = some (.int .i64 y1)) (hx2 : w.cell? ⟨ad.block, ad.off + 2, none⟩ = some (.int .i64 y2)) (hx3 : w.cell? ⟨ad.block, ad.off + 3, none⟩ = some (.int .i64 y3)) (hx4 : w.cell? ⟨ad.block, ad.off + 4, none⟩ = some (.int .i64 y4)) (hx5 : w.cell? ⟨ad.block, ad.off + 5, none⟩ = some (.int .i64 y5)) (hx6 : w.cell? ⟨ad.block, ad.off + 6, none⟩ = some (.int .i64 y6)) (hx7 : w.cell? ⟨ad.block, ad.off + 7, none⟩ = some (.int .i64 y7)) (hx8 : w.cell? ⟨ad.block, ad.off + 8, none⟩ = some (.int .i64 y8)) (hx9 : w.cell? ⟨ad.block, ad.off + 9, none⟩ = some (.int .i64 y9)) (hx10 : w.cell? ⟨ad.block, ad.off + 10, none⟩ = some (.int .i64 y10)) (hx11 : w.cell? ⟨ad.block, ad.off + 11, none⟩ = some (.int .i64 y11)) (hx12 : w.cell? ⟨ad.block, ad.off + 12, none⟩ = some (.int .i64 y12)) (hx13 : w.cell? ⟨ad.block, ad.off + 13, none⟩ = some (.int .i64 y13)) (hx14 : w.cell? ⟨ad.block, ad.off + 14, none⟩ = some (.int .i64 y14)) (hx15 : w.cell? ⟨ad.block, ad.off + 15, none⟩ = some (.int .i64 y15))
  (h : wpList Tryz.prog ops Q rest (a.put (some N) (.agg #[.int .i64 y0, .int .i64 y1, .int .i64 y2, .int .i64 y3, .int .i64 y4, .int .i64 y5, .int .i64 y6, .int .i64 y7, .int .i64 y8, .int .i64 y9, .int .i64 y10, .int .i64 y11, .int .i64 y12, .int .i64 y13, .int .i64 y14, .int .i64 y15])) w) : wpList Tryz.prog ops Q (o :: rest) a w := by
 have hu_ := Tryz.underlying68
 have hrun : (execOp a.eval o).run Tryz.prog w = .ok (.value (.agg #[.int .i64 y0, .int .i64 y1, .int .i64 y2, .int .i64 y3, .int .i64 y4, .int .i64 y5, .int .i64 y6, .int .i64 y7, .int .i64 y8, .int .i64 y9, .int .i64 y10, .int .i64 y11, .int .i64 y12, .int .i64 y13, .int .i64 y14, .int .i64 y15])) w := by
  unfold execOp
  simp only [h1, hp]
  first | (go_simp; done) | (go_simp; rfl)
 refine Kd.qxC g hrun ?_
 rw [d]
 exact h
set_option maxHeartbeats 8000000 in
set_option maxRecDepth 100000 in
theorem qM.calls (k : Nat) (A0 : Option Addr) (c0 : Nat) (l0 : List (S68)) (a1 : Int) (a2 : Int) (r : List (S29)) (w : World) (hr0 : Kd.C k68 w A0 l0.length l0) (hc0 : l0.length ≤ c0) (h : qM.f k l0 a1 a2 = some r) :
  Calls Tryz.prog 17 #[.slice A0 l0.length c0, .int .i64 a1, .int .i64 a2] w fun e w' => ∃ v0_ : Value, e = .returned (v0_) ∧ Kd.R k29 29 w' w.heap.size (fun _ => True) v0_ r ∧ Below w.heap.size w w' := by
 have hu68 := Tryz.underlying68
 have hu29 := Tryz.underlying29
 have HR0 := aM hr0
 have HC0 := aM hc0
 clear hr0 hc0
 have HB := aM (Below.refl w.heap.size w)
 have H : (qM.l0 k a1 a2 ([] : List (S29)) l0 (l0.length : Int) 0) = some r := h
 clear h
 have H' := aM H
 clear H
 go_enter Tryz.func17, Tryz.ntmps17
 go_wp2
 go_loopg [7, 14] k (fun kq v7 v14 w' => ∃ (x7_1 : List (S29)) (x14_1 : Int), v14 = .int .i64 x14_1 ∧ Aside0 (qM.l0 kq a1 a2 x7_1 l0 (l0.length : Int) x14_1 = some r) ∧ Aside0 (kq ≤ k) ∧ Aside0 (Kd.R k29 29 w' w.heap.size (fun _ => True) v7 x7_1) ∧ Aside0 (Below w.heap.size w w'))
 case atStart => exact ⟨(([] : List (S29))), (0), sD, H', ⟨Nat.le_refl _⟩, ⟨nK⟩, ⟨bl⟩⟩
 case round =>
  clear H'; (try clear c1); (try clear p2)
  obtain ⟨x7_1, x14_1, rfl, HA, HK1, HO_7, HB⟩ := hrel
  cases gk with
  | zero => exact absurd HA.out (by simp [qM.l0])
  | succ k1 =>
   have H := HA.out
   clear HA
   simp only [qM.l0] at H
   by_cases c4 : x14_1 < (l0.length : Int)
   ·rw [if_pos c4] at H
    have c4b0 := decide_eq_true c4
    clear c4
    by_cases c5 : 0 ≤ x14_1
    case neg => exact nN c5 H
    rw [if_pos c5] at H
    have c5b0 := decide_eq_true c5
    clear c5
    by_cases c6 : x14_1 < (l0.length : Int)
    case neg => exact nN c6 H
    rw [if_pos c6] at H
    have c6b0 := decide_eq_true c6
    clear c6
    have HC7 := aM H
    clear H
    have p220 : 0 ≤ (x14_1 : Int) := of_decide_eq_true am
    have q220 : x14_1 < (l0.length : Int) := of_decide_eq_true am
    obtain ⟨ad220, e220, hx220_0, hx220_1, hx220_2, hx220_3, hx220_4, hx220_5, hx220_6, hx220_7, hx220_8, hx220_9, hx220_10, hx220_11, hx220_12, hx220_13, hx220_14, hx220_15⟩ := qHC HR0.out x14_1 p220 q220
    cases e220
    replace hx220_0 := hB HB hx220_0
    replace hx220_1 := hB HB hx220_1
    replace hx220_2 := hB HB hx220_2
    replace hx220_3 := hB HB hx220_3
    replace hx220_4 := hB HB hx220_4
    replace hx220_5 := hB HB hx220_5
    replace hx220_6 := hB HB hx220_6
    replace hx220_7 := hB HB hx220_7
    replace hx220_8 := hB HB hx220_8
    replace hx220_9 := hB HB hx220_9
    replace hx220_10 := hB HB hx220_10
    replace hx220_11 := hB HB hx220_11
    replace hx220_12 := hB HB hx220_12
    replace hx220_13 := hB HB hx220_13
    replace hx220_14 := hB HB hx220_14
    replace hx220_15 := hB HB hx220_15
    replace p220 := eq_true p220
    replace q220 := eq_true q220
    go_upto_region 5 with (first | ((with_reducible refine qN (N := 17) rfl ?_); refine load16_ (N := 17) _ rfl rfl rfl ?hp hx220_0 hx220_1 hx220_2 hx220_3 hx220_4 hx220_5 hx220_6 hx220_7 hx220_8 hx220_9 hx220_10 hx220_11 hx220_12 hx220_13 hx220_14 hx220_15 ?_; (case hp => rfl)) | ((with_reducible refine qN (N := 9) rfl ?_); refine alsto16_ (N := 9) (v := .tmp 17) ((qA l0 x14_1).f0.f0) ((qA l0 x14_1).f0.f1) ((qA l0 x14_1).f0.f2.f0) ((qA l0 x14_1).f0.f2.f1) ((qA l0 x14_1).f0.f2.f2) ((qA l0 x14_1).f0.f2.f3) ((qA l0 x14_1).f0.f2.f4) ((qA l0 x14_1).f0.f2.f5) ((qA l0 x14_1).f1) ((qA l0 x14_1).f2) ((qA l0 x14_1).f3) ((qA l0 x14_1).f4) ((qA l0 x14_1).f5.f0) ((qA l0 x14_1).f5.f1) ((qA l0 x14_1).f5.f2) ((qA l0 x14_1).f5.f3) rfl rfl rfl rfl rfl rfl rfl ?hv ?_; (case hv => rfl); intro gb221 hg w8 hbox hb; clear hx220_0 hx220_1 hx220_2 hx220_3 hx220_4 hx220_5 hx220_6 hx220_7 hx220_8 hx220_9 hx220_10 hx220_11 hx220_12 hx220_13 hx220_14 hx220_15; have BK221 := aM (hbox); have GW221 := aM ((gg hg)); have GE221 := aM ((gg hg)); replace HO_7 := aM (Kd.qj (rR HO_7) hb); replace HB := aM (qB bl hb); clear hb hbox hg; have hcz9_0 := bc BK221 0; have hcz9_1 := bc BK221 1; have hcz9_2 := bc BK221 2; have hcz9_3 := bc BK221 3; have hcz9_4 := bc BK221 4; have hcz9_5 := bc BK221 5; have hcz9_6 := bc BK221 6; have hcz9_7 := bc BK221 7; have hcz9_8 := bc BK221 8; have hfz9_15 := qJ BK221.out 15))
    (try simp only [Act.put, List.setIfInBounds_toArray, List.set_cons_zero, List.set_cons_succ])
    go_cut [29] (fun v29 wc => ∃ (kq : Nat) (x29_6 : Bool), v29 = .bool x29_6 ∧ Aside0 (qM.j1 kq a1 a2 x7_1 l0 (l0.length : Int) x14_1 x29_6 ((qA l0 x14_1).f0.f0) ((qA l0 x14_1).f0.f1) ((qA l0 x14_1).f0.f2.f0) ((qA l0 x14_1).f0.f2.f1) ((qA l0 x14_1).f0.f2.f2) ((qA l0 x14_1).f0.f2.f3) ((qA l0 x14_1).f0.f2.f4) ((qA l0 x14_1).f0.f2.f5) ((qA l0 x14_1).f1) ((qA l0 x14_1).f2) ((qA l0 x14_1).f3) ((qA l0 x14_1).f4) ((qA l0 x14_1).f5.f0) ((qA l0 x14_1).f5.f1) ((qA l0 x14_1).f5.f2) ((qA l0 x14_1).f5.f3) = some r) ∧ Aside0 (kq ≤ k1) ∧ Aside0 (Kd.R k29 29 wc w.heap.size (fun _ => True) u7 x7_1) ∧ Aside0 (wc.heap[gb221]? = some (.cells #[.int .i64 ((qA l0 x14_1).f0.f0), .int .i64 ((qA l0 x14_1).f0.f1), .int .i64 ((qA l0 x14_1).f0.f2.f0), .int .i64 ((qA l0 x14_1).f0.f2.f1), .int .i64 ((qA l0 x14_1).f0.f2.f2), .int .i64 ((qA l0 x14_1).f0.f2.f3), .int .i64 ((qA l0 x14_1).f0.f2.f4), .int .i64 ((qA l0 x14_1).f0.f2.f5), .int .i64 ((qA l0 x14_1).f1), .int .i64 ((qA l0 x14_1).f2), .int .i64 ((qA l0 x14_1).f3), .int .i64 ((qA l0 x14_1).f4), .int .i64 ((qA l0 x14_1).f5.f0), .int .i64 ((qA l0 x14_1).f5.f1), .int .i64 ((qA l0 x14_1).f5.f2), .int .i64 ((qA l0 x14_1).f5.f3)] 68 (0, 0))) ∧ Aside0 (Below w.heap.size w wc))
    case first =>
     have H := HC7.out
     clear HC7
     by_cases c10 : ((qA l0 x14_1).f0.f0) = a1
     ·rw [if_pos c10] at H
      have c10b0 := beq_iff_eq.mpr c10
      have c10b1 := bne_eq_false_iff_eq.mpr c10
      clear c10
      (first | rw [c10b0] | (simp only [i64_w, i32_w]; rw [c10b0]) | skip)
      have H' := aM H
      clear H
      have hcz11_0 := bc BK221 0
      have hcz11_1 := bc BK221 1
      have hcz11_2 := bc BK221 2
      have hcz11_3 := bc BK221 3
      have hcz11_4 := bc BK221 4
      have hcz11_5 := bc BK221 5
      have hcz11_6 := bc BK221 6
      have hcz11_7 := bc BK221 7
      have hcz11_8 := bc BK221 8
      have hcz11_9 := bc BK221 9
      have hcz11_10 := bc BK221 10
      have hcz11_11 := bc BK221 11
      have hcz11_12 := bc BK221 12
      have hcz11_13 := bc BK221 13
      have hcz11_14 := bc BK221 14
      have hcz11_15 := bc BK221 15
      have hfz11_0 := qJ BK221.out 0
      have hfz11_1 := qJ BK221.out 1
      have hfz11_2 := qJ BK221.out 2
      have hfz11_3 := qJ BK221.out 3
      have hfz11_4 := qJ BK221.out 4
      have hfz11_5 := qJ BK221.out 5
      have hfz11_6 := qJ BK221.out 6
      have hfz11_7 := qJ BK221.out 7
      have hfz11_8 := qJ BK221.out 8
      have hfz11_9 := qJ BK221.out 9
      have hfz11_10 := qJ BK221.out 10
      have hfz11_11 := qJ BK221.out 11
      have hfz11_12 := qJ BK221.out 12
      have hfz11_13 := qJ BK221.out 13
      have hfz11_14 := qJ BK221.out 14
      have hfz11_15 := qJ BK221.out 15
      go_wp2
      go_meet
      case rel => exact ⟨_, ((((qA l0 x14_1).f0.f1) != a2)), sD, H', ⟨by have := HK1.out; first | omega | exact Nat.le_refl _⟩, ⟨by (with_reducible repeat (first | apply Kd.qR | apply Kd.qU | apply Kd.qQ)); exact Kd.qY (((((((((((((((((Kd.qlA HO_7.out BK221.out (by decide)))))))))))))))))) (fun _ hk => trivial)⟩, ⟨rB BK221⟩, ⟨bl⟩⟩
     ·rw [if_neg c10] at H
      have c10b0 := beq_eq_false_iff_ne.mpr c10
      have c10b1 := bne_iff_ne.mpr c10
      (first | rw [c10b0] | (simp only [i64_w, i32_w]; rw [c10b0]) | skip)
      have H' := aM H
      clear H
      have hcz12_0 := bc BK221 0
      have hcz12_1 := bc BK221 1
      have hcz12_2 := bc BK221 2
      have hcz12_3 := bc BK221 3
      have hcz12_4 := bc BK221 4
      have hcz12_5 := bc BK221 5
      have hcz12_6 := bc BK221 6
      have hcz12_7 := bc BK221 7
      have hcz12_8 := bc BK221 8
      have hcz12_9 := bc BK221 9
      have hcz12_10 := bc BK221 10
      have hcz12_11 := bc BK221 11
      have hcz12_12 := bc BK221 12
      have hcz12_13 := bc BK221 13
      have hcz12_14 := bc BK221 14
      have hcz12_15 := bc BK221 15
      have hfz12_0 := qJ BK221.out 0
      have hfz12_1 := qJ BK221.out 1
      have hfz12_2 := qJ BK221.out 2
      have hfz12_3 := qJ BK221.out 3
      have hfz12_4 := qJ BK221.out 4
      have hfz12_5 := qJ BK221.out 5
      have hfz12_6 := qJ BK221.out 6
      have hfz12_7 := qJ BK221.out 7
      have hfz12_8 := qJ BK221.out 8
      have hfz12_9 := qJ BK221.out 9
      have hfz12_10 := qJ BK221.out 10
      have hfz12_11 := qJ BK221.out 11
      have hfz12_12 := qJ BK221.out 12
      have hfz12_13 := qJ BK221.out 13
      have hfz12_14 := qJ BK221.out 14
      have hfz12_15 := qJ BK221.out 15
      go_wp2
      go_meet
      case rel => exact ⟨_, (true), sD, H', ⟨by have := HK1.out; first | omega | exact Nat.le_refl _⟩, ⟨by (with_reducible repeat (first | apply Kd.qR | apply Kd.qU | apply Kd.qQ)); exact Kd.qY (((((((((((((((((Kd.qlA HO_7.out BK221.out (by decide)))))))))))))))))) (fun _ hk => trivial)⟩, ⟨rB BK221⟩, ⟨bl⟩⟩
    case rest =>
     clear HC7; (try clear c1); (try clear p2); (try clear q2); (try clear hx2); (try clear c4); (try clear c4b0); (try clear c5); (try clear c5b0); (try clear c6); (try clear c6b0); (try clear c10); (try clear c10b0); (try clear c10b1); (try clear hcz11_0 hcz11_1); (try clear hcz11_10); (try clear hcz11_11); (try clear hcz11_12); (try clear hcz11_13); (try clear hcz11_14); (try clear hcz11_15); (try clear hcz11_2); (try clear hcz11_3); (try clear hcz11_4); (try clear hcz11_5); (try clear hcz11_6); (try clear hcz11_7); (try clear hcz11_8); (try clear hcz11_9); (try clear hcz12_0 hcz12_1); (try clear hcz12_10); (try clear hcz12_11); (try clear hcz12_12); (try clear hcz12_13); (try clear hcz12_14); (try clear hcz12_15); (try clear hcz12_2); (try clear hcz12_3); (try clear hcz12_4); (try clear hcz12_5); (try clear hcz12_6); (try clear hcz12_7); (try clear hcz12_8); (try clear hcz12_9); (try clear hcz9_0 hcz9_1); (try clear hcz9_10); (try clear hcz9_11); (try clear hcz9_12); (try clear hcz9_13); (try clear hcz9_14); (try clear hcz9_15); (try clear hcz9_2); (try clear hcz9_3); (try clear hcz9_4); (try clear hcz9_5); (try clear hcz9_6); (try clear hcz9_7); (try clear hcz9_8); (try clear hcz9_9); (try clear hfz11_0 hfz11_1); (try clear hfz11_10); (try clear hfz11_11); (try clear hfz11_12); (try clear hfz11_13); (try clear hfz11_14); (try clear hfz11_15); (try clear hfz11_2); (try clear hfz11_3); (try clear hfz11_4); (try clear hfz11_5); (try clear hfz11_6); (try clear hfz11_7); (try clear hfz11_8); (try clear hfz11_9); (try clear hfz12_0 hfz12_1); (try clear hfz12_10); (try clear hfz12_11); (try clear hfz12_12); (try clear hfz12_13); (try clear hfz12_14); (try clear hfz12_15); (try clear hfz12_2); (try clear hfz12_3); (try clear hfz12_4); (try clear hfz12_5); (try clear hfz12_6); (try clear hfz12_7); (try clear hfz12_8); (try clear hfz12_9); (try clear hfz9_0 hfz9_1); (try clear hfz9_10); (try clear hfz9_11); (try clear hfz9_12); (try clear hfz9_13); (try clear hfz9_14); (try clear hfz9_15); (try clear hfz9_2); (try clear hfz9_3); (try clear hfz9_4); (try clear hfz9_5); (try clear hfz9_6); (try clear hfz9_7); (try clear hfz9_8); (try clear hfz9_9); (try clear hx220_0); (try clear hx220_1); (try clear hx220_10); (try clear hx220_11); (try clear hx220_12); (try clear hx220_13); (try clear hx220_14); (try clear hx220_15); (try clear hx220_2); (try clear hx220_3); (try clear hx220_4); (try clear hx220_5); (try clear hx220_6); (try clear hx220_7); (try clear hx220_8); (try clear hx220_9); (try clear p2); (try clear p220); (try clear q220)
     obtain ⟨kq, x29_6, rfl, HA, HJ6, HO_7, BK221, HB⟩ := hcut
     cases kq with
     | zero => exact absurd HA.out (by simp [qM.j1])
     | succ kj6 =>
      have H := HA.out
      clear HA
      simp only [qM.j1] at H
      by_cases c13 : x29_6 = true
      ·subst c13
       replace H := iT H
       have H' := aM H
       clear H
       go_wp2
       go_roundg kj6
       case measure => have := HK1.out; have := HJ6.out; omega
       case rel => exact ⟨(x7_1), (wrap64 (x14_1 + 1)), sD, H', ⟨by have := HK1.out; have := HJ6.out; omega⟩, ⟨rR HO_7⟩, ⟨bl⟩⟩
      ·replace c13 := Bool.eq_false_iff.mpr c13
       subst c13
       replace H := iF H
       have H' := aM H
       clear H
       go_wp2
       go_loopg [10] kj6 (fun kq v10 w' => ∃ (x10_3 : Int), v10 = .int .i64 x10_3 ∧ Aside0 (qM.l1 kq a1 a2 x7_1 x10_3 l0 (l0.length : Int) x14_1 ((qA l0 x14_1).f0.f0) ((qA l0 x14_1).f0.f1) ((qA l0 x14_1).f0.f2.f0) ((qA l0 x14_1).f0.f2.f1) ((qA l0 x14_1).f0.f2.f2) ((qA l0 x14_1).f0.f2.f3) ((qA l0 x14_1).f0.f2.f4) ((qA l0 x14_1).f0.f2.f5) ((qA l0 x14_1).f1) ((qA l0 x14_1).f2) ((qA l0 x14_1).f3) ((qA l0 x14_1).f4) ((qA l0 x14_1).f5.f0) ((qA l0 x14_1).f5.f1) ((qA l0 x14_1).f5.f2) ((qA l0 x14_1).f5.f3) = some r) ∧ Aside0 (kq ≤ kj6) ∧ Aside0 (Kd.R k29 29 w' w.heap.size (fun _ => True) u7 x7_1) ∧ Aside0 (w'.heap[gb221]? = some (.cells #[.int .i64 ((qA l0 x14_1).f0.f0), .int .i64 ((qA l0 x14_1).f0.f1), .int .i64 ((qA l0 x14_1).f0.f2.f0), .int .i64 ((qA l0 x14_1).f0.f2.f1), .int .i64 ((qA l0 x14_1).f0.f2.f2), .int .i64 ((qA l0 x14_1).f0.f2.f3), .int .i64 ((qA l0 x14_1).f0.f2.f4), .int .i64 ((qA l0 x14_1).f0.f2.f5), .int .i64 ((qA l0 x14_1).f1), .int .i64 ((qA l0 x14_1).f2), .int .i64 ((qA l0 x14_1).f3), .int .i64 ((qA l0 x14_1).f4), .int .i64 ((qA l0 x14_1).f5.f0), .int .i64 ((qA l0 x14_1).f5.f1), .int .i64 ((qA l0 x14_1).f5.f2), .int .i64 ((qA l0 x14_1).f5.f3)] 68 (0, 0))) ∧ Aside0 (Below w.heap.size w w'))
       case atStart => exact ⟨(0), sD, H', ⟨Nat.le_refl _⟩, ⟨rR HO_7⟩, ⟨rB BK221⟩, ⟨bl⟩⟩
       case round =>
        clear H'; (try clear c1); (try clear p2); (try clear q2); (try clear hx2); (try clear c4); (try clear c4b0); (try clear c5); (try clear c5b0); (try clear c6); (try clear c6b0); (try clear p6); (try clear c10); (try clear c10b0); (try clear c10b1); (try clear c13); (try clear hcz11_0 hcz11_1); (try clear hcz11_10); (try clear hcz11_11); (try clear hcz11_12); (try clear hcz11_13); (try clear hcz11_14); (try clear hcz11_15); (try clear hcz11_2); (try clear hcz11_3); (try clear hcz11_4); (try clear hcz11_5); (try clear hcz11_6); (try clear hcz11_7); (try clear hcz11_8); (try clear hcz11_9); (try clear hcz12_0 hcz12_1); (try clear hcz12_10); (try clear hcz12_11); (try clear hcz12_12); (try clear hcz12_13); (try clear hcz12_14); (try clear hcz12_15); (try clear hcz12_2); (try clear hcz12_3); (try clear hcz12_4); (try clear hcz12_5); (try clear hcz12_6); (try clear hcz12_7); (try clear hcz12_8); (try clear hcz12_9); (try clear hcz9_0 hcz9_1); (try clear hcz9_10); (try clear hcz9_11); (try clear hcz9_12); (try clear hcz9_13); (try clear hcz9_14); (try clear hcz9_15); (try clear hcz9_2); (try clear hcz9_3); (try clear hcz9_4); (try clear hcz9_5); (try clear hcz9_6); (try clear hcz9_7); (try clear hcz9_8); (try clear hcz9_9); (try clear hfz11_0 hfz11_1); (try clear hfz11_10); (try clear hfz11_11); (try clear hfz11_12); (try clear hfz11_13); (try clear hfz11_14); (try clear hfz11_15); (try clear hfz11_2); (try clear hfz11_3); (try clear hfz11_4); (try clear hfz11_5); (try clear hfz11_6); (try clear hfz11_7); (try clear hfz11_8); (try clear hfz11_9); (try clear hfz12_0 hfz12_1); (try clear hfz12_10); (try clear hfz12_11); (try clear hfz12_12); (try clear hfz12_13); (try clear hfz12_14); (try clear hfz12_15); (try clear hfz12_2); (try clear hfz12_3); (try clear hfz12_4); (try clear hfz12_5); (try clear hfz12_6); (try clear hfz12_7); (try clear hfz12_8); (try clear hfz12_9); (try clear hfz9_0 hfz9_1); (try clear hfz9_10); (try clear hfz9_11); (try clear hfz9_12); (try clear hfz9_13); (try clear hfz9_14); (try clear hfz9_15); (try clear hfz9_2); (try clear hfz9_3); (try clear hfz9_4); (try clear hfz9_5); (try clear hfz9_6); (try clear hfz9_7); (try clear hfz9_8); (try clear hfz9_9); (try clear hx220_0); (try clear hx220_1); (try clear hx220_10); (try clear hx220_11); (try clear hx220_12); (try clear hx220_13); (try clear hx220_14); (try clear hx220_15); (try clear hx220_2); (try clear hx220_3); (try clear hx220_4); (try clear hx220_5); (try clear hx220_6); (try clear hx220_7); (try clear hx220_8); (try clear hx220_9); (try clear p2); (try clear p220); (try clear q2); (try clear q220)
        obtain ⟨x10_3, rfl, HA, HK3, HO_7, BK221, HB⟩ := hrel
        cases gk with
        | zero => exact absurd HA.out (by simp [qM.l1])
        | succ k3 =>
         have H := HA.out
         clear HA
         simp only [qM.l1] at H
         by_cases c14 : x10_3 < (x7_1.length : Int)
         ·rw [if_pos c14] at H
          have c14b0 := decide_eq_true c14
          clear c14
          by_cases c15 : 0 ≤ x10_3
          case neg => exact nN c15 H
          rw [if_pos c15] at H
          have c15b0 := decide_eq_true c15
          clear c15
          replace H := bO H
          obtain ⟨t223, A16, H⟩ := H
          by_cases c17 : t223 = true
          ·subst c17
           replace H := iT H
           have H' := aM H
           clear H
           try go_wp2
           replace HO_7 := aM (Kd.qQ HO_7.out)
           replace BK221 := aM (qH BK221.out)
           replace HB := aM (qm HB.out)
           obtain ⟨Ao19, co19, eo19⟩ := Kd.qi HO_7.out
           (first | subst eo19 | (injection eo19 with f1_ f2_ f3_; have f4_ := f1_.symm; have f5_ := f3_.symm; clear f1_ f2_ f3_; subst f4_; subst f5_))
           have p222 : 0 ≤ (x10_3 : Int) := of_decide_eq_true am
           have q222 : x10_3 < (x7_1.length : Int) := of_decide_eq_true am
           obtain ⟨ad222, e222, hx222_0, hx222_1, hx222_2, hx222_3, hx222_4, hx222_5⟩ := qPD (Kd.qE HO_7.out).2.2 x10_3 p222 q222
           cases e222
           replace p222 := eq_true p222
           replace q222 := eq_true q222
           refine qAB (n := 14) (S := fun w' => w'.cell? ⟨gb221, 0, none⟩ = some (.int .i64 ((qA l0 x14_1).f0.f0)) ∧ w'.cell? ⟨gb221, 1, none⟩ = some (.int .i64 ((qA l0 x14_1).f0.f1)) ∧ w'.cell? ⟨gb221, 2, none⟩ = some (.int .i64 ((qA l0 x14_1).f0.f2.f0)) ∧ w'.cell? ⟨gb221, 3, none⟩ = some (.int .i64 ((qA l0 x14_1).f0.f2.f1)) ∧ w'.cell? ⟨gb221, 4, none⟩ = some (.int .i64 ((qA l0 x14_1).f0.f2.f2)) ∧ w'.cell? ⟨gb221, 5, none⟩ = some (.int .i64 ((qA l0 x14_1).f0.f2.f3)) ∧ w'.cell? ⟨gb221, 6, none⟩ = some (.int .i64 ((qA l0 x14_1).f0.f2.f4)) ∧ w'.cell? ⟨gb221, 7, none⟩ = some (.int .i64 ((qA l0 x14_1).f0.f2.f5)) ∧ w'.cell? ⟨gb221, 8, none⟩ = some (.int .i64 ((qA l0 x14_1).f1)) ∧ w'.cell? ⟨gb221, 9, none⟩ = some (.int .i64 ((qA l0 x14_1).f2)) ∧ w'.cell? ⟨gb221, 10, none⟩ = some (.int .i64 ((qA l0 x14_1).f3)) ∧ w'.cell? ⟨gb221, 11, none⟩ = some (.int .i64 ((qA l0 x14_1).f4)) ∧ w'.cell? ⟨gb221, 12, none⟩ = some (.int .i64 ((qA l0 x14_1).f5.f0)) ∧ w'.cell? ⟨gb221, 13, none⟩ = some (.int .i64 ((qA l0 x14_1).f5.f1)) ∧ w'.cell? ⟨gb221, 14, none⟩ = some (.int .i64 ((qA l0 x14_1).f5.f2)) ∧ w'.cell? ⟨gb221, 15, none⟩ = some (.int .i64 ((qA l0 x14_1).f5.f3)) ∧ w'.cell? (ad222.add ((x10_3).toNat * 6)) = some (.int .i64 ((qZ x7_1 x10_3).f0)) ∧ w'.cell? ⟨(ad222.add ((x10_3).toNat * 6)).block, (ad222.add ((x10_3).toNat * 6)).off + 1, none⟩ = some (.int .i64 ((qZ x7_1 x10_3).f1)) ∧ w'.cell? ⟨(ad222.add ((x10_3).toNat * 6)).block, (ad222.add ((x10_3).toNat * 6)).off + 2, none⟩ = some (.int .i64 ((qZ x7_1 x10_3).f2)) ∧ w'.cell? ⟨(ad222.add ((x10_3).toNat * 6)).block, (ad222.add ((x10_3).toNat * 6)).off + 3, none⟩ = some (.int .i64 ((qZ x7_1 x10_3).f3)) ∧ w'.cell? ⟨(ad222.add ((x10_3).toNat * 6)).block, (ad222.add ((x10_3).toNat * 6)).off + 4, none⟩ = some (.int .i64 ((qZ x7_1 x10_3).f4)) ∧ w'.cell? ⟨(ad222.add ((x10_3).toNat * 6)).block, (ad222.add ((x10_3).toNat * 6)).off + 5, none⟩ = some (.int .i64 ((qZ x7_1 x10_3).f5))) (ds := []) #[false, false, false, false, false, false, false, false, false, false, false, false, false, false] (by kernel_rfl) rfl rfl ⟨bc BK221 0, bc BK221 1, bc BK221 2, bc BK221 3, bc BK221 4, bc BK221 5, bc BK221 6, bc BK221 7, bc BK221 8, bc BK221 9, bc BK221 10, bc BK221 11, bc BK221 12, bc BK221 13, bc BK221 14, bc BK221 15, hx222_0, hx222_1, hx222_2, hx222_3, hx222_4, hx222_5⟩ (fun hHeld => ?_); refine qMA qM.tab7 qM.bits7 (fun HT_ HW_ => ?_)
           generalize wr.drew = w18 at HO_7 BK221 HB hx222_0 hx222_1 hx222_2 hx222_3 hx222_4 hx222_5 hHeld ⊢
           refine pS (i := 0) (N := some 30) #[true, false, false, false, false, false, false, false, false, false, false, false, false, false] HT_ ?_
           refine pS (i := 1) (N := some 31) #[true, true, false, false, false, false, false, false, false, false, false, false, false, false] HT_ ?_
           refine pS (i := 2) (N := some 32) #[true, true, true, false, false, false, false, false, false, false, false, false, false, false] HT_ ?_
           refine pS (i := 3) (N := some 33) #[true, true, true, true, false, false, false, false, false, false, false, false, false, false] HT_ ?_
           refine pS (i := 4) (N := some 34) #[true, true, true, true, true, false, false, false, false, false, false, false, false, false] HT_ ?_
           refine pS (i := 5) (N := some 35) #[true, true, true, true, true, true, false, false, false, false, false, false, false, false] HT_ ?_
           refine pS (i := 6) (N := some 36) #[true, true, true, true, true, true, true, false, false, false, false, false, false, false] HT_ ?_
           refine pS (i := 7) (N := some 37) #[true, true, true, true, true, true, true, true, false, false, false, false, false, false] HT_ ?_
           refine pS (i := 9) (N := some 39) #[true, true, true, true, true, true, true, true, false, true, false, false, false, false] HT_ ?_
           refine pS (i := 10) (N := some 40) #[true, true, true, true, true, true, true, true, false, true, true, false, false, false] HT_ ?_
           refine tS (i := 8) (N := some 38) #[true, true, true, true, true, true, true, true, true, true, true, false, false, false] HT_ HW_ hHeld ?_
           refine tS (i := 11) (N := some 41) #[true, true, true, true, true, true, true, true, true, true, true, true, false, false] HT_ HW_ hHeld ?_
           refine one_ (i := 12) (N := some 42) #[true, true, true, true, true, true, true, true, true, true, true, true, true, false] rfl rfl (qrA HT_.out (by kernel_rfl)) (by decide) (fun K hK => ?_)
           refine goes_ Tryz.func29 (by kernel_rfl) rfl #[.agg #[.int .i64 ((qZ x7_1 x10_3).f0), .int .i64 ((qZ x7_1 x10_3).f1), .int .i64 ((qZ x7_1 x10_3).f2), .int .i64 ((qZ x7_1 x10_3).f3), .int .i64 ((qZ x7_1 x10_3).f4), .int .i64 ((qZ x7_1 x10_3).f5)], .agg #[.int .i64 ((qA l0 x14_1).f0.f2.f0), .int .i64 ((qA l0 x14_1).f0.f2.f1), .int .i64 ((qA l0 x14_1).f0.f2.f2), .int .i64 ((qA l0 x14_1).f0.f2.f3), .int .i64 ((qA l0 x14_1).f0.f2.f4), .int .i64 ((qA l0 x14_1).f0.f2.f5)]] (by rfl) rfl rfl gA ?_
           with_reducible refine (qa.calls k3 ((qZ x7_1 x10_3).f0) ((qZ x7_1 x10_3).f1) ((qZ x7_1 x10_3).f2) ((qZ x7_1 x10_3).f3) ((qZ x7_1 x10_3).f4) ((qZ x7_1 x10_3).f5) ((qA l0 x14_1).f0.f2.f0) ((qA l0 x14_1).f0.f2.f1) ((qA l0 x14_1).f0.f2.f2) ((qA l0 x14_1).f0.f2.f3) ((qA l0 x14_1).f0.f2.f4) ((qA l0 x14_1).f0.f2.f5) true _ A16.out).mono ?_
           rintro e w20 ⟨rfl, hb⟩
           have HS16_ := (hb.cell (World.block_lt_of_cell? _ _ (hHeld.2.2.2.2.2.2.2.2.2.2.2.2.2.2.2.2.1))).trans (hHeld.2.2.2.2.2.2.2.2.2.2.2.2.2.2.2.2.1)
           have HS17_ := (hb.cell (World.block_lt_of_cell? _ _ (hHeld.2.2.2.2.2.2.2.2.2.2.2.2.2.2.2.2.2.1))).trans (hHeld.2.2.2.2.2.2.2.2.2.2.2.2.2.2.2.2.2.1)
           have HS18_ := (hb.cell (World.block_lt_of_cell? _ _ (hHeld.2.2.2.2.2.2.2.2.2.2.2.2.2.2.2.2.2.2.1))).trans (hHeld.2.2.2.2.2.2.2.2.2.2.2.2.2.2.2.2.2.2.1)
           have HS19_ := (hb.cell (World.block_lt_of_cell? _ _ (hHeld.2.2.2.2.2.2.2.2.2.2.2.2.2.2.2.2.2.2.2.1))).trans (hHeld.2.2.2.2.2.2.2.2.2.2.2.2.2.2.2.2.2.2.2.1)
           have HS20_ := (hb.cell (World.block_lt_of_cell? _ _ (hHeld.2.2.2.2.2.2.2.2.2.2.2.2.2.2.2.2.2.2.2.2.1))).trans (hHeld.2.2.2.2.2.2.2.2.2.2.2.2.2.2.2.2.2.2.2.2.1)
           have HS21_ := (hb.cell (World.block_lt_of_cell? _ _ (hHeld.2.2.2.2.2.2.2.2.2.2.2.2.2.2.2.2.2.2.2.2.2))).trans (hHeld.2.2.2.2.2.2.2.2.2.2.2.2.2.2.2.2.2.2.2.2.2)
           refine ⟨_, rfl, ?_⟩
           replace HO_7 := aM (Kd.qj (rR HO_7) hb)
           replace BK221 := aM (bb BK221 hb)
           replace HB := aM (qB bl hb); (try clear hb); (try clear hb2); (try clear hk); (try clear hi)
           refine hK.out _ _ ⟨bc BK221 0, bc BK221 1, bc BK221 2, bc BK221 3, bc BK221 4, bc BK221 5, bc BK221 6, bc BK221 7, bc BK221 8, bc BK221 9, bc BK221 10, bc BK221 11, bc BK221 12, bc BK221 13, bc BK221 14, bc BK221 15, HS16_, HS17_, HS18_, HS19_, HS20_, HS21_⟩ (fun hHeld => ?_)
           clear hK K
           refine norm_ (a' := ?_) ?_ ?_
           rotate_left
           ·show Act.put _ (some 42) _ = _
            simp only [Act.put, List.setIfInBounds_toArray, List.set_cons_zero, List.set_cons_succ, i64_w, i32_w]
            rfl
           refine pS (i := 13) (N := some 43) #[true, true, true, true, true, true, true, true, true, true, true, true, true, true] HT_ ?_
           refine done_ (qHB HT_.out (by kernel_rfl)) ?_
           try go_wp2
           go_roundg k3
           case measure => have := HK1.out; have := HJ6.out; have := HK3.out; omega
           case rel => exact ⟨(wrap64 (x10_3 + 1)), sD, H', ⟨by have := HK1.out; have := HJ6.out; have := HK3.out; omega⟩, ⟨rR HO_7⟩, ⟨rB BK221⟩, ⟨bl⟩⟩
          ·replace c17 := Bool.eq_false_iff.mpr c17
           subst c17
           replace H := iF H
           replace H := bS H
           obtain ⟨y224, Ny224, H⟩ := H
           have c21b0 := eq_true (of_decide_eq_true am : 0 ≤ x10_3)
           by_cases c22 : x10_3 ≤ (x7_1.length : Int)
           case neg => exact nN c22 H
           rw [if_pos c22] at H
           have c22b0 := eq_true c22
           have c22b1 := decide_eq_true c22
           clear c22
           replace H := bS H
           obtain ⟨y227, Ny227, H⟩ := H
           by_cases c23 : y224.length + y227.length < 2932031007402
           case neg => exact nN c23 H
           rw [if_pos c23] at H
           have LMc23 := aM c23
           clear c23
           replace H := bS H
           obtain ⟨y231, Ny231, H⟩ := H
           replace H := bS H
           obtain ⟨y234, Ny234, H⟩ := H
           by_cases c24 : y231.length + y234.length < 2932031007402
           case neg => exact nN c24 H
           rw [if_pos c24] at H
           have LMc24 := aM c24
           clear c24
           replace H := bS H
           obtain ⟨y237, Ny237, H⟩ := H
           have c25b0 := eq_true (of_decide_eq_true am : 0 ≤ x10_3)
           have c26b0 := eq_true (of_decide_eq_true am : x10_3 ≤ (x7_1.length : Int))
           replace H := bS H
           obtain ⟨y240, Ny240, H⟩ := H
           by_cases c27 : y237.length + y240.length < 2932031007402
           case neg => exact nN c27 H
           rw [if_pos c27] at H
           have LMc27 := aM c27
           clear c27
           obtain ⟨y244, hy244⟩ : ∃ y_ : List (S29), y_ = (y237 ++ y240) := ⟨_, rfl⟩
           replace H : (qM.l0 k3 a1 a2 y244 l0 (l0.length : Int) (wrap64 (x14_1 + 1))) = some r := by first | (rw [hy244]; with_reducible exact H) | (have H2_ := (Option.bind_some _ _).symm.trans H; rw [hy244]; with_reducible exact H2_) | (have H2_ := (Option.bind_some _ _).symm.trans H; with_reducible exact H2_) | with_reducible exact H | (rw [hy244]; exact H) | exact H
           have Ny244 := aM hy244
           clear hy244
           have H' := aM H
           clear H
           try go_wp2
           replace HO_7 := aM (Kd.qQ HO_7.out)
           replace BK221 := aM (qH BK221.out)
           replace HB := aM (qm HB.out)
           obtain ⟨Ao29, co29, eo29⟩ := Kd.qi HO_7.out
           (first | subst eo29 | (injection eo29 with f1_ f2_ f3_; have f4_ := f1_.symm; have f5_ := f3_.symm; clear f1_ f2_ f3_; subst f4_; subst f5_))
           have p222 : 0 ≤ (x10_3 : Int) := of_decide_eq_true am
           have q222 : x10_3 < (x7_1.length : Int) := of_decide_eq_true am
           obtain ⟨ad222, e222, hx222_0, hx222_1, hx222_2, hx222_3, hx222_4, hx222_5⟩ := qPD (Kd.qE HO_7.out).2.2 x10_3 p222 q222
           cases e222
           replace p222 := eq_true p222
           replace q222 := eq_true q222
           refine qAB (n := 14) (S := fun w' => w'.cell? ⟨gb221, 0, none⟩ = some (.int .i64 ((qA l0 x14_1).f0.f0)) ∧ w'.cell? ⟨gb221, 1, none⟩ = some (.int .i64 ((qA l0 x14_1).f0.f1)) ∧ w'.cell? ⟨gb221, 2, none⟩ = some (.int .i64 ((qA l0 x14_1).f0.f2.f0)) ∧ w'.cell? ⟨gb221, 3, none⟩ = some (.int .i64 ((qA l0 x14_1).f0.f2.f1)) ∧ w'.cell? ⟨gb221, 4, none⟩ = some (.int .i64 ((qA l0 x14_1).f0.f2.f2)) ∧ w'.cell? ⟨gb221, 5, none⟩ = some (.int .i64 ((qA l0 x14_1).f0.f2.f3)) ∧ w'.cell? ⟨gb221, 6, none⟩ = some (.int .i64 ((qA l0 x14_1).f0.f2.f4)) ∧ w'.cell? ⟨gb221, 7, none⟩ = some (.int .i64 ((qA l0 x14_1).f0.f2.f5)) ∧ w'.cell? ⟨gb221, 8, none⟩ = some (.int .i64 ((qA l0 x14_1).f1)) ∧ w'.cell? ⟨gb221, 9, none⟩ = some (.int .i64 ((qA l0 x14_1).f2)) ∧ w'.cell? ⟨gb221, 10, none⟩ = some (.int .i64 ((qA l0 x14_1).f3)) ∧ w'.cell? ⟨gb221, 11, none⟩ = some (.int .i64 ((qA l0 x14_1).f4)) ∧ w'.cell? ⟨gb221, 12, none⟩ = some (.int .i64 ((qA l0 x14_1).f5.f0)) ∧ w'.cell? ⟨gb221, 13, none⟩ = some (.int .i64 ((qA l0 x14_1).f5.f1)) ∧ w'.cell? ⟨gb221, 14, none⟩ = some (.int .i64 ((qA l0 x14_1).f5.f2)) ∧ w'.cell? ⟨gb221, 15, none⟩ = some (.int .i64 ((qA l0 x14_1).f5.f3)) ∧ w'.cell? (ad222.add ((x10_3).toNat * 6)) = some (.int .i64 ((qZ x7_1 x10_3).f0)) ∧ w'.cell? ⟨(ad222.add ((x10_3).toNat * 6)).block, (ad222.add ((x10_3).toNat * 6)).off + 1, none⟩ = some (.int .i64 ((qZ x7_1 x10_3).f1)) ∧ w'.cell? ⟨(ad222.add ((x10_3).toNat * 6)).block, (ad222.add ((x10_3).toNat * 6)).off + 2, none⟩ = some (.int .i64 ((qZ x7_1 x10_3).f2)) ∧ w'.cell? ⟨(ad222.add ((x10_3).toNat * 6)).block, (ad222.add ((x10_3).toNat * 6)).off + 3, none⟩ = some (.int .i64 ((qZ x7_1 x10_3).f3)) ∧ w'.cell? ⟨(ad222.add ((x10_3).toNat * 6)).block, (ad222.add ((x10_3).toNat * 6)).off + 4, none⟩ = some (.int .i64 ((qZ x7_1 x10_3).f4)) ∧ w'.cell? ⟨(ad222.add ((x10_3).toNat * 6)).block, (ad222.add ((x10_3).toNat * 6)).off + 5, none⟩ = some (.int .i64 ((qZ x7_1 x10_3).f5))) (ds := []) #[false, false, false, false, false, false, false, false, false, false, false, false, false, false] (by kernel_rfl) rfl rfl ⟨bc BK221 0, bc BK221 1, bc BK221 2, bc BK221 3, bc BK221 4, bc BK221 5, bc BK221 6, bc BK221 7, bc BK221 8, bc BK221 9, bc BK221 10, bc BK221 11, bc BK221 12, bc BK221 13, bc BK221 14, bc BK221 15, hx222_0, hx222_1, hx222_2, hx222_3, hx222_4, hx222_5⟩ (fun hHeld => ?_); refine qMA qM.tab7 qM.bits7 (fun HT_ HW_ => ?_)
           generalize wr.drew = w28 at HO_7 BK221 HB hx222_0 hx222_1 hx222_2 hx222_3 hx222_4 hx222_5 hHeld ⊢
           refine pS (i := 0) (N := some 30) #[true, false, false, false, false, false, false, false, false, false, false, false, false, false] HT_ ?_
           refine pS (i := 1) (N := some 31) #[true, true, false, false, false, false, false, false, false, false, false, false, false, false] HT_ ?_
           refine pS (i := 2) (N := some 32) #[true, true, true, false, false, false, false, false, false, false, false, false, false, false] HT_ ?_
           refine pS (i := 3) (N := some 33) #[true, true, true, true, false, false, false, false, false, false, false, false, false, false] HT_ ?_
           refine pS (i := 4) (N := some 34) #[true, true, true, true, true, false, false, false, false, false, false, false, false, false] HT_ ?_
           refine pS (i := 5) (N := some 35) #[true, true, true, true, true, true, false, false, false, false, false, false, false, false] HT_ ?_
           refine pS (i := 6) (N := some 36) #[true, true, true, true, true, true, true, false, false, false, false, false, false, false] HT_ ?_
           refine pS (i := 7) (N := some 37) #[true, true, true, true, true, true, true, true, false, false, false, false, false, false] HT_ ?_
           refine pS (i := 9) (N := some 39) #[true, true, true, true, true, true, true, true, false, true, false, false, false, false] HT_ ?_
           refine pS (i := 10) (N := some 40) #[true, true, true, true, true, true, true, true, false, true, true, false, false, false] HT_ ?_
           refine tS (i := 8) (N := some 38) #[true, true, true, true, true, true, true, true, true, true, true, false, false, false] HT_ HW_ hHeld ?_
           refine tS (i := 11) (N := some 41) #[true, true, true, true, true, true, true, true, true, true, true, true, false, false] HT_ HW_ hHeld ?_
           refine one_ (i := 12) (N := some 42) #[true, true, true, true, true, true, true, true, true, true, true, true, true, false] rfl rfl (qrA HT_.out (by kernel_rfl)) (by decide) (fun K hK => ?_)
           refine goes_ Tryz.func29 (by kernel_rfl) rfl #[.agg #[.int .i64 ((qZ x7_1 x10_3).f0), .int .i64 ((qZ x7_1 x10_3).f1), .int .i64 ((qZ x7_1 x10_3).f2), .int .i64 ((qZ x7_1 x10_3).f3), .int .i64 ((qZ x7_1 x10_3).f4), .int .i64 ((qZ x7_1 x10_3).f5)], .agg #[.int .i64 ((qA l0 x14_1).f0.f2.f0), .int .i64 ((qA l0 x14_1).f0.f2.f1), .int .i64 ((qA l0 x14_1).f0.f2.f2), .int .i64 ((qA l0 x14_1).f0.f2.f3), .int .i64 ((qA l0 x14_1).f0.f2.f4), .int .i64 ((qA l0 x14_1).f0.f2.f5)]] (by rfl) rfl rfl gA ?_
           with_reducible refine (qa.calls k3 ((qZ x7_1 x10_3).f0) ((qZ x7_1 x10_3).f1) ((qZ x7_1 x10_3).f2) ((qZ x7_1 x10_3).f3) ((qZ x7_1 x10_3).f4) ((qZ x7_1 x10_3).f5) ((qA l0 x14_1).f0.f2.f0) ((qA l0 x14_1).f0.f2.f1) ((qA l0 x14_1).f0.f2.f2) ((qA l0 x14_1).f0.f2.f3) ((qA l0 x14_1).f0.f2.f4) ((qA l0 x14_1).f0.f2.f5) false _ A16.out).mono ?_
           rintro e w30 ⟨rfl, hb⟩
           have HS16_ := (hb.cell (World.block_lt_of_cell? _ _ (hHeld.2.2.2.2.2.2.2.2.2.2.2.2.2.2.2.2.1))).trans (hHeld.2.2.2.2.2.2.2.2.2.2.2.2.2.2.2.2.1)
           have HS17_ := (hb.cell (World.block_lt_of_cell? _ _ (hHeld.2.2.2.2.2.2.2.2.2.2.2.2.2.2.2.2.2.1))).trans (hHeld.2.2.2.2.2.2.2.2.2.2.2.2.2.2.2.2.2.1)
           have HS18_ := (hb.cell (World.block_lt_of_cell? _ _ (hHeld.2.2.2.2.2.2.2.2.2.2.2.2.2.2.2.2.2.2.1))).trans (hHeld.2.2.2.2.2.2.2.2.2.2.2.2.2.2.2.2.2.2.1)
           have HS19_ := (hb.cell (World.block_lt_of_cell? _ _ (hHeld.2.2.2.2.2.2.2.2.2.2.2.2.2.2.2.2.2.2.2.1))).trans (hHeld.2.2.2.2.2.2.2.2.2.2.2.2.2.2.2.2.2.2.2.1)
           have HS20_ := (hb.cell (World.block_lt_of_cell? _ _ (hHeld.2.2.2.2.2.2.2.2.2.2.2.2.2.2.2.2.2.2.2.2.1))).trans (hHeld.2.2.2.2.2.2.2.2.2.2.2.2.2.2.2.2.2.2.2.2.1)
           have HS21_ := (hb.cell (World.block_lt_of_cell? _ _ (hHeld.2.2.2.2.2.2.2.2.2.2.2.2.2.2.2.2.2.2.2.2.2))).trans (hHeld.2.2.2.2.2.2.2.2.2.2.2.2.2.2.2.2.2.2.2.2.2)
           refine ⟨_, rfl, ?_⟩
           replace HO_7 := aM (Kd.qj (rR HO_7) hb)
           replace BK221 := aM (bb BK221 hb)
           replace HB := aM (qB bl hb); (try clear hb); (try clear hb2); (try clear hk); (try clear hi)
           refine hK.out _ _ ⟨bc BK221 0, bc BK221 1, bc BK221 2, bc BK221 3, bc BK221 4, bc BK221 5, bc BK221 6, bc BK221 7, bc BK221 8, bc BK221 9, bc BK221 10, bc BK221 11, bc BK221 12, bc BK221 13, bc BK221 14, bc BK221 15, HS16_, HS17_, HS18_, HS19_, HS20_, HS21_⟩ (fun hHeld => ?_)
           clear hK K
           refine norm_ (a' := ?_) ?_ ?_
           rotate_left
           ·show Act.put _ (some 42) _ = _
            simp only [Act.put, List.setIfInBounds_toArray, List.set_cons_zero, List.set_cons_succ, i64_w, i32_w]
            rfl
           refine pS (i := 13) (N := some 43) #[true, true, true, true, true, true, true, true, true, true, true, true, true, true] HT_ ?_
           refine done_ (qHB HT_.out (by kernel_rfl)) ?_
           try go_wp2
           replace HO_7 := aM (Kd.qQ HO_7.out)
           replace BK221 := aM (qH BK221.out)
           replace HB := aM (qm HB.out)
           have q32 : (x10_3 : Int) ≤ ((x7_1.length : Int) : Int) := of_decide_eq_true am
           obtain ⟨i032, hi032, _, hsz32, _⟩ := info_parts info29
           have hroom32 : x7_1.length ≤ co29 := (Kd.qE HO_7.out).2.1
           have hC32 : Kd.C k29 _ (some ad222) x7_1.length x7_1 := (Kd.qE HO_7.out).2.2
           have hcut32 := qeD (P := Tryz.prog) 36 29 .i64 Tryz.underlying36 hi032 (some ad222) x7_1.length co29 x10_3 (of_decide_eq_true am) q32 hroom32
           have hr32 := Kd.qZB (m := (x10_3 : Int).toNat) hC32 (by omega)
           have hy32 : y227.length = (x10_3 : Int).toNat := (by rw [Ny227.out, List.length_take]; omega)
           rw [← Ny227.out] at hr32
           rw [← hy32] at hcut32
           have HR230 := aM hr32
           have HC230 := aM (show y227.length ≤ co29 from by omega)
           clear hr32 hC32 hroom32 hi032 hsz32
           have KY32 := aM hy32
           clear hy32
           have KL32 := aM (show (x10_3 : Int).toNat ≤ x7_1.length from by omega)
           replace q32 := eq_true q32
           refine qAB (n := 11) (S := fun w' => w'.cell? ⟨gb221, 0, none⟩ = some (.int .i64 ((qA l0 x14_1).f0.f0)) ∧ w'.cell? ⟨gb221, 1, none⟩ = some (.int .i64 ((qA l0 x14_1).f0.f1)) ∧ w'.cell? ⟨gb221, 2, none⟩ = some (.int .i64 ((qA l0 x14_1).f0.f2.f0)) ∧ w'.cell? ⟨gb221, 3, none⟩ = some (.int .i64 ((qA l0 x14_1).f0.f2.f1)) ∧ w'.cell? ⟨gb221, 4, none⟩ = some (.int .i64 ((qA l0 x14_1).f0.f2.f2)) ∧ w'.cell? ⟨gb221, 5, none⟩ = some (.int .i64 ((qA l0 x14_1).f0.f2.f3)) ∧ w'.cell? ⟨gb221, 6, none⟩ = some (.int .i64 ((qA l0 x14_1).f0.f2.f4)) ∧ w'.cell? ⟨gb221, 7, none⟩ = some (.int .i64 ((qA l0 x14_1).f0.f2.f5)) ∧ w'.cell? ⟨gb221, 8, none⟩ = some (.int .i64 ((qA l0 x14_1).f1)) ∧ w'.cell? ⟨gb221, 9, none⟩ = some (.int .i64 ((qA l0 x14_1).f2)) ∧ w'.cell? ⟨gb221, 10, none⟩ = some (.int .i64 ((qA l0 x14_1).f3)) ∧ w'.cell? ⟨gb221, 11, none⟩ = some (.int .i64 ((qA l0 x14_1).f4)) ∧ w'.cell? ⟨gb221, 12, none⟩ = some (.int .i64 ((qA l0 x14_1).f5.f0)) ∧ w'.cell? ⟨gb221, 13, none⟩ = some (.int .i64 ((qA l0 x14_1).f5.f1)) ∧ w'.cell? ⟨gb221, 14, none⟩ = some (.int .i64 ((qA l0 x14_1).f5.f2)) ∧ w'.cell? ⟨gb221, 15, none⟩ = some (.int .i64 ((qA l0 x14_1).f5.f3))) (ds := []) #[false, false, false, false, false, false, false, false, false, false, false] (by kernel_rfl) rfl rfl ⟨bc BK221 0, bc BK221 1, bc BK221 2, bc BK221 3, bc BK221 4, bc BK221 5, bc BK221 6, bc BK221 7, bc BK221 8, bc BK221 9, bc BK221 10, bc BK221 11, bc BK221 12, bc BK221 13, bc BK221 14, bc BK221 15⟩ (fun hHeld => ?_); refine qMA qM.tab9 qM.bits9 (fun HT_ HW_ => ?_)
           generalize w30.drew = w31 at HO_7 BK221 HB HR230 hHeld ⊢
           refine pS (i := 1) (N := some 47) #[false, true, false, false, false, false, false, false, false, false, false] HT_ ?_
           refine pS (i := 2) (N := some 48) #[false, true, true, false, false, false, false, false, false, false, false] HT_ ?_
           refine pS (i := 3) (N := some 49) #[false, true, true, true, false, false, false, false, false, false, false] HT_ ?_
           refine pS (i := 5) (N := some 51) #[false, true, true, true, false, true, false, false, false, false, false] HT_ ?_
           refine pS (i := 6) (N := some 52) #[false, true, true, true, false, true, true, false, false, false, false] HT_ ?_
           refine tS (i := 7) (N := some 53) #[false, true, true, true, false, true, true, true, false, false, false] HT_ HW_ hHeld ?_
           refine join_ (σ := Value × Value × Value) 2 #[true, true, true, true, true, true, true, true, true, false, false] (fun s_ => [(46, s_.1), (50, s_.2.1), (54, s_.2.2)]) (fun s_ w' => (w'.cell? ⟨gb221, 0, none⟩ = some (.int .i64 ((qA l0 x14_1).f0.f0)) ∧ w'.cell? ⟨gb221, 1, none⟩ = some (.int .i64 ((qA l0 x14_1).f0.f1)) ∧ w'.cell? ⟨gb221, 2, none⟩ = some (.int .i64 ((qA l0 x14_1).f0.f2.f0)) ∧ w'.cell? ⟨gb221, 3, none⟩ = some (.int .i64 ((qA l0 x14_1).f0.f2.f1)) ∧ w'.cell? ⟨gb221, 4, none⟩ = some (.int .i64 ((qA l0 x14_1).f0.f2.f2)) ∧ w'.cell? ⟨gb221, 5, none⟩ = some (.int .i64 ((qA l0 x14_1).f0.f2.f3)) ∧ w'.cell? ⟨gb221, 6, none⟩ = some (.int .i64 ((qA l0 x14_1).f0.f2.f4)) ∧ w'.cell? ⟨gb221, 7, none⟩ = some (.int .i64 ((qA l0 x14_1).f0.f2.f5)) ∧ w'.cell? ⟨gb221, 8, none⟩ = some (.int .i64 ((qA l0 x14_1).f1)) ∧ w'.cell? ⟨gb221, 9, none⟩ = some (.int .i64 ((qA l0 x14_1).f2)) ∧ w'.cell? ⟨gb221, 10, none⟩ = some (.int .i64 ((qA l0 x14_1).f3)) ∧ w'.cell? ⟨gb221, 11, none⟩ = some (.int .i64 ((qA l0 x14_1).f4)) ∧ w'.cell? ⟨gb221, 12, none⟩ = some (.int .i64 ((qA l0 x14_1).f5.f0)) ∧ w'.cell? ⟨gb221, 13, none⟩ = some (.int .i64 ((qA l0 x14_1).f5.f1)) ∧ w'.cell? ⟨gb221, 14, none⟩ = some (.int .i64 ((qA l0 x14_1).f5.f2)) ∧ w'.cell? ⟨gb221, 15, none⟩ = some (.int .i64 ((qA l0 x14_1).f5.f3))) ∧ (Kd.R k29 29 w' w.heap.size (fun k_ => some k_ ≠ (s_.2.2 : Value).ownBlock ∧ some k_ ≠ (.slice (some ad222) x7_1.length co29 : Value).ownBlock) s_.2.1 y231) ∧ (Kd.R k29 29 w' w.heap.size (fun k_ => some k_ ≠ (s_.2.1 : Value).ownBlock ∧ some k_ ≠ (.slice (some ad222) x7_1.length co29 : Value).ownBlock) s_.2.2 y234) ∧ (Kd.R k29 29 w' w.heap.size (fun k_ => some k_ ≠ (s_.2.1 : Value).ownBlock ∧ some k_ ≠ (s_.2.2 : Value).ownBlock) (.slice (some ad222) x7_1.length co29) x7_1) ∧ (w'.heap[gb221]? = some (.cells #[.int .i64 ((qA l0 x14_1).f0.f0), .int .i64 ((qA l0 x14_1).f0.f1), .int .i64 ((qA l0 x14_1).f0.f2.f0), .int .i64 ((qA l0 x14_1).f0.f2.f1), .int .i64 ((qA l0 x14_1).f0.f2.f2), .int .i64 ((qA l0 x14_1).f0.f2.f3), .int .i64 ((qA l0 x14_1).f0.f2.f4), .int .i64 ((qA l0 x14_1).f0.f2.f5), .int .i64 ((qA l0 x14_1).f1), .int .i64 ((qA l0 x14_1).f2), .int .i64 ((qA l0 x14_1).f3), .int .i64 ((qA l0 x14_1).f4), .int .i64 ((qA l0 x14_1).f5.f0), .int .i64 ((qA l0 x14_1).f5.f1), .int .i64 ((qA l0 x14_1).f5.f2), .int .i64 ((qA l0 x14_1).f5.f3)] 68 (0, 0))) ∧ (Below w.heap.size w w')) ?_ ?_
           rotate_left
           ·intro hCont
            refine two_ (i := 0) (j := 8) (Ni := some 46) (Nj := some 54) #[true, true, true, true, false, true, true, true, false, false, false] #[false, true, true, true, false, true, true, true, true, false, false] rfl rfl rfl rfl (qDD HT_.out (by kernel_rfl)) (by decide) (by decide) (fun K hK => ?_) (fun K hK => ?_)
            ·skip
             refine Kd.qSA k29 _ 29 ?hg (N := 46) ?hd (xs := ([] : List (S29))) (inner := []) (ok := fun _ => True) (okp := fun _ => True) ?hr ?hp (fun _ hk => hk) trivial (Below.refl _ _) (Nat.le_refl _) (by simp) ?_; (case hd => rfl); (case hg => rfl); (case hr => exact gS); (case hp => exact (Reps.none _ _))
             intro v225 w33 ho34 hb hg_ hnew_
             clear hg_ hnew_
             (first | rw [← Ny224.out] at ho34 | (simp only [Int.reduceToNat] at ho34; rw [← Ny224.out] at ho34))
             have HO226 := aM (Kd.qHA (Kd.qLB ho34 (Kd.R_lt (rR HO_7))) (qT bl))
             replace HO_7 := aM (Kd.qYA (rR HO_7) (Kd.qMB ho34) hb)
             replace BK221 := aM (bb BK221 hb)
             replace HR230 := aM (Kd.qPA (by repeat (first | (with_reducible exact HR230.out) | (with_reducible refine Kd.qc ?_ _) | (with_reducible refine Kd.qb ?_ _) | (with_reducible refine Kd.qu ?_) | exact HR230.out)) hb)
             replace HB := aM (qB bl hb)
             clear hb ho34
             refine hK.out _ _ ⟨bc BK221 0, bc BK221 1, bc BK221 2, bc BK221 3, bc BK221 4, bc BK221 5, bc BK221 6, bc BK221 7, bc BK221 8, bc BK221 9, bc BK221 10, bc BK221 11, bc BK221 12, bc BK221 13, bc BK221 14, bc BK221 15⟩ (fun hHeld => ?_)
             clear hK K
             refine norm_ (a' := ?_) ?_ ?_
             rotate_left
             ·show Act.put _ (some 46) _ = _
              simp only [Act.put, List.setIfInBounds_toArray, List.set_cons_zero, List.set_cons_succ, i64_w, i32_w]
              rfl
             refine two_ (i := 4) (j := 8) (Ni := some 50) (Nj := some 54) #[true, true, true, true, true, true, true, true, false, false, false] #[true, true, true, true, false, true, true, true, true, false, false] rfl rfl rfl rfl (qDD HT_.out (by kernel_rfl)) (by decide) (by decide) (fun K hK => ?_) (fun K hK => ?_)
             ·skip
              refine Kd.qCA k29 (w0 := w) w.heap.size (by rfl) (.tmp 46) (.tmp 49) 36 29 (.agg #[(.int .i64 0), (.int .i64 0), (.int .i64 0), (.int .i64 0), (.int .i64 0), (.int .i64 0)]) 48 rfl Tryz.underlying36 info29 rfl (by decide) (by omega) v225 y224 y227 _ _ _ (fun k_ => some k_ ≠ (.slice (some ad222) x7_1.length co29 : Value).ownBlock) (fun _ => False) rfl rfl ?aO ?aR (fun _ _ h => h) (fun _ h => h.elim) ?aF ?aB ?aS ?aL ?_
              (case aR => repeat (first | exact (by repeat (first | (with_reducible exact HR230.out) | (with_reducible refine Kd.qc ?_ _) | (with_reducible refine Kd.qb ?_ _) | (with_reducible refine Kd.qu ?_) | exact HR230.out)) | (with_reducible refine Kd.qc ?_ _) | (with_reducible refine Kd.qb ?_ _) | (with_reducible refine Kd.qu ?_)))
              (case aB => exact bl)
              (case aF => exact (fun k_ hk => Kd.fresh' (Kd.R_lt (rR HO_7)) k_ hk))
              (case aO => exact (by (with_reducible repeat (first | apply Kd.qR | apply Kd.qU | apply Kd.qQ)); exact Kd.qY HO226.out (fun _ hk => hk.2)))
              (case aS => exact (qT bl))
              (case aL => have := LMc23.out; omega)
              intro v232 w35 ho hb hg hat
              rw [← Ny231.out] at ho
              have HO233 := aM (ho)
              replace BK221 := aM (qf (rB BK221) hg (Kd.R_ne HO226.out BK221.out (by decide)))
              replace HB := aM (hb)
              replace HR230 := aM ((show Kd.C k29 w35 (some ad222) y227.length y227 from by rw [Ny227.out]; exact Kd.qZB (m := (x10_3 : Int).toNat) ((Kd.qE (Kd.qEA (ok := (fun _ => True)) (rR HO_7) hg hat)).2.2) KL32.out))
              replace HO_7 := aM (Kd.qEA (ok := (fun _ => True)) (rR HO_7) hg hat)
              clear HO226
              clear ho hb hg hat
              refine hK.out _ _ ⟨bc BK221 0, bc BK221 1, bc BK221 2, bc BK221 3, bc BK221 4, bc BK221 5, bc BK221 6, bc BK221 7, bc BK221 8, bc BK221 9, bc BK221 10, bc BK221 11, bc BK221 12, bc BK221 13, bc BK221 14, bc BK221 15⟩ (fun hHeld => ?_)
              clear hK K
              refine norm_ (a' := ?_) ?_ ?_
              rotate_left
              ·show Act.put _ (some 50) _ = _
               simp only [Act.put, List.setIfInBounds_toArray, List.set_cons_zero, List.set_cons_succ, i64_w, i32_w]
               rfl
              refine one_ (i := 8) (N := some 54) #[true, true, true, true, true, true, true, true, true, false, false] rfl rfl (qrA HT_.out (by kernel_rfl)) (by decide) (fun K hK => ?_)
              refine Kd.qSA k29 _ 29 ?hg (N := 54) ?hd (xs := ([(⟨((qA l0 x14_1).f0.f2.f0), ((qA l0 x14_1).f0.f2.f1), ((qA l0 x14_1).f0.f2.f2), ((qA l0 x14_1).f0.f2.f3), ((qA l0 x14_1).f0.f2.f4), ((qA l0 x14_1).f0.f2.f5)⟩ : S29)] : List (S29))) (inner := [.int .i64 ((qA l0 x14_1).f0.f2.f0), .int .i64 ((qA l0 x14_1).f0.f2.f1), .int .i64 ((qA l0 x14_1).f0.f2.f2), .int .i64 ((qA l0 x14_1).f0.f2.f3), .int .i64 ((qA l0 x14_1).f0.f2.f4), .int .i64 ((qA l0 x14_1).f0.f2.f5)]) (ok := fun _ => True) (okp := fun _ => True) ?hr ?hp (fun _ hk => hk) trivial (Below.refl _ _) (Nat.le_refl _) (by simp) ?_; (case hd => rfl); (case hg => rfl); (case hr => exact gS); (case hp => exact (Reps.c6 (show Kd.M k29 _ _ _ (⟨((qA l0 x14_1).f0.f2.f0), ((qA l0 x14_1).f0.f2.f1), ((qA l0 x14_1).f0.f2.f2), ((qA l0 x14_1).f0.f2.f3), ((qA l0 x14_1).f0.f2.f4), ((qA l0 x14_1).f0.f2.f5)⟩ : S29) [.int .i64 ((qA l0 x14_1).f0.f2.f0), .int .i64 ((qA l0 x14_1).f0.f2.f1), .int .i64 ((qA l0 x14_1).f0.f2.f2), .int .i64 ((qA l0 x14_1).f0.f2.f3), .int .i64 ((qA l0 x14_1).f0.f2.f4), .int .i64 ((qA l0 x14_1).f0.f2.f5)] from (qgB _ _ _ (⟨((qA l0 x14_1).f0.f2.f0), ((qA l0 x14_1).f0.f2.f1), ((qA l0 x14_1).f0.f2.f2), ((qA l0 x14_1).f0.f2.f3), ((qA l0 x14_1).f0.f2.f4), ((qA l0 x14_1).f0.f2.f5)⟩ : S29) )) (Reps.none _ _)))
              intro v235 w36 ho37 hb hg_ hnew_
              clear hg_ hnew_
              (first | rw [← Ny234.out] at ho37 | (simp only [Int.reduceToNat] at ho37; rw [← Ny234.out] at ho37))
              have HO236 := aM (Kd.qHA (Kd.qLB (Kd.qLB ho37 (Kd.R_lt (rR HO_7))) (Kd.R_lt (rR HO233))) (qT bl))
              replace HO_7 := aM (Kd.qYA (rR HO_7) (Kd.qMB ho37) hb)
              replace HO233 := aM (Kd.qYA (rR HO233) (Kd.qMB ho37) hb)
              replace BK221 := aM (bb BK221 hb)
              replace HR230 := aM (Kd.qPA (by repeat (first | (with_reducible exact HR230.out) | (with_reducible refine Kd.qc ?_ _) | (with_reducible refine Kd.qb ?_ _) | (with_reducible refine Kd.qu ?_) | exact HR230.out)) hb)
              replace HB := aM (qB bl hb)
              clear hb ho37
              refine hK.out _ _ ⟨bc BK221 0, bc BK221 1, bc BK221 2, bc BK221 3, bc BK221 4, bc BK221 5, bc BK221 6, bc BK221 7, bc BK221 8, bc BK221 9, bc BK221 10, bc BK221 11, bc BK221 12, bc BK221 13, bc BK221 14, bc BK221 15⟩ (fun hHeld => ?_)
              clear hK K
              refine norm_ (a' := ?_) ?_ ?_
              rotate_left
              ·show Act.put _ (some 54) _ = _
               simp only [Act.put, List.setIfInBounds_toArray, List.set_cons_zero, List.set_cons_succ, i64_w, i32_w]
               rfl
              exact norm_ (by simp only [putAll, Act.put, List.setIfInBounds_toArray, List.set_cons_zero, List.set_cons_succ]) (hCont (v225, v232, v235) _ ⟨hHeld, (by (with_reducible repeat (first | apply Kd.qR | apply Kd.qU | apply Kd.qQ)); exact Kd.qY HO233.out (fun _ hk => ⟨hk.2, hk.1⟩)), (by (with_reducible repeat (first | apply Kd.qR | apply Kd.qU | apply Kd.qQ)); exact Kd.qY HO236.out (fun _ hk => ⟨hk.2, hk.1.2⟩)), (by (with_reducible repeat (first | apply Kd.qR | apply Kd.qU | apply Kd.qQ)); exact Kd.qY HO_7.out (fun _ hk => ⟨hk.1.2, hk.2⟩)), (rB BK221), bl⟩)
             ·skip
              refine Kd.qSA k29 _ 29 ?hg (N := 54) ?hd (xs := ([(⟨((qA l0 x14_1).f0.f2.f0), ((qA l0 x14_1).f0.f2.f1), ((qA l0 x14_1).f0.f2.f2), ((qA l0 x14_1).f0.f2.f3), ((qA l0 x14_1).f0.f2.f4), ((qA l0 x14_1).f0.f2.f5)⟩ : S29)] : List (S29))) (inner := [.int .i64 ((qA l0 x14_1).f0.f2.f0), .int .i64 ((qA l0 x14_1).f0.f2.f1), .int .i64 ((qA l0 x14_1).f0.f2.f2), .int .i64 ((qA l0 x14_1).f0.f2.f3), .int .i64 ((qA l0 x14_1).f0.f2.f4), .int .i64 ((qA l0 x14_1).f0.f2.f5)]) (ok := fun _ => True) (okp := fun _ => True) ?hr ?hp (fun _ hk => hk) trivial (Below.refl _ _) (Nat.le_refl _) (by simp) ?_; (case hd => rfl); (case hg => rfl); (case hr => exact gS); (case hp => exact (Reps.c6 (show Kd.M k29 _ _ _ (⟨((qA l0 x14_1).f0.f2.f0), ((qA l0 x14_1).f0.f2.f1), ((qA l0 x14_1).f0.f2.f2), ((qA l0 x14_1).f0.f2.f3), ((qA l0 x14_1).f0.f2.f4), ((qA l0 x14_1).f0.f2.f5)⟩ : S29) [.int .i64 ((qA l0 x14_1).f0.f2.f0), .int .i64 ((qA l0 x14_1).f0.f2.f1), .int .i64 ((qA l0 x14_1).f0.f2.f2), .int .i64 ((qA l0 x14_1).f0.f2.f3), .int .i64 ((qA l0 x14_1).f0.f2.f4), .int .i64 ((qA l0 x14_1).f0.f2.f5)] from (qgB _ _ _ (⟨((qA l0 x14_1).f0.f2.f0), ((qA l0 x14_1).f0.f2.f1), ((qA l0 x14_1).f0.f2.f2), ((qA l0 x14_1).f0.f2.f3), ((qA l0 x14_1).f0.f2.f4), ((qA l0 x14_1).f0.f2.f5)⟩ : S29) )) (Reps.none _ _)))
              intro v235 w35 ho36 hb hg_ hnew_
              clear hg_ hnew_
              (first | rw [← Ny234.out] at ho36 | (simp only [Int.reduceToNat] at ho36; rw [← Ny234.out] at ho36))
              have HO236 := aM (Kd.qHA (Kd.qLB (Kd.qLB ho36 (Kd.R_lt (rR HO_7))) (Kd.R_lt (rR HO226))) (qT bl))
              replace HO_7 := aM (Kd.qYA (rR HO_7) (Kd.qMB ho36) hb)
              replace HO226 := aM (Kd.qYA (rR HO226) (Kd.qMB ho36) hb)
              replace BK221 := aM (bb BK221 hb)
              replace HR230 := aM (Kd.qPA (by repeat (first | (with_reducible exact HR230.out) | (with_reducible refine Kd.qc ?_ _) | (with_reducible refine Kd.qb ?_ _) | (with_reducible refine Kd.qu ?_) | exact HR230.out)) hb)
              replace HB := aM (qB bl hb)
              clear hb ho36
              refine hK.out _ _ ⟨bc BK221 0, bc BK221 1, bc BK221 2, bc BK221 3, bc BK221 4, bc BK221 5, bc BK221 6, bc BK221 7, bc BK221 8, bc BK221 9, bc BK221 10, bc BK221 11, bc BK221 12, bc BK221 13, bc BK221 14, bc BK221 15⟩ (fun hHeld => ?_)
              clear hK K
              refine norm_ (a' := ?_) ?_ ?_
              rotate_left
              ·show Act.put _ (some 54) _ = _
               simp only [Act.put, List.setIfInBounds_toArray, List.set_cons_zero, List.set_cons_succ, i64_w, i32_w]
               rfl
              refine one_ (i := 4) (N := some 50) #[true, true, true, true, true, true, true, true, true, false, false] rfl rfl (qrA HT_.out (by kernel_rfl)) (by decide) (fun K hK => ?_)
              refine Kd.qCA k29 (w0 := w) w.heap.size (by rfl) (.tmp 46) (.tmp 49) 36 29 (.agg #[(.int .i64 0), (.int .i64 0), (.int .i64 0), (.int .i64 0), (.int .i64 0), (.int .i64 0)]) 48 rfl Tryz.underlying36 info29 rfl (by decide) (by omega) v225 y224 y227 _ _ _ (fun k_ => some k_ ≠ (.slice (some ad222) x7_1.length co29 : Value).ownBlock ∧ some k_ ≠ (v235 : Value).ownBlock) (fun _ => False) rfl rfl ?aO ?aR (fun _ _ h => h) (fun _ h => h.elim) ?aF ?aB ?aS ?aL ?_
              (case aR => repeat (first | exact (by repeat (first | (with_reducible exact HR230.out) | (with_reducible refine Kd.qc ?_ _) | (with_reducible refine Kd.qb ?_ _) | (with_reducible refine Kd.qu ?_) | exact HR230.out)) | (with_reducible refine Kd.qc ?_ _) | (with_reducible refine Kd.qb ?_ _) | (with_reducible refine Kd.qu ?_)))
              (case aB => exact bl)
              (case aF => exact (fun k_ hk => ⟨Kd.fresh' (Kd.R_lt (rR HO_7)) k_ hk, Kd.fresh' (Kd.R_lt (rR HO236)) k_ hk⟩))
              (case aO => exact (by (with_reducible repeat (first | apply Kd.qR | apply Kd.qU | apply Kd.qQ)); exact Kd.qY HO226.out (fun _ hk => ⟨hk.1.2, hk.2⟩)))
              (case aS => exact (qT bl))
              (case aL => have := LMc23.out; omega)
              intro v232 w37 ho hb hg hat
              rw [← Ny231.out] at ho
              have HO233 := aM (ho)
              replace BK221 := aM (qf (rB BK221) hg (Kd.R_ne HO226.out BK221.out (by decide)))
              replace HO236 := aM (Kd.qEA (ok := (fun k_ => some k_ ≠ (.slice (some ad222) x7_1.length co29 : Value).ownBlock)) (by (with_reducible repeat (first | apply Kd.qR | apply Kd.qU | apply Kd.qQ)); exact Kd.qY HO236.out (fun _ hk => ⟨hk.1.2, hk.2⟩)) hg hat)
              replace HB := aM (hb)
              replace HR230 := aM ((show Kd.C k29 w37 (some ad222) y227.length y227 from by rw [Ny227.out]; exact Kd.qZB (m := (x10_3 : Int).toNat) ((Kd.qE (Kd.qEA (ok := (fun k_ => some k_ ≠ (v235 : Value).ownBlock)) (by (with_reducible repeat (first | apply Kd.qR | apply Kd.qU | apply Kd.qQ)); exact Kd.qY HO_7.out (fun _ hk => ⟨hk.2, hk.1.2⟩)) hg hat)).2.2) KL32.out))
              replace HO_7 := aM (Kd.qEA (ok := (fun k_ => some k_ ≠ (v235 : Value).ownBlock)) (by (with_reducible repeat (first | apply Kd.qR | apply Kd.qU | apply Kd.qQ)); exact Kd.qY HO_7.out (fun _ hk => ⟨hk.2, hk.1.2⟩)) hg hat)
              clear HO226
              clear ho hb hg hat
              refine hK.out _ _ ⟨bc BK221 0, bc BK221 1, bc BK221 2, bc BK221 3, bc BK221 4, bc BK221 5, bc BK221 6, bc BK221 7, bc BK221 8, bc BK221 9, bc BK221 10, bc BK221 11, bc BK221 12, bc BK221 13, bc BK221 14, bc BK221 15⟩ (fun hHeld => ?_)
              clear hK K
              refine norm_ (a' := ?_) ?_ ?_
              rotate_left
              ·show Act.put _ (some 50) _ = _
               simp only [Act.put, List.setIfInBounds_toArray, List.set_cons_zero, List.set_cons_succ, i64_w, i32_w]
               rfl
              exact norm_ (by simp only [putAll, Act.put, List.setIfInBounds_toArray, List.set_cons_zero, List.set_cons_succ]) (hCont (v225, v232, v235) _ ⟨hHeld, (by (with_reducible repeat (first | apply Kd.qR | apply Kd.qU | apply Kd.qQ)); exact Kd.qY HO233.out (fun _ hk => ⟨hk.2, hk.1⟩)), (by (with_reducible repeat (first | apply Kd.qR | apply Kd.qU | apply Kd.qQ)); exact Kd.qY HO236.out (fun _ hk => ⟨hk.2, hk.1⟩)), (by (with_reducible repeat (first | apply Kd.qR | apply Kd.qU | apply Kd.qQ)); exact Kd.qY HO_7.out (fun _ hk => ⟨hk.2, hk.1⟩)), (rB BK221), bl⟩)
            ·skip
             refine Kd.qSA k29 _ 29 ?hg (N := 54) ?hd (xs := ([(⟨((qA l0 x14_1).f0.f2.f0), ((qA l0 x14_1).f0.f2.f1), ((qA l0 x14_1).f0.f2.f2), ((qA l0 x14_1).f0.f2.f3), ((qA l0 x14_1).f0.f2.f4), ((qA l0 x14_1).f0.f2.f5)⟩ : S29)] : List (S29))) (inner := [.int .i64 ((qA l0 x14_1).f0.f2.f0), .int .i64 ((qA l0 x14_1).f0.f2.f1), .int .i64 ((qA l0 x14_1).f0.f2.f2), .int .i64 ((qA l0 x14_1).f0.f2.f3), .int .i64 ((qA l0 x14_1).f0.f2.f4), .int .i64 ((qA l0 x14_1).f0.f2.f5)]) (ok := fun _ => True) (okp := fun _ => True) ?hr ?hp (fun _ hk => hk) trivial (Below.refl _ _) (Nat.le_refl _) (by simp) ?_; (case hd => rfl); (case hg => rfl); (case hr => exact gS); (case hp => exact (Reps.c6 (show Kd.M k29 _ _ _ (⟨((qA l0 x14_1).f0.f2.f0), ((qA l0 x14_1).f0.f2.f1), ((qA l0 x14_1).f0.f2.f2), ((qA l0 x14_1).f0.f2.f3), ((qA l0 x14_1).f0.f2.f4), ((qA l0 x14_1).f0.f2.f5)⟩ : S29) [.int .i64 ((qA l0 x14_1).f0.f2.f0), .int .i64 ((qA l0 x14_1).f0.f2.f1), .int .i64 ((qA l0 x14_1).f0.f2.f2), .int .i64 ((qA l0 x14_1).f0.f2.f3), .int .i64 ((qA l0 x14_1).f0.f2.f4), .int .i64 ((qA l0 x14_1).f0.f2.f5)] from (qgB _ _ _ (⟨((qA l0 x14_1).f0.f2.f0), ((qA l0 x14_1).f0.f2.f1), ((qA l0 x14_1).f0.f2.f2), ((qA l0 x14_1).f0.f2.f3), ((qA l0 x14_1).f0.f2.f4), ((qA l0 x14_1).f0.f2.f5)⟩ : S29) )) (Reps.none _ _)))
             intro v235 w33 ho34 hb hg_ hnew_
             clear hg_ hnew_
             (first | rw [← Ny234.out] at ho34 | (simp only [Int.reduceToNat] at ho34; rw [← Ny234.out] at ho34))
             have HO236 := aM (Kd.qHA (Kd.qLB ho34 (Kd.R_lt (rR HO_7))) (qT bl))
             replace HO_7 := aM (Kd.qYA (rR HO_7) (Kd.qMB ho34) hb)
             replace BK221 := aM (bb BK221 hb)
             replace HR230 := aM (Kd.qPA (by repeat (first | (with_reducible exact HR230.out) | (with_reducible refine Kd.qc ?_ _) | (with_reducible refine Kd.qb ?_ _) | (with_reducible refine Kd.qu ?_) | exact HR230.out)) hb)
             replace HB := aM (qB bl hb)
             clear hb ho34
             refine hK.out _ _ ⟨bc BK221 0, bc BK221 1, bc BK221 2, bc BK221 3, bc BK221 4, bc BK221 5, bc BK221 6, bc BK221 7, bc BK221 8, bc BK221 9, bc BK221 10, bc BK221 11, bc BK221 12, bc BK221 13, bc BK221 14, bc BK221 15⟩ (fun hHeld => ?_)
             clear hK K
             refine norm_ (a' := ?_) ?_ ?_
             rotate_left
             ·show Act.put _ (some 54) _ = _
              simp only [Act.put, List.setIfInBounds_toArray, List.set_cons_zero, List.set_cons_succ, i64_w, i32_w]
              rfl
             refine one_ (i := 0) (N := some 46) #[true, true, true, true, false, true, true, true, true, false, false] rfl rfl (qrA HT_.out (by kernel_rfl)) (by decide) (fun K hK => ?_)
             refine Kd.qSA k29 _ 29 ?hg (N := 46) ?hd (xs := ([] : List (S29))) (inner := []) (ok := fun _ => True) (okp := fun _ => True) ?hr ?hp (fun _ hk => hk) trivial (Below.refl _ _) (Nat.le_refl _) (by simp) ?_; (case hd => rfl); (case hg => rfl); (case hr => exact gS); (case hp => exact (Reps.none _ _))
             intro v225 w35 ho36 hb hg_ hnew_
             clear hg_ hnew_
             (first | rw [← Ny224.out] at ho36 | (simp only [Int.reduceToNat] at ho36; rw [← Ny224.out] at ho36))
             have HO226 := aM (Kd.qHA (Kd.qLB (Kd.qLB ho36 (Kd.R_lt (rR HO_7))) (Kd.R_lt (rR HO236))) (qT bl))
             replace HO_7 := aM (Kd.qYA (rR HO_7) (Kd.qMB ho36) hb)
             replace HO236 := aM (Kd.qYA (rR HO236) (Kd.qMB ho36) hb)
             replace BK221 := aM (bb BK221 hb)
             replace HR230 := aM (Kd.qPA (by repeat (first | (with_reducible exact HR230.out) | (with_reducible refine Kd.qc ?_ _) | (with_reducible refine Kd.qb ?_ _) | (with_reducible refine Kd.qu ?_) | exact HR230.out)) hb)
             replace HB := aM (qB bl hb)
             clear hb ho36
             refine hK.out _ _ ⟨bc BK221 0, bc BK221 1, bc BK221 2, bc BK221 3, bc BK221 4, bc BK221 5, bc BK221 6, bc BK221 7, bc BK221 8, bc BK221 9, bc BK221 10, bc BK221 11, bc BK221 12, bc BK221 13, bc BK221 14, bc BK221 15⟩ (fun hHeld => ?_)
             clear hK K
             refine norm_ (a' := ?_) ?_ ?_
             rotate_left
             ·show Act.put _ (some 46) _ = _
              simp only [Act.put, List.setIfInBounds_toArray, List.set_cons_zero, List.set_cons_succ, i64_w, i32_w]
              rfl
             refine one_ (i := 4) (N := some 50) #[true, true, true, true, true, true, true, true, true, false, false] rfl rfl (qrA HT_.out (by kernel_rfl)) (by decide) (fun K hK => ?_)
             refine Kd.qCA k29 (w0 := w) w.heap.size (by rfl) (.tmp 46) (.tmp 49) 36 29 (.agg #[(.int .i64 0), (.int .i64 0), (.int .i64 0), (.int .i64 0), (.int .i64 0), (.int .i64 0)]) 48 rfl Tryz.underlying36 info29 rfl (by decide) (by omega) v225 y224 y227 _ _ _ (fun k_ => some k_ ≠ (.slice (some ad222) x7_1.length co29 : Value).ownBlock ∧ some k_ ≠ (v235 : Value).ownBlock) (fun _ => False) rfl rfl ?aO ?aR (fun _ _ h => h) (fun _ h => h.elim) ?aF ?aB ?aS ?aL ?_
             (case aR => repeat (first | exact (by repeat (first | (with_reducible exact HR230.out) | (with_reducible refine Kd.qc ?_ _) | (with_reducible refine Kd.qb ?_ _) | (with_reducible refine Kd.qu ?_) | exact HR230.out)) | (with_reducible refine Kd.qc ?_ _) | (with_reducible refine Kd.qb ?_ _) | (with_reducible refine Kd.qu ?_)))
             (case aB => exact bl)
             (case aF => exact (fun k_ hk => ⟨Kd.fresh' (Kd.R_lt (rR HO_7)) k_ hk, Kd.fresh' (Kd.R_lt (rR HO236)) k_ hk⟩))
             (case aO => exact (by (with_reducible repeat (first | apply Kd.qR | apply Kd.qU | apply Kd.qQ)); exact Kd.qY HO226.out (fun _ hk => ⟨hk.1.2, hk.2⟩)))
             (case aS => exact (qT bl))
             (case aL => have := LMc23.out; omega)
             intro v232 w37 ho hb hg hat
             rw [← Ny231.out] at ho
             have HO233 := aM (ho)
             replace BK221 := aM (qf (rB BK221) hg (Kd.R_ne HO226.out BK221.out (by decide)))
             replace HO236 := aM (Kd.qEA (ok := (fun k_ => some k_ ≠ (.slice (some ad222) x7_1.length co29 : Value).ownBlock)) (by (with_reducible repeat (first | apply Kd.qR | apply Kd.qU | apply Kd.qQ)); exact Kd.qY HO236.out (fun _ hk => ⟨hk.1.2, hk.2⟩)) hg hat)
             replace HB := aM (hb)
             replace HR230 := aM ((show Kd.C k29 w37 (some ad222) y227.length y227 from by rw [Ny227.out]; exact Kd.qZB (m := (x10_3 : Int).toNat) ((Kd.qE (Kd.qEA (ok := (fun k_ => some k_ ≠ (v235 : Value).ownBlock)) (by (with_reducible repeat (first | apply Kd.qR | apply Kd.qU | apply Kd.qQ)); exact Kd.qY HO_7.out (fun _ hk => ⟨hk.1.2, hk.2⟩)) hg hat)).2.2) KL32.out))
             replace HO_7 := aM (Kd.qEA (ok := (fun k_ => some k_ ≠ (v235 : Value).ownBlock)) (by (with_reducible repeat (first | apply Kd.qR | apply Kd.qU | apply Kd.qQ)); exact Kd.qY HO_7.out (fun _ hk => ⟨hk.1.2, hk.2⟩)) hg hat)
             clear HO226
             clear ho hb hg hat
             refine hK.out _ _ ⟨bc BK221 0, bc BK221 1, bc BK221 2, bc BK221 3, bc BK221 4, bc BK221 5, bc BK221 6, bc BK221 7, bc BK221 8, bc BK221 9, bc BK221 10, bc BK221 11, bc BK221 12, bc BK221 13, bc BK221 14, bc BK221 15⟩ (fun hHeld => ?_)
             clear hK K
             refine norm_ (a' := ?_) ?_ ?_
             rotate_left
             ·show Act.put _ (some 50) _ = _
              simp only [Act.put, List.setIfInBounds_toArray, List.set_cons_zero, List.set_cons_succ, i64_w, i32_w]
              rfl
             exact norm_ (by simp only [putAll, Act.put, List.setIfInBounds_toArray, List.set_cons_zero, List.set_cons_succ]) (hCont (v225, v232, v235) _ ⟨hHeld, (by (with_reducible repeat (first | apply Kd.qR | apply Kd.qU | apply Kd.qQ)); exact Kd.qY HO233.out (fun _ hk => ⟨hk.2, hk.1⟩)), (by (with_reducible repeat (first | apply Kd.qR | apply Kd.qU | apply Kd.qQ)); exact Kd.qY HO236.out (fun _ hk => ⟨hk.2, hk.1⟩)), (by (with_reducible repeat (first | apply Kd.qR | apply Kd.qU | apply Kd.qQ)); exact Kd.qY HO_7.out (fun _ hk => ⟨hk.2, hk.1⟩)), (rB BK221), bl⟩)
           rintro ⟨v225, v232, v235⟩ w38 ⟨hS_, h0_, h1_, h2_, h3_, h4_⟩
           have n0_ : Aside0 (Kd.R k29 29 w38 w.heap.size (fun k_ => some k_ ≠ (v235 : Value).ownBlock ∧ some k_ ≠ (.slice (some ad222) x7_1.length co29 : Value).ownBlock) v232 y231) := ⟨h0_⟩
           have n1_ : Aside0 (Kd.R k29 29 w38 w.heap.size (fun k_ => some k_ ≠ (v232 : Value).ownBlock ∧ some k_ ≠ (.slice (some ad222) x7_1.length co29 : Value).ownBlock) v235 y234) := ⟨h1_⟩
           have n2_ : Aside0 (Kd.R k29 29 w38 w.heap.size (fun k_ => some k_ ≠ (v232 : Value).ownBlock ∧ some k_ ≠ (v235 : Value).ownBlock) (.slice (some ad222) x7_1.length co29) x7_1) := ⟨h2_⟩
           have n3_ : Aside0 (w38.heap[gb221]? = some (.cells #[.int .i64 ((qA l0 x14_1).f0.f0), .int .i64 ((qA l0 x14_1).f0.f1), .int .i64 ((qA l0 x14_1).f0.f2.f0), .int .i64 ((qA l0 x14_1).f0.f2.f1), .int .i64 ((qA l0 x14_1).f0.f2.f2), .int .i64 ((qA l0 x14_1).f0.f2.f3), .int .i64 ((qA l0 x14_1).f0.f2.f4), .int .i64 ((qA l0 x14_1).f0.f2.f5), .int .i64 ((qA l0 x14_1).f1), .int .i64 ((qA l0 x14_1).f2), .int .i64 ((qA l0 x14_1).f3), .int .i64 ((qA l0 x14_1).f4), .int .i64 ((qA l0 x14_1).f5.f0), .int .i64 ((qA l0 x14_1).f5.f1), .int .i64 ((qA l0 x14_1).f5.f2), .int .i64 ((qA l0 x14_1).f5.f3)] 68 (0, 0))) := ⟨h3_⟩
           have n4_ : Aside0 (Below w.heap.size w w38) := ⟨h4_⟩
           clear HO_7 BK221 HB h0_ h1_ h2_ h3_ h4_
           have HO233 := n0_
           have HO236 := n1_
           have HO_7 := n2_
           have BK221 := n3_
           have HB := n4_
           clear n0_ n1_ n2_ n3_ n4_
           have hHeld : w38.cell? ⟨gb221, 0, none⟩ = some (.int .i64 ((qA l0 x14_1).f0.f0)) ∧ w38.cell? ⟨gb221, 1, none⟩ = some (.int .i64 ((qA l0 x14_1).f0.f1)) ∧ w38.cell? ⟨gb221, 2, none⟩ = some (.int .i64 ((qA l0 x14_1).f0.f2.f0)) ∧ w38.cell? ⟨gb221, 3, none⟩ = some (.int .i64 ((qA l0 x14_1).f0.f2.f1)) ∧ w38.cell? ⟨gb221, 4, none⟩ = some (.int .i64 ((qA l0 x14_1).f0.f2.f2)) ∧ w38.cell? ⟨gb221, 5, none⟩ = some (.int .i64 ((qA l0 x14_1).f0.f2.f3)) ∧ w38.cell? ⟨gb221, 6, none⟩ = some (.int .i64 ((qA l0 x14_1).f0.f2.f4)) ∧ w38.cell? ⟨gb221, 7, none⟩ = some (.int .i64 ((qA l0 x14_1).f0.f2.f5)) ∧ w38.cell? ⟨gb221, 8, none⟩ = some (.int .i64 ((qA l0 x14_1).f1)) ∧ w38.cell? ⟨gb221, 9, none⟩ = some (.int .i64 ((qA l0 x14_1).f2)) ∧ w38.cell? ⟨gb221, 10, none⟩ = some (.int .i64 ((qA l0 x14_1).f3)) ∧ w38.cell? ⟨gb221, 11, none⟩ = some (.int .i64 ((qA l0 x14_1).f4)) ∧ w38.cell? ⟨gb221, 12, none⟩ = some (.int .i64 ((qA l0 x14_1).f5.f0)) ∧ w38.cell? ⟨gb221, 13, none⟩ = some (.int .i64 ((qA l0 x14_1).f5.f1)) ∧ w38.cell? ⟨gb221, 14, none⟩ = some (.int .i64 ((qA l0 x14_1).f5.f2)) ∧ w38.cell? ⟨gb221, 15, none⟩ = some (.int .i64 ((qA l0 x14_1).f5.f3)) := hS_
           obtain ⟨Ao40, co40, eo40⟩ := Kd.qi HO236.out
           (first | subst eo40 | (injection eo40 with f1_ f2_ f3_; have f4_ := f1_.symm; have f5_ := f3_.symm; clear f1_ f2_ f3_; subst f4_; subst f5_))
           refine norm_ (a' := ?_) ?_ ?_
           rotate_left
           ·simp only [putAll, Act.put, List.setIfInBounds_toArray, List.set_cons_zero, List.set_cons_succ]
            rfl
           refine one_ (i := 9) (N := some 55) #[true, true, true, true, true, true, true, true, true, true, false] rfl rfl (qrA HT_.out (by kernel_rfl)) (by decide) (fun K hK => ?_)
           refine Kd.qCA k29 (w0 := w) w.heap.size (by rfl) (.tmp 50) (.tmp 54) 36 29 (.agg #[(.int .i64 0), (.int .i64 0), (.int .i64 0), (.int .i64 0), (.int .i64 0), (.int .i64 0)]) 48 rfl Tryz.underlying36 info29 rfl (by decide) (by omega) v232 y231 y234 _ _ _ (fun k_ => some k_ ≠ (.slice (some ad222) x7_1.length co29 : Value).ownBlock ∧ some k_ ≠ (.slice Ao40 y234.length co40 : Value).ownBlock) (fun _ => False) rfl rfl ?aO ?aR (fun _ _ h => h) (fun _ h => h.elim) ?aF ?aB ?aS ?aL ?_
           (case aR => repeat (first | exact (Kd.qE HO236.out).2.2 | (with_reducible refine Kd.qc ?_ _) | (with_reducible refine Kd.qb ?_ _) | (with_reducible refine Kd.qu ?_)))
           (case aB => exact bl)
           (case aF => exact (fun k_ hk => ⟨Kd.fresh' (Kd.R_lt (rR HO_7)) k_ hk, Kd.fresh' (Kd.R_lt (rR HO236)) k_ hk⟩))
           (case aO => exact (by (with_reducible repeat (first | apply Kd.qR | apply Kd.qU | apply Kd.qQ)); exact Kd.qY HO233.out (fun _ hk => ⟨hk.2, hk.1⟩)))
           (case aS => exact (qT bl))
           (case aL => have := LMc24.out; omega)
           intro v238 w39 ho hb hg hat
           rw [← Ny237.out] at ho
           have HO239 := aM (ho)
           replace HO_7 := aM (Kd.qEA (ok := (fun k_ => some k_ ≠ (.slice Ao40 y234.length co40 : Value).ownBlock)) (by (with_reducible repeat (first | apply Kd.qR | apply Kd.qU | apply Kd.qQ)); exact Kd.qY HO_7.out (fun _ hk => ⟨hk.2, hk.1⟩)) hg hat)
           replace BK221 := aM (qf (rB BK221) hg (Kd.R_ne HO233.out BK221.out (by decide)))
           replace HO236 := aM (Kd.qEA (ok := (fun k_ => some k_ ≠ (.slice (some ad222) x7_1.length co29 : Value).ownBlock)) (by (with_reducible repeat (first | apply Kd.qR | apply Kd.qU | apply Kd.qQ)); exact Kd.qY HO236.out (fun _ hk => ⟨hk.2, hk.1⟩)) hg hat)
           replace HB := aM (hb)
           clear HO233
           clear ho hb hg hat
           refine hK.out _ _ ⟨bc BK221 0, bc BK221 1, bc BK221 2, bc BK221 3, bc BK221 4, bc BK221 5, bc BK221 6, bc BK221 7, bc BK221 8, bc BK221 9, bc BK221 10, bc BK221 11, bc BK221 12, bc BK221 13, bc BK221 14, bc BK221 15⟩ (fun hHeld => ?_)
           clear hK K
           refine norm_ (a' := ?_) ?_ ?_
           rotate_left
           ·show Act.put _ (some 55) _ = _
            simp only [Act.put, List.setIfInBounds_toArray, List.set_cons_zero, List.set_cons_succ, i64_w, i32_w]
            rfl
           refine pS (i := 10) (N := some 11) #[true, true, true, true, true, true, true, true, true, true, true] HT_ ?_
           refine done_ (qHB HT_.out (by kernel_rfl)) ?_
           have q41 : (x10_3 : Int) ≤ ((x7_1.length : Int) : Int) := of_decide_eq_true am
           obtain ⟨i041, hi041, _, hsz41, _⟩ := info_parts info29
           have hroom41 : x7_1.length ≤ co29 := (Kd.qE HO_7.out).2.1
           have hC41 : Kd.C k29 _ (some ad222) x7_1.length x7_1 := (Kd.qE HO_7.out).2.2
           have q041 : (0 : Int) ≤ (x10_3 : Int) := of_decide_eq_true am
           have hcut41 := qlC (P := Tryz.prog) 36 29 .i64 Tryz.underlying36 hi041 6 hsz41 (some ad222) x7_1.length co29 x10_3 q041 q41
           have hr41 := Kd.qgC (m := (x10_3 : Int).toNat) (c := co29) hC41 (by omega) hroom41
           obtain ⟨A41, hA41⟩ : ∃ A1, A1 = (if co29 = (x10_3 : Int).toNat then (some ad222) else ((some ad222) : Option Addr).map (·.add ((x10_3 : Int).toNat * 6))) := ⟨_, rfl⟩
           obtain ⟨c41, hc41⟩ : ∃ c1, c1 = co29 - (x10_3 : Int).toNat := ⟨_, rfl⟩
           have hy41 : y240.length = x7_1.length - (x10_3 : Int).toNat := (by rw [Ny240.out, List.length_drop] <;> omega)
           rw [show (x7_1).drop (x10_3 : Int).toNat = y240 from Ny240.out.symm] at hr41
           replace hr41 : Kd.C k29 _ A41 y240.length y240 := (by rw [hA41]; exact hr41)
           rw [← hy41, ← hA41, ← hc41] at hcut41
           have HR243 := aM hr41
           have HC243 := aM (show y240.length ≤ c41 from by rw [hy41, hc41]; exact Nat.sub_le_sub_right hroom41 _)
           clear hr41 hC41 hroom41 hi041 hsz41 hc41
           have KY41 := aM hy41
           have KA41 := aM hA41
           clear hy41 hA41
           have KL41 := aM (show (x10_3 : Int).toNat ≤ x7_1.length from by omega)
           replace q41 := eq_true q41
           try go_wp2_with (first | ((with_reducible refine qdA (b := .append) (xs := #[.tmp 56, .tmp 59]) rfl ?_); at_builtin; refine Kd.qKB k29 (w0 := w) w.heap.size rfl (.tmp 56) (.tmp 59) 36 29 (.agg #[(.int .i64 0), (.int .i64 0), (.int .i64 0), (.int .i64 0), (.int .i64 0), (.int .i64 0)]) 48 rfl Tryz.underlying36 info29 rfl (by decide) (by omega) v238 y237 y240 _ _ _ (fun k_ => some k_ ≠ (.slice (some ad222) x7_1.length co29 : Value).ownBlock ∧ some k_ ≠ (.slice Ao40 y234.length co40 : Value).ownBlock) (fun _ => False) rfl rfl ?aO ?aR (fun _ _ h => h) (fun _ h => h.elim) ?aF ?aB ?aS ?aL ?_; (case aR => repeat (first | exact (by repeat (first | (with_reducible exact HR243.out) | (with_reducible refine Kd.qc ?_ _) | (with_reducible refine Kd.qb ?_ _) | (with_reducible refine Kd.qu ?_) | exact HR243.out)) | (with_reducible refine Kd.qc ?_ _) | (with_reducible refine Kd.qb ?_ _) | (with_reducible refine Kd.qu ?_))); (case aB => exact bl); (case aF => exact (fun k_ hk => ⟨Kd.fresh' (Kd.R_lt (rR HO_7)) k_ hk, Kd.fresh' (Kd.R_lt (rR HO236)) k_ hk⟩)); (case aO => exact (rR HO239)); (case aS => exact (qT bl)); (case aL => have := LMc27.out; omega); intro v245 w42 ho hb hg hat; rw [← Ny244.out] at ho; have HO246 := aM (ho); replace BK221 := aM (qf (rB BK221) hg (Kd.R_ne HO239.out BK221.out (by decide))); replace HO236 := aM (Kd.qEA (ok := (fun k_ => some k_ ≠ (.slice (some ad222) x7_1.length co29 : Value).ownBlock)) (rR HO236) hg hat); replace HB := aM (hb); replace HR243 := aM ((show Kd.C k29 w42 A41 y240.length y240 from by rw [Ny240.out, KA41.out]; exact Kd.qgC (m := (x10_3 : Int).toNat) (c := co29) ((Kd.qE (Kd.qEA (ok := (fun k_ => some k_ ≠ (.slice Ao40 y234.length co40 : Value).ownBlock)) (rR HO_7) hg hat)).2.2) KL41.out ((Kd.qE (Kd.qEA (ok := (fun k_ => some k_ ≠ (.slice Ao40 y234.length co40 : Value).ownBlock)) (rR HO_7) hg hat)).2.1))); replace HO_7 := aM (Kd.qEA (ok := (fun k_ => some k_ ≠ (.slice Ao40 y234.length co40 : Value).ownBlock)) (rR HO_7) hg hat); clear HO239; clear ho hb hg hat))
           go_roundg k3
           case measure => have := HK1.out; have := HJ6.out; have := HK3.out; omega
           case rel => exact ⟨(y244), (wrap64 (x14_1 + 1)), sD, H', ⟨by have := HK1.out; have := HJ6.out; have := HK3.out; omega⟩, ⟨by (with_reducible repeat (first | apply Kd.qR | apply Kd.qU | apply Kd.qQ)); exact Kd.qY HO246.out (fun _ hk => trivial)⟩, ⟨bl⟩⟩
         ·rw [if_neg c14] at H
          have c14b0 := decide_eq_false c14
          clear c14
          replace H := bS H
          obtain ⟨y247, Ny247, H⟩ := H
          by_cases c43 : 0 ≤ x10_3
          case neg => exact nN c43 H
          rw [if_pos c43] at H
          have c43b0 := eq_true c43
          have c43b1 := decide_eq_true c43
          clear c43
          by_cases c44 : x10_3 ≤ (x7_1.length : Int)
          case neg => exact nN c44 H
          rw [if_pos c44] at H
          have c44b0 := eq_true c44
          have c44b1 := decide_eq_true c44
          clear c44
          replace H := bS H
          obtain ⟨y250, Ny250, H⟩ := H
          by_cases c45 : y247.length + y250.length < 2932031007402
          case neg => exact nN c45 H
          rw [if_pos c45] at H
          have LMc45 := aM c45
          clear c45
          replace H := bS H
          obtain ⟨y254, Ny254, H⟩ := H
          replace H := bS H
          obtain ⟨y257, Ny257, H⟩ := H
          by_cases c46 : y254.length + y257.length < 2932031007402
          case neg => exact nN c46 H
          rw [if_pos c46] at H
          have LMc46 := aM c46
          clear c46
          replace H := bS H
          obtain ⟨y260, Ny260, H⟩ := H
          have c47b0 := eq_true (of_decide_eq_true am : 0 ≤ x10_3)
          have c48b0 := eq_true (of_decide_eq_true am : x10_3 ≤ (x7_1.length : Int))
          replace H := bS H
          obtain ⟨y263, Ny263, H⟩ := H
          by_cases c49 : y260.length + y263.length < 2932031007402
          case neg => exact nN c49 H
          rw [if_pos c49] at H
          have LMc49 := aM c49
          clear c49
          obtain ⟨y267, hy267⟩ : ∃ y_ : List (S29), y_ = (y260 ++ y263) := ⟨_, rfl⟩
          replace H : (qM.l0 k3 a1 a2 y267 l0 (l0.length : Int) (wrap64 (x14_1 + 1))) = some r := by first | (rw [hy267]; with_reducible exact H) | (have H2_ := (Option.bind_some _ _).symm.trans H; rw [hy267]; with_reducible exact H2_) | (have H2_ := (Option.bind_some _ _).symm.trans H; with_reducible exact H2_) | with_reducible exact H | (rw [hy267]; exact H) | exact H
          have Ny267 := aM hy267
          clear hy267
          have H' := aM H
          clear H
          try go_wp2
          replace HO_7 := aM (Kd.qQ HO_7.out)
          replace BK221 := aM (qH BK221.out)
          replace HB := aM (qm HB.out)
          obtain ⟨Ao51, co51, eo51⟩ := Kd.qi HO_7.out
          (first | subst eo51 | (injection eo51 with f1_ f2_ f3_; have f4_ := f1_.symm; have f5_ := f3_.symm; clear f1_ f2_ f3_; subst f4_; subst f5_))
          refine qAB (n := 14) (S := fun w' => True) (ds := []) #[false, false, false, false, false, false, false, false, false, false, false, false, false, false] (by kernel_rfl) rfl rfl trivial (fun hHeld => ?_); refine qMA qM.tab7 qM.bits7 (fun HT_ HW_ => ?_)
          generalize wr.drew = w50 at HO_7 BK221 HB hHeld ⊢
          refine pS (i := 0) (N := some 30) #[true, false, false, false, false, false, false, false, false, false, false, false, false, false] HT_ ?_
          refine pS (i := 1) (N := some 31) #[true, true, false, false, false, false, false, false, false, false, false, false, false, false] HT_ ?_
          refine pS (i := 2) (N := some 32) #[true, true, true, false, false, false, false, false, false, false, false, false, false, false] HT_ ?_
          refine pS (i := 3) (N := some 33) #[true, true, true, true, false, false, false, false, false, false, false, false, false, false] HT_ ?_
          refine pS (i := 4) (N := some 34) #[true, true, true, true, true, false, false, false, false, false, false, false, false, false] HT_ ?_
          refine pure_ (i := 5) (N := some 35) (v := undef) (a' := ?_) #[true, true, true, true, true, true, false, false, false, false, false, false, false, false] rfl rfl (qvB HT_.out (by kernel_rfl)) (fun _ _ _ h => h) (Or.inr ⟨by rfl, rfl⟩) ?_ ?_
          rotate_left
          ·simp only [Act.put, List.setIfInBounds_toArray, List.set_cons_zero, List.set_cons_succ, i64_w, i32_w]
           rfl
          refine pure_ (i := 6) (N := some 36) (v := undef) (a' := ?_) #[true, true, true, true, true, true, true, false, false, false, false, false, false, false] rfl rfl (qvB HT_.out (by kernel_rfl)) (fun _ _ _ h => h) (Or.inr ⟨by rfl, rfl⟩) ?_ ?_
          rotate_left
          ·simp only [Act.put, List.setIfInBounds_toArray, List.set_cons_zero, List.set_cons_succ, i64_w, i32_w]
           rfl
          refine pure_ (i := 7) (N := some 37) (v := undef) (a' := ?_) #[true, true, true, true, true, true, true, true, false, false, false, false, false, false] rfl rfl (qvB HT_.out (by kernel_rfl)) (fun _ _ _ h => h) (Or.inr ⟨by rfl, rfl⟩) ?_ ?_
          rotate_left
          ·simp only [Act.put, List.setIfInBounds_toArray, List.set_cons_zero, List.set_cons_succ, i64_w, i32_w]
           rfl
          refine pure_ (i := 8) (N := some 38) (v := undef) (a' := ?_) #[true, true, true, true, true, true, true, true, true, false, false, false, false, false] rfl rfl (qvB HT_.out (by kernel_rfl)) (fun _ _ _ h => h) (Or.inr ⟨by rfl, rfl⟩) ?_ ?_
          rotate_left
          ·simp only [Act.put, List.setIfInBounds_toArray, List.set_cons_zero, List.set_cons_succ, i64_w, i32_w]
           rfl
          refine pure_ (i := 9) (N := some 39) (v := undef) (a' := ?_) #[true, true, true, true, true, true, true, true, true, true, false, false, false, false] rfl rfl (qvB HT_.out (by kernel_rfl)) (fun _ _ _ h => h) (Or.inr ⟨by rfl, rfl⟩) ?_ ?_
          rotate_left
          ·simp only [Act.put, List.setIfInBounds_toArray, List.set_cons_zero, List.set_cons_succ, i64_w, i32_w]
           rfl
          refine pure_ (i := 10) (N := some 40) (v := undef) (a' := ?_) #[true, true, true, true, true, true, true, true, true, true, true, false, false, false] rfl rfl (qvB HT_.out (by kernel_rfl)) (fun _ _ _ h => h) (Or.inr ⟨by rfl, rfl⟩) ?_ ?_
          rotate_left
          ·simp only [Act.put, List.setIfInBounds_toArray, List.set_cons_zero, List.set_cons_succ, i64_w, i32_w]
           rfl
          refine pure_ (i := 11) (N := some 41) (v := undef) (a' := ?_) #[true, true, true, true, true, true, true, true, true, true, true, true, false, false] rfl rfl (qvB HT_.out (by kernel_rfl)) (fun _ _ _ h => h) (Or.inr ⟨by rfl, rfl⟩) ?_ ?_
          rotate_left
          ·simp only [Act.put, List.setIfInBounds_toArray, List.set_cons_zero, List.set_cons_succ, i64_w, i32_w]
           rfl
          refine pure_ (i := 12) (N := some 42) (v := undef) (a' := ?_) #[true, true, true, true, true, true, true, true, true, true, true, true, true, false] rfl rfl (qvB HT_.out (by kernel_rfl)) (fun _ _ _ h => h) (Or.inr ⟨by rfl, rfl⟩) ?_ ?_
          rotate_left
          ·simp only [Act.put, List.setIfInBounds_toArray, List.set_cons_zero, List.set_cons_succ, i64_w, i32_w]
           rfl
          refine pS (i := 13) (N := some 43) #[true, true, true, true, true, true, true, true, true, true, true, true, true, true] HT_ ?_
          refine done_ (qHB HT_.out (by kernel_rfl)) ?_
          try go_wp2
          replace HO_7 := aM (Kd.qQ HO_7.out)
          replace BK221 := aM (qH BK221.out)
          replace HB := aM (qm HB.out)
          have q53 : (x10_3 : Int) ≤ ((x7_1.length : Int) : Int) := of_decide_eq_true am
          obtain ⟨i053, hi053, _, hsz53, _⟩ := info_parts info29
          have hroom53 : x7_1.length ≤ co51 := (Kd.qE HO_7.out).2.1
          have hC53 : Kd.C k29 _ Ao51 x7_1.length x7_1 := (Kd.qE HO_7.out).2.2
          have hcut53 := qeD (P := Tryz.prog) 36 29 .i64 Tryz.underlying36 hi053 Ao51 x7_1.length co51 x10_3 (of_decide_eq_true am) q53 hroom53
          have hr53 := Kd.qZB (m := (x10_3 : Int).toNat) hC53 (by omega)
          have hy53 : y250.length = (x10_3 : Int).toNat := (by rw [Ny250.out, List.length_take]; omega)
          rw [← Ny250.out] at hr53
          rw [← hy53] at hcut53
          have HR253 := aM hr53
          have HC253 := aM (show y250.length ≤ co51 from by omega)
          clear hr53 hC53 hroom53 hi053 hsz53
          have KY53 := aM hy53
          clear hy53
          have KL53 := aM (show (x10_3 : Int).toNat ≤ x7_1.length from by omega)
          replace q53 := eq_true q53
          refine qAB (n := 11) (S := fun w' => w'.cell? ⟨gb221, 0, none⟩ = some (.int .i64 ((qA l0 x14_1).f0.f0)) ∧ w'.cell? ⟨gb221, 1, none⟩ = some (.int .i64 ((qA l0 x14_1).f0.f1)) ∧ w'.cell? ⟨gb221, 2, none⟩ = some (.int .i64 ((qA l0 x14_1).f0.f2.f0)) ∧ w'.cell? ⟨gb221, 3, none⟩ = some (.int .i64 ((qA l0 x14_1).f0.f2.f1)) ∧ w'.cell? ⟨gb221, 4, none⟩ = some (.int .i64 ((qA l0 x14_1).f0.f2.f2)) ∧ w'.cell? ⟨gb221, 5, none⟩ = some (.int .i64 ((qA l0 x14_1).f0.f2.f3)) ∧ w'.cell? ⟨gb221, 6, none⟩ = some (.int .i64 ((qA l0 x14_1).f0.f2.f4)) ∧ w'.cell? ⟨gb221, 7, none⟩ = some (.int .i64 ((qA l0 x14_1).f0.f2.f5)) ∧ w'.cell? ⟨gb221, 8, none⟩ = some (.int .i64 ((qA l0 x14_1).f1)) ∧ w'.cell? ⟨gb221, 9, none⟩ = some (.int .i64 ((qA l0 x14_1).f2)) ∧ w'.cell? ⟨gb221, 10, none⟩ = some (.int .i64 ((qA l0 x14_1).f3)) ∧ w'.cell? ⟨gb221, 11, none⟩ = some (.int .i64 ((qA l0 x14_1).f4)) ∧ w'.cell? ⟨gb221, 12, none⟩ = some (.int .i64 ((qA l0 x14_1).f5.f0)) ∧ w'.cell? ⟨gb221, 13, none⟩ = some (.int .i64 ((qA l0 x14_1).f5.f1)) ∧ w'.cell? ⟨gb221, 14, none⟩ = some (.int .i64 ((qA l0 x14_1).f5.f2)) ∧ w'.cell? ⟨gb221, 15, none⟩ = some (.int .i64 ((qA l0 x14_1).f5.f3))) (ds := []) #[false, false, false, false, false, false, false, false, false, false, false] (by kernel_rfl) rfl rfl ⟨bc BK221 0, bc BK221 1, bc BK221 2, bc BK221 3, bc BK221 4, bc BK221 5, bc BK221 6, bc BK221 7, bc BK221 8, bc BK221 9, bc BK221 10, bc BK221 11, bc BK221 12, bc BK221 13, bc BK221 14, bc BK221 15⟩ (fun hHeld => ?_); refine qMA qM.tab9 qM.bits9 (fun HT_ HW_ => ?_)
          generalize w50.drew = w52 at HO_7 BK221 HB HR253 hHeld ⊢
          refine pS (i := 1) (N := some 47) #[false, true, false, false, false, false, false, false, false, false, false] HT_ ?_
          refine pS (i := 2) (N := some 48) #[false, true, true, false, false, false, false, false, false, false, false] HT_ ?_
          refine pS (i := 3) (N := some 49) #[false, true, true, true, false, false, false, false, false, false, false] HT_ ?_
          refine pS (i := 5) (N := some 51) #[false, true, true, true, false, true, false, false, false, false, false] HT_ ?_
          refine pS (i := 6) (N := some 52) #[false, true, true, true, false, true, true, false, false, false, false] HT_ ?_
          refine tS (i := 7) (N := some 53) #[false, true, true, true, false, true, true, true, false, false, false] HT_ HW_ hHeld ?_
          refine join_ (σ := Value × Value × Value) 2 #[true, true, true, true, true, true, true, true, true, false, false] (fun s_ => [(46, s_.1), (50, s_.2.1), (54, s_.2.2)]) (fun s_ w' => (w'.cell? ⟨gb221, 0, none⟩ = some (.int .i64 ((qA l0 x14_1).f0.f0)) ∧ w'.cell? ⟨gb221, 1, none⟩ = some (.int .i64 ((qA l0 x14_1).f0.f1)) ∧ w'.cell? ⟨gb221, 2, none⟩ = some (.int .i64 ((qA l0 x14_1).f0.f2.f0)) ∧ w'.cell? ⟨gb221, 3, none⟩ = some (.int .i64 ((qA l0 x14_1).f0.f2.f1)) ∧ w'.cell? ⟨gb221, 4, none⟩ = some (.int .i64 ((qA l0 x14_1).f0.f2.f2)) ∧ w'.cell? ⟨gb221, 5, none⟩ = some (.int .i64 ((qA l0 x14_1).f0.f2.f3)) ∧ w'.cell? ⟨gb221, 6, none⟩ = some (.int .i64 ((qA l0 x14_1).f0.f2.f4)) ∧ w'.cell? ⟨gb221, 7, none⟩ = some (.int .i64 ((qA l0 x14_1).f0.f2.f5)) ∧ w'.cell? ⟨gb221, 8, none⟩ = some (.int .i64 ((qA l0 x14_1).f1)) ∧ w'.cell? ⟨gb221, 9, none⟩ = some (.int .i64 ((qA l0 x14_1).f2)) ∧ w'.cell? ⟨gb221, 10, none⟩ = some (.int .i64 ((qA l0 x14_1).f3)) ∧ w'.cell? ⟨gb221, 11, none⟩ = some (.int .i64 ((qA l0 x14_1).f4)) ∧ w'.cell? ⟨gb221, 12, none⟩ = some (.int .i64 ((qA l0 x14_1).f5.f0)) ∧ w'.cell? ⟨gb221, 13, none⟩ = some (.int .i64 ((qA l0 x14_1).f5.f1)) ∧ w'.cell? ⟨gb221, 14, none⟩ = some (.int .i64 ((qA l0 x14_1).f5.f2)) ∧ w'.cell? ⟨gb221, 15, none⟩ = some (.int .i64 ((qA l0 x14_1).f5.f3))) ∧ (Kd.R k29 29 w' w.heap.size (fun k_ => some k_ ≠ (s_.2.2 : Value).ownBlock ∧ some k_ ≠ (.slice Ao51 x7_1.length co51 : Value).ownBlock) s_.2.1 y254) ∧ (Kd.R k29 29 w' w.heap.size (fun k_ => some k_ ≠ (s_.2.1 : Value).ownBlock ∧ some k_ ≠ (.slice Ao51 x7_1.length co51 : Value).ownBlock) s_.2.2 y257) ∧ (Kd.R k29 29 w' w.heap.size (fun k_ => some k_ ≠ (s_.2.1 : Value).ownBlock ∧ some k_ ≠ (s_.2.2 : Value).ownBlock) (.slice Ao51 x7_1.length co51) x7_1) ∧ (w'.heap[gb221]? = some (.cells #[.int .i64 ((qA l0 x14_1).f0.f0), .int .i64 ((qA l0 x14_1).f0.f1), .int .i64 ((qA l0 x14_1).f0.f2.f0), .int .i64 ((qA l0 x14_1).f0.f2.f1), .int .i64 ((qA l0 x14_1).f0.f2.f2), .int .i64 ((qA l0 x14_1).f0.f2.f3), .int .i64 ((qA l0 x14_1).f0.f2.f4), .int .i64 ((qA l0 x14_1).f0.f2.f5), .int .i64 ((qA l0 x14_1).f1), .int .i64 ((qA l0 x14_1).f2), .int .i64 ((qA l0 x14_1).f3), .int .i64 ((qA l0 x14_1).f4), .int .i64 ((qA l0 x14_1).f5.f0), .int .i64 ((qA l0 x14_1).f5.f1), .int .i64 ((qA l0 x14_1).f5.f2), .int .i64 ((qA l0 x14_1).f5.f3)] 68 (0, 0))) ∧ (Below w.heap.size w w')) ?_ ?_
          rotate_left
          ·intro hCont
           refine two_ (i := 0) (j := 8) (Ni := some 46) (Nj := some 54) #[true, true, true, true, false, true, true, true, false, false, false] #[false, true, true, true, false, true, true, true, true, false, false] rfl rfl rfl rfl (qDD HT_.out (by kernel_rfl)) (by decide) (by decide) (fun K hK => ?_) (fun K hK => ?_)
           ·skip
            refine Kd.qSA k29 _ 29 ?hg (N := 46) ?hd (xs := ([] : List (S29))) (inner := []) (ok := fun _ => True) (okp := fun _ => True) ?hr ?hp (fun _ hk => hk) trivial (Below.refl _ _) (Nat.le_refl _) (by simp) ?_; (case hd => rfl); (case hg => rfl); (case hr => exact gS); (case hp => exact (Reps.none _ _))
            intro v248 w54 ho55 hb hg_ hnew_
            clear hg_ hnew_
            (first | rw [← Ny247.out] at ho55 | (simp only [Int.reduceToNat] at ho55; rw [← Ny247.out] at ho55))
            have HO249 := aM (Kd.qHA (Kd.qLB ho55 (Kd.R_lt (rR HO_7))) (qT bl))
            replace HO_7 := aM (Kd.qYA (rR HO_7) (Kd.qMB ho55) hb)
            replace BK221 := aM (bb BK221 hb)
            replace HR253 := aM (Kd.qPA (by repeat (first | (with_reducible exact HR253.out) | (with_reducible refine Kd.qc ?_ _) | (with_reducible refine Kd.qb ?_ _) | (with_reducible refine Kd.qu ?_) | exact HR253.out)) hb)
            replace HB := aM (qB bl hb)
            clear hb ho55
            refine hK.out _ _ ⟨bc BK221 0, bc BK221 1, bc BK221 2, bc BK221 3, bc BK221 4, bc BK221 5, bc BK221 6, bc BK221 7, bc BK221 8, bc BK221 9, bc BK221 10, bc BK221 11, bc BK221 12, bc BK221 13, bc BK221 14, bc BK221 15⟩ (fun hHeld => ?_)
            clear hK K
            refine norm_ (a' := ?_) ?_ ?_
            rotate_left
            ·show Act.put _ (some 46) _ = _
             simp only [Act.put, List.setIfInBounds_toArray, List.set_cons_zero, List.set_cons_succ, i64_w, i32_w]
             rfl
            refine two_ (i := 4) (j := 8) (Ni := some 50) (Nj := some 54) #[true, true, true, true, true, true, true, true, false, false, false] #[true, true, true, true, false, true, true, true, true, false, false] rfl rfl rfl rfl (qDD HT_.out (by kernel_rfl)) (by decide) (by decide) (fun K hK => ?_) (fun K hK => ?_)
            ·skip
             refine Kd.qCA k29 (w0 := w) w.heap.size (by rfl) (.tmp 46) (.tmp 49) 36 29 (.agg #[(.int .i64 0), (.int .i64 0), (.int .i64 0), (.int .i64 0), (.int .i64 0), (.int .i64 0)]) 48 rfl Tryz.underlying36 info29 rfl (by decide) (by omega) v248 y247 y250 _ _ _ (fun k_ => some k_ ≠ (.slice Ao51 x7_1.length co51 : Value).ownBlock) (fun _ => False) rfl rfl ?aO ?aR (fun _ _ h => h) (fun _ h => h.elim) ?aF ?aB ?aS ?aL ?_
             (case aR => repeat (first | exact (by repeat (first | (with_reducible exact HR253.out) | (with_reducible refine Kd.qc ?_ _) | (with_reducible refine Kd.qb ?_ _) | (with_reducible refine Kd.qu ?_) | exact HR253.out)) | (with_reducible refine Kd.qc ?_ _) | (with_reducible refine Kd.qb ?_ _) | (with_reducible refine Kd.qu ?_)))
             (case aB => exact bl)
             (case aF => exact (fun k_ hk => Kd.fresh' (Kd.R_lt (rR HO_7)) k_ hk))
             (case aO => exact (by (with_reducible repeat (first | apply Kd.qR | apply Kd.qU | apply Kd.qQ)); exact Kd.qY HO249.out (fun _ hk => hk.2)))
             (case aS => exact (qT bl))
             (case aL => have := LMc45.out; omega)
             intro v255 w56 ho hb hg hat
             rw [← Ny254.out] at ho
             have HO256 := aM (ho)
             replace BK221 := aM (qf (rB BK221) hg (Kd.R_ne HO249.out BK221.out (by decide)))
             replace HB := aM (hb)
             replace HR253 := aM ((show Kd.C k29 w56 Ao51 y250.length y250 from by rw [Ny250.out]; exact Kd.qZB (m := (x10_3 : Int).toNat) ((Kd.qE (Kd.qEA (ok := (fun _ => True)) (rR HO_7) hg hat)).2.2) KL53.out))
             replace HO_7 := aM (Kd.qEA (ok := (fun _ => True)) (rR HO_7) hg hat)
             clear HO249
             clear ho hb hg hat
             refine hK.out _ _ ⟨bc BK221 0, bc BK221 1, bc BK221 2, bc BK221 3, bc BK221 4, bc BK221 5, bc BK221 6, bc BK221 7, bc BK221 8, bc BK221 9, bc BK221 10, bc BK221 11, bc BK221 12, bc BK221 13, bc BK221 14, bc BK221 15⟩ (fun hHeld => ?_)
             clear hK K
             refine norm_ (a' := ?_) ?_ ?_
             rotate_left
             ·show Act.put _ (some 50) _ = _
              simp only [Act.put, List.setIfInBounds_toArray, List.set_cons_zero, List.set_cons_succ, i64_w, i32_w]
              rfl
             refine one_ (i := 8) (N := some 54) #[true, true, true, true, true, true, true, true, true, false, false] rfl rfl (qrA HT_.out (by kernel_rfl)) (by decide) (fun K hK => ?_)
             refine Kd.qSA k29 _ 29 ?hg (N := 54) ?hd (xs := ([(⟨((qA l0 x14_1).f0.f2.f0), ((qA l0 x14_1).f0.f2.f1), ((qA l0 x14_1).f0.f2.f2), ((qA l0 x14_1).f0.f2.f3), ((qA l0 x14_1).f0.f2.f4), ((qA l0 x14_1).f0.f2.f5)⟩ : S29)] : List (S29))) (inner := [.int .i64 ((qA l0 x14_1).f0.f2.f0), .int .i64 ((qA l0 x14_1).f0.f2.f1), .int .i64 ((qA l0 x14_1).f0.f2.f2), .int .i64 ((qA l0 x14_1).f0.f2.f3), .int .i64 ((qA l0 x14_1).f0.f2.f4), .int .i64 ((qA l0 x14_1).f0.f2.f5)]) (ok := fun _ => True) (okp := fun _ => True) ?hr ?hp (fun _ hk => hk) trivial (Below.refl _ _) (Nat.le_refl _) (by simp) ?_; (case hd => rfl); (case hg => rfl); (case hr => exact gS); (case hp => exact (Reps.c6 (show Kd.M k29 _ _ _ (⟨((qA l0 x14_1).f0.f2.f0), ((qA l0 x14_1).f0.f2.f1), ((qA l0 x14_1).f0.f2.f2), ((qA l0 x14_1).f0.f2.f3), ((qA l0 x14_1).f0.f2.f4), ((qA l0 x14_1).f0.f2.f5)⟩ : S29) [.int .i64 ((qA l0 x14_1).f0.f2.f0), .int .i64 ((qA l0 x14_1).f0.f2.f1), .int .i64 ((qA l0 x14_1).f0.f2.f2), .int .i64 ((qA l0 x14_1).f0.f2.f3), .int .i64 ((qA l0 x14_1).f0.f2.f4), .int .i64 ((qA l0 x14_1).f0.f2.f5)] from (qgB _ _ _ (⟨((qA l0 x14_1).f0.f2.f0), ((qA l0 x14_1).f0.f2.f1), ((qA l0 x14_1).f0.f2.f2), ((qA l0 x14_1).f0.f2.f3), ((qA l0 x14_1).f0.f2.f4), ((qA l0 x14_1).f0.f2.f5)⟩ : S29) )) (Reps.none _ _)))
             intro v258 w57 ho58 hb hg_ hnew_
             clear hg_ hnew_
             (first | rw [← Ny257.out] at ho58 | (simp only [Int.reduceToNat] at ho58; rw [← Ny257.out] at ho58))
             have HO259 := aM (Kd.qHA (Kd.qLB (Kd.qLB ho58 (Kd.R_lt (rR HO_7))) (Kd.R_lt (rR HO256))) (qT bl))
             replace HO_7 := aM (Kd.qYA (rR HO_7) (Kd.qMB ho58) hb)
             replace HO256 := aM (Kd.qYA (rR HO256) (Kd.qMB ho58) hb)
             replace BK221 := aM (bb BK221 hb)
             replace HR253 := aM (Kd.qPA (by repeat (first | (with_reducible exact HR253.out) | (with_reducible refine Kd.qc ?_ _) | (with_reducible refine Kd.qb ?_ _) | (with_reducible refine Kd.qu ?_) | exact HR253.out)) hb)
             replace HB := aM (qB bl hb)
             clear hb ho58
             refine hK.out _ _ ⟨bc BK221 0, bc BK221 1, bc BK221 2, bc BK221 3, bc BK221 4, bc BK221 5, bc BK221 6, bc BK221 7, bc BK221 8, bc BK221 9, bc BK221 10, bc BK221 11, bc BK221 12, bc BK221 13, bc BK221 14, bc BK221 15⟩ (fun hHeld => ?_)
             clear hK K
             refine norm_ (a' := ?_) ?_ ?_
             rotate_left
             ·show Act.put _ (some 54) _ = _
              simp only [Act.put, List.setIfInBounds_toArray, List.set_cons_zero, List.set_cons_succ, i64_w, i32_w]
              rfl
             exact norm_ (by simp only [putAll, Act.put, List.setIfInBounds_toArray, List.set_cons_zero, List.set_cons_succ]) (hCont (v248, v255, v258) _ ⟨hHeld, (by (with_reducible repeat (first | apply Kd.qR | apply Kd.qU | apply Kd.qQ)); exact Kd.qY HO256.out (fun _ hk => ⟨hk.2, hk.1⟩)), (by (with_reducible repeat (first | apply Kd.qR | apply Kd.qU | apply Kd.qQ)); exact Kd.qY HO259.out (fun _ hk => ⟨hk.2, hk.1.2⟩)), (by (with_reducible repeat (first | apply Kd.qR | apply Kd.qU | apply Kd.qQ)); exact Kd.qY HO_7.out (fun _ hk => ⟨hk.1.2, hk.2⟩)), (rB BK221), bl⟩)
            ·skip
             refine Kd.qSA k29 _ 29 ?hg (N := 54) ?hd (xs := ([(⟨((qA l0 x14_1).f0.f2.f0), ((qA l0 x14_1).f0.f2.f1), ((qA l0 x14_1).f0.f2.f2), ((qA l0 x14_1).f0.f2.f3), ((qA l0 x14_1).f0.f2.f4), ((qA l0 x14_1).f0.f2.f5)⟩ : S29)] : List (S29))) (inner := [.int .i64 ((qA l0 x14_1).f0.f2.f0), .int .i64 ((qA l0 x14_1).f0.f2.f1), .int .i64 ((qA l0 x14_1).f0.f2.f2), .int .i64 ((qA l0 x14_1).f0.f2.f3), .int .i64 ((qA l0 x14_1).f0.f2.f4), .int .i64 ((qA l0 x14_1).f0.f2.f5)]) (ok := fun _ => True) (okp := fun _ => True) ?hr ?hp (fun _ hk => hk) trivial (Below.refl _ _) (Nat.le_refl _) (by simp) ?_; (case hd => rfl); (case hg => rfl); (case hr => exact gS); (case hp => exact (Reps.c6 (show Kd.M k29 _ _ _ (⟨((qA l0 x14_1).f0.f2.f0), ((qA l0 x14_1).f0.f2.f1), ((qA l0 x14_1).f0.f2.f2), ((qA l0 x14_1).f0.f2.f3), ((qA l0 x14_1).f0.f2.f4), ((qA l0 x14_1).f0.f2.f5)⟩ : S29) [.int .i64 ((qA l0 x14_1).f0.f2.f0), .int .i64 ((qA l0 x14_1).f0.f2.f1), .int .i64 ((qA l0 x14_1).f0.f2.f2), .int .i64 ((qA l0 x14_1).f0.f2.f3), .int .i64 ((qA l0 x14_1).f0.f2.f4), .int .i64 ((qA l0 x14_1).f0.f2.f5)] from (qgB _ _ _ (⟨((qA l0 x14_1).f0.f2.f0), ((qA l0 x14_1).f0.f2.f1), ((qA l0 x14_1).f0.f2.f2), ((qA l0 x14_1).f0.f2.f3), ((qA l0 x14_1).f0.f2.f4), ((qA l0 x14_1).f0.f2.f5)⟩ : S29) )) (Reps.none _ _)))
             intro v258 w56 ho57 hb hg_ hnew_
             clear hg_ hnew_
             (first | rw [← Ny257.out] at ho57 | (simp only [Int.reduceToNat] at ho57; rw [← Ny257.out] at ho57))
             have HO259 := aM (Kd.qHA (Kd.qLB (Kd.qLB ho57 (Kd.R_lt (rR HO_7))) (Kd.R_lt (rR HO249))) (qT bl))
             replace HO_7 := aM (Kd.qYA (rR HO_7) (Kd.qMB ho57) hb)
             replace HO249 := aM (Kd.qYA (rR HO249) (Kd.qMB ho57) hb)
             replace BK221 := aM (bb BK221 hb)
             replace HR253 := aM (Kd.qPA (by repeat (first | (with_reducible exact HR253.out) | (with_reducible refine Kd.qc ?_ _) | (with_reducible refine Kd.qb ?_ _) | (with_reducible refine Kd.qu ?_) | exact HR253.out)) hb)
             replace HB := aM (qB bl hb)
             clear hb ho57
             refine hK.out _ _ ⟨bc BK221 0, bc BK221 1, bc BK221 2, bc BK221 3, bc BK221 4, bc BK221 5, bc BK221 6, bc BK221 7, bc BK221 8, bc BK221 9, bc BK221 10, bc BK221 11, bc BK221 12, bc BK221 13, bc BK221 14, bc BK221 15⟩ (fun hHeld => ?_)
             clear hK K
             refine norm_ (a' := ?_) ?_ ?_
             rotate_left
             ·show Act.put _ (some 54) _ = _
              simp only [Act.put, List.setIfInBounds_toArray, List.set_cons_zero, List.set_cons_succ, i64_w, i32_w]
              rfl
             refine one_ (i := 4) (N := some 50) #[true, true, true, true, true, true, true, true, true, false, false] rfl rfl (qrA HT_.out (by kernel_rfl)) (by decide) (fun K hK => ?_)
             refine Kd.qCA k29 (w0 := w) w.heap.size (by rfl) (.tmp 46) (.tmp 49) 36 29 (.agg #[(.int .i64 0), (.int .i64 0), (.int .i64 0), (.int .i64 0), (.int .i64 0), (.int .i64 0)]) 48 rfl Tryz.underlying36 info29 rfl (by decide) (by omega) v248 y247 y250 _ _ _ (fun k_ => some k_ ≠ (.slice Ao51 x7_1.length co51 : Value).ownBlock ∧ some k_ ≠ (v258 : Value).ownBlock) (fun _ => False) rfl rfl ?aO ?aR (fun _ _ h => h) (fun _ h => h.elim) ?aF ?aB ?aS ?aL ?_
             (case aR => repeat (first | exact (by repeat (first | (with_reducible exact HR253.out) | (with_reducible refine Kd.qc ?_ _) | (with_reducible refine Kd.qb ?_ _) | (with_reducible refine Kd.qu ?_) | exact HR253.out)) | (with_reducible refine Kd.qc ?_ _) | (with_reducible refine Kd.qb ?_ _) | (with_reducible refine Kd.qu ?_)))
             (case aB => exact bl)
             (case aF => exact (fun k_ hk => ⟨Kd.fresh' (Kd.R_lt (rR HO_7)) k_ hk, Kd.fresh' (Kd.R_lt (rR HO259)) k_ hk⟩))
             (case aO => exact (by (with_reducible repeat (first | apply Kd.qR | apply Kd.qU | apply Kd.qQ)); exact Kd.qY HO249.out (fun _ hk => ⟨hk.1.2, hk.2⟩)))
             (case aS => exact (qT bl))
             (case aL => have := LMc45.out; omega)
             intro v255 w58 ho hb hg hat
             rw [← Ny254.out] at ho
             have HO256 := aM (ho)
             replace BK221 := aM (qf (rB BK221) hg (Kd.R_ne HO249.out BK221.out (by decide)))
             replace HO259 := aM (Kd.qEA (ok := (fun k_ => some k_ ≠ (.slice Ao51 x7_1.length co51 : Value).ownBlock)) (by (with_reducible repeat (first | apply Kd.qR | apply Kd.qU | apply Kd.qQ)); exact Kd.qY HO259.out (fun _ hk => ⟨hk.1.2, hk.2⟩)) hg hat)
             replace HB := aM (hb)
             replace HR253 := aM ((show Kd.C k29 w58 Ao51 y250.length y250 from by rw [Ny250.out]; exact Kd.qZB (m := (x10_3 : Int).toNat) ((Kd.qE (Kd.qEA (ok := (fun k_ => some k_ ≠ (v258 : Value).ownBlock)) (by (with_reducible repeat (first | apply Kd.qR | apply Kd.qU | apply Kd.qQ)); exact Kd.qY HO_7.out (fun _ hk => ⟨hk.2, hk.1.2⟩)) hg hat)).2.2) KL53.out))
             replace HO_7 := aM (Kd.qEA (ok := (fun k_ => some k_ ≠ (v258 : Value).ownBlock)) (by (with_reducible repeat (first | apply Kd.qR | apply Kd.qU | apply Kd.qQ)); exact Kd.qY HO_7.out (fun _ hk => ⟨hk.2, hk.1.2⟩)) hg hat)
             clear HO249
             clear ho hb hg hat
             refine hK.out _ _ ⟨bc BK221 0, bc BK221 1, bc BK221 2, bc BK221 3, bc BK221 4, bc BK221 5, bc BK221 6, bc BK221 7, bc BK221 8, bc BK221 9, bc BK221 10, bc BK221 11, bc BK221 12, bc BK221 13, bc BK221 14, bc BK221 15⟩ (fun hHeld => ?_)
             clear hK K
             refine norm_ (a' := ?_) ?_ ?_
             rotate_left
             ·show Act.put _ (some 50) _ = _
              simp only [Act.put, List.setIfInBounds_toArray, List.set_cons_zero, List.set_cons_succ, i64_w, i32_w]
              rfl
             exact norm_ (by simp only [putAll, Act.put, List.setIfInBounds_toArray, List.set_cons_zero, List.set_cons_succ]) (hCont (v248, v255, v258) _ ⟨hHeld, (by (with_reducible repeat (first | apply Kd.qR | apply Kd.qU | apply Kd.qQ)); exact Kd.qY HO256.out (fun _ hk => ⟨hk.2, hk.1⟩)), (by (with_reducible repeat (first | apply Kd.qR | apply Kd.qU | apply Kd.qQ)); exact Kd.qY HO259.out (fun _ hk => ⟨hk.2, hk.1⟩)), (by (with_reducible repeat (first | apply Kd.qR | apply Kd.qU | apply Kd.qQ)); exact Kd.qY HO_7.out (fun _ hk => ⟨hk.2, hk.1⟩)), (rB BK221), bl⟩)
           ·skip
            refine Kd.qSA k29 _ 29 ?hg (N := 54) ?hd (xs := ([(⟨((qA l0 x14_1).f0.f2.f0), ((qA l0 x14_1).f0.f2.f1), ((qA l0 x14_1).f0.f2.f2), ((qA l0 x14_1).f0.f2.f3), ((qA l0 x14_1).f0.f2.f4), ((qA l0 x14_1).f0.f2.f5)⟩ : S29)] : List (S29))) (inner := [.int .i64 ((qA l0 x14_1).f0.f2.f0), .int .i64 ((qA l0 x14_1).f0.f2.f1), .int .i64 ((qA l0 x14_1).f0.f2.f2), .int .i64 ((qA l0 x14_1).f0.f2.f3), .int .i64 ((qA l0 x14_1).f0.f2.f4), .int .i64 ((qA l0 x14_1).f0.f2.f5)]) (ok := fun _ => True) (okp := fun _ => True) ?hr ?hp (fun _ hk => hk) trivial (Below.refl _ _) (Nat.le_refl _) (by simp) ?_; (case hd => rfl); (case hg => rfl); (case hr => exact gS); (case hp => exact (Reps.c6 (show Kd.M k29 _ _ _ (⟨((qA l0 x14_1).f0.f2.f0), ((qA l0 x14_1).f0.f2.f1), ((qA l0 x14_1).f0.f2.f2), ((qA l0 x14_1).f0.f2.f3), ((qA l0 x14_1).f0.f2.f4), ((qA l0 x14_1).f0.f2.f5)⟩ : S29) [.int .i64 ((qA l0 x14_1).f0.f2.f0), .int .i64 ((qA l0 x14_1).f0.f2.f1), .int .i64 ((qA l0 x14_1).f0.f2.f2), .int .i64 ((qA l0 x14_1).f0.f2.f3), .int .i64 ((qA l0 x14_1).f0.f2.f4), .int .i64 ((qA l0 x14_1).f0.f2.f5)] from (qgB _ _ _ (⟨((qA l0 x14_1).f0.f2.f0), ((qA l0 x14_1).f0.f2.f1), ((qA l0 x14_1).f0.f2.f2), ((qA l0 x14_1).f0.f2.f3), ((qA l0 x14_1).f0.f2.f4), ((qA l0 x14_1).f0.f2.f5)⟩ : S29) )) (Reps.none _ _)))
            intro v258 w54 ho55 hb hg_ hnew_
            clear hg_ hnew_
            (first | rw [← Ny257.out] at ho55 | (simp only [Int.reduceToNat] at ho55; rw [← Ny257.out] at ho55))
            have HO259 := aM (Kd.qHA (Kd.qLB ho55 (Kd.R_lt (rR HO_7))) (qT bl))
            replace HO_7 := aM (Kd.qYA (rR HO_7) (Kd.qMB ho55) hb)
            replace BK221 := aM (bb BK221 hb)
            replace HR253 := aM (Kd.qPA (by repeat (first | (with_reducible exact HR253.out) | (with_reducible refine Kd.qc ?_ _) | (with_reducible refine Kd.qb ?_ _) | (with_reducible refine Kd.qu ?_) | exact HR253.out)) hb)
            replace HB := aM (qB bl hb)
            clear hb ho55
            refine hK.out _ _ ⟨bc BK221 0, bc BK221 1, bc BK221 2, bc BK221 3, bc BK221 4, bc BK221 5, bc BK221 6, bc BK221 7, bc BK221 8, bc BK221 9, bc BK221 10, bc BK221 11, bc BK221 12, bc BK221 13, bc BK221 14, bc BK221 15⟩ (fun hHeld => ?_)
            clear hK K
            refine norm_ (a' := ?_) ?_ ?_
            rotate_left
            ·show Act.put _ (some 54) _ = _
             simp only [Act.put, List.setIfInBounds_toArray, List.set_cons_zero, List.set_cons_succ, i64_w, i32_w]
             rfl
            refine one_ (i := 0) (N := some 46) #[true, true, true, true, false, true, true, true, true, false, false] rfl rfl (qrA HT_.out (by kernel_rfl)) (by decide) (fun K hK => ?_)
            refine Kd.qSA k29 _ 29 ?hg (N := 46) ?hd (xs := ([] : List (S29))) (inner := []) (ok := fun _ => True) (okp := fun _ => True) ?hr ?hp (fun _ hk => hk) trivial (Below.refl _ _) (Nat.le_refl _) (by simp) ?_; (case hd => rfl); (case hg => rfl); (case hr => exact gS); (case hp => exact (Reps.none _ _))
            intro v248 w56 ho57 hb hg_ hnew_
            clear hg_ hnew_
            (first | rw [← Ny247.out] at ho57 | (simp only [Int.reduceToNat] at ho57; rw [← Ny247.out] at ho57))
            have HO249 := aM (Kd.qHA (Kd.qLB (Kd.qLB ho57 (Kd.R_lt (rR HO_7))) (Kd.R_lt (rR HO259))) (qT bl))
            replace HO_7 := aM (Kd.qYA (rR HO_7) (Kd.qMB ho57) hb)
            replace HO259 := aM (Kd.qYA (rR HO259) (Kd.qMB ho57) hb)
            replace BK221 := aM (bb BK221 hb)
            replace HR253 := aM (Kd.qPA (by repeat (first | (with_reducible exact HR253.out) | (with_reducible refine Kd.qc ?_ _) | (with_reducible refine Kd.qb ?_ _) | (with_reducible refine Kd.qu ?_) | exact HR253.out)) hb)
            replace HB := aM (qB bl hb)
            clear hb ho57
            refine hK.out _ _ ⟨bc BK221 0, bc BK221 1, bc BK221 2, bc BK221 3, bc BK221 4, bc BK221 5, bc BK221 6, bc BK221 7, bc BK221 8, bc BK221 9, bc BK221 10, bc BK221 11, bc BK221 12, bc BK221 13, bc BK221 14, bc BK221 15⟩ (fun hHeld => ?_)
            clear hK K
            refine norm_ (a' := ?_) ?_ ?_
            rotate_left
            ·show Act.put _ (some 46) _ = _
             simp only [Act.put, List.setIfInBounds_toArray, List.set_cons_zero, List.set_cons_succ, i64_w, i32_w]
             rfl
            refine one_ (i := 4) (N := some 50) #[true, true, true, true, true, true, true, true, true, false, false] rfl rfl (qrA HT_.out (by kernel_rfl)) (by decide) (fun K hK => ?_)
            refine Kd.qCA k29 (w0 := w) w.heap.size (by rfl) (.tmp 46) (.tmp 49) 36 29 (.agg #[(.int .i64 0), (.int .i64 0), (.int .i64 0), (.int .i64 0), (.int .i64 0), (.int .i64 0)]) 48 rfl Tryz.underlying36 info29 rfl (by decide) (by omega) v248 y247 y250 _ _ _ (fun k_ => some k_ ≠ (.slice Ao51 x7_1.length co51 : Value).ownBlock ∧ some k_ ≠ (v258 : Value).ownBlock) (fun _ => False) rfl rfl ?aO ?aR (fun _ _ h => h) (fun _ h => h.elim) ?aF ?aB ?aS ?aL ?_
            (case aR => repeat (first | exact (by repeat (first | (with_reducible exact HR253.out) | (with_reducible refine Kd.qc ?_ _) | (with_reducible refine Kd.qb ?_ _) | (with_reducible refine Kd.qu ?_) | exact HR253.out)) | (with_reducible refine Kd.qc ?_ _) | (with_reducible refine Kd.qb ?_ _) | (with_reducible refine Kd.qu ?_)))
            (case aB => exact bl)
            (case aF => exact (fun k_ hk => ⟨Kd.fresh' (Kd.R_lt (rR HO_7)) k_ hk, Kd.fresh' (Kd.R_lt (rR HO259)) k_ hk⟩))
            (case aO => exact (by (with_reducible repeat (first | apply Kd.qR | apply Kd.qU | apply Kd.qQ)); exact Kd.qY HO249.out (fun _ hk => ⟨hk.1.2, hk.2⟩)))
            (case aS => exact (qT bl))
            (case aL => have := LMc45.out; omega)
            intro v255 w58 ho hb hg hat
            rw [← Ny254.out] at ho
            have HO256 := aM (ho)
            replace BK221 := aM (qf (rB BK221) hg (Kd.R_ne HO249.out BK221.out (by decide)))
            replace HO259 := aM (Kd.qEA (ok := (fun k_ => some k_ ≠ (.slice Ao51 x7_1.length co51 : Value).ownBlock)) (by (with_reducible repeat (first | apply Kd.qR | apply Kd.qU | apply Kd.qQ)); exact Kd.qY HO259.out (fun _ hk => ⟨hk.1.2, hk.2⟩)) hg hat)
            replace HB := aM (hb)
            replace HR253 := aM ((show Kd.C k29 w58 Ao51 y250.length y250 from by rw [Ny250.out]; exact Kd.qZB (m := (x10_3 : Int).toNat) ((Kd.qE (Kd.qEA (ok := (fun k_ => some k_ ≠ (v258 : Value).ownBlock)) (by (with_reducible repeat (first | apply Kd.qR | apply Kd.qU | apply Kd.qQ)); exact Kd.qY HO_7.out (fun _ hk => ⟨hk.1.2, hk.2⟩)) hg hat)).2.2) KL53.out))
            replace HO_7 := aM (Kd.qEA (ok := (fun k_ => some k_ ≠ (v258 : Value).ownBlock)) (by (with_reducible repeat (first | apply Kd.qR | apply Kd.qU | apply Kd.qQ)); exact Kd.qY HO_7.out (fun _ hk => ⟨hk.1.2, hk.2⟩)) hg hat)
            clear HO249
            clear ho hb hg hat
            refine hK.out _ _ ⟨bc BK221 0, bc BK221 1, bc BK221 2, bc BK221 3, bc BK221 4, bc BK221 5, bc BK221 6, bc BK221 7, bc BK221 8, bc BK221 9, bc BK221 10, bc BK221 11, bc BK221 12, bc BK221 13, bc BK221 14, bc BK221 15⟩ (fun hHeld => ?_)
            clear hK K
            refine norm_ (a' := ?_) ?_ ?_
            rotate_left
            ·show Act.put _ (some 50) _ = _
             simp only [Act.put, List.setIfInBounds_toArray, List.set_cons_zero, List.set_cons_succ, i64_w, i32_w]
             rfl
            exact norm_ (by simp only [putAll, Act.put, List.setIfInBounds_toArray, List.set_cons_zero, List.set_cons_succ]) (hCont (v248, v255, v258) _ ⟨hHeld, (by (with_reducible repeat (first | apply Kd.qR | apply Kd.qU | apply Kd.qQ)); exact Kd.qY HO256.out (fun _ hk => ⟨hk.2, hk.1⟩)), (by (with_reducible repeat (first | apply Kd.qR | apply Kd.qU | apply Kd.qQ)); exact Kd.qY HO259.out (fun _ hk => ⟨hk.2, hk.1⟩)), (by (with_reducible repeat (first | apply Kd.qR | apply Kd.qU | apply Kd.qQ)); exact Kd.qY HO_7.out (fun _ hk => ⟨hk.2, hk.1⟩)), (rB BK221), bl⟩)
          rintro ⟨v248, v255, v258⟩ w59 ⟨hS_, h0_, h1_, h2_, h3_, h4_⟩
          have n0_ : Aside0 (Kd.R k29 29 w59 w.heap.size (fun k_ => some k_ ≠ (v258 : Value).ownBlock ∧ some k_ ≠ (.slice Ao51 x7_1.length co51 : Value).ownBlock) v255 y254) := ⟨h0_⟩
          have n1_ : Aside0 (Kd.R k29 29 w59 w.heap.size (fun k_ => some k_ ≠ (v255 : Value).ownBlock ∧ some k_ ≠ (.slice Ao51 x7_1.length co51 : Value).ownBlock) v258 y257) := ⟨h1_⟩
          have n2_ : Aside0 (Kd.R k29 29 w59 w.heap.size (fun k_ => some k_ ≠ (v255 : Value).ownBlock ∧ some k_ ≠ (v258 : Value).ownBlock) (.slice Ao51 x7_1.length co51) x7_1) := ⟨h2_⟩
          have n3_ : Aside0 (w59.heap[gb221]? = some (.cells #[.int .i64 ((qA l0 x14_1).f0.f0), .int .i64 ((qA l0 x14_1).f0.f1), .int .i64 ((qA l0 x14_1).f0.f2.f0), .int .i64 ((qA l0 x14_1).f0.f2.f1), .int .i64 ((qA l0 x14_1).f0.f2.f2), .int .i64 ((qA l0 x14_1).f0.f2.f3), .int .i64 ((qA l0 x14_1).f0.f2.f4), .int .i64 ((qA l0 x14_1).f0.f2.f5), .int .i64 ((qA l0 x14_1).f1), .int .i64 ((qA l0 x14_1).f2), .int .i64 ((qA l0 x14_1).f3), .int .i64 ((qA l0 x14_1).f4), .int .i64 ((qA l0 x14_1).f5.f0), .int .i64 ((qA l0 x14_1).f5.f1), .int .i64 ((qA l0 x14_1).f5.f2), .int .i64 ((qA l0 x14_1).f5.f3)] 68 (0, 0))) := ⟨h3_⟩
          have n4_ : Aside0 (Below w.heap.size w w59) := ⟨h4_⟩
          clear HO_7 BK221 HB h0_ h1_ h2_ h3_ h4_
          have HO256 := n0_
          have HO259 := n1_
          have HO_7 := n2_
          have BK221 := n3_
          have HB := n4_
          clear n0_ n1_ n2_ n3_ n4_
          have hHeld : w59.cell? ⟨gb221, 0, none⟩ = some (.int .i64 ((qA l0 x14_1).f0.f0)) ∧ w59.cell? ⟨gb221, 1, none⟩ = some (.int .i64 ((qA l0 x14_1).f0.f1)) ∧ w59.cell? ⟨gb221, 2, none⟩ = some (.int .i64 ((qA l0 x14_1).f0.f2.f0)) ∧ w59.cell? ⟨gb221, 3, none⟩ = some (.int .i64 ((qA l0 x14_1).f0.f2.f1)) ∧ w59.cell? ⟨gb221, 4, none⟩ = some (.int .i64 ((qA l0 x14_1).f0.f2.f2)) ∧ w59.cell? ⟨gb221, 5, none⟩ = some (.int .i64 ((qA l0 x14_1).f0.f2.f3)) ∧ w59.cell? ⟨gb221, 6, none⟩ = some (.int .i64 ((qA l0 x14_1).f0.f2.f4)) ∧ w59.cell? ⟨gb221, 7, none⟩ = some (.int .i64 ((qA l0 x14_1).f0.f2.f5)) ∧ w59.cell? ⟨gb221, 8, none⟩ = some (.int .i64 ((qA l0 x14_1).f1)) ∧ w59.cell? ⟨gb221, 9, none⟩ = some (.int .i64 ((qA l0 x14_1).f2)) ∧ w59.cell? ⟨gb221, 10, none⟩ = some (.int .i64 ((qA l0 x14_1).f3)) ∧ w59.cell? ⟨gb221, 11, none⟩ = some (.int .i64 ((qA l0 x14_1).f4)) ∧ w59.cell? ⟨gb221, 12, none⟩ = some (.int .i64 ((qA l0 x14_1).f5.f0)) ∧ w59.cell? ⟨gb221, 13, none⟩ = some (.int .i64 ((qA l0 x14_1).f5.f1)) ∧ w59.cell? ⟨gb221, 14, none⟩ = some (.int .i64 ((qA l0 x14_1).f5.f2)) ∧ w59.cell? ⟨gb221, 15, none⟩ = some (.int .i64 ((qA l0 x14_1).f5.f3)) := hS_
          obtain ⟨Ao61, co61, eo61⟩ := Kd.qi HO259.out
          (first | subst eo61 | (injection eo61 with f1_ f2_ f3_; have f4_ := f1_.symm; have f5_ := f3_.symm; clear f1_ f2_ f3_; subst f4_; subst f5_))
          refine norm_ (a' := ?_) ?_ ?_
          rotate_left
          ·simp only [putAll, Act.put, List.setIfInBounds_toArray, List.set_cons_zero, List.set_cons_succ]
           rfl
          refine one_ (i := 9) (N := some 55) #[true, true, true, true, true, true, true, true, true, true, false] rfl rfl (qrA HT_.out (by kernel_rfl)) (by decide) (fun K hK => ?_)
          refine Kd.qCA k29 (w0 := w) w.heap.size (by rfl) (.tmp 50) (.tmp 54) 36 29 (.agg #[(.int .i64 0), (.int .i64 0), (.int .i64 0), (.int .i64 0), (.int .i64 0), (.int .i64 0)]) 48 rfl Tryz.underlying36 info29 rfl (by decide) (by omega) v255 y254 y257 _ _ _ (fun k_ => some k_ ≠ (.slice Ao51 x7_1.length co51 : Value).ownBlock ∧ some k_ ≠ (.slice Ao61 y257.length co61 : Value).ownBlock) (fun _ => False) rfl rfl ?aO ?aR (fun _ _ h => h) (fun _ h => h.elim) ?aF ?aB ?aS ?aL ?_
          (case aR => repeat (first | exact (Kd.qE HO259.out).2.2 | (with_reducible refine Kd.qc ?_ _) | (with_reducible refine Kd.qb ?_ _) | (with_reducible refine Kd.qu ?_)))
          (case aB => exact bl)
          (case aF => exact (fun k_ hk => ⟨Kd.fresh' (Kd.R_lt (rR HO_7)) k_ hk, Kd.fresh' (Kd.R_lt (rR HO259)) k_ hk⟩))
          (case aO => exact (by (with_reducible repeat (first | apply Kd.qR | apply Kd.qU | apply Kd.qQ)); exact Kd.qY HO256.out (fun _ hk => ⟨hk.2, hk.1⟩)))
          (case aS => exact (qT bl))
          (case aL => have := LMc46.out; omega)
          intro v261 w60 ho hb hg hat
          rw [← Ny260.out] at ho
          have HO262 := aM (ho)
          replace HO_7 := aM (Kd.qEA (ok := (fun k_ => some k_ ≠ (.slice Ao61 y257.length co61 : Value).ownBlock)) (by (with_reducible repeat (first | apply Kd.qR | apply Kd.qU | apply Kd.qQ)); exact Kd.qY HO_7.out (fun _ hk => ⟨hk.2, hk.1⟩)) hg hat)
          replace BK221 := aM (qf (rB BK221) hg (Kd.R_ne HO256.out BK221.out (by decide)))
          replace HO259 := aM (Kd.qEA (ok := (fun k_ => some k_ ≠ (.slice Ao51 x7_1.length co51 : Value).ownBlock)) (by (with_reducible repeat (first | apply Kd.qR | apply Kd.qU | apply Kd.qQ)); exact Kd.qY HO259.out (fun _ hk => ⟨hk.2, hk.1⟩)) hg hat)
          replace HB := aM (hb)
          clear HO256
          clear ho hb hg hat
          refine hK.out _ _ ⟨bc BK221 0, bc BK221 1, bc BK221 2, bc BK221 3, bc BK221 4, bc BK221 5, bc BK221 6, bc BK221 7, bc BK221 8, bc BK221 9, bc BK221 10, bc BK221 11, bc BK221 12, bc BK221 13, bc BK221 14, bc BK221 15⟩ (fun hHeld => ?_)
          clear hK K
          refine norm_ (a' := ?_) ?_ ?_
          rotate_left
          ·show Act.put _ (some 55) _ = _
           simp only [Act.put, List.setIfInBounds_toArray, List.set_cons_zero, List.set_cons_succ, i64_w, i32_w]
           rfl
          refine pS (i := 10) (N := some 11) #[true, true, true, true, true, true, true, true, true, true, true] HT_ ?_
          refine done_ (qHB HT_.out (by kernel_rfl)) ?_
          have q62 : (x10_3 : Int) ≤ ((x7_1.length : Int) : Int) := of_decide_eq_true am
          obtain ⟨i062, hi062, _, hsz62, _⟩ := info_parts info29
          have hroom62 : x7_1.length ≤ co51 := (Kd.qE HO_7.out).2.1
          have hC62 : Kd.C k29 _ Ao51 x7_1.length x7_1 := (Kd.qE HO_7.out).2.2
          have q062 : (0 : Int) ≤ (x10_3 : Int) := of_decide_eq_true am
          have hcut62 := qlC (P := Tryz.prog) 36 29 .i64 Tryz.underlying36 hi062 6 hsz62 Ao51 x7_1.length co51 x10_3 q062 q62
          have hr62 := Kd.qgC (m := (x10_3 : Int).toNat) (c := co51) hC62 (by omega) hroom62
          obtain ⟨A62, hA62⟩ : ∃ A1, A1 = (if co51 = (x10_3 : Int).toNat then Ao51 else (Ao51 : Option Addr).map (·.add ((x10_3 : Int).toNat * 6))) := ⟨_, rfl⟩
          obtain ⟨c62, hc62⟩ : ∃ c1, c1 = co51 - (x10_3 : Int).toNat := ⟨_, rfl⟩
          have hy62 : y263.length = x7_1.length - (x10_3 : Int).toNat := (by rw [Ny263.out, List.length_drop] <;> omega)
          rw [show (x7_1).drop (x10_3 : Int).toNat = y263 from Ny263.out.symm] at hr62
          replace hr62 : Kd.C k29 _ A62 y263.length y263 := (by rw [hA62]; exact hr62)
          rw [← hy62, ← hA62, ← hc62] at hcut62
          have HR266 := aM hr62
          have HC266 := aM (show y263.length ≤ c62 from by rw [hy62, hc62]; exact Nat.sub_le_sub_right hroom62 _)
          clear hr62 hC62 hroom62 hi062 hsz62 hc62
          have KY62 := aM hy62
          have KA62 := aM hA62
          clear hy62 hA62
          have KL62 := aM (show (x10_3 : Int).toNat ≤ x7_1.length from by omega)
          replace q62 := eq_true q62
          try go_wp2_with (first | ((with_reducible refine qdA (b := .append) (xs := #[.tmp 56, .tmp 59]) rfl ?_); at_builtin; refine Kd.qKB k29 (w0 := w) w.heap.size rfl (.tmp 56) (.tmp 59) 36 29 (.agg #[(.int .i64 0), (.int .i64 0), (.int .i64 0), (.int .i64 0), (.int .i64 0), (.int .i64 0)]) 48 rfl Tryz.underlying36 info29 rfl (by decide) (by omega) v261 y260 y263 _ _ _ (fun k_ => some k_ ≠ (.slice Ao51 x7_1.length co51 : Value).ownBlock ∧ some k_ ≠ (.slice Ao61 y257.length co61 : Value).ownBlock) (fun _ => False) rfl rfl ?aO ?aR (fun _ _ h => h) (fun _ h => h.elim) ?aF ?aB ?aS ?aL ?_; (case aR => repeat (first | exact (by repeat (first | (with_reducible exact HR266.out) | (with_reducible refine Kd.qc ?_ _) | (with_reducible refine Kd.qb ?_ _) | (with_reducible refine Kd.qu ?_) | exact HR266.out)) | (with_reducible refine Kd.qc ?_ _) | (with_reducible refine Kd.qb ?_ _) | (with_reducible refine Kd.qu ?_))); (case aB => exact bl); (case aF => exact (fun k_ hk => ⟨Kd.fresh' (Kd.R_lt (rR HO_7)) k_ hk, Kd.fresh' (Kd.R_lt (rR HO259)) k_ hk⟩)); (case aO => exact (rR HO262)); (case aS => exact (qT bl)); (case aL => have := LMc49.out; omega); intro v268 w63 ho hb hg hat; rw [← Ny267.out] at ho; have HO269 := aM (ho); replace BK221 := aM (qf (rB BK221) hg (Kd.R_ne HO262.out BK221.out (by decide))); replace HO259 := aM (Kd.qEA (ok := (fun k_ => some k_ ≠ (.slice Ao51 x7_1.length co51 : Value).ownBlock)) (rR HO259) hg hat); replace HB := aM (hb); replace HR266 := aM ((show Kd.C k29 w63 A62 y263.length y263 from by rw [Ny263.out, KA62.out]; exact Kd.qgC (m := (x10_3 : Int).toNat) (c := co51) ((Kd.qE (Kd.qEA (ok := (fun k_ => some k_ ≠ (.slice Ao61 y257.length co61 : Value).ownBlock)) (rR HO_7) hg hat)).2.2) KL62.out ((Kd.qE (Kd.qEA (ok := (fun k_ => some k_ ≠ (.slice Ao61 y257.length co61 : Value).ownBlock)) (rR HO_7) hg hat)).2.1))); replace HO_7 := aM (Kd.qEA (ok := (fun k_ => some k_ ≠ (.slice Ao61 y257.length co61 : Value).ownBlock)) (rR HO_7) hg hat); clear HO262; clear ho hb hg hat))
          go_roundg k3
          case measure => have := HK1.out; have := HJ6.out; have := HK3.out; omega
          case rel => exact ⟨(y267), (wrap64 (x14_1 + 1)), sD, H', ⟨by have := HK1.out; have := HJ6.out; have := HK3.out; omega⟩, ⟨by (with_reducible repeat (first | apply Kd.qR | apply Kd.qU | apply Kd.qQ)); exact Kd.qY HO269.out (fun _ hk => trivial)⟩, ⟨bl⟩⟩
   ·rw [if_neg c4] at H
    have c4b0 := decide_eq_false c4
    clear c4
    obtain rfl := Option.some.inj H
    go_wp2
    go_ret
    exact ⟨_, sR, by (with_reducible repeat (first | apply Kd.qR | apply Kd.qU | apply Kd.qQ)); exact HO_7.out, bl⟩
def qXA.l0 : Nat → Int → List Int → Int → Int → Option (Bool)
 | 0, _, _, _, _ => none
 | k + 1, x1, x7, x8, x9 => if x9 < x8 then (if 0 ≤ x9 then (if x9 < (x7.length : Int) then (if (rd x7 x9) = x1 then (some true) else (qXA.l0 k x1 x7 x8 (wrap64 (x9 + 1)))) else (none)) else (none)) else (some false)
def qXA.f (k : Nat) (l0 : List Int) (a1 : Int) : Option (Bool) := qXA.l0 k a1 l0 (l0.length : Int) 0
set_option maxHeartbeats 8000000 in
set_option maxRecDepth 100000 in
theorem qXA.calls (k : Nat) (A0 : Option Addr) (c0 : Nat) (l0 : List Int) (a1 : Int) (r : Bool) (w : World) (hr0 : Kd.C (Kd.int .i64) w A0 l0.length l0) (hc0 : l0.length ≤ c0) (h : qXA.f k l0 a1 = some r) :
  Calls Tryz.prog 18 #[.slice A0 l0.length c0, .int .i64 a1] w fun e w' => e = .returned (.bool r) ∧ Drawn0 w w' := by
 have HR0 := aM hr0
 have HC0 := aM hc0
 clear hr0 hc0
 have H : (qXA.l0 k a1 l0 (l0.length : Int) 0) = some r := h
 clear h
 have H' := aM H
 clear H
 go_enter Tryz.func18, Tryz.ntmps18
 go_wp2
 go_loopg [9] k (fun kq v9 w' => ∃ (x9_1 : Int), v9 = .int .i64 x9_1 ∧ Aside0 (qXA.l0 kq a1 l0 (l0.length : Int) x9_1 = some r) ∧ Aside0 (kq ≤ k) ∧ Drawn0 w w')
 case atStart => exact ⟨(0), sD, H', ⟨Nat.le_refl _⟩, dR⟩
 case round =>
  clear H'; (try clear c1); (try clear p2)
  obtain ⟨x9_1, rfl, HA, HK1, ⟨m1, rfl⟩⟩ := hrel
  cases gk with
  | zero => exact absurd HA.out (by simp [qXA.l0])
  | succ k1 =>
   have H := HA.out
   clear HA
   simp only [qXA.l0] at H
   by_cases c3 : x9_1 < (l0.length : Int)
   ·rw [if_pos c3] at H
    have c3b0 := decide_eq_true c3
    clear c3
    by_cases c4 : 0 ≤ x9_1
    case neg => exact nN c4 H
    rw [if_pos c4] at H
    have c4b0 := decide_eq_true c4
    clear c4
    by_cases c5 : x9_1 < (l0.length : Int)
    case neg => exact nN c5 H
    rw [if_pos c5] at H
    have c5b0 := decide_eq_true c5
    clear c5
    by_cases c6 : (rd l0 x9_1) = a1
    ·rw [if_pos c6] at H
     have c6b0 := beq_iff_eq.mpr c6
     have c6b1 := bne_eq_false_iff_eq.mpr c6
     clear c6
     obtain rfl := Option.some.inj H
     have p270 : 0 ≤ (x9_1 : Int) := of_decide_eq_true am
     have q270 : x9_1 < (l0.length : Int) := of_decide_eq_true am
     obtain ⟨ad270, e270, hx270_0⟩ := Kd.qjA HR0.out x9_1 p270 q270
     cases e270
     replace p270 := eq_true p270
     replace q270 := eq_true q270
     go_wp2
     go_ret
     exact ⟨by first | rfl | (simp; done) | (simp [*]; done), dR⟩
    ·rw [if_neg c6] at H
     have c6b0 := beq_eq_false_iff_ne.mpr c6
     have c6b1 := bne_iff_ne.mpr c6
     have H' := aM H
     clear H
     have p270 : 0 ≤ (x9_1 : Int) := of_decide_eq_true am
     have q270 : x9_1 < (l0.length : Int) := of_decide_eq_true am
     obtain ⟨ad270, e270, hx270_0⟩ := Kd.qjA HR0.out x9_1 p270 q270
     cases e270
     replace p270 := eq_true p270
     replace q270 := eq_true q270
     go_wp2
     go_roundg k1
     case measure => have := HK1.out; omega
     case rel => exact ⟨(wrap64 (x9_1 + 1)), sD, H', ⟨by have := HK1.out; omega⟩, dR⟩
   ·rw [if_neg c3] at H
    have c3b0 := decide_eq_false c3
    clear c3
    obtain rfl := Option.some.inj H
    go_wp2
    go_ret
    exact ⟨by first | rfl | (simp; done) | (simp [*]; done), dR⟩
def qZA.l0 : Nat → List Int → Int → Int → Option (List Int)
 | 0, _, _, _ => none
 | k + 1, x0, x1, x5 => if x5 < (x0.length : Int) then (if 0 ≤ x5 then (if (rd x0 x5) < x1 then (qZA.l0 k x0 x1 (wrap64 (x5 + 1))) else (if (rd x0 x5) = x1 then (some x0) else ((some (([] : List Int) : List Int)).bind fun y273 => (if x5 ≤ (x0.length : Int) then ((some (x0.take (x5 : Int).toNat : List Int)).bind fun y276 => (if y273.length + y276.length < 17592186044416 then ((some (y273 ++ y276 : List Int)).bind fun y280 => (if y280.length < 17592186044416 then ((some (y280 ++ [x1] : List Int)).bind fun y283 => ((some (x0.drop (x5 : Int).toNat : List Int)).bind fun y286 => (if y283.length + y286.length < 17592186044416 then (some (y283 ++ y286)) else (none)))) else (none))) else (none))) else (none))))) else (none)) else ((some (([] : List Int) : List Int)).bind fun y293 => (if 0 ≤ x5 then (if x5 ≤ (x0.length : Int) then ((some (x0.take (x5 : Int).toNat : List Int)).bind fun y296 => (if y293.length + y296.length < 17592186044416 then ((some (y293 ++ y296 : List Int)).bind fun y300 => (if y300.length < 17592186044416 then ((some (y300 ++ [x1] : List Int)).bind fun y303 => ((some (x0.drop (x5 : Int).toNat : List Int)).bind fun y306 => (if y303.length + y306.length < 17592186044416 then (some (y303 ++ y306)) else (none)))) else (none))) else (none))) else (none)) else (none)))
def qZA.f (k : Nat) (l0 : List Int) (a1 : Int) : Option (List Int) := qZA.l0 k l0 a1 0
set_option maxHeartbeats 8000000 in
set_option maxRecDepth 100000 in
theorem qZA.calls (k : Nat) (P0_ : Nat → Prop) (u9000_ : Value) (l0 : List Int) (a1 : Int) (r : List Int) (w0 w : World) (hB : Below w0.heap.size w0 w) (ho0 : Kd.R (Kd.int .i64) 3 w w0.heap.size P0_ u9000_ l0) (h : qZA.f k l0 a1 = some r) :
  Calls Tryz.prog 19 #[u9000_, .int .i64 a1] w fun e w' => ∃ v0_ : Value, e = .returned (v0_) ∧ Kd.R (Kd.int .i64) 3 w' w0.heap.size (fun k_ => (P0_ k_ ∨ w.heap.size ≤ k_)) v0_ r ∧ Below w0.heap.size w0 w' ∧ Kept w w' (fun k_ => P0_ k_) := by
 have HO0 := aM (show Kd.R (Kd.int .i64) 3 w w0.heap.size (fun k_ => (P0_ k_ ∨ w.heap.size ≤ k_)) u9000_ l0 from Kd.qY ho0 (fun k_ hk => (.inl hk)))
 have HK := aM (Kept.refl w (fun k_ => P0_ k_))
 have HW0 := aM hB.size
 have HB := aM hB
 clear hB
 have H : (qZA.l0 k l0 a1 0) = some r := h
 clear h
 have H' := aM H
 clear H
 go_enter Tryz.func19, Tryz.ntmps19
 go_wp2
 go_loopg [5] k (fun kq v5 w' => ∃ (x5_1 : Int), v5 = .int .i64 x5_1 ∧ Aside0 (qZA.l0 kq l0 a1 x5_1 = some r) ∧ Aside0 (kq ≤ k) ∧ Aside0 (Kd.R (Kd.int .i64) 3 w' w0.heap.size (fun k_ => (P0_ k_ ∨ w.heap.size ≤ k_)) u9000_ l0) ∧ Aside0 (Kept w w' (fun k_ => P0_ k_)) ∧ Aside0 (Below w0.heap.size w0 w'))
 case atStart => exact ⟨(0), sD, H', ⟨Nat.le_refl _⟩, ⟨rR HO0⟩, ⟨by repeat (first | (with_reducible first | exact HK.out | apply Kept.alloc | apply Kept.drewN | apply Kept.drew) | exact HK.out)⟩, ⟨bl⟩⟩
 case round =>
  clear H'; (try clear c1); (try clear p2)
  obtain ⟨x5_1, rfl, HA, HK1, HO_0, HK, HB⟩ := hrel
  cases gk with
  | zero => exact absurd HA.out (by simp [qZA.l0])
  | succ k1 =>
   have H := HA.out
   clear HA
   simp only [qZA.l0] at H
   by_cases c3 : x5_1 < (l0.length : Int)
   ·rw [if_pos c3] at H
    have c3b0 := decide_eq_true c3
    clear c3
    by_cases c4 : 0 ≤ x5_1
    case neg => exact nN c4 H
    rw [if_pos c4] at H
    have c4b0 := decide_eq_true c4
    clear c4
    by_cases c5 : (rd l0 x5_1) < a1
    ·rw [if_pos c5] at H
     have c5b0 := decide_eq_true c5
     clear c5
     have H' := aM H
     clear H
     obtain ⟨Ao6, co6, eo6⟩ := Kd.qi HO_0.out
     subst eo6
     have p271 : 0 ≤ (x5_1 : Int) := of_decide_eq_true am
     have q271 : x5_1 < (l0.length : Int) := of_decide_eq_true am
     obtain ⟨ad271, e271, hx271_0⟩ := Kd.qjA (Kd.qE HO_0.out).2.2 x5_1 p271 q271
     cases e271
     replace p271 := eq_true p271
     replace q271 := eq_true q271
     go_wp2
     go_roundg k1
     case measure => have := HK1.out; omega
     case rel => exact ⟨(wrap64 (x5_1 + 1)), sD, H', ⟨by have := HK1.out; omega⟩, ⟨rR HO_0⟩, ⟨by repeat (first | (with_reducible first | exact HK.out | apply Kept.alloc | apply Kept.drewN | apply Kept.drew) | exact HK.out)⟩, ⟨bl⟩⟩
    ·rw [if_neg c5] at H
     have c5b0 := decide_eq_false c5
     clear c5
     by_cases c7 : (rd l0 x5_1) = a1
     ·rw [if_pos c7] at H
      have c7b0 := beq_iff_eq.mpr c7
      have c7b1 := bne_eq_false_iff_eq.mpr c7
      clear c7
      obtain rfl := Option.some.inj H
      obtain ⟨Ao8, co8, eo8⟩ := Kd.qi HO_0.out
      subst eo8
      have p271 : 0 ≤ (x5_1 : Int) := of_decide_eq_true am
      have q271 : x5_1 < (l0.length : Int) := of_decide_eq_true am
      obtain ⟨ad271, e271, hx271_0⟩ := Kd.qjA (Kd.qE HO_0.out).2.2 x5_1 p271 q271
      cases e271
      replace p271 := eq_true p271
      replace q271 := eq_true q271
      have p272 : 0 ≤ (x5_1 : Int) := of_decide_eq_true am
      have q272 : x5_1 < (l0.length : Int) := of_decide_eq_true am
      obtain ⟨ad272, e272, hx272_0⟩ := Kd.qjA (Kd.qE HO_0.out).2.2 x5_1 p272 q272
      obtain rfl : ad271 = ad272 := (by injection e272)
      replace p272 := eq_true p272
      replace q272 := eq_true q272
      go_wp2
      go_ret
      exact ⟨_, sR, by (with_reducible repeat (first | apply Kd.qR | apply Kd.qU | apply Kd.qQ)); exact HO_0.out, bl, by repeat (first | (with_reducible first | exact HK.out | apply Kept.alloc | apply Kept.drewN | apply Kept.drew) | exact HK.out)⟩
     ·rw [if_neg c7] at H
      have c7b0 := beq_eq_false_iff_ne.mpr c7
      have c7b1 := bne_iff_ne.mpr c7
      replace H := bS H
      obtain ⟨y273, Ny273, H⟩ := H
      have c9b0 := eq_true (of_decide_eq_true am : 0 ≤ x5_1)
      by_cases c10 : x5_1 ≤ (l0.length : Int)
      case neg => exact nN c10 H
      rw [if_pos c10] at H
      have c10b0 := eq_true c10
      have c10b1 := decide_eq_true c10
      clear c10
      replace H := bS H
      obtain ⟨y276, Ny276, H⟩ := H
      by_cases c11 : y273.length + y276.length < 17592186044416
      case neg => exact nN c11 H
      rw [if_pos c11] at H
      have LMc11 := aM c11
      clear c11
      replace H := bS H
      obtain ⟨y280, Ny280, H⟩ := H
      by_cases c12 : y280.length < 17592186044416
      case neg => exact nN c12 H
      rw [if_pos c12] at H
      have LMc12 := aM c12
      clear c12
      replace H := bS H
      obtain ⟨y283, Ny283, H⟩ := H
      have c13b0 := eq_true (of_decide_eq_true am : 0 ≤ x5_1)
      have c14b0 := eq_true (of_decide_eq_true am : x5_1 ≤ (l0.length : Int))
      replace H := bS H
      obtain ⟨y286, Ny286, H⟩ := H
      by_cases c15 : y283.length + y286.length < 17592186044416
      case neg => exact nN c15 H
      rw [if_pos c15] at H
      have LMc15 := aM c15
      clear c15
      obtain ⟨y290, hy290⟩ : ∃ y_ : List Int, y_ = (y283 ++ y286) := ⟨_, rfl⟩
      replace H : (some y290) = some r := by first | (rw [hy290]; with_reducible exact H) | (have H2_ := (Option.bind_some _ _).symm.trans H; rw [hy290]; with_reducible exact H2_) | (have H2_ := (Option.bind_some _ _).symm.trans H; with_reducible exact H2_) | with_reducible exact H | (rw [hy290]; exact H) | exact H
      have Ny290 := aM hy290
      clear hy290
      obtain rfl := Option.some.inj H
      obtain ⟨Ao16, co16, eo16⟩ := Kd.qi HO_0.out
      subst eo16
      have p271 : 0 ≤ (x5_1 : Int) := of_decide_eq_true am
      have q271 : x5_1 < (l0.length : Int) := of_decide_eq_true am
      obtain ⟨ad271, e271, hx271_0⟩ := Kd.qjA (Kd.qE HO_0.out).2.2 x5_1 p271 q271
      cases e271
      replace p271 := eq_true p271
      replace q271 := eq_true q271
      have p272 : 0 ≤ (x5_1 : Int) := of_decide_eq_true am
      have q272 : x5_1 < (l0.length : Int) := of_decide_eq_true am
      obtain ⟨ad272, e272, hx272_0⟩ := Kd.qjA (Kd.qE HO_0.out).2.2 x5_1 p272 q272
      obtain rfl : ad271 = ad272 := (by injection e272)
      replace p272 := eq_true p272
      replace q272 := eq_true q272
      go_wp2_with (first | ((with_reducible refine qN (N := 34) rfl ?_); refine Kd.R_lit (Kd.int .i64) _ 3 ?hg (N := 34) ?hd (xs := ([] : List Int)) (inner := []) (ok := fun _ => True) (okp := fun _ => True) ?hr ?hp (fun _ hk => hk) trivial (Below.refl _ _) (Nat.le_refl _) (by simp) ?_; (case hd => rfl); (case hg => rfl); (case hr => exact gS); (case hp => exact (Reps.none _ _)); intro v274 w17 ho18 hb hg_ hnew_; clear hg_ hnew_; (first | rw [← Ny273.out] at ho18 | (simp only [Int.reduceToNat] at ho18; rw [← Ny273.out] at ho18)); have HO275 := aM (Kd.qHA (Kd.qLB (Kd.R_newM (M := fun k_ => (P0_ k_ ∨ w.heap.size ≤ k_)) ho18 (by first | exact HK.out.1 | exact (show Kept w _ (fun k_ => P0_ k_) from by repeat (first | (with_reducible first | exact HK.out | apply Kept.alloc | apply Kept.drewN | apply Kept.drew) | exact HK.out)).1) (fun k_ h_ => .inr h_)) (Kd.R_lt (rR HO_0))) (qT bl)); replace HO_0 := aM (Kd.qYA (rR HO_0) (Kd.qMB ho18) hb); replace HK := aM (Kept.below (S := (fun k_ => P0_ k_)) (by repeat (first | (with_reducible first | exact HK.out | apply Kept.alloc | apply Kept.drewN | apply Kept.drew) | exact HK.out)) hb); replace HB := aM (qB bl hb); clear hb ho18; have q19 : (x5_1 : Int) ≤ ((l0.length : Int) : Int) := of_decide_eq_true am; obtain ⟨i019, hi019, _, hsz19, _⟩ := info_parts info3; have hroom19 : l0.length ≤ co16 := (Kd.qE HO_0.out).2.1; have hC19 : Kd.C (Kd.int .i64) _ (some ad271) l0.length l0 := (Kd.qE HO_0.out).2.2; have hcut19 := qeD (P := Tryz.prog) 26 3 .i64 Tryz.underlying26 hi019 (some ad271) l0.length co16 x5_1 (of_decide_eq_true am) q19 hroom19; have hr19 := Kd.qZB (m := (x5_1 : Int).toNat) hC19 (by omega); have hy19 : y276.length = (x5_1 : Int).toNat := (by rw [Ny276.out, List.length_take]; omega); rw [← Ny276.out] at hr19; rw [← hy19] at hcut19; have HR279 := aM hr19; have HC279 := aM (show y276.length ≤ co16 from by omega); clear hr19 hC19 hroom19 hi019 hsz19; have KY19 := aM hy19; clear hy19; have KL19 := aM (show (x5_1 : Int).toNat ≤ l0.length from by omega); replace q19 := eq_true q19) | ((with_reducible refine qdA (b := .append) (xs := #[.tmp 34, .tmp 37]) rfl ?_); at_builtin; refine Kd.qKB (Kd.int .i64) (w0 := w0) w0.heap.size rfl (.tmp 34) (.tmp 37) 26 3 (.int .i64 0) 8 rfl Tryz.underlying26 info3 rfl (by decide) (by omega) v274 y273 y276 _ _ _ (fun k_ => (P0_ k_ ∨ w.heap.size ≤ k_) ∧ some k_ ≠ (.slice (some ad271) l0.length co16 : Value).ownBlock) (fun _ => False) rfl rfl ?aO ?aR (fun _ _ h => h) (fun _ h => h.elim) ?aF ?aB ?aS ?aL ?_; (case aR => repeat (first | exact (by repeat (first | (with_reducible exact HR279.out) | (with_reducible refine Kd.qc ?_ _) | (with_reducible refine Kd.qb ?_ _) | (with_reducible refine Kd.qu ?_) | exact HR279.out)) | (with_reducible refine Kd.qc ?_ _) | (with_reducible refine Kd.qb ?_ _) | (with_reducible refine Kd.qu ?_))); (case aB => exact bl); (case aF => exact (fun k_ hk => ⟨(.inr (Nat.le_trans (by first | exact HK.out.1 | exact (show Kept w _ (fun k_ => P0_ k_) from by repeat (first | (with_reducible first | exact HK.out | apply Kept.alloc | apply Kept.drewN | apply Kept.drew) | exact HK.out)).1) hk)), Kd.fresh' (Kd.R_lt (rR HO_0)) k_ hk⟩)); (case aO => exact (by (with_reducible repeat (first | apply Kd.qR | apply Kd.qU | apply Kd.qQ)); exact Kd.qY HO275.out (fun _ hk => ⟨hk.1.1, hk.2⟩))); (case aS => exact (qT bl)); (case aL => have := LMc11.out; omega); intro v281 w20 ho hb hg hat; rw [← Ny280.out] at ho; have HO282 := aM (ho); replace HB := aM (hb); replace HK := aM (Kept.qfB (S := (fun k_ => P0_ k_)) hg (by repeat (first | (with_reducible first | exact HK.out | apply Kept.alloc | apply Kept.drewN | apply Kept.drew) | exact HK.out)) (fun k_ e_ => (HO275.out.1 k_ e_).1.1)); replace HR279 := aM ((show Kd.C (Kd.int .i64) w20 (some ad271) y276.length y276 from by rw [Ny276.out]; exact Kd.qZB (m := (x5_1 : Int).toNat) ((Kd.qE (Kd.qEA (ok := (fun k_ => (P0_ k_ ∨ w.heap.size ≤ k_))) (rR HO_0) hg hat)).2.2) KL19.out)); replace HO_0 := aM (Kd.qEA (ok := (fun k_ => (P0_ k_ ∨ w.heap.size ≤ k_))) (rR HO_0) hg hat); clear HO275; clear ho hb hg hat) | ((with_reducible refine qdA (b := .append) (xs := #[.tmp 39, .tmp 41]) rfl ?_); at_builtin; refine Kd.qYC (Kd.int .i64) (w0 := w0) w0.heap.size rfl (.tmp 39) (.tmp 41) 26 3 (.int .i64 0) 8 rfl Tryz.underlying26 info3 rfl (by decide) (by omega) v281 y280 a1 [.int .i64 a1] (fun k_ => (P0_ k_ ∨ w.heap.size ≤ k_) ∧ some k_ ≠ (.slice (some ad271) l0.length co16 : Value).ownBlock) (fun _ => False) rfl rfl ?aP (fun _ hk => hk.elim) ?aF ?aO ?aB ?aS ?aL ?_; (case aP => exact rfl); (case aB => exact bl); (case aF => exact (fun k_ hk => ⟨(.inr (Nat.le_trans (by first | exact HK.out.1 | exact (show Kept w _ (fun k_ => P0_ k_) from by repeat (first | (with_reducible first | exact HK.out | apply Kept.alloc | apply Kept.drewN | apply Kept.drew) | exact HK.out)).1) hk)), Kd.fresh' (Kd.R_lt (rR HO_0)) k_ hk⟩)); (case aO => exact (rR HO282)); (case aS => exact (qT bl)); (case aL => have := LMc12.out; omega); intro v284 w21 ho hb hg hat; rw [← Ny283.out] at ho; have HO285 := aM (ho); replace HB := aM (hb); replace HK := aM (Kept.qfB (S := (fun k_ => P0_ k_)) hg (by repeat (first | (with_reducible first | exact HK.out | apply Kept.alloc | apply Kept.drewN | apply Kept.drew) | exact HK.out)) (fun k_ e_ => (HO282.out.1 k_ e_).1)); replace HR279 := aM ((show Kd.C (Kd.int .i64) w21 (some ad271) y276.length y276 from by rw [Ny276.out]; exact Kd.qZB (m := (x5_1 : Int).toNat) ((Kd.qE (Kd.qEA (ok := (fun k_ => (P0_ k_ ∨ w.heap.size ≤ k_))) (rR HO_0) hg hat)).2.2) KL19.out)); replace HO_0 := aM (Kd.qEA (ok := (fun k_ => (P0_ k_ ∨ w.heap.size ≤ k_))) (rR HO_0) hg hat); clear HO282; clear ho hb hg hat; have q22 : (x5_1 : Int) ≤ ((l0.length : Int) : Int) := of_decide_eq_true am; obtain ⟨i022, hi022, _, hsz22, _⟩ := info_parts info3; have hroom22 : l0.length ≤ co16 := (Kd.qE HO_0.out).2.1; have hC22 : Kd.C (Kd.int .i64) _ (some ad271) l0.length l0 := (Kd.qE HO_0.out).2.2; have q022 : (0 : Int) ≤ (x5_1 : Int) := of_decide_eq_true am; have hcut22 := qlC (P := Tryz.prog) 26 3 .i64 Tryz.underlying26 hi022 1 hsz22 (some ad271) l0.length co16 x5_1 q022 q22; have hr22 := Kd.qgC (m := (x5_1 : Int).toNat) (c := co16) hC22 (by omega) hroom22; obtain ⟨A22, hA22⟩ : ∃ A1, A1 = (if co16 = (x5_1 : Int).toNat then (some ad271) else ((some ad271) : Option Addr).map (·.add ((x5_1 : Int).toNat * 1))) := ⟨_, rfl⟩; obtain ⟨c22, hc22⟩ : ∃ c1, c1 = co16 - (x5_1 : Int).toNat := ⟨_, rfl⟩; have hy22 : y286.length = l0.length - (x5_1 : Int).toNat := (by rw [Ny286.out, List.length_drop] <;> omega); rw [show (l0).drop (x5_1 : Int).toNat = y286 from Ny286.out.symm] at hr22; replace hr22 : Kd.C (Kd.int .i64) _ A22 y286.length y286 := (by rw [hA22]; exact hr22); rw [← hy22, ← hA22, ← hc22] at hcut22; have HR289 := aM hr22; have HC289 := aM (show y286.length ≤ c22 from by rw [hy22, hc22]; exact Nat.sub_le_sub_right hroom22 _); clear hr22 hC22 hroom22 hi022 hsz22 hc22; have KY22 := aM hy22; have KA22 := aM hA22; clear hy22 hA22; have KL22 := aM (show (x5_1 : Int).toNat ≤ l0.length from by omega); replace q22 := eq_true q22) | ((with_reducible refine qdA (b := .append) (xs := #[.tmp 43, .tmp 46]) rfl ?_); at_builtin; refine Kd.qKB (Kd.int .i64) (w0 := w0) w0.heap.size rfl (.tmp 43) (.tmp 46) 26 3 (.int .i64 0) 8 rfl Tryz.underlying26 info3 rfl (by decide) (by omega) v284 y283 y286 _ _ _ (fun k_ => (P0_ k_ ∨ w.heap.size ≤ k_) ∧ some k_ ≠ (.slice (some ad271) l0.length co16 : Value).ownBlock) (fun _ => False) rfl rfl ?aO ?aR (fun _ _ h => h) (fun _ h => h.elim) ?aF ?aB ?aS ?aL ?_; (case aR => repeat (first | exact (by repeat (first | (with_reducible exact HR289.out) | (with_reducible refine Kd.qc ?_ _) | (with_reducible refine Kd.qb ?_ _) | (with_reducible refine Kd.qu ?_) | exact HR289.out)) | (with_reducible refine Kd.qc ?_ _) | (with_reducible refine Kd.qb ?_ _) | (with_reducible refine Kd.qu ?_))); (case aB => exact bl); (case aF => exact (fun k_ hk => ⟨(.inr (Nat.le_trans (by first | exact HK.out.1 | exact (show Kept w _ (fun k_ => P0_ k_) from by repeat (first | (with_reducible first | exact HK.out | apply Kept.alloc | apply Kept.drewN | apply Kept.drew) | exact HK.out)).1) hk)), Kd.fresh' (Kd.R_lt (rR HO_0)) k_ hk⟩)); (case aO => exact (rR HO285)); (case aS => exact (qT bl)); (case aL => have := LMc15.out; omega); intro v291 w23 ho hb hg hat; rw [← Ny290.out] at ho; have HO292 := aM (ho); replace HB := aM (hb); replace HK := aM (Kept.qfB (S := (fun k_ => P0_ k_)) hg (by repeat (first | (with_reducible first | exact HK.out | apply Kept.alloc | apply Kept.drewN | apply Kept.drew) | exact HK.out)) (fun k_ e_ => (HO285.out.1 k_ e_).1)); replace HR279 := aM ((show Kd.C (Kd.int .i64) w23 (some ad271) y276.length y276 from by rw [Ny276.out]; exact Kd.qZB (m := (x5_1 : Int).toNat) ((Kd.qE (Kd.qEA (ok := (fun k_ => (P0_ k_ ∨ w.heap.size ≤ k_))) (rR HO_0) hg hat)).2.2) KL19.out)); replace HR289 := aM ((show Kd.C (Kd.int .i64) w23 A22 y286.length y286 from by rw [Ny286.out, KA22.out]; exact Kd.qgC (m := (x5_1 : Int).toNat) (c := co16) ((Kd.qE (Kd.qEA (ok := (fun k_ => (P0_ k_ ∨ w.heap.size ≤ k_))) (rR HO_0) hg hat)).2.2) KL22.out ((Kd.qE (Kd.qEA (ok := (fun k_ => (P0_ k_ ∨ w.heap.size ≤ k_))) (rR HO_0) hg hat)).2.1))); replace HO_0 := aM (Kd.qEA (ok := (fun k_ => (P0_ k_ ∨ w.heap.size ≤ k_))) (rR HO_0) hg hat); clear HO285; clear ho hb hg hat))
      go_ret
      exact ⟨_, sR, by (with_reducible repeat (first | apply Kd.qR | apply Kd.qU | apply Kd.qQ)); exact Kd.qY HO292.out (fun _ hk => hk.1), bl, by repeat (first | (with_reducible first | exact HK.out | apply Kept.alloc | apply Kept.drewN | apply Kept.drew) | exact HK.out)⟩
   ·rw [if_neg c3] at H
    have c3b0 := decide_eq_false c3
    clear c3
    replace H := bS H
    obtain ⟨y293, Ny293, H⟩ := H
    by_cases c24 : 0 ≤ x5_1
    ·rw [if_pos c24] at H
     have c24b0 := eq_true c24
     have c24b1 := decide_eq_true c24
     clear c24
     by_cases c25 : x5_1 ≤ (l0.length : Int)
     case neg => exact nN c25 H
     rw [if_pos c25] at H
     have c25b0 := eq_true c25
     have c25b1 := decide_eq_true c25
     clear c25
     replace H := bS H
     obtain ⟨y296, Ny296, H⟩ := H
     by_cases c26 : y293.length + y296.length < 17592186044416
     case neg => exact nN c26 H
     rw [if_pos c26] at H
     have LMc26 := aM c26
     clear c26
     replace H := bS H
     obtain ⟨y300, Ny300, H⟩ := H
     by_cases c27 : y300.length < 17592186044416
     case neg => exact nN c27 H
     rw [if_pos c27] at H
     have LMc27 := aM c27
     clear c27
     replace H := bS H
     obtain ⟨y303, Ny303, H⟩ := H
     have c28b0 := eq_true (of_decide_eq_true am : 0 ≤ x5_1)
     have c29b0 := eq_true (of_decide_eq_true am : x5_1 ≤ (l0.length : Int))
     replace H := bS H
     obtain ⟨y306, Ny306, H⟩ := H
     by_cases c30 : y303.length + y306.length < 17592186044416
     case neg => exact nN c30 H
     rw [if_pos c30] at H
     have LMc30 := aM c30
     clear c30
     obtain ⟨y310, hy310⟩ : ∃ y_ : List Int, y_ = (y303 ++ y306) := ⟨_, rfl⟩
     replace H : (some y310) = some r := by first | (rw [hy310]; with_reducible exact H) | (have H2_ := (Option.bind_some _ _).symm.trans H; rw [hy310]; with_reducible exact H2_) | (have H2_ := (Option.bind_some _ _).symm.trans H; with_reducible exact H2_) | with_reducible exact H | (rw [hy310]; exact H) | exact H
     have Ny310 := aM hy310
     clear hy310
     obtain rfl := Option.some.inj H
     obtain ⟨Ao31, co31, eo31⟩ := Kd.qi HO_0.out
     subst eo31
     go_wp2_with (first | ((with_reducible refine qN (N := 34) rfl ?_); refine Kd.R_lit (Kd.int .i64) _ 3 ?hg (N := 34) ?hd (xs := ([] : List Int)) (inner := []) (ok := fun _ => True) (okp := fun _ => True) ?hr ?hp (fun _ hk => hk) trivial (Below.refl _ _) (Nat.le_refl _) (by simp) ?_; (case hd => rfl); (case hg => rfl); (case hr => exact gS); (case hp => exact (Reps.none _ _)); intro v294 w32 ho33 hb hg_ hnew_; clear hg_ hnew_; (first | rw [← Ny293.out] at ho33 | (simp only [Int.reduceToNat] at ho33; rw [← Ny293.out] at ho33)); have HO295 := aM (Kd.qHA (Kd.qLB (Kd.R_newM (M := fun k_ => (P0_ k_ ∨ w.heap.size ≤ k_)) ho33 (by first | exact HK.out.1 | exact (show Kept w _ (fun k_ => P0_ k_) from by repeat (first | (with_reducible first | exact HK.out | apply Kept.alloc | apply Kept.drewN | apply Kept.drew) | exact HK.out)).1) (fun k_ h_ => .inr h_)) (Kd.R_lt (rR HO_0))) (qT bl)); replace HO_0 := aM (Kd.qYA (rR HO_0) (Kd.qMB ho33) hb); replace HK := aM (Kept.below (S := (fun k_ => P0_ k_)) (by repeat (first | (with_reducible first | exact HK.out | apply Kept.alloc | apply Kept.drewN | apply Kept.drew) | exact HK.out)) hb); replace HB := aM (qB bl hb); clear hb ho33; have q34 : (x5_1 : Int) ≤ ((l0.length : Int) : Int) := of_decide_eq_true am; obtain ⟨i034, hi034, _, hsz34, _⟩ := info_parts info3; have hroom34 : l0.length ≤ co31 := (Kd.qE HO_0.out).2.1; have hC34 : Kd.C (Kd.int .i64) _ Ao31 l0.length l0 := (Kd.qE HO_0.out).2.2; have hcut34 := qeD (P := Tryz.prog) 26 3 .i64 Tryz.underlying26 hi034 Ao31 l0.length co31 x5_1 (of_decide_eq_true am) q34 hroom34; have hr34 := Kd.qZB (m := (x5_1 : Int).toNat) hC34 (by omega); have hy34 : y296.length = (x5_1 : Int).toNat := (by rw [Ny296.out, List.length_take]; omega); rw [← Ny296.out] at hr34; rw [← hy34] at hcut34; have HR299 := aM hr34; have HC299 := aM (show y296.length ≤ co31 from by omega); clear hr34 hC34 hroom34 hi034 hsz34; have KY34 := aM hy34; clear hy34; have KL34 := aM (show (x5_1 : Int).toNat ≤ l0.length from by omega); replace q34 := eq_true q34) | ((with_reducible refine qdA (b := .append) (xs := #[.tmp 34, .tmp 37]) rfl ?_); at_builtin; refine Kd.qKB (Kd.int .i64) (w0 := w0) w0.heap.size rfl (.tmp 34) (.tmp 37) 26 3 (.int .i64 0) 8 rfl Tryz.underlying26 info3 rfl (by decide) (by omega) v294 y293 y296 _ _ _ (fun k_ => (P0_ k_ ∨ w.heap.size ≤ k_) ∧ some k_ ≠ (.slice Ao31 l0.length co31 : Value).ownBlock) (fun _ => False) rfl rfl ?aO ?aR (fun _ _ h => h) (fun _ h => h.elim) ?aF ?aB ?aS ?aL ?_; (case aR => repeat (first | exact (by repeat (first | (with_reducible exact HR299.out) | (with_reducible refine Kd.qc ?_ _) | (with_reducible refine Kd.qb ?_ _) | (with_reducible refine Kd.qu ?_) | exact HR299.out)) | (with_reducible refine Kd.qc ?_ _) | (with_reducible refine Kd.qb ?_ _) | (with_reducible refine Kd.qu ?_))); (case aB => exact bl); (case aF => exact (fun k_ hk => ⟨(.inr (Nat.le_trans (by first | exact HK.out.1 | exact (show Kept w _ (fun k_ => P0_ k_) from by repeat (first | (with_reducible first | exact HK.out | apply Kept.alloc | apply Kept.drewN | apply Kept.drew) | exact HK.out)).1) hk)), Kd.fresh' (Kd.R_lt (rR HO_0)) k_ hk⟩)); (case aO => exact (by (with_reducible repeat (first | apply Kd.qR | apply Kd.qU | apply Kd.qQ)); exact Kd.qY HO295.out (fun _ hk => ⟨hk.1.1, hk.2⟩))); (case aS => exact (qT bl)); (case aL => have := LMc26.out; omega); intro v301 w35 ho hb hg hat; rw [← Ny300.out] at ho; have HO302 := aM (ho); replace HB := aM (hb); replace HK := aM (Kept.qfB (S := (fun k_ => P0_ k_)) hg (by repeat (first | (with_reducible first | exact HK.out | apply Kept.alloc | apply Kept.drewN | apply Kept.drew) | exact HK.out)) (fun k_ e_ => (HO295.out.1 k_ e_).1.1)); replace HR299 := aM ((show Kd.C (Kd.int .i64) w35 Ao31 y296.length y296 from by rw [Ny296.out]; exact Kd.qZB (m := (x5_1 : Int).toNat) ((Kd.qE (Kd.qEA (ok := (fun k_ => (P0_ k_ ∨ w.heap.size ≤ k_))) (rR HO_0) hg hat)).2.2) KL34.out)); replace HO_0 := aM (Kd.qEA (ok := (fun k_ => (P0_ k_ ∨ w.heap.size ≤ k_))) (rR HO_0) hg hat); clear HO295; clear ho hb hg hat) | ((with_reducible refine qdA (b := .append) (xs := #[.tmp 39, .tmp 41]) rfl ?_); at_builtin; refine Kd.qYC (Kd.int .i64) (w0 := w0) w0.heap.size rfl (.tmp 39) (.tmp 41) 26 3 (.int .i64 0) 8 rfl Tryz.underlying26 info3 rfl (by decide) (by omega) v301 y300 a1 [.int .i64 a1] (fun k_ => (P0_ k_ ∨ w.heap.size ≤ k_) ∧ some k_ ≠ (.slice Ao31 l0.length co31 : Value).ownBlock) (fun _ => False) rfl rfl ?aP (fun _ hk => hk.elim) ?aF ?aO ?aB ?aS ?aL ?_; (case aP => exact rfl); (case aB => exact bl); (case aF => exact (fun k_ hk => ⟨(.inr (Nat.le_trans (by first | exact HK.out.1 | exact (show Kept w _ (fun k_ => P0_ k_) from by repeat (first | (with_reducible first | exact HK.out | apply Kept.alloc | apply Kept.drewN | apply Kept.drew) | exact HK.out)).1) hk)), Kd.fresh' (Kd.R_lt (rR HO_0)) k_ hk⟩)); (case aO => exact (rR HO302)); (case aS => exact (qT bl)); (case aL => have := LMc27.out; omega); intro v304 w36 ho hb hg hat; rw [← Ny303.out] at ho; have HO305 := aM (ho); replace HB := aM (hb); replace HK := aM (Kept.qfB (S := (fun k_ => P0_ k_)) hg (by repeat (first | (with_reducible first | exact HK.out | apply Kept.alloc | apply Kept.drewN | apply Kept.drew) | exact HK.out)) (fun k_ e_ => (HO302.out.1 k_ e_).1)); replace HR299 := aM ((show Kd.C (Kd.int .i64) w36 Ao31 y296.length y296 from by rw [Ny296.out]; exact Kd.qZB (m := (x5_1 : Int).toNat) ((Kd.qE (Kd.qEA (ok := (fun k_ => (P0_ k_ ∨ w.heap.size ≤ k_))) (rR HO_0) hg hat)).2.2) KL34.out)); replace HO_0 := aM (Kd.qEA (ok := (fun k_ => (P0_ k_ ∨ w.heap.size ≤ k_))) (rR HO_0) hg hat); clear HO302; clear ho hb hg hat; have q37 : (x5_1 : Int) ≤ ((l0.length : Int) : Int) := of_decide_eq_true am; obtain ⟨i037, hi037, _, hsz37, _⟩ := info_parts info3; have hroom37 : l0.length ≤ co31 := (Kd.qE HO_0.out).2.1; have hC37 : Kd.C (Kd.int .i64) _ Ao31 l0.length l0 := (Kd.qE HO_0.out).2.2; have q037 : (0 : Int) ≤ (x5_1 : Int) := of_decide_eq_true am; have hcut37 := qlC (P := Tryz.prog) 26 3 .i64 Tryz.underlying26 hi037 1 hsz37 Ao31 l0.length co31 x5_1 q037 q37; have hr37 := Kd.qgC (m := (x5_1 : Int).toNat) (c := co31) hC37 (by omega) hroom37; obtain ⟨A37, hA37⟩ : ∃ A1, A1 = (if co31 = (x5_1 : Int).toNat then Ao31 else (Ao31 : Option Addr).map (·.add ((x5_1 : Int).toNat * 1))) := ⟨_, rfl⟩; obtain ⟨c37, hc37⟩ : ∃ c1, c1 = co31 - (x5_1 : Int).toNat := ⟨_, rfl⟩; have hy37 : y306.length = l0.length - (x5_1 : Int).toNat := (by rw [Ny306.out, List.length_drop] <;> omega); rw [show (l0).drop (x5_1 : Int).toNat = y306 from Ny306.out.symm] at hr37; replace hr37 : Kd.C (Kd.int .i64) _ A37 y306.length y306 := (by rw [hA37]; exact hr37); rw [← hy37, ← hA37, ← hc37] at hcut37; have HR309 := aM hr37; have HC309 := aM (show y306.length ≤ c37 from by rw [hy37, hc37]; exact Nat.sub_le_sub_right hroom37 _); clear hr37 hC37 hroom37 hi037 hsz37 hc37; have KY37 := aM hy37; have KA37 := aM hA37; clear hy37 hA37; have KL37 := aM (show (x5_1 : Int).toNat ≤ l0.length from by omega); replace q37 := eq_true q37) | ((with_reducible refine qdA (b := .append) (xs := #[.tmp 43, .tmp 46]) rfl ?_); at_builtin; refine Kd.qKB (Kd.int .i64) (w0 := w0) w0.heap.size rfl (.tmp 43) (.tmp 46) 26 3 (.int .i64 0) 8 rfl Tryz.underlying26 info3 rfl (by decide) (by omega) v304 y303 y306 _ _ _ (fun k_ => (P0_ k_ ∨ w.heap.size ≤ k_) ∧ some k_ ≠ (.slice Ao31 l0.length co31 : Value).ownBlock) (fun _ => False) rfl rfl ?aO ?aR (fun _ _ h => h) (fun _ h => h.elim) ?aF ?aB ?aS ?aL ?_; (case aR => repeat (first | exact (by repeat (first | (with_reducible exact HR309.out) | (with_reducible refine Kd.qc ?_ _) | (with_reducible refine Kd.qb ?_ _) | (with_reducible refine Kd.qu ?_) | exact HR309.out)) | (with_reducible refine Kd.qc ?_ _) | (with_reducible refine Kd.qb ?_ _) | (with_reducible refine Kd.qu ?_))); (case aB => exact bl); (case aF => exact (fun k_ hk => ⟨(.inr (Nat.le_trans (by first | exact HK.out.1 | exact (show Kept w _ (fun k_ => P0_ k_) from by repeat (first | (with_reducible first | exact HK.out | apply Kept.alloc | apply Kept.drewN | apply Kept.drew) | exact HK.out)).1) hk)), Kd.fresh' (Kd.R_lt (rR HO_0)) k_ hk⟩)); (case aO => exact (rR HO305)); (case aS => exact (qT bl)); (case aL => have := LMc30.out; omega); intro v311 w38 ho hb hg hat; rw [← Ny310.out] at ho; have HO312 := aM (ho); replace HB := aM (hb); replace HK := aM (Kept.qfB (S := (fun k_ => P0_ k_)) hg (by repeat (first | (with_reducible first | exact HK.out | apply Kept.alloc | apply Kept.drewN | apply Kept.drew) | exact HK.out)) (fun k_ e_ => (HO305.out.1 k_ e_).1)); replace HR299 := aM ((show Kd.C (Kd.int .i64) w38 Ao31 y296.length y296 from by rw [Ny296.out]; exact Kd.qZB (m := (x5_1 : Int).toNat) ((Kd.qE (Kd.qEA (ok := (fun k_ => (P0_ k_ ∨ w.heap.size ≤ k_))) (rR HO_0) hg hat)).2.2) KL34.out)); replace HR309 := aM ((show Kd.C (Kd.int .i64) w38 A37 y306.length y306 from by rw [Ny306.out, KA37.out]; exact Kd.qgC (m := (x5_1 : Int).toNat) (c := co31) ((Kd.qE (Kd.qEA (ok := (fun k_ => (P0_ k_ ∨ w.heap.size ≤ k_))) (rR HO_0) hg hat)).2.2) KL37.out ((Kd.qE (Kd.qEA (ok := (fun k_ => (P0_ k_ ∨ w.heap.size ≤ k_))) (rR HO_0) hg hat)).2.1))); replace HO_0 := aM (Kd.qEA (ok := (fun k_ => (P0_ k_ ∨ w.heap.size ≤ k_))) (rR HO_0) hg hat); clear HO305; clear ho hb hg hat))
     go_ret
     exact ⟨_, sR, by (with_reducible repeat (first | apply Kd.qR | apply Kd.qU | apply Kd.qQ)); exact Kd.qY HO312.out (fun _ hk => hk.1), bl, by repeat (first | (with_reducible first | exact HK.out | apply Kept.alloc | apply Kept.drewN | apply Kept.drew) | exact HK.out)⟩
    ·rw [if_neg c24] at H
     exact absurd H (by simp)
def qKA.l0 : Nat → List Int → List (S29) → Int → Int → Option (List Int × Bool)
 | 0, _, _, _, _ => none
 | k + 1, x12, x28, x29, x30 => if x30 < x29 then (if 0 ≤ x30 then (if x30 < (x28.length : Int) then ((qXA.f k x12 ((qZ x28 x30).f0)).bind fun t323 => (if t323 = true then (qKA.l0 k x12 x28 x29 (wrap64 (x30 + 1))) else ((qZA.f k x12 ((qZ x28 x30).f0)).bind fun t324 => (qKA.l0 k t324 x28 x29 (wrap64 (x30 + 1)))))) else (none)) else (none)) else (some (x12, true))
def qKA.f (k : Nat) (a0 : ByteArray) (a1_0 : Int) (a1_1 : Int) (a1_2 : Int) (a1_3 : Int) (a1_4 : Int) (a1_5 : Int) (a1_6 : Int) (a1_7 : Int) (a2 : Int) (a3 : Int) : Option (List Int × Bool) := (qCB.f k a0 a1_0 a1_1 a1_2 a1_3 a1_4 a1_5 a1_6 a1_7 a2 a3).bind fun bt314 => (if bt314.2 = true then ((qM.f k bt314.1 a2 a3).bind fun t318 => (qKA.l0 k ([] : List Int) t318 (t318.length : Int) 0)) else (some (([] : List Int), false)))
set_option maxHeartbeats 8000000 in
set_option maxRecDepth 100000 in
theorem qKA.calls (k : Nat) (a0 : ByteArray) (a1_0 : Int) (a1_1 : Int) (a1_2 : Int) (a1_3 : Int) (a1_4 : Int) (a1_5 : Int) (a1_6 : Int) (a1_7 : Int) (a2 : Int) (a3 : Int) (r1 : List Int) (r2 : Bool) (w : World) (h : qKA.f k a0 a1_0 a1_1 a1_2 a1_3 a1_4 a1_5 a1_6 a1_7 a2 a3 = some (r1, r2)) :
  Calls Tryz.prog 5 #[.string a0, .agg #[.int .i64 a1_0, .int .i64 a1_1, .int .i64 a1_2, .int .i64 a1_3, .int .i64 a1_4, .int .i64 a1_5, .int .i64 a1_6, .int .i64 a1_7], .int .i64 a2, .int .i64 a3] w fun e w' => ∃ v0_ : Value, e = .returned (.tuple #[v0_, .bool r2]) ∧ Kd.R (Kd.int .i64) 3 w' w.heap.size (fun _ => True) v0_ r1 ∧ Below w.heap.size w w' := by
 have hu31 := Tryz.underlying31
 have hu29 := Tryz.underlying29
 have HB := aM (Below.refl w.heap.size w)
 have H : ((qCB.f k a0 a1_0 a1_1 a1_2 a1_3 a1_4 a1_5 a1_6 a1_7 a2 a3).bind fun bt314 => (if bt314.2 = true then ((qM.f k bt314.1 a2 a3).bind fun t318 => (qKA.l0 k ([] : List Int) t318 (t318.length : Int) 0)) else (some (([] : List Int), false)))) = some (r1, r2) := h
 clear h
 replace H := bO H
 obtain ⟨⟨t314, t317⟩, A5, H⟩ := H
 dsimp only at H A5
 by_cases c6 : t317 = true
 ·subst c6
  replace H := iT H
  replace H := bO H
  obtain ⟨t318, A7, H⟩ := H
  have H' := aM H
  clear H
  go_enter Tryz.func5, Tryz.ntmps5
  go_wp2_with (first | ((with_reducible refine qN (N := 5) rfl ?_); refine bE (N := 5) (cs := #[.int .i64 a1_0, .int .i64 a1_1, .int .i64 a1_2, .int .i64 a1_3, .int .i64 a1_4, .int .i64 a1_5, .int .i64 a1_6, .int .i64 a1_7]) (t := 31) ?_; intro gb313 hg w8 hbox hb; have BK313 := aM (hbox); have GW313 := aM ((gg hg)); have GE313 := aM ((gg hg)); replace HB := aM (qB bl hb); clear hb hbox hg; (refine cb8 BK313 ?_; intro hcz9_0 hcz9_1 hcz9_2 hcz9_3 hcz9_4 hcz9_5 hcz9_6 hcz9_7); (refine cz8 BK313 ?_; intro hfz9_0 hfz9_1 hfz9_2 hfz9_3 hfz9_4 hfz9_5 hfz9_6 hfz9_7)) | ((with_reducible refine qF (f := 16) rfl ?_); refine qh (some 20) rfl rfl Tryz.func16 (by kernel_rfl) rfl #[.string a0, .agg #[.int .i64 a1_0, .int .i64 a1_1, .int .i64 a1_2, .int .i64 a1_3, .int .i64 a1_4, .int .i64 a1_5, .int .i64 a1_6, .int .i64 a1_7], .int .i64 a2, .int .i64 a3] rfl gA ?_; (with_reducible refine (qCB.calls k a0 a1_0 a1_1 a1_2 a1_3 a1_4 a1_5 a1_6 a1_7 a2 a3 t314 true _ A5.out).mono ?_); rintro e w10 ⟨v315, rfl, ho0, hb⟩; refine ⟨_, rfl, ?_⟩; have HO316 := aM (Kd.qHA ho0 (qT bl)); replace BK313 := aM (bb BK313 hb); replace HB := aM (qB bl hb); (try clear hb); (try clear hb2); (try clear hk); (try clear hi); (try clear ho0); obtain ⟨Ao11, co11, eo11⟩ := Kd.qi HO316.out; subst eo11) | ((with_reducible refine qF (f := 17) rfl ?_); refine qh (some 28) rfl rfl Tryz.func17 (by kernel_rfl) rfl #[.slice Ao11 t314.length co11, .int .i64 a2, .int .i64 a3] rfl gA ?_; (with_reducible refine (qM.calls k _ _ t314 a2 a3 t318 _ ?side1 ?side2 A7.out).mono ?_); (case side1 => repeat (first | exact (Kd.qE HO316.out).2.2 | (with_reducible refine Kd.qc ?_ _) | (with_reducible refine Kd.qb ?_ _) | (with_reducible refine Kd.qu ?_))); (case side2 => exact (Kd.qE HO316.out).2.1); rintro e w12 ⟨v319, rfl, ho0, hb⟩; refine ⟨_, rfl, ?_⟩; have HO320 := aM (Kd.qHA ho0 (qT bl)); replace HO316 := aM (Kd.qj (rR HO316) hb); replace BK313 := aM (bb BK313 hb); replace HB := aM (qB bl hb); (try clear hb); (try clear hb2); (try clear hk); (try clear hi); (try clear ho0); obtain ⟨Ao13, co13, eo13⟩ := Kd.qi HO320.out; subst eo13))
  go_loopg [12, 30] k (fun kq v12 v30 w' => ∃ (x12_1 : List Int) (x30_1 : Int), v30 = .int .i64 x30_1 ∧ Aside0 (qKA.l0 kq x12_1 t318 (t318.length : Int) x30_1 = some (r1, r2)) ∧ Aside0 (kq ≤ k) ∧ Aside0 (Kd.R (Kd.int .i64) 3 w' w.heap.size (fun _ => True) v12 x12_1) ∧ Aside0 (Kd.R k29 29 w' w.heap.size (fun _ => True) (.slice Ao13 t318.length co13) t318) ∧ Aside0 (w'.heap[gb313]? = some (.cells #[.int .i64 a1_0, .int .i64 a1_1, .int .i64 a1_2, .int .i64 a1_3, .int .i64 a1_4, .int .i64 a1_5, .int .i64 a1_6, .int .i64 a1_7] 31 (0, 0))) ∧ Aside0 (Below w.heap.size w w'))
  case atStart => exact ⟨(([] : List Int)), (0), sD, H', ⟨Nat.le_refl _⟩, ⟨nK⟩, ⟨rR HO320⟩, ⟨rB BK313⟩, ⟨bl⟩⟩
  case round =>
   clear H'; (try clear c1); (try clear p2); (try clear c5); (try clear c6); (try clear hcz9_0 hcz9_1 hcz9_2 hcz9_3 hcz9_4 hcz9_5 hcz9_6 hcz9_7); (try clear hfz9_0 hfz9_1 hfz9_2 hfz9_3 hfz9_4 hfz9_5 hfz9_6 hfz9_7)
   obtain ⟨x12_1, x30_1, rfl, HA, HK1, HO_12, HO_28, BK313, HB⟩ := hrel
   cases gk with
   | zero => exact absurd HA.out (by simp [qKA.l0])
   | succ k1 =>
    have H := HA.out
    clear HA
    simp only [qKA.l0] at H
    by_cases c14 : x30_1 < (t318.length : Int)
    ·rw [if_pos c14] at H
     have c14b0 := decide_eq_true c14
     clear c14
     by_cases c15 : 0 ≤ x30_1
     case neg => exact nN c15 H
     rw [if_pos c15] at H
     have c15b0 := decide_eq_true c15
     clear c15
     by_cases c16 : x30_1 < (t318.length : Int)
     case neg => exact nN c16 H
     rw [if_pos c16] at H
     have c16b0 := decide_eq_true c16
     clear c16
     replace H := bO H
     obtain ⟨t323, A17, H⟩ := H
     by_cases c18 : t323 = true
     ·subst c18
      replace H := iT H
      have H' := aM H
      clear H
      have p321 : 0 ≤ (x30_1 : Int) := of_decide_eq_true am
      have q321 : x30_1 < (t318.length : Int) := of_decide_eq_true am
      obtain ⟨ad321, e321, hx321_0, hx321_1, hx321_2, hx321_3, hx321_4, hx321_5⟩ := qPD (Kd.qE HO_28.out).2.2 x30_1 p321 q321
      cases e321
      replace p321 := eq_true p321
      replace q321 := eq_true q321
      go_wp2_with (first | ((with_reducible refine qN (N := 14) rfl ?_); refine bE (N := 14) (cs := #[.int .i64 0, .int .i64 0, .int .i64 0, .int .i64 0, .int .i64 0, .int .i64 0]) (t := 29) ?_; intro gb322 hg w19 hbox hb; have BK322 := aM (hbox); have GW322 := aM ((gg hg)); have GE322 := aM ((gg hg)); have NB313_322 := aM ((nl BK313 hg)); have NB322_313 := aM ((nr BK313 hg)); replace HO_12 := aM (Kd.qj (rR HO_12) hb); replace HO_28 := aM (Kd.qj (Kd.R_elderB (rR HO_28) gb322 (Nat.le_of_eq hg.symm)) hb); replace BK313 := aM (bb BK313 hb); replace HB := aM (qB bl hb); clear hb hbox hg; have hnb20 := NB322_313.out; have hnc20 := NB313_322.out; (refine cb6 BK322 ?_; intro _ _ _ _ _ _); (refine cz6 BK322 ?_; intro _ _ _ _ _ _); obtain ⟨Ao22, co22, eo22⟩ := Kd.qi HO_12.out; subst eo22) | ((with_reducible refine qF (f := 18) rfl ?_); refine qh (some 37) rfl rfl Tryz.func18 (by kernel_rfl) rfl #[.slice Ao22 x12_1.length co22, .int .i64 ((qZ t318 x30_1).f0)] rfl gA ?_; (with_reducible refine (qXA.calls k1 _ _ x12_1 ((qZ t318 x30_1).f0) true _ ?side1 ?side2 A17.out).mono ?_); (case side1 => refine (Kd.qE (e := 3) (base := w.heap.size) (ok := fun k_ => True) (n := x12_1.length) (c := co22) ?_).2.2; exact (by (with_reducible repeat (first | apply Kd.qR | apply Kd.qU | apply Kd.qQ)); exact (Kd.qY (Kd.R_far (p := ⟨gb322, 5, none⟩) (Kd.R_far (p := ⟨gb322, 4, none⟩) (Kd.R_far (p := ⟨gb322, 3, none⟩) (Kd.R_far (p := ⟨gb322, 2, none⟩) (Kd.R_far (p := ⟨gb322, 1, none⟩) (Kd.R_far (p := ⟨gb322, 0, none⟩) (Kd.qlA HO_12.out BK322.out (by decide)) (fun _ hk => hk.2) (.int .i64 ((qZ t318 x30_1).f0))) (fun _ hk => hk.2) (.int .i64 ((qZ t318 x30_1).f1))) (fun _ hk => hk.2) (.int .i64 ((qZ t318 x30_1).f2))) (fun _ hk => hk.2) (.int .i64 ((qZ t318 x30_1).f3))) (fun _ hk => hk.2) (.int .i64 ((qZ t318 x30_1).f4))) (fun _ hk => hk.2) (.int .i64 ((qZ t318 x30_1).f5))) (fun _ h_ => h_.1)))); (case side2 => exact (Kd.qE HO_12.out).2.1); rintro e w' ⟨rfl, ⟨nd, rfl⟩⟩; refine ⟨_, rfl, ?_⟩))
      go_roundg k1
      case measure => have := HK1.out; omega
      case rel => exact ⟨(x12_1), (wrap64 (x30_1 + 1)), sD, H', ⟨by have := HK1.out; omega⟩, ⟨by (with_reducible repeat (first | apply Kd.qR | apply Kd.qU | apply Kd.qQ)); exact Kd.qY (Kd.R_far (p := ⟨gb322, 5, none⟩) (Kd.R_far (p := ⟨gb322, 4, none⟩) (Kd.R_far (p := ⟨gb322, 3, none⟩) (Kd.R_far (p := ⟨gb322, 2, none⟩) (Kd.R_far (p := ⟨gb322, 1, none⟩) (Kd.R_far (p := ⟨gb322, 0, none⟩) (Kd.qlA HO_12.out BK322.out (by decide)) (fun _ hk => hk.2) (.int .i64 ((qZ t318 x30_1).f0))) (fun _ hk => hk.2) (.int .i64 ((qZ t318 x30_1).f1))) (fun _ hk => hk.2) (.int .i64 ((qZ t318 x30_1).f2))) (fun _ hk => hk.2) (.int .i64 ((qZ t318 x30_1).f3))) (fun _ hk => hk.2) (.int .i64 ((qZ t318 x30_1).f4))) (fun _ hk => hk.2) (.int .i64 ((qZ t318 x30_1).f5))) (fun _ hk => trivial)⟩, ⟨by (with_reducible repeat (first | apply Kd.qR | apply Kd.qU | apply Kd.qQ)); exact Kd.qY (Kd.R_far (p := ⟨gb322, 5, none⟩) (Kd.R_far (p := ⟨gb322, 4, none⟩) (Kd.R_far (p := ⟨gb322, 3, none⟩) (Kd.R_far (p := ⟨gb322, 2, none⟩) (Kd.R_far (p := ⟨gb322, 1, none⟩) (Kd.R_far (p := ⟨gb322, 0, none⟩) (Kd.qY HO_28.out (fun k_ hk => (⟨hk, hk.2⟩ : _ ∧ k_ ≠ gb322))) (fun _ hk => hk.2) (.int .i64 ((qZ t318 x30_1).f0))) (fun _ hk => hk.2) (.int .i64 ((qZ t318 x30_1).f1))) (fun _ hk => hk.2) (.int .i64 ((qZ t318 x30_1).f2))) (fun _ hk => hk.2) (.int .i64 ((qZ t318 x30_1).f3))) (fun _ hk => hk.2) (.int .i64 ((qZ t318 x30_1).f4))) (fun _ hk => hk.2) (.int .i64 ((qZ t318 x30_1).f5))) (fun _ hk => trivial)⟩, ⟨bF BK313 NB313_322⟩, ⟨bl⟩⟩
     ·replace c18 := Bool.eq_false_iff.mpr c18
      subst c18
      replace H := iF H
      replace H := bO H
      obtain ⟨t324, A23, H⟩ := H
      have H' := aM H
      clear H
      have p321 : 0 ≤ (x30_1 : Int) := of_decide_eq_true am
      have q321 : x30_1 < (t318.length : Int) := of_decide_eq_true am
      obtain ⟨ad321, e321, hx321_0, hx321_1, hx321_2, hx321_3, hx321_4, hx321_5⟩ := qPD (Kd.qE HO_28.out).2.2 x30_1 p321 q321
      cases e321
      replace p321 := eq_true p321
      replace q321 := eq_true q321
      go_wp2_with (first | ((with_reducible refine qN (N := 14) rfl ?_); refine bE (N := 14) (cs := #[.int .i64 0, .int .i64 0, .int .i64 0, .int .i64 0, .int .i64 0, .int .i64 0]) (t := 29) ?_; intro gb322 hg w24 hbox hb; have BK322 := aM (hbox); have GW322 := aM ((gg hg)); have GE322 := aM ((gg hg)); have NB313_322 := aM ((nl BK313 hg)); have NB322_313 := aM ((nr BK313 hg)); replace HO_12 := aM (Kd.qj (rR HO_12) hb); replace HO_28 := aM (Kd.qj (Kd.R_elderB (rR HO_28) gb322 (Nat.le_of_eq hg.symm)) hb); replace BK313 := aM (bb BK313 hb); replace HB := aM (qB bl hb); clear hb hbox hg; have hnb25 := NB322_313.out; have hnc25 := NB313_322.out; (refine cb6 BK322 ?_; intro _ _ _ _ _ _); (refine cz6 BK322 ?_; intro _ _ _ _ _ _)) | ((with_reducible refine qyA (t := 29) (p := 14) rfl ?_); refine qBB (t := 29) (p := 14) (v := ?vo_w27) (w1 := ((((((w24.setCell ⟨gb322, 0, none⟩ (.int .i64 ((qZ t318 x30_1).f0))).setCell ⟨gb322, 1, none⟩ (.int .i64 ((qZ t318 x30_1).f1))).setCell ⟨gb322, 2, none⟩ (.int .i64 ((qZ t318 x30_1).f2))).setCell ⟨gb322, 3, none⟩ (.int .i64 ((qZ t318 x30_1).f3))).setCell ⟨gb322, 4, none⟩ (.int .i64 ((qZ t318 x30_1).f4))).setCell ⟨gb322, 5, none⟩ (.int .i64 ((qZ t318 x30_1).f5)))) ?hg ?ho ?hn ?hr ?_; (case ho => rfl); (case hg => rfl); (case hn => rfl); (case hr => exact gS); intro w27 hw; have n0_ : Aside0 (Kd.R (Kd.int .i64) 3 w27 w.heap.size (fun _ => True) u12 x12_1) := ⟨(by rw [hw]; exact (by (with_reducible repeat (first | apply Kd.qR | apply Kd.qU | apply Kd.qQ)); exact Kd.qY (Kd.R_far (p := ⟨gb322, 5, none⟩) (Kd.R_far (p := ⟨gb322, 4, none⟩) (Kd.R_far (p := ⟨gb322, 3, none⟩) (Kd.R_far (p := ⟨gb322, 2, none⟩) (Kd.R_far (p := ⟨gb322, 1, none⟩) (Kd.R_far (p := ⟨gb322, 0, none⟩) (Kd.qlA HO_12.out BK322.out (by decide)) (fun _ hk => hk.2) (.int .i64 ((qZ t318 x30_1).f0))) (fun _ hk => hk.2) (.int .i64 ((qZ t318 x30_1).f1))) (fun _ hk => hk.2) (.int .i64 ((qZ t318 x30_1).f2))) (fun _ hk => hk.2) (.int .i64 ((qZ t318 x30_1).f3))) (fun _ hk => hk.2) (.int .i64 ((qZ t318 x30_1).f4))) (fun _ hk => hk.2) (.int .i64 ((qZ t318 x30_1).f5))) (fun _ hk => trivial)))⟩; have n1_ : Aside0 (Kd.R k29 29 w27 w.heap.size (fun k_ => k_ ≠ gb322) (.slice (some ad321) t318.length co13) t318) := ⟨(by rw [hw]; exact (by (with_reducible repeat (first | apply Kd.qR | apply Kd.qU | apply Kd.qQ)); exact Kd.qY (Kd.R_far (p := ⟨gb322, 5, none⟩) (Kd.R_far (p := ⟨gb322, 4, none⟩) (Kd.R_far (p := ⟨gb322, 3, none⟩) (Kd.R_far (p := ⟨gb322, 2, none⟩) (Kd.R_far (p := ⟨gb322, 1, none⟩) (Kd.R_far (p := ⟨gb322, 0, none⟩) (Kd.qY HO_28.out (fun k_ hk => (⟨hk, hk.2⟩ : _ ∧ k_ ≠ gb322))) (fun _ hk => hk.2) (.int .i64 ((qZ t318 x30_1).f0))) (fun _ hk => hk.2) (.int .i64 ((qZ t318 x30_1).f1))) (fun _ hk => hk.2) (.int .i64 ((qZ t318 x30_1).f2))) (fun _ hk => hk.2) (.int .i64 ((qZ t318 x30_1).f3))) (fun _ hk => hk.2) (.int .i64 ((qZ t318 x30_1).f4))) (fun _ hk => hk.2) (.int .i64 ((qZ t318 x30_1).f5))) (fun _ hk => hk.1.2)))⟩; have n2_ : Aside0 (w27.heap[gb313]? = some (.cells #[.int .i64 a1_0, .int .i64 a1_1, .int .i64 a1_2, .int .i64 a1_3, .int .i64 a1_4, .int .i64 a1_5, .int .i64 a1_6, .int .i64 a1_7] 31 (0, 0))) := ⟨(by rw [hw]; exact (bF BK313 NB313_322))⟩; have n3_ : Aside0 (w27.heap[gb322]? = some (.cells #[.int .i64 ((qZ t318 x30_1).f0), .int .i64 ((qZ t318 x30_1).f1), .int .i64 ((qZ t318 x30_1).f2), .int .i64 ((qZ t318 x30_1).f3), .int .i64 ((qZ t318 x30_1).f4), .int .i64 ((qZ t318 x30_1).f5)] 29 (0, 0))) := ⟨(by rw [hw]; exact (by (with_reducible repeat (first | refine qL ?_ _ | refine qH ?_ | refine qK ?_ _)); exact bP6 BK322))⟩; have n4_ : Aside0 (Below w.heap.size w w27) := ⟨(by rw [hw]; exact bl)⟩; clear hw; clear HO_12; clear HO_28; clear BK313; clear BK322; clear HB; have HO_12 := n0_; have HO_28 := n1_; have BK313 := n2_; have BK322 := n3_; have HB := n4_; clear n0_ n1_ n2_ n3_ n4_; (refine cb6 BK322 ?_; intro _ _ _ _ _ _); (refine cz6 BK322 ?_; intro _ _ _ _ _ _); obtain ⟨Ao29, co29, eo29⟩ := Kd.qi HO_12.out; subst eo29) | ((with_reducible refine qF (f := 18) rfl ?_); refine qh (some 37) rfl rfl Tryz.func18 (by kernel_rfl) rfl #[.slice Ao29 x12_1.length co29, .int .i64 ((qZ t318 x30_1).f0)] rfl gA ?_; (with_reducible refine (qXA.calls k1 _ _ x12_1 ((qZ t318 x30_1).f0) false _ ?side1 ?side2 A17.out).mono ?_); (case side1 => repeat (first | exact (Kd.qE HO_12.out).2.2 | (with_reducible refine Kd.qc ?_ _) | (with_reducible refine Kd.qb ?_ _) | (with_reducible refine Kd.qu ?_))); (case side2 => exact (Kd.qE HO_12.out).2.1); rintro e w' ⟨rfl, ⟨nd, rfl⟩⟩; refine ⟨_, rfl, ?_⟩) | ((with_reducible refine qF (f := 19) rfl ?_); refine qh (some 42) rfl rfl Tryz.func19 (by kernel_rfl) rfl #[.slice Ao29 x12_1.length co29, .int .i64 ((qZ t318 x30_1).f0)] rfl gA ?_; (with_reducible refine (qZA.calls k1 (fun k_ => some k_ = (.slice Ao29 x12_1.length co29 : Value).ownBlock) (.slice Ao29 x12_1.length co29) x12_1 ((qZ t318 x30_1).f0) t324 w _ ?side1 ?side2 A23.out).mono ?_); (case side1 => repeat (first | (with_reducible first | exact HB.out | apply qQA | apply qVA | apply qm | refine qw ?_ GE313.out | refine qw ?_ GE322.out) | exact HB.out)); (case side2 => exact Kd.qSC rfl HO_12.out); rintro e w30 ⟨v325, rfl, ho0, hb, hkp⟩; refine ⟨_, rfl, ?_⟩; have HO326 := aM (Kd.qY (ok' := fun k_ => True) ho0 (fun k_ hk_ => trivial)); replace HO_28 := aM (Kd.qY (ok' := fun k_ => k_ ≠ gb322) (Kd.qKD ((Kd.qMD HO_28.out (Kd.qeA HO_12.out) (by decide))) hkp (fun k_ hk_ hs_ => (hk_.2) hs_)) (fun k_ hk_ => hk_.1.1)); replace BK313 := aM (qXC (rB BK313) hkp (fun hs_ => (fun e_ => (Kd.R_ne HO_12.out BK313.out (by decide)) e_) hs_)); replace BK322 := aM (qXC (rB BK322) hkp (fun hs_ => (fun e_ => (Kd.R_ne HO_12.out BK322.out (by decide)) e_) hs_)); replace HB := aM (hb); clear HO_12; (try clear hb); (try clear hkp); (try clear ho0)))
      go_roundg k1
      case measure => have := HK1.out; omega
      case rel => exact ⟨(t324), (wrap64 (x30_1 + 1)), sD, H', ⟨by have := HK1.out; omega⟩, ⟨rR HO326⟩, ⟨by (with_reducible repeat (first | apply Kd.qR | apply Kd.qU | apply Kd.qQ)); exact Kd.qY HO_28.out (fun _ hk => trivial)⟩, ⟨rB BK313⟩, ⟨bl⟩⟩
    ·rw [if_neg c14] at H
     have c14b0 := decide_eq_false c14
     clear c14
     simp only [Option.some.injEq, Prod.mk.injEq] at H
     obtain ⟨rfl, rfl⟩ := H
     go_wp2
     go_ret2
     exact ⟨_, sR, by (with_reducible repeat (first | apply Kd.qR | apply Kd.qU | apply Kd.qQ)); exact HO_12.out, bl⟩
 ·replace c6 := Bool.eq_false_iff.mpr c6
  subst c6
  replace H := iF H
  simp only [Option.some.injEq, Prod.mk.injEq] at H
  obtain ⟨rfl, rfl⟩ := H
  go_enter Tryz.func5, Tryz.ntmps5
  go_wp2_with (first | ((with_reducible refine qN (N := 5) rfl ?_); refine bE (N := 5) (cs := #[.int .i64 a1_0, .int .i64 a1_1, .int .i64 a1_2, .int .i64 a1_3, .int .i64 a1_4, .int .i64 a1_5, .int .i64 a1_6, .int .i64 a1_7]) (t := 31) ?_; intro gb313 hg w31 hbox hb; have BK313 := aM (hbox); have GW313 := aM ((gg hg)); have GE313 := aM ((gg hg)); replace HB := aM (qB bl hb); clear hb hbox hg; (refine cb8 BK313 ?_; intro _ _ _ _ _ _ _ _); (refine cz8 BK313 ?_; intro _ _ _ _ _ _ _ _)) | ((with_reducible refine qF (f := 16) rfl ?_); refine qh (some 20) rfl rfl Tryz.func16 (by kernel_rfl) rfl #[.string a0, .agg #[.int .i64 a1_0, .int .i64 a1_1, .int .i64 a1_2, .int .i64 a1_3, .int .i64 a1_4, .int .i64 a1_5, .int .i64 a1_6, .int .i64 a1_7], .int .i64 a2, .int .i64 a3] rfl gA ?_; (with_reducible refine (qCB.calls k a0 a1_0 a1_1 a1_2 a1_3 a1_4 a1_5 a1_6 a1_7 a2 a3 t314 false _ A5.out).mono ?_); rintro e w33 ⟨v315, rfl, ho0, hb⟩; refine ⟨_, rfl, ?_⟩; have HO316 := aM (Kd.qHA ho0 (qT bl)); replace BK313 := aM (bb BK313 hb); replace HB := aM (qB bl hb); (try clear hb); (try clear hb2); (try clear hk); (try clear hi); (try clear ho0)))
  go_ret2
  exact ⟨_, sR, nK, bl⟩
def qkB.f (a0_0 : Int) (a0_1 : Int) (a0_2 : Int) (a0_3 : Int) (a0_4 : Int) (a0_5 : Int) : Option (Int × Int × Int × Int × Int × Int) := some (a0_0, a0_1, a0_2, a0_3, a0_4, a0_5)
set_option maxHeartbeats 8000000 in
set_option maxRecDepth 100000 in
theorem qkB.calls (a0_0 : Int) (a0_1 : Int) (a0_2 : Int) (a0_3 : Int) (a0_4 : Int) (a0_5 : Int) (r1 : Int) (r2 : Int) (r3 : Int) (r4 : Int) (r5 : Int) (r6 : Int) (w : World) (h : qkB.f a0_0 a0_1 a0_2 a0_3 a0_4 a0_5 = some (r1, r2, r3, r4, r5, r6)) :
  Calls Tryz.prog 20 #[.agg #[.int .i64 a0_0, .int .i64 a0_1, .int .i64 a0_2, .int .i64 a0_3, .int .i64 a0_4, .int .i64 a0_5]] w fun e w' => e = .returned (.agg #[.int .i64 r1, .int .i64 r2, .int .i64 r3, .int .i64 r4, .int .i64 r5, .int .i64 r6]) ∧ Below w.heap.size w w' := by
 have hu23 := Tryz.underlying23
 have hu29 := Tryz.underlying29
 have HB := aM (Below.refl w.heap.size w)
 have H : (some (a0_0, a0_1, a0_2, a0_3, a0_4, a0_5)) = some (r1, r2, r3, r4, r5, r6) := h
 clear h
 simp only [Option.some.injEq, Prod.mk.injEq] at H
 obtain ⟨rfl, rfl, rfl, rfl, rfl, rfl⟩ := H
 go_enter Tryz.func20, Tryz.ntmps20
 go_wp2_with (first | ((with_reducible refine qN (N := 1) rfl ?_); refine bE (N := 1) (cs := #[.int .i64 a0_0, .int .i64 a0_1, .int .i64 a0_2, .int .i64 a0_3, .int .i64 a0_4, .int .i64 a0_5]) (t := 23) ?_; intro gb327 hg w2 hbox hb; have BK327 := aM (hbox); have GW327 := aM ((gg hg)); have GE327 := aM ((gg hg)); replace HB := aM (qB bl hb); clear hb hbox hg) | ((with_reducible refine qN (N := 2) rfl ?_); refine bE (N := 2) (cs := #[.int .i64 0, .int .i64 0, .int .i64 0, .int .i64 0, .int .i64 0, .int .i64 0]) (t := 29) ?_; intro gb328 hg w3 hbox hb; have BK328 := aM (hbox); have GW328 := aM ((gg hg)); have GE328 := aM ((gg hg)); have NB327_328 := aM ((nl BK327 hg)); have NB328_327 := aM ((nr BK327 hg)); replace BK327 := aM (bb BK327 hb); replace HB := aM (qB bl hb); clear hb hbox hg) | ((with_reducible refine qN (N := 3) rfl ?_); refine bE (N := 3) (cs := #[.int .i64 0, .int .i64 0, .int .i64 0, .int .i64 0, .int .i64 0, .int .i64 0]) (t := 29) ?_; intro gb329 hg w4 hbox hb; have BK329 := aM (hbox); have GW329 := aM ((gg hg)); have GE329 := aM ((gg hg)); have NB327_329 := aM ((nl BK327 hg)); have NB329_327 := aM ((nr BK327 hg)); have NB328_329 := aM ((nl BK328 hg)); have NB329_328 := aM ((nr BK328 hg)); replace BK327 := aM (bb BK327 hb); replace BK328 := aM (bb BK328 hb); replace HB := aM (qB bl hb); clear hb hbox hg; have hnb5 := NB327_328.out; have hnc5 := NB328_327.out; have hnb6 := NB327_329.out; have hnc6 := NB329_327.out; (refine cb6 BK327 ?_; intro _ _ _ _ _ _); (refine cz6 BK327 ?_; intro _ _ _ _ _ _); have hnb8 := NB329_328.out; have hnc8 := NB328_329.out; (refine cb6 BK329 ?_; intro _ _ _ _ _ _); (refine cz6 BK329 ?_; intro _ _ _ _ _ _); (refine cb6 BK328 ?_; intro _ _ _ _ _ _); (refine cz6 BK328 ?_; intro _ _ _ _ _ _)))
 refine bodyPost_ret (results_cell_row rfl _ _ gb328 29 #[.int .i64 a0_0, .int .i64 a0_1, .int .i64 a0_2, .int .i64 a0_3, .int .i64 a0_4, .int .i64 a0_5] (0, 0) _ rfl (by (with_reducible repeat (first | refine qL ?_ _ | refine qH ?_ | refine qK ?_ _)); refine qr (cs := #[.int .i64 a0_0, .int .i64 a0_1, .int .i64 a0_2, .int .i64 a0_3, .int .i64 a0_4, .int .i64 0]) ?_ 5 _ rfl; (with_reducible repeat (first | refine qL ?_ _ | refine qH ?_ | refine qK ?_ _)); refine qr (cs := #[.int .i64 a0_0, .int .i64 a0_1, .int .i64 a0_2, .int .i64 a0_3, .int .i64 0, .int .i64 0]) ?_ 4 _ rfl; (with_reducible repeat (first | refine qL ?_ _ | refine qH ?_ | refine qK ?_ _)); refine qr (cs := #[.int .i64 a0_0, .int .i64 a0_1, .int .i64 a0_2, .int .i64 0, .int .i64 0, .int .i64 0]) ?_ 3 _ rfl; (with_reducible repeat (first | refine qL ?_ _ | refine qH ?_ | refine qK ?_ _)); refine qr (cs := #[.int .i64 a0_0, .int .i64 a0_1, .int .i64 0, .int .i64 0, .int .i64 0, .int .i64 0]) ?_ 2 _ rfl; (with_reducible repeat (first | refine qL ?_ _ | refine qH ?_ | refine qK ?_ _)); refine qr (cs := #[.int .i64 a0_0, .int .i64 0, .int .i64 0, .int .i64 0, .int .i64 0, .int .i64 0]) ?_ 1 _ rfl; (with_reducible repeat (first | refine qL ?_ _ | refine qH ?_ | refine qK ?_ _)); refine qr (cs := #[.int .i64 0, .int .i64 0, .int .i64 0, .int .i64 0, .int .i64 0, .int .i64 0]) ?_ 0 _ rfl; (with_reducible repeat (first | refine qL ?_ _ | refine qH ?_ | refine qK ?_ _)); refine qvA ?_ NB328_329.out _; (with_reducible repeat (first | refine qL ?_ _ | refine qH ?_ | refine qK ?_ _)); refine qvA ?_ NB328_329.out _; (with_reducible repeat (first | refine qL ?_ _ | refine qH ?_ | refine qK ?_ _)); refine qvA ?_ NB328_329.out _; (with_reducible repeat (first | refine qL ?_ _ | refine qH ?_ | refine qK ?_ _)); refine qvA ?_ NB328_329.out _; (with_reducible repeat (first | refine qL ?_ _ | refine qH ?_ | refine qK ?_ _)); refine qvA ?_ NB328_329.out _; (with_reducible repeat (first | refine qL ?_ _ | refine qH ?_ | refine qK ?_ _)); refine qvA ?_ NB328_329.out _; (with_reducible repeat (first | refine qL ?_ _ | refine qH ?_ | refine qK ?_ _)); exact BK328.out) Tryz.underlying29 rfl (by kernel_rfl)) rfl ?_
 exact ⟨sR, bl⟩
def qcA.f (a0_0 : Int) (a0_1 : Int) (a0_2 : Int) (a0_3 : Int) (a0_4 : Int) (a0_5 : Int) (a0_6 : Int) (a0_7 : Int) : Option (Int × Int × Int × Int × Int × Int × Int × Int) := (qkB.f a0_2 a0_3 a0_4 a0_5 a0_6 a0_7).bind fun bt333 => (some (a0_0, a0_1, bt333.1, bt333.2.1, bt333.2.2.1, bt333.2.2.2.1, bt333.2.2.2.2.1, bt333.2.2.2.2.2))
set_option maxHeartbeats 8000000 in
set_option maxRecDepth 100000 in
theorem qcA.calls (a0_0 : Int) (a0_1 : Int) (a0_2 : Int) (a0_3 : Int) (a0_4 : Int) (a0_5 : Int) (a0_6 : Int) (a0_7 : Int) (r1 : Int) (r2 : Int) (r3 : Int) (r4 : Int) (r5 : Int) (r6 : Int) (r7 : Int) (r8 : Int) (w : World) (h : qcA.f a0_0 a0_1 a0_2 a0_3 a0_4 a0_5 a0_6 a0_7 = some (r1, r2, r3, r4, r5, r6, r7, r8)) :
  Calls Tryz.prog 6 #[.agg #[.int .i64 a0_0, .int .i64 a0_1, .int .i64 a0_2, .int .i64 a0_3, .int .i64 a0_4, .int .i64 a0_5, .int .i64 a0_6, .int .i64 a0_7]] w fun e w' => e = .returned (.agg #[.int .i64 r1, .int .i64 r2, .int .i64 r3, .int .i64 r4, .int .i64 r5, .int .i64 r6, .int .i64 r7, .int .i64 r8]) ∧ Below w.heap.size w w' := by
 have hu25 := Tryz.underlying25
 have hu31 := Tryz.underlying31
 have hu23 := Tryz.underlying23
 have hu29 := Tryz.underlying29
 have HB := aM (Below.refl w.heap.size w)
 have H : ((qkB.f a0_2 a0_3 a0_4 a0_5 a0_6 a0_7).bind fun bt333 => (some (a0_0, a0_1, bt333.1, bt333.2.1, bt333.2.2.1, bt333.2.2.2.1, bt333.2.2.2.2.1, bt333.2.2.2.2.2))) = some (r1, r2, r3, r4, r5, r6, r7, r8) := h
 clear h
 replace H := bO H
 obtain ⟨⟨t333, t334, t335, t336, t337, t338⟩, A2, H⟩ := H
 dsimp only at H A2
 simp only [Option.some.injEq, Prod.mk.injEq] at H
 obtain ⟨rfl, rfl, rfl, rfl, rfl, rfl, rfl, rfl⟩ := H
 go_enter Tryz.func6, Tryz.ntmps6
 go_wp2_with (first | ((with_reducible refine qN (N := 1) rfl ?_); refine bE (N := 1) (cs := #[.int .i64 a0_0, .int .i64 a0_1, .int .i64 a0_2, .int .i64 a0_3, .int .i64 a0_4, .int .i64 a0_5, .int .i64 a0_6, .int .i64 a0_7]) (t := 25) ?_; intro gb330 hg w3 hbox hb; have BK330 := aM (hbox); have GW330 := aM ((gg hg)); have GE330 := aM ((gg hg)); replace HB := aM (qB bl hb); clear hb hbox hg) | ((with_reducible refine qN (N := 2) rfl ?_); refine bE (N := 2) (cs := #[.int .i64 0, .int .i64 0, .int .i64 0, .int .i64 0, .int .i64 0, .int .i64 0, .int .i64 0, .int .i64 0]) (t := 31) ?_; intro gb331 hg w4 hbox hb; have BK331 := aM (hbox); have GW331 := aM ((gg hg)); have GE331 := aM ((gg hg)); have NB330_331 := aM ((nl BK330 hg)); have NB331_330 := aM ((nr BK330 hg)); replace BK330 := aM (bb BK330 hb); replace HB := aM (qB bl hb); clear hb hbox hg) | ((with_reducible refine qN (N := 3) rfl ?_); refine bE (N := 3) (cs := #[.int .i64 0, .int .i64 0, .int .i64 0, .int .i64 0, .int .i64 0, .int .i64 0, .int .i64 0, .int .i64 0]) (t := 31) ?_; intro gb332 hg w5 hbox hb; have BK332 := aM (hbox); have GW332 := aM ((gg hg)); have GE332 := aM ((gg hg)); have NB330_332 := aM ((nl BK330 hg)); have NB332_330 := aM ((nr BK330 hg)); have NB331_332 := aM ((nl BK331 hg)); have NB332_331 := aM ((nr BK331 hg)); replace BK330 := aM (bb BK330 hb); replace BK331 := aM (bb BK331 hb); replace HB := aM (qB bl hb); clear hb hbox hg; have hnb6 := NB330_331.out; have hnc6 := NB331_330.out; have hnb7 := NB330_332.out; have hnc7 := NB332_330.out; (refine cb8 BK330 ?_; intro _ _ _ _ _ _ _ _); (refine cz8 BK330 ?_; intro _ _ _ _ _ _ _ _); have hnb9 := NB332_331.out; have hnc9 := NB331_332.out; (refine cb8 BK332 ?_; intro _ _ _ _ _ _ _ _); (refine cz8 BK332 ?_; intro _ _ _ _ _ _ _ _)) | ((with_reducible refine qF (f := 20) rfl ?_); refine qh (some 12) rfl rfl Tryz.func20 (by kernel_rfl) rfl #[.agg #[.int .i64 a0_2, .int .i64 a0_3, .int .i64 a0_4, .int .i64 a0_5, .int .i64 a0_6, .int .i64 a0_7]] rfl gA ?_; (with_reducible refine (qkB.calls a0_2 a0_3 a0_4 a0_5 a0_6 a0_7 t333 t334 t335 t336 t337 t338 _ A2.out).mono ?_); rintro e w11 ⟨rfl, hb⟩; refine ⟨_, rfl, ?_⟩; replace BK330 := aM (qWA (g := gb330) (o := .cells #[.int .i64 a0_0, .int .i64 a0_1, .int .i64 a0_2, .int .i64 a0_3, .int .i64 a0_4, .int .i64 a0_5, .int .i64 a0_6, .int .i64 a0_7] 25 (0, 0)) (bF BK330 NB330_332) hb); replace BK331 := aM (qWA (g := gb331) (o := .cells #[.int .i64 0, .int .i64 0, .int .i64 0, .int .i64 0, .int .i64 0, .int .i64 0, .int .i64 0, .int .i64 0] 31 (0, 0)) (bF BK331 NB331_332) hb); replace BK332 := aM (qWA (g := gb332) (o := .cells #[.int .i64 a0_0, .int .i64 a0_1, .int .i64 0, .int .i64 0, .int .i64 0, .int .i64 0, .int .i64 0, .int .i64 0] 31 (0, 0)) (by (with_reducible repeat (first | refine qL ?_ _ | refine qH ?_ | refine qK ?_ _)); refine qr (cs := #[.int .i64 a0_0, .int .i64 0, .int .i64 0, .int .i64 0, .int .i64 0, .int .i64 0, .int .i64 0, .int .i64 0]) ?_ 1 _ rfl; (with_reducible repeat (first | refine qL ?_ _ | refine qH ?_ | refine qK ?_ _)); refine qr (cs := #[.int .i64 0, .int .i64 0, .int .i64 0, .int .i64 0, .int .i64 0, .int .i64 0, .int .i64 0, .int .i64 0]) ?_ 0 _ rfl; (with_reducible repeat (first | refine qL ?_ _ | refine qH ?_ | refine qK ?_ _)); exact BK332.out) hb); replace HB := aM (qB bl hb); (try clear hb); (try clear hb2); (try clear hk); (try clear hi); (refine cb8 BK332 ?_; intro _ _ _ _ _ _ _ _); (refine cz8 BK332 ?_; intro _ _ _ _ _ _ _ _); (refine cb8 BK331 ?_; intro _ _ _ _ _ _ _ _); (refine cz8 BK331 ?_; intro _ _ _ _ _ _ _ _)))
 refine bodyPost_ret (results_cell_row rfl _ _ gb331 31 #[.int .i64 a0_0, .int .i64 a0_1, .int .i64 t333, .int .i64 t334, .int .i64 t335, .int .i64 t336, .int .i64 t337, .int .i64 t338] (0, 0) _ rfl (by (with_reducible repeat (first | refine qL ?_ _ | refine qH ?_ | refine qK ?_ _)); refine qr (cs := #[.int .i64 a0_0, .int .i64 a0_1, .int .i64 t333, .int .i64 t334, .int .i64 t335, .int .i64 t336, .int .i64 t337, .int .i64 0]) ?_ 7 _ rfl; (with_reducible repeat (first | refine qL ?_ _ | refine qH ?_ | refine qK ?_ _)); refine qr (cs := #[.int .i64 a0_0, .int .i64 a0_1, .int .i64 t333, .int .i64 t334, .int .i64 t335, .int .i64 t336, .int .i64 0, .int .i64 0]) ?_ 6 _ rfl; (with_reducible repeat (first | refine qL ?_ _ | refine qH ?_ | refine qK ?_ _)); refine qr (cs := #[.int .i64 a0_0, .int .i64 a0_1, .int .i64 t333, .int .i64 t334, .int .i64 t335, .int .i64 0, .int .i64 0, .int .i64 0]) ?_ 5 _ rfl; (with_reducible repeat (first | refine qL ?_ _ | refine qH ?_ | refine qK ?_ _)); refine qr (cs := #[.int .i64 a0_0, .int .i64 a0_1, .int .i64 t333, .int .i64 t334, .int .i64 0, .int .i64 0, .int .i64 0, .int .i64 0]) ?_ 4 _ rfl; (with_reducible repeat (first | refine qL ?_ _ | refine qH ?_ | refine qK ?_ _)); refine qr (cs := #[.int .i64 a0_0, .int .i64 a0_1, .int .i64 t333, .int .i64 0, .int .i64 0, .int .i64 0, .int .i64 0, .int .i64 0]) ?_ 3 _ rfl; (with_reducible repeat (first | refine qL ?_ _ | refine qH ?_ | refine qK ?_ _)); refine qr (cs := #[.int .i64 a0_0, .int .i64 a0_1, .int .i64 0, .int .i64 0, .int .i64 0, .int .i64 0, .int .i64 0, .int .i64 0]) ?_ 2 _ rfl; (with_reducible repeat (first | refine qL ?_ _ | refine qH ?_ | refine qK ?_ _)); refine qr (cs := #[.int .i64 a0_0, .int .i64 0, .int .i64 0, .int .i64 0, .int .i64 0, .int .i64 0, .int .i64 0, .int .i64 0]) ?_ 1 _ rfl; (with_reducible repeat (first | refine qL ?_ _ | refine qH ?_ | refine qK ?_ _)); refine qr (cs := #[.int .i64 0, .int .i64 0, .int .i64 0, .int .i64 0, .int .i64 0, .int .i64 0, .int .i64 0, .int .i64 0]) ?_ 0 _ rfl; (with_reducible repeat (first | refine qL ?_ _ | refine qH ?_ | refine qK ?_ _)); refine qvA ?_ NB331_332.out _; (with_reducible repeat (first | refine qL ?_ _ | refine qH ?_ | refine qK ?_ _)); refine qvA ?_ NB331_332.out _; (with_reducible repeat (first | refine qL ?_ _ | refine qH ?_ | refine qK ?_ _)); refine qvA ?_ NB331_332.out _; (with_reducible repeat (first | refine qL ?_ _ | refine qH ?_ | refine qK ?_ _)); refine qvA ?_ NB331_332.out _; (with_reducible repeat (first | refine qL ?_ _ | refine qH ?_ | refine qK ?_ _)); refine qvA ?_ NB331_332.out _; (with_reducible repeat (first | refine qL ?_ _ | refine qH ?_ | refine qK ?_ _)); refine qvA ?_ NB331_332.out _; (with_reducible repeat (first | refine qL ?_ _ | refine qH ?_ | refine qK ?_ _)); exact BK331.out) Tryz.underlying31 rfl (by kernel_rfl)) rfl ?_
 exact ⟨sR, bl⟩
def qFA.l0 : Nat → List Int → List Int → Int → Option (Bool)
 | 0, _, _, _ => none
 | k + 1, x0, x1, x5 => if x5 < (x0.length : Int) then (if 0 ≤ x5 then (if x5 < (x1.length : Int) then (if (rd x0 x5) = (rd x1 x5) then (qFA.l0 k x0 x1 (wrap64 (x5 + 1))) else (some false)) else (none)) else (none)) else (some true)
def qFA.f (k : Nat) (l0 : List Int) (l1 : List Int) : Option (Bool) := if (l0.length : Int) = (l1.length : Int) then (qFA.l0 k l0 l1 0) else (some false)
set_option maxHeartbeats 8000000 in
set_option maxRecDepth 100000 in
theorem qFA.calls (k : Nat) (A0 : Option Addr) (c0 : Nat) (l0 : List Int) (A1 : Option Addr) (c1 : Nat) (l1 : List Int) (r : Bool) (w : World) (hr0 : Kd.C (Kd.int .i64) w A0 l0.length l0) (hc0 : l0.length ≤ c0) (hr1 : Kd.C (Kd.int .i64) w A1 l1.length l1) (hc1 : l1.length ≤ c1) (h : qFA.f k l0 l1 = some r) :
  Calls Tryz.prog 8 #[.slice A0 l0.length c0, .slice A1 l1.length c1] w fun e w' => e = .returned (.bool r) ∧ Drawn0 w w' := by
 have HR0 := aM hr0
 have HC0 := aM hc0
 clear hr0 hc0
 have HR1 := aM hr1
 have HC1 := aM hc1
 clear hr1 hc1
 have H : (if (l0.length : Int) = (l1.length : Int) then (qFA.l0 k l0 l1 0) else (some false)) = some r := h
 clear h
 by_cases c3 : (l0.length : Int) = (l1.length : Int)
 ·rw [if_pos c3] at H
  have c3b0 := beq_iff_eq.mpr c3
  have c3b1 := bne_eq_false_iff_eq.mpr c3
  have c3b2 : (l0.length == l1.length) = true := by first | simpa using c3 | (simp at c3 ⊢; omega)
  clear c3
  have H' := aM H
  clear H
  go_enter Tryz.func8, Tryz.ntmps8
  go_wp2
  repeat (go_quiet (fail); try go_wp2)
  go_loopg [5] k (fun kq v5 w' => ∃ (x5_1 : Int), v5 = .int .i64 x5_1 ∧ Aside0 (qFA.l0 kq l0 l1 x5_1 = some r) ∧ Aside0 (kq ≤ k) ∧ Drawn0 w w')
  case atStart => exact ⟨(0), sD, H', ⟨Nat.le_refl _⟩, dR⟩
  case round =>
   clear H'; (try clear c1); (try clear p2); (try clear c3); (try clear c3b0); (try clear c3b1); (try clear c3b2)
   obtain ⟨x5_1, rfl, HA, HK1, ⟨m1, rfl⟩⟩ := hrel
   cases gk with
   | zero => exact absurd HA.out (by simp [qFA.l0])
   | succ k1 =>
    have H := HA.out
    clear HA
    simp only [qFA.l0] at H
    by_cases c4 : x5_1 < (l0.length : Int)
    ·rw [if_pos c4] at H
     have c4b0 := decide_eq_true c4
     clear c4
     by_cases c5 : 0 ≤ x5_1
     case neg => exact nN c5 H
     rw [if_pos c5] at H
     have c5b0 := decide_eq_true c5
     clear c5
     by_cases c6 : x5_1 < (l1.length : Int)
     case neg => exact nN c6 H
     rw [if_pos c6] at H
     have c6b0 := decide_eq_true c6
     clear c6
     by_cases c7 : (rd l0 x5_1) = (rd l1 x5_1)
     ·rw [if_pos c7] at H
      have c7b0 := beq_iff_eq.mpr c7
      have c7b1 := bne_eq_false_iff_eq.mpr c7
      clear c7
      have H' := aM H
      clear H
      have p425 : 0 ≤ (x5_1 : Int) := of_decide_eq_true am
      have q425 : x5_1 < (l0.length : Int) := of_decide_eq_true am
      obtain ⟨ad425, e425, hx425_0⟩ := Kd.qjA HR0.out x5_1 p425 q425
      cases e425
      replace p425 := eq_true p425
      replace q425 := eq_true q425
      have p426 : 0 ≤ (x5_1 : Int) := of_decide_eq_true am
      have q426 : x5_1 < (l1.length : Int) := of_decide_eq_true am
      obtain ⟨ad426, e426, hx426_0⟩ := Kd.qjA HR1.out x5_1 p426 q426
      cases e426
      replace p426 := eq_true p426
      replace q426 := eq_true q426
      go_wp2
      repeat (go_quiet (fail); try go_wp2)
      go_roundg k1
      case measure => have := HK1.out; omega
      case rel => exact ⟨(wrap64 (x5_1 + 1)), sD, H', ⟨by have := HK1.out; omega⟩, dR⟩
     ·rw [if_neg c7] at H
      have c7b0 := beq_eq_false_iff_ne.mpr c7
      have c7b1 := bne_iff_ne.mpr c7
      obtain rfl := Option.some.inj H
      have p425 : 0 ≤ (x5_1 : Int) := of_decide_eq_true am
      have q425 : x5_1 < (l0.length : Int) := of_decide_eq_true am
      obtain ⟨ad425, e425, hx425_0⟩ := Kd.qjA HR0.out x5_1 p425 q425
      cases e425
      replace p425 := eq_true p425
      replace q425 := eq_true q425
      have p426 : 0 ≤ (x5_1 : Int) := of_decide_eq_true am
      have q426 : x5_1 < (l1.length : Int) := of_decide_eq_true am
      obtain ⟨ad426, e426, hx426_0⟩ := Kd.qjA HR1.out x5_1 p426 q426
      cases e426
      replace p426 := eq_true p426
      replace q426 := eq_true q426
      go_wp2
      repeat (go_quiet (fail); try go_wp2)
      go_ret
      exact ⟨by first | rfl | (simp; done) | (simp [*]; done), dR⟩
    ·rw [if_neg c4] at H
     have c4b0 := decide_eq_false c4
     clear c4
     obtain rfl := Option.some.inj H
     go_wp2
     repeat (go_quiet (fail); try go_wp2)
     go_ret
     exact ⟨by first | rfl | (simp; done) | (simp [*]; done), dR⟩
 ·rw [if_neg c3] at H
  have c3b0 := beq_eq_false_iff_ne.mpr c3
  have c3b1 := bne_iff_ne.mpr c3
  have c3b2 : (l0.length == l1.length) = false := by first | simpa using c3 | (simp at c3 ⊢; omega)
  obtain rfl := Option.some.inj H
  go_enter Tryz.func8, Tryz.ntmps8
  go_wp2
  repeat (go_quiet (fail); try go_wp2)
  go_ret
  exact ⟨by first | rfl | (simp; done) | (simp [*]; done), dR⟩
def qx.l0 : Nat → List Int → Int → Int → Option (Int × List Int)
 | 0, _, _, _ => none
 | k + 1, x0, x1, x5 => if x5 < (x0.length : Int) then (if 0 ≤ x5 then (qx.l0 k (x0.set (x5 : Int).toNat x1) (wrap64 (x1 + 1)) (wrap64 (x5 + 1))) else (none)) else (some (x1, x0))
def qx.f (k : Nat) (l0 : List Int) (a1 : Int) : Option (Int × List Int) := qx.l0 k l0 a1 0
set_option maxHeartbeats 8000000 in
set_option maxRecDepth 100000 in
theorem qx.calls (k : Nat) (P0_ : Nat → Prop) (u9000_ : Value) (l0 : List Int) (a1 : Int) (r1 : Int) (r2 : List Int) (w0 w : World) (hB : Below w0.heap.size w0 w) (ho0 : Kd.R (Kd.int .i64) 3 w w0.heap.size P0_ u9000_ l0) (h : qx.f k l0 a1 = some (r1, r2)) :
  Calls Tryz.prog 9 #[u9000_, .int .i64 a1] w fun e w' => e = .returned (.int .i64 r1) ∧ Kd.R (Kd.int .i64) 3 w' w0.heap.size (fun k_ => (P0_ k_ ∨ w.heap.size ≤ k_)) u9000_ r2 ∧ Below w0.heap.size w0 w' ∧ Kept w w' (fun k_ => P0_ k_) := by
 have HO0 := aM (show Kd.R (Kd.int .i64) 3 w w0.heap.size (fun k_ => (P0_ k_ ∨ w.heap.size ≤ k_)) u9000_ l0 from Kd.qY ho0 (fun k_ hk => (.inl hk)))
 have HK := aM (Kept.refl w (fun k_ => P0_ k_))
 have HW0 := aM hB.size
 have HB := aM hB
 clear hB
 have H : (qx.l0 k l0 a1 0) = some (r1, r2) := h
 clear h
 have H' := aM H
 clear H
 go_enter Tryz.func9, Tryz.ntmps9
 go_wp2
 go_loopg [1, 5] k (fun kq v1 v5 w' => ∃ (x0_1 : List Int) (x1_1 : Int) (x5_1 : Int), v1 = .int .i64 x1_1 ∧ v5 = .int .i64 x5_1 ∧ Aside0 (qx.l0 kq x0_1 x1_1 x5_1 = some (r1, r2)) ∧ Aside0 (kq ≤ k) ∧ Aside0 (Kd.R (Kd.int .i64) 3 w' w0.heap.size (fun k_ => (P0_ k_ ∨ w.heap.size ≤ k_)) u9000_ x0_1) ∧ Aside0 (Kept w w' (fun k_ => P0_ k_)) ∧ Aside0 (Below w0.heap.size w0 w'))
 case atStart => exact ⟨(l0), (a1), (0), sD, sD, H', ⟨Nat.le_refl _⟩, ⟨rR HO0⟩, ⟨by repeat (first | (with_reducible first | exact HK.out | apply Kept.alloc | apply Kept.drewN | apply Kept.drew) | exact HK.out)⟩, ⟨bl⟩⟩
 case round =>
  clear H'; (try clear p2)
  obtain ⟨x0_1, x1_1, x5_1, rfl, rfl, HA, HK1, HO_0, HK, HB⟩ := hrel
  cases gk with
  | zero => exact absurd HA.out (by simp [qx.l0])
  | succ k1 =>
   have H := HA.out
   clear HA
   simp only [qx.l0] at H
   by_cases c3 : x5_1 < (x0_1.length : Int)
   ·rw [if_pos c3] at H
    have c3b0 := decide_eq_true c3
    clear c3
    by_cases c4 : 0 ≤ x5_1
    case neg => exact nN c4 H
    rw [if_pos c4] at H
    have c4b0 := decide_eq_true c4
    clear c4
    obtain ⟨y427, hy427⟩ : ∃ y_ : List Int, y_ = (x0_1.set (x5_1 : Int).toNat x1_1) := ⟨_, rfl⟩
    replace H : (qx.l0 k1 y427 (wrap64 (x1_1 + 1)) (wrap64 (x5_1 + 1))) = some (r1, r2) := by first | (rw [hy427]; with_reducible exact H) | (have H2_ := (Option.bind_some _ _).symm.trans H; rw [hy427]; with_reducible exact H2_) | (have H2_ := (Option.bind_some _ _).symm.trans H; with_reducible exact H2_) | with_reducible exact H | (rw [hy427]; exact H) | exact H
    have Ny427 := aM hy427
    clear hy427
    have H' := aM H
    clear H
    obtain ⟨Ao6, co6, eo6⟩ := Kd.qi HO_0.out
    subst eo6
    have p5 : 0 ≤ (x5_1 : Int) := of_decide_eq_true am
    have q5 : (x5_1 : Int) < ((x0_1.length : Int) : Int) := of_decide_eq_true am
    obtain ⟨go5, co5, eo5, gb5, gl5, cl5, HG5⟩ := Kd.qRD HO_0.out (by omega)
    (first | cases eo5 | (injection eo5 with ea_ en_ ec_; (first | subst ea_ | (injection ea_ with ea_; subst ea_)); subst ec_; clear en_))
    have GB5 := aM gb5
    have GG5 := aM HG5
    clear gb5 gl5 HG5
    have HMgo5 := aM (show (P0_ go5 ∨ w.heap.size ≤ go5) from (HO_0.out.1 _ rfl))
    obtain ⟨hx5_0, hf5_0⟩ := Kd.R_celln 0 HO_0.out (x5_1 : Int) p5 q5
    replace p5 := eq_true p5
    replace q5 := eq_true q5
    have HP7 := Kd.R_putg HO_0.out (x5_1 : Int) x1_1
    go_wp2_with (first | ((with_reducible refine qyA (t := 3) (p := 15) rfl ?_); refine qBB (t := 3) (p := 15) (v := ?vo_w8) (w1 := (wr.setCell ⟨go5, (x5_1 : Int).toNat, none⟩ (.int .i64 x1_1))) ?hg ?ho ?hn ?hr ?_; (case ho => rfl); (case hg => rfl); (case hn => rfl); (case hr => exact gS); intro w8 hw; have hg : wr.grownBy w8 (some go5) := (by rw [hw]; exact HP7.2); have hp_ : Kd.R (Kd.int .i64) 3 w8 w0.heap.size (fun k_ => (P0_ k_ ∨ w.heap.size ≤ k_)) (.slice (some ⟨go5, 0, none⟩) x0_1.length co6) y427 := (by rw [hw, Ny427.out]; exact HP7.1); clear HP7; replace HB := aM ((by rw [hw]; exact qw (HB.out) GB5.out : Below w0.heap.size w0 w8)); replace HK := aM (Kept.qfB (S := (fun k_ => P0_ k_)) hg (by repeat (first | (with_reducible first | exact HK.out | apply Kept.alloc | apply Kept.drewN | apply Kept.drew) | exact HK.out)) (fun k_ e_ => (HO_0.out.1 k_ e_))); replace HO_0 := aM (hp_); clear hg hw hp_))
    go_roundg k1
    case measure => have := HK1.out; omega
    case rel => exact ⟨(y427), (wrap64 (x1_1 + 1)), (wrap64 (x5_1 + 1)), sD, sD, H', ⟨by have := HK1.out; omega⟩, ⟨rR HO_0⟩, ⟨by repeat (first | (with_reducible first | exact HK.out | apply Kept.alloc | apply Kept.drewN | apply Kept.drew) | exact HK.out)⟩, ⟨bl⟩⟩
   ·rw [if_neg c3] at H
    have c3b0 := decide_eq_false c3
    clear c3
    simp only [Option.some.injEq, Prod.mk.injEq] at H
    obtain ⟨rfl, rfl⟩ := H
    obtain ⟨Ao9, co9, eo9⟩ := Kd.qi HO_0.out
    subst eo9
    go_wp2
    go_ret
    exact ⟨sR, by (with_reducible repeat (first | apply Kd.qR | apply Kd.qU | apply Kd.qQ)); exact HO_0.out, bl, by repeat (first | (with_reducible first | exact HK.out | apply Kept.alloc | apply Kept.drewN | apply Kept.drew) | exact HK.out)⟩
def qt.l0 : Nat → List Int → Int → Int → Option (Int)
 | 0, _, _, _ => none
 | k + 1, x0, x1, x5 => if x5 < (x0.length : Int) then (if 0 ≤ x5 then (if (rd x0 x5) = x1 then (qt.l0 k x0 (wrap64 (x1 + 1)) (wrap64 (x5 + 1))) else (some (-1))) else (none)) else (some x1)
def qt.f (k : Nat) (l0 : List Int) (a1 : Int) : Option (Int) := qt.l0 k l0 a1 0
set_option maxHeartbeats 8000000 in
set_option maxRecDepth 100000 in
theorem qt.calls (k : Nat) (A0 : Option Addr) (c0 : Nat) (l0 : List Int) (a1 : Int) (r : Int) (w : World) (hr0 : Kd.C (Kd.int .i64) w A0 l0.length l0) (hc0 : l0.length ≤ c0) (h : qt.f k l0 a1 = some r) :
  Calls Tryz.prog 10 #[.slice A0 l0.length c0, .int .i64 a1] w fun e w' => e = .returned (.int .i64 r) ∧ Drawn0 w w' := by
 have HR0 := aM hr0
 have HC0 := aM hc0
 clear hr0 hc0
 have H : (qt.l0 k l0 a1 0) = some r := h
 clear h
 have H' := aM H
 clear H
 go_enter Tryz.func10, Tryz.ntmps10
 go_wp2
 go_loopg [1, 5] k (fun kq v1 v5 w' => ∃ (x1_1 : Int) (x5_1 : Int), v1 = .int .i64 x1_1 ∧ v5 = .int .i64 x5_1 ∧ Aside0 (qt.l0 kq l0 x1_1 x5_1 = some r) ∧ Aside0 (kq ≤ k) ∧ Drawn0 w w')
 case atStart => exact ⟨(a1), (0), sD, sD, H', ⟨Nat.le_refl _⟩, dR⟩
 case round =>
  clear H'; (try clear c1); (try clear p2)
  obtain ⟨x1_1, x5_1, rfl, rfl, HA, HK1, ⟨m1, rfl⟩⟩ := hrel
  cases gk with
  | zero => exact absurd HA.out (by simp [qt.l0])
  | succ k1 =>
   have H := HA.out
   clear HA
   simp only [qt.l0] at H
   by_cases c3 : x5_1 < (l0.length : Int)
   ·rw [if_pos c3] at H
    have c3b0 := decide_eq_true c3
    clear c3
    by_cases c4 : 0 ≤ x5_1
    case neg => exact nN c4 H
    rw [if_pos c4] at H
    have c4b0 := decide_eq_true c4
    clear c4
    by_cases c5 : (rd l0 x5_1) = x1_1
    ·rw [if_pos c5] at H
     have c5b0 := beq_iff_eq.mpr c5
     have c5b1 := bne_eq_false_iff_eq.mpr c5
     clear c5
     have H' := aM H
     clear H
     have p428 : 0 ≤ (x5_1 : Int) := of_decide_eq_true am
     have q428 : x5_1 < (l0.length : Int) := of_decide_eq_true am
     obtain ⟨ad428, e428, hx428_0⟩ := Kd.qjA HR0.out x5_1 p428 q428
     cases e428
     replace p428 := eq_true p428
     replace q428 := eq_true q428
     go_wp2
     go_roundg k1
     case measure => have := HK1.out; omega
     case rel => exact ⟨(wrap64 (x1_1 + 1)), (wrap64 (x5_1 + 1)), sD, sD, H', ⟨by have := HK1.out; omega⟩, dR⟩
    ·rw [if_neg c5] at H
     have c5b0 := beq_eq_false_iff_ne.mpr c5
     have c5b1 := bne_iff_ne.mpr c5
     obtain rfl := Option.some.inj H
     have p428 : 0 ≤ (x5_1 : Int) := of_decide_eq_true am
     have q428 : x5_1 < (l0.length : Int) := of_decide_eq_true am
     obtain ⟨ad428, e428, hx428_0⟩ := Kd.qjA HR0.out x5_1 p428 q428
     cases e428
     replace p428 := eq_true p428
     replace q428 := eq_true q428
     go_wp2
     go_ret
     exact ⟨by first | rfl | (simp; done) | (simp [*]; done), dR⟩
   ·rw [if_neg c3] at H
    have c3b0 := decide_eq_false c3
    clear c3
    obtain rfl := Option.some.inj H
    go_wp2
    go_ret
    exact ⟨by first | rfl | (simp; done) | (simp [*]; done), dR⟩
end Go.Proofs.YtdhbimankkpllaaGreatDoor.P
namespace Go.Proofs.YtdhbimankkpllaaGreatDoor
open Go Go.ChangeMaps Go.MapKept
open Go.Maps (Keyed IsMap Tidy)
set_option linter.unusedVariables false
set_option linter.unusedSectionVars false
structure MapKit (P : Program) (κ ν : Type) where
 t : TypeId
 k : TypeId
 e : TypeId
 law : Keyed P k
 ht : P.underlying t = some (.map k e)
 okK : κ → Prop
 key : κ → Value
 lit : κ → Lit
 hkey : ∀ x, okK x → keyOf P k (key x) = some (lit x)
 inj : ∀ x y, key x = key y → x = y
 okV : ν → Prop
 val : ν → Value
 dat : ν → DataW Unit
 R : Value → Option (DataW Unit × List MemPlace)
 hval : ∀ v, okV v → R (val v) = some (dat v, [])
 hdat : ∀ v u ps, R u = some (dat v, ps) → u = val v
 zero : ν
 okz : okV zero
 hz : ∀ w, (zeroValue e).run P w = .ok (val zero) w
namespace MapKit
variable {P : Program} {κ ν : Type} [DecidableEq κ] (M : MapKit P κ ν)
def datum : List (κ × ν) → DataW Unit
 | [] => .map []
 | x :: l => (datum l).put (M.lit x.1) (M.dat x.2)
def look (l : List (κ × ν)) (x : κ) : ν := match l.find? fun y => decide (y.1 = x) with | some y => y.2 | none => M.zero
def met (l : List (κ × ν)) (x : κ) : Bool := l.any fun y => decide (y.1 = x)
structure Is (w : World) (b : Nat) (l : List (κ × ν)) : Prop where
 ok : ∀ y ∈ l, M.okK y.1 ∧ M.okV y.2
 own : w.ownsMap P M.k M.R b l.length (M.datum l)
theorem qRC : ∀ l : List (κ × ν), IsMap (M.datum l)
 | [] => Go.Maps.isMap_empty
 | x :: l => (qRC l).put _ _
theorem lit_ne {x y : κ} (hx : M.okK x) (hy : M.okK y) (h : x ≠ y) : M.lit x ≠ M.lit y := fun e =>
 h (M.inj _ _ (M.law.inj (M.hkey x hx) (by rw [M.hkey y hy, e])))
theorem has_datum {x : κ} (hx : M.okK x) : ∀ (l : List (κ × ν)), (∀ y ∈ l, M.okK y.1 ∧ M.okV y.2) → Go.Maps.has (M.datum l) (M.lit x) = met l x
 | [], _ => rfl
 | y :: l, h => by
  have ih := has_datum hx l (fun z hz => h z (List.mem_cons_of_mem _ hz))
  have hy := (h y List.mem_cons_self).1
  unfold met at ih ⊢
  rw [List.any_cons, ← ih]
  by_cases e : y.1 = x
  case pos => rw [decide_eq_true e, Bool.true_or]; show Go.Maps.has ((M.datum l).put (M.lit y.1) (M.dat y.2)) (M.lit x) = true; rw [e]; exact Go.Maps.has_put_same (M.qRC l) (M.law.key (M.hkey x hx)) _
  rw [decide_eq_false e, Bool.false_or]
  exact Go.Maps.has_put_other (M.lit_ne hx hy (fun q => e q.symm)) _
theorem at_datum {x : κ} (hx : M.okK x) : ∀ (l : List (κ × ν)), (∀ y ∈ l, M.okK y.1 ∧ M.okV y.2) → (M.datum l).atKey (M.lit x) (M.dat M.zero) = M.dat (M.look l x)
 | [], _ => rfl
 | y :: l, h => by
  have ih := at_datum hx l (fun z hz => h z (List.mem_cons_of_mem _ hz))
  have hy := (h y List.mem_cons_self).1
  show ((M.datum l).put (M.lit y.1) (M.dat y.2)).atKey (M.lit x) (M.dat M.zero) = _
  unfold look at ih ⊢
  by_cases e : y.1 = x
  case pos => rw [List.find?_cons_of_pos (by simpa using e), e]; exact Go.Maps.atKey_put_same (M.qRC l) (M.law.key (M.hkey x hx)) _ _
  rw [List.find?_cons_of_neg (by simpa using e), ← ih]
  exact Go.Maps.atKey_put_other (M.lit_ne hx hy (fun q => e q.symm)) _ _
variable {M} {w : World} {b : Nat} {l : List (κ × ν)}
theorem Is.made (w : World) : M.Is (w.alloc (.map #[] 0)) w.heap.size [] := ⟨fun _ h => (List.not_mem_nil h).elim, World.ownsMap_made _ _ _ _⟩
theorem Is.lt (h : M.Is w b l) : b < w.heap.size := h.own.lt
theorem Is.kept {w' : World} {row : Option Nat} (h : M.Is w b l) (hg : w.grownBy w' row) (hne : some b ≠ row) : M.Is w' b l := ⟨h.ok, h.own.kept hg hne⟩
theorem Is.alloc (h : M.Is w b l) (o : Obj) : M.Is (w.alloc o) b l := ⟨h.ok, h.own.alloc o⟩
theorem Is.setCell (h : M.Is w b l) {a : Addr} (ha : b ≠ a.block) (u : Value) : M.Is (w.setCell a u) b l := ⟨h.ok, h.own.setCell ha u⟩
theorem Is.qgA {w' : World} (h : M.Is w b l) (e : w'.heap[b]? = w.heap[b]?) : M.Is w' b l := by
 obtain ⟨es, clock, hb, r⟩ := h.own
 exact ⟨h.ok, es, clock, by rw [e, hb], r⟩
theorem Is.run_look_ok (h : M.Is w b l) {x : κ} (hx : M.okK x) : (Instr.lookup M.t (.map (some b)) (M.key x) true).run P w = .ok (.tuple #[M.val (M.look l x), .bool (met l x)]) w := by
 obtain ⟨v, ps, hrun, hv⟩ := h.own.look_ok M.law M.ht (M.hz w) (M.hval _ M.okz) (M.hkey x hx)
 rw [M.at_datum hx l h.ok] at hv
 rw [hrun, M.hdat _ _ _ hv, M.has_datum hx l h.ok]
theorem Is.run_put (h : M.Is w b l) (hn : l.length < maxLen) {x : κ} (hx : M.okK x) {v : ν} (hv : M.okV v) : ∃ w', (Instr.mapUpdate M.t (.map (some b)) (M.key x) (M.val v)).run P w = .ok () w' ∧ M.Is w' b ((x, v) :: l) ∧ w.grownBy w' (some b) := by
 obtain ⟨w', hrun, h1, h2⟩ := h.own.update M.law M.ht hn (M.hkey x hx) (M.hval v hv)
 refine ⟨w', hrun, ⟨fun y hy => ?_, h1⟩, h2⟩
 rcases List.mem_cons.1 hy with rfl | hy
 ·exact ⟨hx, hv⟩
 ·exact h.ok y hy
variable {ops : Array Oper} {rest : List Oper} {o : Oper} {a : Act} {Q : Exit → Act → World → Prop}
end MapKit
theorem elem_int {P : Program} {e : TypeId} {q : IntKind} (he : P.underlying e = some (.int q)) : (∀ v : Int, (Lit.int q v).wf = true → plainElem (H := Unit) P e (.int q v) = some (.lit (.int q v), [])) ∧ ∀ (v : Int) (u : Value) ps, plainElem (H := Unit) P e u = some (.lit (.int q v), ps) → u = .int q v := by
 refine ⟨fun v hw => plainElem_int he hw, fun v u ps h => ?_⟩
 obtain ⟨x, rfl, hz, _⟩ := plainElem_int_inv he h
 simp only [Prod.mk.injEq, DataW.lit.injEq, Lit.int.injEq] at hz
 rw [hz.1.2]
end Go.Proofs.YtdhbimankkpllaaGreatDoor
namespace Go.Proofs.YtdhbimankkpllaaGreatDoor
open Go.RowKit Go.Proofs.YtdhbimankkpllaaGreatDoorW.PrintWords Go.Proofs.YtdhbimankkpllaaGreatDoorW.PrintLast
set_option linter.unusedVariables false
set_option linter.unusedSectionVars false
namespace MapKit
variable {P : Program} {κ ν : Type} [DecidableEq κ] {M : MapKit P κ ν} {w w1 : World} {b : Nat} {l : List (κ × ν)}
theorem Is.below (h : M.Is w b l) (hb : Below w.heap.size w w1) : M.Is w1 b l := h.qgA (hb.block b h.lt)
theorem Is.drewN (h : M.Is w b l) (n : Nat) : M.Is (w.drewN n) b l := h.qgA rfl
theorem Is.drew (h : M.Is w b l) : M.Is w.drew b l := h.qgA rfl
theorem Is.obj (h : M.Is w b l) : ∃ es clock, w.heap[b]? = some (.map es clock) := by
 obtain ⟨es, clock, hb, _⟩ := h.own
 exact ⟨es, clock, hb⟩
theorem Is.off (h : M.Is w b l) {k : Nat} {cells : Array Value} {q : TypeId} (hc : w.heap[k]? = some (.cells cells q (0, 0))) : k ≠ b := by
 rintro rfl
 obtain ⟨es, clock, hb⟩ := h.obj
 rw [hb] at hc
 cases hc
theorem Is.ne (h : M.Is w b l) {α : Type} {d : Kd α} {e base : Nat} {ok : Nat → Prop} {v : Value} {xs : List α} (hR : d.R e w base ok v xs) : some b ≠ v.ownBlock := by
 intro he
 obtain ⟨_, _, _, q, _, cells, hc⟩ := (Kd.qWB hR).1 b he.symm
 exact h.off hc rfl
theorem Is.row (h : M.Is w b l) {α : Type} {d : Kd α} {e base : Nat} {ok : Nat → Prop} {v : Value} {xs : List α} (hR : d.R e w base ok v xs) (hg : w.grownBy w1 (some b)) : d.R e w1 base ok v xs :=
 Kd.qY (Kd.qfC (Kd.qWB hR) (fun k hk hlt => hg.block k hlt (fun e_ => by
  injection e_ with e_
  obtain ⟨_, _, _, q, _, cells, hc⟩ := hk
  exact h.off hc e_))) (fun _ hk => hk.1)
end MapKit
end Go.Proofs.YtdhbimankkpllaaGreatDoor
set_option linter.unusedSectionVars false
namespace Go.Proofs.YtdhbimankkpllaaGreatDoor.Bfs
section
variable {α β : Type} [DecidableEq α]
def put (L : List (α × β)) (y : Option α) (p : β) : List (α × β) := match y with
 | none => L
 | some y => if y ∈ L.map Prod.fst then L else L ++ [(y, p)]
def puts (L : List (α × β)) : List (Option α × β) → List (α × β)
 | [] => L
 | (y, p) :: r => puts (put L y p) r
variable (next : Nat → α → β → List (Option α × β))
def round (i : Nat) (L : List (α × β)) : List (α × β) := match L[i]? with
 | none => L
 | some x => puts L (next i x.1 x.2)
def run : Nat → Nat → List (α × β) → List (α × β)
 | 0, _, L => L
 | n + 1, i, L => if i < L.length then run n (i + 1) (round next i L) else L
theorem put_met {L : List (α × β)} {y : α} (h : y ∈ L.map Prod.fst) (p : β) : put L (some y) p = L := if_pos h
theorem qTD {L : List (α × β)} {y : α} (h : ¬ y ∈ L.map Prod.fst) (p : β) : put L (some y) p = L ++ [(y, p)] := if_neg h
theorem put_prefix (L : List (α × β)) (y : Option α) (p : β) : L <+: put L y p := by
 unfold put
 split
 ·exact List.prefix_refl _
 ·split
  ·exact List.prefix_refl _
  ·exact List.prefix_append _ _
theorem puts_prefix (l : List (Option α × β)) : ∀ L : List (α × β), L <+: puts L l := by
 induction l with
 | nil => intro L; exact List.prefix_refl _
 | cons x l ih => intro L; exact (put_prefix L x.1 x.2).trans (ih _)
theorem qtC {L : List (α × β)} (h : (L.map Prod.fst).Nodup) (y : Option α) (p : β) : ((put L y p).map Prod.fst).Nodup := by
 unfold put
 split
 ·exact h
 ·rename_i y
  split
  ·exact h
  ·rename_i hy
   rw [List.map_append, List.nodup_append]
   refine ⟨h, by simp, ?_⟩
   intro a ha b hb e
   simp at hb
   subst hb
   subst e
   exact hy ha
theorem puts_nodup (l : List (Option α × β)) : ∀ {L : List (α × β)}, (L.map Prod.fst).Nodup → ((puts L l).map Prod.fst).Nodup := by
 induction l with
 | nil => intro L h; exact h
 | cons x l ih => intro L h; exact ih (qtC h _ _)
theorem qLC {L : List (α × β)} (h : (L.map Prod.fst).Nodup) (i : Nat) : ((round next i L).map Prod.fst).Nodup := by
 unfold round
 split
 ·exact h
 ·exact puts_nodup _ h
theorem qrC : ∀ (n i : Nat) {L : List (α × β)}, (L.map Prod.fst).Nodup → ((run next n i L).map Prod.fst).Nodup
 | 0, _, L, h => h
 | n + 1, i, L, h => by
  unfold run
  split
  ·exact qrC n (i + 1) (qLC next h i)
  ·exact h
theorem qUD {Q : α × β → Prop} {L : List (α × β)} (h : ∀ x ∈ L, Q x) (y : Option α) (p : β) (hy : ∀ z, y = some z → Q (z, p)) : ∀ x ∈ put L y p, Q x := by
 unfold put
 split
 ·exact h
 ·rename_i z
  split
  ·exact h
  ·intro x hx
   rcases List.mem_append.1 hx with hx | hx
   ·exact h x hx
   ·simp at hx; subst hx; exact hy z rfl
theorem qhC {Q : α × β → Prop} : ∀ (l : List (Option α × β)) {L : List (α × β)}, (∀ x ∈ L, Q x) → (∀ s ∈ l, ∀ z, s.1 = some z → Q (z, s.2)) → ∀ x ∈ puts L l, Q x
 | [], L, h, _ => h
 | s :: l, L, h, hs => qhC l (qUD h s.1 s.2 (hs s (by simp))) (fun t ht => hs t (by simp [ht]))
theorem qsC {Q : α × β → Prop} (hn : ∀ i x p, Q (x, p) → ∀ s ∈ next i x p, ∀ z, s.1 = some z → Q (z, s.2)) (i : Nat) {L : List (α × β)} (h : ∀ x ∈ L, Q x) : ∀ x ∈ round next i L, Q x := by
 unfold round
 split
 ·exact h
 ·rename_i x hx
  exact qhC _ h (hn i x.1 x.2 (h x (List.mem_of_getElem? hx)))
theorem qSD {Q : α × β → Prop} (hn : ∀ i x p, Q (x, p) → ∀ s ∈ next i x p, ∀ z, s.1 = some z → Q (z, s.2)) : ∀ (n i : Nat) {L : List (α × β)}, (∀ x ∈ L, Q x) → ∀ x ∈ run next n i L, Q x
 | 0, _, L, h => h
 | n + 1, i, L, h => by
  unfold run
  split
  ·exact qSD hn n (i + 1) (qsC next hn i h)
  ·exact h
theorem quC {U : List α} : ∀ {l : List α}, l.Nodup → (∀ x ∈ l, x ∈ U) → l.length ≤ U.length := by
 intro l
 induction l generalizing U with
 | nil => intro _ _; simp
 | cons a l ih =>
  intro hn hu
  obtain ⟨h1, h2⟩ := List.nodup_cons.1 hn
  have ha : a ∈ U := hu a (by simp)
  have := ih (U := U.erase a) h2 (fun x hx => by
   have hne : x ≠ a := fun e => h1 (e ▸ hx)
   exact (List.mem_erase_of_ne hne).2 (hu x (by simp [hx])))
  rw [List.length_erase_of_mem ha] at this
  have : 0 < U.length := List.length_pos_of_mem ha
  simp only [List.length_cons]
  omega
end
end Go.Proofs.YtdhbimankkpllaaGreatDoor.Bfs
namespace Go.Proofs
open Go.Shelf
def Tryz.lays146_ren : Go.Shelf.Ren := ⟨fun | 146 => 60 | 221 => 75 | 268 => 91 | 138 => 92 | 143 => 93 | 195 => 100 | 197 => 95 | 218 => 101 | 219 => 102 | 260 => 103 | 217 => 106 | 225 => 107 | 224 => 108 | 267 => 109 | 266 => 112 | 314 => 113 | n => n, fun | 9 => 9 | 31 => 70 | 3 => 3 | 4 => 4 | 0 => 0 | 105 => 136 | 21 => 21 | 5 => 5 | 46 => 90 | 119 => 146 | 139 => 149 | 138 => 148 | 146 => 151 | 51 => 112 | n => n, fun | 1 => 0 | 3 => 1 | 4 => 2 | n => n⟩
theorem Tryz.lays146 : Go.Proofs.Lays.n146 Tryz.prog Tryz.lays146_ren := {
 mixed := by kernel_rfl
 f138 := Tryz.func92.trans (congrArg some (by kernel_rfl))
 f143 := Tryz.func93.trans (congrArg some (by kernel_rfl))
 f146 := Tryz.func60.trans (congrArg some (by kernel_rfl))
 f195 := Tryz.func100.trans (congrArg some (by kernel_rfl))
 f197 := Tryz.func95.trans (congrArg some (by kernel_rfl))
 f217 := Tryz.func106.trans (congrArg some (by kernel_rfl))
 f218 := Tryz.func101.trans (congrArg some (by kernel_rfl))
 f219 := Tryz.func102.trans (congrArg some (by kernel_rfl))
 f221 := Tryz.func75.trans (congrArg some (by kernel_rfl))
 f224 := Tryz.func108.trans (congrArg some (by kernel_rfl))
 f225 := Tryz.func107.trans (congrArg some (by kernel_rfl))
 f260 := Tryz.func103.trans (congrArg some (by kernel_rfl))
 f266 := Tryz.func112.trans (congrArg some (by kernel_rfl))
 f267 := Tryz.func109.trans (congrArg some (by kernel_rfl))
 f268 := Tryz.func91.trans (congrArg some (by kernel_rfl))
 f314 := Tryz.func113.trans (congrArg some (by kernel_rfl))
 t0 := Tryz.underlying0
 a0 := Tryz.isAgg0
 z0 := Tryz.sizeOf0
 v0 := Tryz.zeroValue0
 t3 := Tryz.underlying3
 a3 := Tryz.isAgg3
 z3 := Tryz.sizeOf3
 v3 := Tryz.zeroValue3
 t4 := Tryz.underlying4
 a4 := Tryz.isAgg4
 z4 := Tryz.sizeOf4
 v4 := Tryz.zeroValue4
 t5 := Tryz.underlying5
 a5 := Tryz.isAgg5
 z5 := Tryz.sizeOf5
 v5 := Tryz.zeroValue5
 t9 := Tryz.underlying9
 a9 := Tryz.isAgg9
 z9 := Tryz.sizeOf9
 v9 := Tryz.zeroValue9
 t21 := Tryz.underlying21
 a21 := Tryz.isAgg21
 z21 := Tryz.sizeOf21
 v21 := Tryz.zeroValue21
 t31 := Tryz.underlying70
 a31 := Tryz.isAgg70
 z31 := Tryz.sizeOf70
 v31 := Tryz.zeroValue70
 t46 := Tryz.underlying90
 a46 := Tryz.isAgg90
 z46 := Tryz.sizeOf90
 v46 := Tryz.zeroValue90
 t51 := Tryz.underlying112
 a51 := Tryz.isAgg112
 z51 := Tryz.sizeOf112
 v51 := Tryz.zeroValue112
 t105 := Tryz.underlying136
 a105 := Tryz.isAgg136
 z105 := Tryz.sizeOf136
 v105 := Tryz.zeroValue136
 t119 := Tryz.underlying146
 a119 := Tryz.isAgg146
 z119 := Tryz.sizeOf146
 t138 := Tryz.underlying148
 a138 := Tryz.isAgg148
 z138 := Tryz.sizeOf148
 v138 := Tryz.zeroValue148
 t139 := Tryz.underlying149
 a139 := Tryz.isAgg149
 z139 := Tryz.sizeOf149
 v139 := Tryz.zeroValue149
 t146 := Tryz.underlying151
 a146 := Tryz.isAgg151
 z146 := Tryz.sizeOf151
 v146 := Tryz.zeroValue151
 g1 := by kernel_rfl
 g3 := by kernel_rfl
 g4 := by kernel_rfl }
open Go.RowKit Go.Lib in
theorem Tryz.strings_Split (s sep : ByteArray) (m : Int) (w : World) (hs : s.size < 4294967281) (hm : w.cell? ⟨0, 0, none⟩ = some (.int .i64 m)) (h1 : 1 ≤ sep.size) :
  Calls Tryz.prog 60 #[.string s, .string sep] w fun e w' =>
   e = .returned (.slice (some ⟨w.heap.size, 0, none⟩) (Lib.countB s sep + 1) (Lib.countB s sep + 1)) ∧ w' = w.alloc (.cells ((Lib.splitB sep 0 (Lib.countB s sep) s).map Value.string).toArray 9) := Any.strings_Split Tryz.lays146 (by kernel_rfl) s sep m w hs hm h1
def Tryz.lays160_ren : Go.Shelf.Ren := ⟨fun | 160 => 61 | 232 => 77 | 231 => 76 | 227 => 78 | 234 => 80 | 233 => 79 | 236 => 82 | 235 => 81 | 228 => 94 | 271 => 97 | 151 => 96 | 197 => 95 | 120 => 105 | 152 => 104 | 260 => 103 | 137 => 110 | 119 => 111 | 224 => 108 | 225 => 107 | 217 => 106 | 266 => 112 | n => n, fun | 9 => 9 | 4 => 4 | 3 => 3 | 5 => 5 | 117 => 121 | 116 => 120 | 0 => 0 | 124 => 124 | 21 => 21 | 105 => 136 | 46 => 90 | 119 => 146 | 139 => 149 | 138 => 148 | n => n, fun | 3 => 1 | 4 => 2 | n => n⟩
theorem Tryz.lays160 : Go.Proofs.Lays.n160 Tryz.prog Tryz.lays160_ren := {
 mixed := by kernel_rfl
 f119 := Tryz.func111.trans (congrArg some (by kernel_rfl))
 f120 := Tryz.func105.trans (congrArg some (by kernel_rfl))
 f137 := Tryz.func110.trans (congrArg some (by kernel_rfl))
 f151 := Tryz.func96.trans (congrArg some (by kernel_rfl))
 f152 := Tryz.func104.trans (congrArg some (by kernel_rfl))
 f160 := Tryz.func61.trans (congrArg some (by kernel_rfl))
 f197 := Tryz.func95.trans (congrArg some (by kernel_rfl))
 f217 := Tryz.func106.trans (congrArg some (by kernel_rfl))
 f224 := Tryz.func108.trans (congrArg some (by kernel_rfl))
 f225 := Tryz.func107.trans (congrArg some (by kernel_rfl))
 f227 := Tryz.func78.trans (congrArg some (by kernel_rfl))
 f228 := Tryz.func94.trans (congrArg some (by kernel_rfl))
 f231 := Tryz.func76.trans (congrArg some (by kernel_rfl))
 f232 := Tryz.func77.trans (congrArg some (by kernel_rfl))
 f233 := Tryz.func79.trans (congrArg some (by kernel_rfl))
 f234 := Tryz.func80.trans (congrArg some (by kernel_rfl))
 f235 := Tryz.func81.trans (congrArg some (by kernel_rfl))
 f236 := Tryz.func82.trans (congrArg some (by kernel_rfl))
 f260 := Tryz.func103.trans (congrArg some (by kernel_rfl))
 f266 := Tryz.func112.trans (congrArg some (by kernel_rfl))
 f271 := Tryz.func97.trans (congrArg some (by kernel_rfl))
 t0 := Tryz.underlying0
 a0 := Tryz.isAgg0
 z0 := Tryz.sizeOf0
 v0 := Tryz.zeroValue0
 t3 := Tryz.underlying3
 a3 := Tryz.isAgg3
 z3 := Tryz.sizeOf3
 v3 := Tryz.zeroValue3
 t4 := Tryz.underlying4
 a4 := Tryz.isAgg4
 z4 := Tryz.sizeOf4
 v4 := Tryz.zeroValue4
 t5 := Tryz.underlying5
 a5 := Tryz.isAgg5
 z5 := Tryz.sizeOf5
 v5 := Tryz.zeroValue5
 t9 := Tryz.underlying9
 a9 := Tryz.isAgg9
 z9 := Tryz.sizeOf9
 v9 := Tryz.zeroValue9
 t21 := Tryz.underlying21
 a21 := Tryz.isAgg21
 z21 := Tryz.sizeOf21
 v21 := Tryz.zeroValue21
 t46 := Tryz.underlying90
 a46 := Tryz.isAgg90
 z46 := Tryz.sizeOf90
 v46 := Tryz.zeroValue90
 t105 := Tryz.underlying136
 a105 := Tryz.isAgg136
 z105 := Tryz.sizeOf136
 v105 := Tryz.zeroValue136
 t116 := Tryz.underlying120
 a116 := Tryz.isAgg120
 z116 := Tryz.sizeOf120
 t117 := Tryz.underlying121
 a117 := Tryz.isAgg121
 z117 := Tryz.sizeOf121
 v117 := Tryz.zeroValue121
 t119 := Tryz.underlying146
 a119 := Tryz.isAgg146
 z119 := Tryz.sizeOf146
 t124 := Tryz.underlying124
 a124 := Tryz.isAgg124
 z124 := Tryz.sizeOf124
 v124 := Tryz.zeroValue124
 t138 := Tryz.underlying148
 a138 := Tryz.isAgg148
 z138 := Tryz.sizeOf148
 v138 := Tryz.zeroValue148
 t139 := Tryz.underlying149
 a139 := Tryz.isAgg149
 z139 := Tryz.sizeOf149
 v139 := Tryz.zeroValue149
 g3 := by kernel_rfl
 g4 := by kernel_rfl }
end Go.Proofs
namespace Go.Proofs.YtdhbimankkpllaaGreatDoor
open Go.RowKit Go.Proofs.YtdhbimankkpllaaGreatDoorW.PrintWords Go.Proofs.YtdhbimankkpllaaGreatDoorW.PrintLast
set_option linter.unusedVariables false
set_option linter.unusedSimpArgs false
def strings_Split.f (a0 a1 : ByteArray) : Option (List ByteArray) := if a0.size < 4294967281 ∧ 1 ≤ a1.size then some (Lib.splitB a1 0 (Lib.countB a0 a1) a0) else none
theorem strings_Split.calls (a0 a1 : ByteArray) (r : List ByteArray) (w : World) (hL : Laid w) (h : strings_Split.f a0 a1 = some r) :
  Calls Tryz.prog 60 #[.string a0, .string a1] w fun e w' => ∃ v0_ : Value, e = .returned v0_ ∧ Kd.R Kd.string 9 w' w.heap.size (fun _ => True) v0_ r ∧ Below w.heap.size w w' := by
 unfold strings_Split.f at h
 split at h
 ·rename_i hs
  obtain rfl := Option.some.inj h
  obtain ⟨m, hm⟩ := hL
  have hlen := Lib.splitB_all a1 hs.2 0 _ a0 rfl
  have hle := Lib.countB_le a1 hs.2 a0.size a0 (Nat.le_refl _)
  refine (Tryz.strings_Split a0 a1 m w hs.1 hm hs.2).mono fun e w' ⟨h1, h2⟩ => ⟨_, h1, ?_, ?_⟩
  ·subst h2
   generalize Lib.splitB a1 0 (Lib.countB a0 a1) a0 = l at *
   rw [← hlen]
   refine Kd.R_of_own ⟨by rw [qQC, Nat.mul_one], .inr ⟨w.heap.size, l.length, (l.map Value.string).toArray, rfl, Nat.le_refl _, ?_, Nat.le_refl _, ?_, ?_, ?_⟩⟩ (fun _ _ => trivial)
   ·exact qXD _ _
   ·unfold maxLen; omega
   ·simp
   ·simp only [encs, Nat.mul_one]
    rw [List.take_of_length_le (by simp)]
  ·subst h2
   exact qQA (Below.refl _ _) _
 ·cases h
def qwA.f (a0 a1 : ByteArray) : Option ByteArray := if a0.size ≤ 9223372036854775807 ∧ a1.size < 4294967281 ∧ (a1.data.toList.all fun b => decide (b.toNat < 128)) = true then some ⟨(Lib.trimS a0.data.toList a1.data.toList).toArray⟩ else none
theorem qwA.calls (a0 a1 : ByteArray) (r : ByteArray) (w : World) (h : qwA.f a0 a1 = some r) :
  Calls Tryz.prog 61 #[.string a0, .string a1] w fun e w' => e = .returned (.string r) ∧ Below w.heap.size w w' := by
 unfold qwA.f at h
 split at h
 ·rename_i hs
  obtain rfl := Option.some.inj h
  exact Any.strings_Trim_laid Tryz.lays160 (by kernel_rfl) a0 a1 w hs.1 hs.2.1 (ascii_of_all hs.2.2)
 ·cases h
theorem Ev.at_ {α : Type} {g : Nat → Option α} {r : α} (n : Nat) (h : ∀ k, g (k + n) = some r) : Ev g r := ⟨n, fun k hk => by
 obtain ⟨m, rfl⟩ : ∃ m, k = m + n := ⟨k - n, by omega⟩
 exact h m⟩
theorem Ev.pos {α : Type} {c : Prop} [Decidable c] {g f : Nat → Option α} {r : α} (hc : c) (h : Ev g r) : Ev (fun k => if c then g k else f k) r := h.congr fun k => if_pos hc
theorem Ev.neg {α : Type} {c : Prop} [Decidable c] {g f : Nat → Option α} {r : α} (hc : ¬ c) (h : Ev f r) : Ev (fun k => if c then g k else f k) r := h.congr fun k => if_neg hc
theorem Ev.some_ {α : Type} {a r : α} (h : a = r) : Ev (fun _ => some a) r := ⟨0, fun _ _ => by rw [h]⟩
theorem Ev.bindc {α β : Type} {o : Option α} {f : Nat → α → Option β} {a : α} {r : β} (h : o = some a) (k : Ev (fun n => f n a) r) : Ev (fun n => o.bind (f n)) r := k.congr fun n => by rw [h]; rfl
def sp (c : UInt8) : List UInt8 → List UInt8 × List (List UInt8)
 | [] => ([], [])
 | b :: r => if b = c then ([], (sp c r).1 :: (sp c r).2) else (b :: (sp c r).1, (sp c r).2)
theorem splitK_sp (c : UInt8) (l : List UInt8) : Lib.splitK [c] 0 (Lib.count l [c]) l = (sp c l).1 :: (sp c l).2 := by
 induction l with
 | nil =>
  have : Lib.count [] [c] = 0 := by rw [Lib.count_one]; rfl
  rw [this]; rfl
 | cons b l ih =>
  by_cases h : b = c
  case pos => subst h; (have hix : Lib.index (b :: l) [b] = 0 := by rw [Lib.index]; simp [List.isPrefixOf]); rw [Lib.count_cons_eq, show 1 + Lib.count l [b] = Lib.count l [b] + 1 by omega, Lib.splitK, hix]; simp only [sp, if_true]; rw [if_neg (by decide), ← ih]; rfl
  have hp : ([c] : List UInt8).isPrefixOf (b :: l) = false := by simp [List.isPrefixOf, Ne.symm h]
  have hix : Lib.index (b :: l) [c] = if Lib.index l [c] == -1 then -1 else Lib.index l [c] + 1 := by rw [Lib.index, hp]; simp
  rw [Lib.count_cons_ne b c l h]
  simp only [sp, if_neg h]
  by_cases hm : Lib.index l [c] = -1
  case pos => have h0 : Lib.count l [c] = 0 := Lib.count_miss hm; rw [h0] at ih ⊢; simp only [Lib.splitK] at ih ⊢; injection ih with e1 e2; rw [← e1, ← e2]
  have hge := Lib.index_ge l [c]
  obtain ⟨j, hj⟩ : ∃ j : Nat, Lib.index l [c] = j := ⟨(Lib.index l [c]).toNat, by omega⟩
  have hc := Lib.count_hit (sub := [c]) (by simp) hj
  obtain ⟨k, hk⟩ : ∃ k, Lib.count l [c] = k + 1 := ⟨Lib.count l [c] - 1, by omega⟩
  rw [hk] at ih ⊢
  have hne : ¬ ((j : Int) == -1) = true := by intro e; have := beq_iff_eq.1 e; omega
  have hne' : ¬ ((j : Int) + 1 == -1) = true := by intro e; have := beq_iff_eq.1 e; omega
  rw [Lib.splitK, hj, if_neg hne] at ih
  rw [Lib.splitK, hix, hj, if_neg hne, if_neg hne']
  have e1 : ((j : Int) + 1).toNat = j + 1 := by omega
  rw [e1]
  simp only [Int.toNat_natCast, Nat.add_zero, List.length_singleton] at ih ⊢
  injection ih with i1 i2
  rw [← i1, ← i2]
  rfl
theorem split_sp (a : ByteArray) (c : UInt8) : (Lib.splitB ⟨#[c]⟩ 0 (Lib.countB a ⟨#[c]⟩) a).map (·.data.toList) = (sp c a.data.toList).1 :: (sp c a.data.toList).2 := by
 rw [Lib.splitB_data]
 exact splitK_sp c a.data.toList
theorem qoC (c : UInt8) (l : List UInt8) : l.length = (sp c l).1.length + ((sp c l).2.map List.length).sum + (sp c l).2.length := by
 induction l with
 | nil => rfl
 | cons b l ih =>
  by_cases h : b = c
  case pos => simp only [sp, if_pos h, List.length_cons, List.length_nil, List.map_cons, List.sum_cons]; omega
  simp only [sp, if_neg h, List.length_cons]; omega
theorem sp_all (c : UInt8) (p : UInt8 → Bool) (l : List UInt8) (hp : p c = false) : ((sp c l).1.all p && (sp c l).2.all (·.all p)) = l.all fun b => b == c || p b := by
 induction l with
 | nil => rfl
 | cons b l ih =>
  by_cases h : b = c
  case pos => subst h; simp only [sp, if_true, List.all_nil, Bool.true_and, List.all_cons, ih, beq_self_eq_true, Bool.true_or]
  have : (b == c) = false := by simpa using h
  simp only [sp, if_neg h, List.all_cons, Bool.and_assoc, ih, this, Bool.false_or]
theorem qXB {p : UInt8 → Bool} {e : UInt8} (he : p e = false) : ∀ l : List UInt8, e ∈ l → e ∈ l.dropWhile p
 | [], h => h
 | b :: l, h => by
  rw [List.dropWhile_cons]
  split
  ·rename_i hb
   rcases List.mem_cons.1 h with rfl | h
   ·rw [he] at hb; cases hb
   ·exact qXB he l h
  ·exact h
theorem dropWhile_all {p : UInt8 → Bool} : ∀ l : List UInt8, l.all p = true → l.dropWhile p = []
 | [], _ => rfl
 | b :: l, h => by
  rw [List.all_cons, Bool.and_eq_true] at h
  rw [List.dropWhile_cons, if_pos h.1]
  exact dropWhile_all l h.2
theorem trimS_nil (l cs : List UInt8) : (Lib.trimS l cs = []) ↔ l.all (cs.contains ·) = true := by
 unfold Lib.trimS Lib.trimLeftS Lib.trimRightS
 constructor
 ·intro h
  rw [List.all_eq_true]
  intro e he
  cases hc : cs.contains e with
  | true => rfl
  | false =>
   have h1 := qXB (p := (cs.contains ·)) (e := e) hc l.reverse (by simpa using he)
   have h2 := qXB (p := (cs.contains ·)) (e := e) hc (l.reverse.dropWhile (cs.contains ·)).reverse (by simpa using h1)
   rw [h] at h2; cases h2
 ·intro h
  rw [dropWhile_all l.reverse (by rw [List.all_reverse]; exact h)]
  rfl
end Go.Proofs.YtdhbimankkpllaaGreatDoor
namespace Go.Proofs.YtdhbimankkpllaaGreatDoor.P
open Go.RowKit Go.Proofs.YtdhbimankkpllaaGreatDoorW.PrintWords Go.Proofs.YtdhbimankkpllaaGreatDoorW.PrintLast Go.Proofs.YtdhbimankkpllaaGreatDoorW.PrintMore
attribute [local go_sem] qq qo qBA qAA qe qd qp qn
set_option linter.unusedVariables false
set_option linter.unusedSimpArgs false
def qmA.f (a0 : Int) (a1 : Int) (a2 : Int) : Option (Bool) := if a1 ≤ a0 then (some (decide (a0 ≤ a2))) else (some false)
set_option maxHeartbeats 8000000 in
set_option maxRecDepth 100000 in
theorem qmA.calls (a0 : Int) (a1 : Int) (a2 : Int) (r : Bool) (w : World) (h : qmA.f a0 a1 a2 = some r) :
  Calls Tryz.prog 47 #[.int .i64 a0, .int .i64 a1, .int .i64 a2] w fun e w' => e = .returned (.bool r) ∧ Drawn0 w w' := by
 have H : (if a1 ≤ a0 then (some (decide (a0 ≤ a2))) else (some false)) = some r := h
 clear h
 by_cases c4 : a1 ≤ a0
 ·rw [if_pos c4] at H
  have c4b0 := decide_eq_true c4
  clear c4
  obtain rfl := Option.some.inj H
  go_enter Tryz.func47, Tryz.ntmps47
  go_wp2
  go_ret
  exact ⟨by first | rfl | (simp; done) | (simp [*]; done), dR⟩
 ·rw [if_neg c4] at H
  have c4b0 := decide_eq_false c4
  clear c4
  obtain rfl := Option.some.inj H
  go_enter Tryz.func47, Tryz.ntmps47
  go_wp2
  go_ret
  exact ⟨by first | rfl | (simp; done) | (simp [*]; done), dR⟩
def qOA.l0 : Nat → ByteArray → Int → List ByteArray → Int → Int → Option (List ByteArray × Bool)
 | 0, _, _, _, _, _ => none
 | k + 1, x1, x7, x11, x17, x18 => if x18 < x17 then (if 0 ≤ x18 then (if x18 < (x11.length : Int) then (if ((rdOf ByteArray.empty x11 x18).size : Int) = x7 then ((qwA.f (rdOf ByteArray.empty x11 x18) x1).bind fun t348 => (if t348.toList = ([] : List UInt8) then (qOA.l0 k x1 x7 x11 x17 (wrap64 (x18 + 1))) else (some (([] : List ByteArray), false)))) else (some (([] : List ByteArray), false))) else (none)) else (none)) else ((qmA.f (x11.length : Int) 1 7).bind fun t349 => (if t349 = true then ((qmA.f x7 1 7).bind fun t350 => (if t350 = true then (some (x11, decide ((wrap64 (x7 * (x11.length : Int))) ≤ 36))) else (some (x11, false)))) else (some (x11, false))))
def qOA.f (k : Nat) (a0 : ByteArray) (a1 : ByteArray) : Option (List ByteArray × Bool) := (strings_Split.f a0 (⟨#[47]⟩ : ByteArray)).bind fun t343 => (if 0 < (t343.length : Int) then (qOA.l0 k a1 ((rdOf ByteArray.empty t343 0).size : Int) t343 (t343.length : Int) 0) else (none))
set_option maxHeartbeats 8000000 in
set_option maxRecDepth 100000 in
theorem qOA.calls (k : Nat) (a0 : ByteArray) (a1 : ByteArray) (r1 : List ByteArray) (r2 : Bool) (w : World) (hL : Laid w) (h : qOA.f k a0 a1 = some (r1, r2)) :
  Calls Tryz.prog 46 #[.string a0, .string a1] w fun e w' => ∃ v0_ : Value, e = .returned (.tuple #[v0_, .bool r2]) ∧ Kd.R Kd.string 9 w' w.heap.size (fun _ => True) v0_ r1 ∧ Below w.heap.size w w' := by
 have HLD := aM hL
 clear hL
 have HB := aM (Below.refl w.heap.size w)
 have H : ((strings_Split.f a0 (⟨#[47]⟩ : ByteArray)).bind fun t343 => (if 0 < (t343.length : Int) then (qOA.l0 k a1 ((rdOf ByteArray.empty t343 0).size : Int) t343 (t343.length : Int) 0) else (none))) = some (r1, r2) := h
 clear h
 replace H := bO H
 obtain ⟨t343, A3, H⟩ := H
 by_cases c4 : 0 < (t343.length : Int)
 ·rw [if_pos c4] at H
  have c4b0 := decide_eq_true c4
  have c4b1 : decide (0 < t343.length) = true := decide_eq_true (by omega)
  clear c4
  have H' := aM H
  clear H
  go_enter Tryz.func46, Tryz.ntmps46
  go_wp2_with (first | ((with_reducible refine qF (f := 60) rfl ?_); refine qh (some 11) rfl rfl Tryz.func60 (by kernel_rfl) rfl #[.string a0, .string (⟨#[47]⟩ : ByteArray)] rfl gA ?_; (with_reducible refine (strings_Split.calls a0 (⟨#[47]⟩ : ByteArray) t343 _ ?side1 A3.out).mono ?_); (case side1 => first | (with_reducible exact HLD.out) | exact Laid.below HLD.out bl); rintro e w5 ⟨v344, rfl, ho0, hb⟩; refine ⟨_, rfl, ?_⟩; have HO345 := aM (Kd.qHA ho0 (qT bl)); replace HB := aM (qB bl hb); (try clear hb); (try clear hb2); (try clear hk); (try clear hi); (try clear ho0); obtain ⟨Ao6, co6, eo6⟩ := Kd.qi HO345.out; subst eo6; have p346 : 0 ≤ (0 : Int) := (by omega); have q346 : 0 < (t343.length : Int) := of_decide_eq_true am; obtain ⟨ad346, e346, hx346_0⟩ := Kd.qmB (Kd.qE HO345.out).2.2 0 p346 q346; cases e346; have qi346 : (0 < t343.length) = True := eq_true (by omega); (try rw [show ((0 : Int)).toNat = 0 from rfl] at hx346_0); (try rw [Addr.add_zero'] at hx346_0); replace p346 := eq_true p346; replace q346 := eq_true q346))
  go_loopg [18] k (fun kq v18 w' => ∃ (x18_1 : Int), v18 = .int .i64 x18_1 ∧ Aside0 (qOA.l0 kq a1 ((rdOf ByteArray.empty t343 0).size : Int) t343 (t343.length : Int) x18_1 = some (r1, r2)) ∧ Aside0 (kq ≤ k) ∧ Aside0 (Kd.R Kd.string 9 w' w.heap.size (fun _ => True) (.slice (some ad346) t343.length co6) t343) ∧ Aside0 (Below w.heap.size w w'))
  case atStart => exact ⟨(0), sD, H', ⟨Nat.le_refl _⟩, ⟨rR HO345⟩, ⟨bl⟩⟩
  case round =>
   clear H'; (try clear p2); (try clear p3); (try clear q3); (try clear hx3); (try clear qi3); (try clear c4); (try clear c4b0); (try clear c4b1); (try clear c6); (try clear hx346_0); (try clear p346); (try clear q346)
   obtain ⟨x18_1, rfl, HA, HK1, HO_11, HB⟩ := hrel
   cases gk with
   | zero => exact absurd HA.out (by simp [qOA.l0])
   | succ k1 =>
    have H := HA.out
    clear HA
    simp only [qOA.l0] at H
    by_cases c7 : x18_1 < (t343.length : Int)
    ·rw [if_pos c7] at H
     have c7b0 := decide_eq_true c7
     clear c7
     by_cases c8 : 0 ≤ x18_1
     case neg => exact nN c8 H
     rw [if_pos c8] at H
     have c8b0 := decide_eq_true c8
     clear c8
     by_cases c9 : x18_1 < (t343.length : Int)
     case neg => exact nN c9 H
     rw [if_pos c9] at H
     have c9b0 := decide_eq_true c9
     clear c9
     by_cases c10 : ((rdOf ByteArray.empty t343 x18_1).size : Int) = ((rdOf ByteArray.empty t343 0).size : Int)
     ·rw [if_pos c10] at H
      have c10b0 := beq_iff_eq.mpr c10
      have c10b1 := bne_eq_false_iff_eq.mpr c10
      have c10b2 : ((rdOf ByteArray.empty t343 x18_1).size == (rdOf ByteArray.empty t343 0).size) = true := by first | simpa using c10 | (simp at c10 ⊢; omega)
      clear c10
      replace H := bO H
      obtain ⟨t348, A11, H⟩ := H
      by_cases c12 : t348.toList = ([] : List UInt8)
      ·rw [if_pos c12] at H
       have c12b0 := beq_iff_eq.mpr c12
       have c12b1 := bne_eq_false_iff_eq.mpr c12
       clear c12
       have H' := aM H
       clear H
       have p347 : 0 ≤ (x18_1 : Int) := of_decide_eq_true am
       have q347 : x18_1 < (t343.length : Int) := of_decide_eq_true am
       obtain ⟨ad347, e347, hx347_0⟩ := Kd.qmB (Kd.qE HO_11.out).2.2 x18_1 p347 q347
       obtain rfl : ad346 = ad347 := (by injection e347)
       replace p347 := eq_true p347
       replace q347 := eq_true q347
       go_wp2_with (first | (go_at_call 61; (with_reducible refine (qwA.calls (rdOf ByteArray.empty t343 x18_1) a1 t348 _ A11.out).mono ?_); rintro e w13 ⟨rfl, hb⟩; replace HO_11 := aM (Kd.qj (rR HO_11) hb); replace HB := aM (qB bl hb); (try clear hb); (try clear hb2); (try clear hk); (try clear hi)))
       go_roundg k1
       case measure => have := HK1.out; omega
       case rel => exact ⟨(wrap64 (x18_1 + 1)), sD, H', ⟨by have := HK1.out; omega⟩, ⟨rR HO_11⟩, ⟨bl⟩⟩
      ·rw [if_neg c12] at H
       have c12b0 := beq_eq_false_iff_ne.mpr c12
       have c12b1 := bne_iff_ne.mpr c12
       simp only [Option.some.injEq, Prod.mk.injEq] at H
       obtain ⟨rfl, rfl⟩ := H
       have p347 : 0 ≤ (x18_1 : Int) := of_decide_eq_true am
       have q347 : x18_1 < (t343.length : Int) := of_decide_eq_true am
       obtain ⟨ad347, e347, hx347_0⟩ := Kd.qmB (Kd.qE HO_11.out).2.2 x18_1 p347 q347
       obtain rfl : ad346 = ad347 := (by injection e347)
       replace p347 := eq_true p347
       replace q347 := eq_true q347
       go_wp2_with (first | (go_at_call 61; (with_reducible refine (qwA.calls (rdOf ByteArray.empty t343 x18_1) a1 t348 _ A11.out).mono ?_); rintro e w14 ⟨rfl, hb⟩; replace HO_11 := aM (Kd.qj (rR HO_11) hb); replace HB := aM (qB bl hb); (try clear hb); (try clear hb2); (try clear hk); (try clear hi)))
       go_ret2
       exact ⟨_, sR, nK, bl⟩
     ·rw [if_neg c10] at H
      have c10b0 := beq_eq_false_iff_ne.mpr c10
      have c10b1 := bne_iff_ne.mpr c10
      have c10b2 : ((rdOf ByteArray.empty t343 x18_1).size == (rdOf ByteArray.empty t343 0).size) = false := by first | simpa using c10 | (simp at c10 ⊢; omega)
      simp only [Option.some.injEq, Prod.mk.injEq] at H
      obtain ⟨rfl, rfl⟩ := H
      have p347 : 0 ≤ (x18_1 : Int) := of_decide_eq_true am
      have q347 : x18_1 < (t343.length : Int) := of_decide_eq_true am
      obtain ⟨ad347, e347, hx347_0⟩ := Kd.qmB (Kd.qE HO_11.out).2.2 x18_1 p347 q347
      obtain rfl : ad346 = ad347 := (by injection e347)
      replace p347 := eq_true p347
      replace q347 := eq_true q347
      go_wp2
      go_ret2
      exact ⟨_, sR, nK, bl⟩
    ·rw [if_neg c7] at H
     have c7b0 := decide_eq_false c7
     clear c7
     replace H := bO H
     obtain ⟨t349, A15, H⟩ := H
     by_cases c16 : t349 = true
     ·subst c16
      replace H := iT H
      replace H := bO H
      obtain ⟨t350, A17, H⟩ := H
      by_cases c18 : t350 = true
      ·subst c18
       replace H := iT H
       simp only [Option.some.injEq, Prod.mk.injEq] at H
       obtain ⟨rfl, rfl⟩ := H
       go_wp2_with (first | ((with_reducible refine qF (f := 47) rfl ?_); refine qh (some 36) rfl rfl Tryz.func47 (by kernel_rfl) rfl #[.int .i64 (t343.length : Int), .int .i64 1, .int .i64 7] rfl gA ?_; (with_reducible refine (qmA.calls (t343.length : Int) 1 7 true _ A15.out).mono ?_); rintro e w' ⟨rfl, ⟨nd, rfl⟩⟩; refine ⟨_, rfl, ?_⟩) | (go_at_call 47; (with_reducible refine (qmA.calls ((rdOf ByteArray.empty t343 0).size : Int) 1 7 true _ A17.out).mono ?_); rintro e w' ⟨rfl, ⟨nd, rfl⟩⟩))
       go_ret2
       exact ⟨_, sR, by (with_reducible repeat (first | apply Kd.qR | apply Kd.qU | apply Kd.qQ)); exact HO_11.out, bl⟩
      ·replace c18 := Bool.eq_false_iff.mpr c18
       subst c18
       replace H := iF H
       simp only [Option.some.injEq, Prod.mk.injEq] at H
       obtain ⟨rfl, rfl⟩ := H
       go_wp2_with (first | ((with_reducible refine qF (f := 47) rfl ?_); refine qh (some 36) rfl rfl Tryz.func47 (by kernel_rfl) rfl #[.int .i64 (t343.length : Int), .int .i64 1, .int .i64 7] rfl gA ?_; (with_reducible refine (qmA.calls (t343.length : Int) 1 7 true _ A15.out).mono ?_); rintro e w' ⟨rfl, ⟨nd, rfl⟩⟩; refine ⟨_, rfl, ?_⟩) | (go_at_call 47; (with_reducible refine (qmA.calls ((rdOf ByteArray.empty t343 0).size : Int) 1 7 false _ A17.out).mono ?_); rintro e w' ⟨rfl, ⟨nd, rfl⟩⟩))
       go_ret2
       exact ⟨_, sR, by (with_reducible repeat (first | apply Kd.qR | apply Kd.qU | apply Kd.qQ)); exact HO_11.out, bl⟩
     ·replace c16 := Bool.eq_false_iff.mpr c16
      subst c16
      replace H := iF H
      simp only [Option.some.injEq, Prod.mk.injEq] at H
      obtain ⟨rfl, rfl⟩ := H
      go_wp2_with (first | ((with_reducible refine qF (f := 47) rfl ?_); refine qh (some 36) rfl rfl Tryz.func47 (by kernel_rfl) rfl #[.int .i64 (t343.length : Int), .int .i64 1, .int .i64 7] rfl gA ?_; (with_reducible refine (qmA.calls (t343.length : Int) 1 7 false _ A15.out).mono ?_); rintro e w' ⟨rfl, ⟨nd, rfl⟩⟩; refine ⟨_, rfl, ?_⟩))
      go_ret2
      exact ⟨_, sR, by (with_reducible repeat (first | apply Kd.qR | apply Kd.qU | apply Kd.qQ)); exact HO_11.out, bl⟩
 ·rw [if_neg c4] at H
  exact absurd H (by simp)
end Go.Proofs.YtdhbimankkpllaaGreatDoor.P
namespace Go.Proofs.YtdhbimankkpllaaGreatDoor
open Go.RowKit Go.Proofs.YtdhbimankkpllaaGreatDoor.P Go.Proofs.YtdhbimankkpllaaGreatDoorW.PrintWords Go.Proofs.YtdhbimankkpllaaGreatDoorW.PrintLast
set_option linter.unusedVariables false
set_option linter.unusedSimpArgs false
theorem qkC (n a b : Int) : qmA.f n a b = some (decide (a ≤ n) && decide (n ≤ b)) := by
 unfold qmA.f
 by_cases h : a ≤ n
 case pos => rw [if_pos h, decide_eq_true h, Bool.true_and]
 rw [if_neg h, decide_eq_false h, Bool.false_and]
theorem qcD (l : List ByteArray) (i : Nat) (h : i < l.length) : rdOf ByteArray.empty l (i : Int) = l[i] := by
 unfold rdOf
 rw [Int.toNat_natCast, List.getD_eq_getElem?_getD, List.getElem?_eq_getElem h]; rfl
theorem qdB (s : ByteArray) : s.data.toList.length = s.size := by rw [Array.length_toList]; rfl
theorem gr_bt (s : ByteArray) (i : Nat) (h : i < s.data.toList.length) : bt s (i : Int) = ((s.data.toList[i]).toNat : Int) := by
 have h' : i < s.size := by rw [← qdB]; exact h
 unfold bt
 rw [dif_pos (by simpa using h')]
 simp only [Int.toNat_natCast, Array.getElem_toList]
 rfl
def fitR (C : List UInt8) (w : Nat) (r : List UInt8) : Bool := decide (r.length = w) && r.all (C.contains ·)
def szR (w h : Nat) : Bool := decide (1 ≤ h) && decide (h ≤ 7) && decide (1 ≤ w) && decide (w ≤ 7) && decide (w * h ≤ 36)
theorem rowsOf_loop (C : ByteArray) (hC : C.size < 100) (hA : (C.data.toList.all fun b => decide (b.toNat < 128)) = true) (w : Nat) (hw : w ≤ 4294967281) (L : List ByteArray) (hL : L.length ≤ 4294967281) (hs : ∀ x ∈ L, x.size ≤ 4294967281) (d : Nat) : ∀ i : Nat, i ≤ L.length → L.length - i = d →
  Ev (fun k => qOA.l0 k C (w : Int) L (L.length : Int) (i : Int)) (if (L.drop i).all (fun x => fitR C.data.toList w x.data.toList) then (L, szR w L.length) else ([], false)) := by
 induction d with
 | zero =>
  intro i hi hd
  refine Ev.step (f := fun k => _) (fun k => by rw [qOA.l0]) ?_
  refine Ev.neg (by omega) (Ev.bindc (qkC _ _ _) ?_)
  rw [List.drop_eq_nil_of_le (by omega), List.all_nil, if_pos rfl]
  by_cases h1 : 1 ≤ L.length ∧ L.length ≤ 7
  ·have e1 : (decide ((1 : Int) ≤ (L.length : Int)) && decide ((L.length : Int) ≤ 7)) = true := by rw [decide_eq_true (by omega), decide_eq_true (by omega)]; rfl
   refine Ev.pos e1 (Ev.bindc (qkC _ _ _) ?_)
   by_cases h2 : 1 ≤ w ∧ w ≤ 7
   ·have e2 : (decide ((1 : Int) ≤ (w : Int)) && decide ((w : Int) ≤ 7)) = true := by rw [decide_eq_true (by omega), decide_eq_true (by omega)]; rfl
    refine Ev.pos e2 (Ev.some_ ?_)
    have hm : w * L.length ≤ 7 * 7 := Nat.mul_le_mul h2.2 h1.2
    have hc : ((w : Int) * (L.length : Int)) = ((w * L.length : Nat) : Int) := by push_cast; rfl
    rw [hc]
    generalize hn : w * L.length = n at *
    have ew : wrap64 (n : Int) = (n : Int) := by unfold wrap64; omega
    rw [ew]
    have : szR w L.length = decide (n ≤ 36) := by
     unfold szR
     rw [hn, decide_eq_true h1.1, decide_eq_true h1.2, decide_eq_true h2.1, decide_eq_true h2.2]; rfl
    rw [this]
    congr 1
    exact decide_eq_decide.2 (by omega)
   ·refine Ev.neg (by simp only [Bool.and_eq_true, decide_eq_true_eq]; omega) (Ev.some_ ?_)
    have : szR w L.length = false := by
     unfold szR
     simp only [Bool.and_eq_false_iff, decide_eq_false_iff_not]; omega
    rw [this]
  ·refine Ev.neg (by simp only [Bool.and_eq_true, decide_eq_true_eq]; omega) (Ev.some_ ?_)
   have : szR w L.length = false := by
    unfold szR
    simp only [Bool.and_eq_false_iff, decide_eq_false_iff_not]; omega
   rw [this]
 | succ d ih =>
  intro i hi hd
  have h : i < L.length := by omega
  refine Ev.step (f := fun k => _) (fun k => by rw [qOA.l0]) ?_
  refine Ev.pos (by omega) (Ev.pos (by omega) (Ev.pos (by omega) ?_))
  rw [qcD L i h, List.drop_eq_getElem_cons h, List.all_cons, show wrap64 ((i : Int) + 1) = ((i + 1 : Nat) : Int) by unfold wrap64; omega]
  have hsz := hs _ (List.getElem_mem h)
  have ihh := ih (i + 1) (by omega) (by omega)
  generalize L[i] = x at *
  by_cases hx : x.size = w
  ·refine Ev.pos (by omega) (Ev.bindc (show qwA.f x C = some _ from by unfold qwA.f; rw [if_pos ⟨by omega, by omega, hA⟩]) ?_)
   have ht : (⟨(Lib.trimS x.data.toList C.data.toList).toArray⟩ : ByteArray).toList = Lib.trimS x.data.toList C.data.toList := by
    rw [Lib.toList_data]
   by_cases hal : x.data.toList.all (C.data.toList.contains ·) = true
   ·refine Ev.pos (by rw [ht]; exact (trimS_nil _ _).2 hal) ?_
    have : fitR C.data.toList w x.data.toList = true := by
     unfold fitR
     rw [hal, Bool.and_true, decide_eq_true (by rw [qdB]; exact hx)]
    rw [this, Bool.true_and]
    exact ihh
   ·refine Ev.neg (by rw [ht]; exact fun e => hal ((trimS_nil _ _).1 e)) (Ev.some_ ?_)
    have : fitR C.data.toList w x.data.toList = false := by
     unfold fitR
     rw [Bool.eq_false_iff.2 hal, Bool.and_false]
    rw [this]; rfl
  ·refine Ev.neg (by omega) (Ev.some_ ?_)
   have : fitR C.data.toList w x.data.toList = false := by
    unfold fitR
    rw [decide_eq_false (by rw [qdB]; exact hx), Bool.false_and]
   rw [this]; rfl
def rowsT (a : ByteArray) : List ByteArray := Lib.splitB ⟨#[47]⟩ 0 (Lib.countB a ⟨#[47]⟩) a
theorem qjB (a : ByteArray) : (rowsT a).map (·.data.toList) = (sp 47 a.data.toList).1 :: (sp 47 a.data.toList).2 := split_sp a 47
def wideT (a : ByteArray) : Nat := (sp 47 a.data.toList).1.length
def highT (a : ByteArray) : Nat := (sp 47 a.data.toList).2.length + 1
theorem qeB (a : ByteArray) : (rowsT a).length = highT a := by
 have := congrArg List.length (qjB a)
 simpa [highT] using this
def rowsFit (C : List UInt8) (a : ByteArray) : Bool := ((sp 47 a.data.toList).1 :: (sp 47 a.data.toList).2).all (fitR C (wideT a))
theorem sum_le_mem (l : List Nat) : ∀ x ∈ l, x ≤ l.sum := by
 induction l with
 | nil => intro x h; cases h
 | cons b l ih =>
  intro x h
  rw [List.sum_cons]
  rcases List.mem_cons.1 h with rfl | h
  ·omega
  ·have := ih x h; omega
theorem rowsT_size (a : ByteArray) : ∀ x ∈ rowsT a, x.size ≤ a.size := by
 intro x hx
 have h1 : x.data.toList ∈ (rowsT a).map (·.data.toList) := List.mem_map_of_mem hx
 rw [qjB] at h1
 have h2 := qoC 47 a.data.toList
 rw [qdB] at h2
 rw [← qdB x]
 rcases List.mem_cons.1 h1 with h | h
 ·rw [h]; omega
 ·have := sum_le_mem _ _ (List.mem_map_of_mem (f := List.length) h); omega
theorem rowsOf_ev (a C : ByteArray) (ha : a.size ≤ 1048576) (hC : C.size < 100) (hA : (C.data.toList.all fun b => decide (b.toNat < 128)) = true) :
  Ev (fun k => qOA.f k a C) (if rowsFit C.data.toList a then (rowsT a, szR (wideT a) (highT a)) else ([], false)) := by
 unfold qOA.f
 refine Ev.bindc (show strings_Split.f a ⟨#[47]⟩ = some (rowsT a) from by unfold strings_Split.f; rw [if_pos ⟨by omega, by decide⟩]; rfl) ?_
 have hlen := qeB a
 have hl2 := qoC 47 a.data.toList
 rw [qdB] at hl2
 have hh : highT a ≤ a.size + 1 := by unfold highT; omega
 have h0 : 0 < (rowsT a).length := by rw [hlen]; unfold highT; omega
 refine Ev.pos (by omega) ?_
 have e0 : rdOf ByteArray.empty (rowsT a) 0 = (rowsT a)[0] := qcD (rowsT a) 0 h0
 have e1 : ((rowsT a)[0]).size = wideT a := by
  have := qjB a
  have h2 : ((rowsT a).map (·.data.toList))[0]'(by simpa using h0) = (sp 47 a.data.toList).1 := by
   simp only [this, List.getElem_cons_zero]
  rw [List.getElem_map] at h2
  rw [← qdB, h2]; rfl
 rw [e0, e1]
 have hw : wideT a ≤ a.size := by rw [← e1]; exact rowsT_size a _ (List.getElem_mem h0)
 have := rowsOf_loop C hC hA (wideT a) (by omega) (rowsT a) (by omega) (fun x hx => by have := rowsT_size a x hx; omega) (rowsT a).length 0 (by omega) (by omega)
 rw [List.drop_zero] at this
 have e2 : (rowsT a).all (fun x => fitR C.data.toList (wideT a) x.data.toList) = rowsFit C.data.toList a := by
  unfold rowsFit
  rw [← qjB, List.all_map]; rfl
 rw [e2] at this
 rw [← hlen]
 exact this
end Go.Proofs.YtdhbimankkpllaaGreatDoor
namespace Go.Proofs.YtdhbimankkpllaaGreatDoor.P
open Go.RowKit Go.Proofs.YtdhbimankkpllaaGreatDoorW.PrintWords Go.Proofs.YtdhbimankkpllaaGreatDoorW.PrintLast Go.Proofs.YtdhbimankkpllaaGreatDoorW.PrintMore
attribute [local go_sem] qq qo qBA qAA qe qd qp qn
set_option linter.unusedVariables false
set_option linter.unusedSimpArgs false
def qsA.f (k : Nat) (a0 : ByteArray) : Option (List ByteArray × Bool) := (qOA.f k a0 (⟨#[46, 35]⟩ : ByteArray)).bind fun bt351 => (some (bt351.1, bt351.2))
set_option maxHeartbeats 8000000 in
set_option maxRecDepth 100000 in
theorem qsA.calls (k : Nat) (a0 : ByteArray) (r1 : List ByteArray) (r2 : Bool) (w : World) (hL : Laid w) (h : qsA.f k a0 = some (r1, r2)) :
  Calls Tryz.prog 31 #[.string a0] w fun e w' => ∃ v0_ : Value, e = .returned (.tuple #[v0_, .bool r2]) ∧ Kd.R Kd.string 9 w' w.heap.size (fun _ => True) v0_ r1 ∧ Below w.heap.size w w' := by
 have HLD := aM hL
 clear hL
 have HB := aM (Below.refl w.heap.size w)
 have H : ((qOA.f k a0 (⟨#[46, 35]⟩ : ByteArray)).bind fun bt351 => (some (bt351.1, bt351.2))) = some (r1, r2) := h
 clear h
 replace H := bO H
 obtain ⟨⟨t351, t352⟩, A2, H⟩ := H
 dsimp only at H A2
 simp only [Option.some.injEq, Prod.mk.injEq] at H
 obtain ⟨rfl, rfl⟩ := H
 go_enter Tryz.func31, Tryz.ntmps31
 go_wp2_with (first | ((with_reducible refine qF (f := 46) rfl ?_); refine qh (some 5) rfl rfl Tryz.func46 (by kernel_rfl) rfl #[.string a0, .string (⟨#[46, 35]⟩ : ByteArray)] rfl gA ?_; (with_reducible refine (qOA.calls k a0 (⟨#[46, 35]⟩ : ByteArray) t351 t352 _ ?side1 A2.out).mono ?_); (case side1 => first | (with_reducible exact HLD.out) | exact Laid.below HLD.out bl); rintro e w3 ⟨v353, rfl, ho0, hb⟩; refine ⟨_, rfl, ?_⟩; have HO354 := aM (Kd.qHA ho0 (qT bl)); replace HB := aM (qB bl hb); (try clear hb); (try clear hb2); (try clear hk); (try clear hi); (try clear ho0)))
 go_ret2
 exact ⟨_, sR, by (with_reducible repeat (first | apply Kd.qR | apply Kd.qU | apply Kd.qQ)); exact HO354.out, bl⟩
end Go.Proofs.YtdhbimankkpllaaGreatDoor.P
namespace Go.Proofs.YtdhbimankkpllaaGreatDoor
open Go.RowKit Go.Proofs.YtdhbimankkpllaaGreatDoor.P Go.Proofs.YtdhbimankkpllaaGreatDoorW.PrintWords Go.Proofs.YtdhbimankkpllaaGreatDoorW.PrintLast
set_option linter.unusedVariables false
set_option linter.unusedSimpArgs false
abbrev RdG := Int × Int × List Int × Bool
def badG : RdG := (0, 0, [], false)
def finG (w h : Nat) (cs : List Int) : RdG := if 7 < w then badG else if 7 < h then badG else if 36 < cs.length then badG else ((w : Int), (h : Int), cs, true)
def runG : List UInt8 → Nat → Nat → Nat → List Int → RdG
 | [], x, w, h, cs => if (0 < h ∧ x ≠ w) ∨ x = 0 then badG else finG x (h + 1) cs
 | c :: r, x, w, h, cs =>
  if c = 47 then (if (0 < h ∧ x ≠ w) ∨ x = 0 then badG else runG r 0 x (h + 1) cs)
  else if c = 46 ∨ c = 35 then runG r (x + 1) w h (cs ++ [(c.toNat : Int)])
  else badG
theorem u8eq (c : UInt8) (n : Nat) (hn : n < 256) : ((c.toNat : Int) = (n : Int)) ↔ c = UInt8.ofNat n := by
 constructor
 ·intro h
  have : c.toNat = n := by omega
  rw [← this]; simp
 ·intro h
  subst h
  simp; omega
theorem bx_end (a : ByteArray) (ha : a.size ≤ 42) (w h : Nat) (cs : List Int) : Ev (fun k => qP.l0 k a 0 ((a.size : Int) + 1) (w : Int) (h : Int) cs) (finG w h cs) := by
 refine Ev.step (f := fun k => _) (fun k => by rw [qP.l0]) ?_
 refine Ev.neg (by omega) ?_
 unfold finG
 by_cases h1 : 7 < w
 ·rw [if_pos h1]; exact Ev.pos (by omega) (Ev.now _)
 rw [if_neg h1]; refine Ev.neg (by omega) ?_
 by_cases h2 : 7 < h
 ·rw [if_pos h2]; exact Ev.pos (by omega) (Ev.now _)
 rw [if_neg h2]; refine Ev.neg (by omega) ?_
 by_cases h3 : 36 < cs.length
 ·rw [if_pos h3]; exact Ev.pos (by omega) (Ev.now _)
 rw [if_neg h3]; exact Ev.neg (by omega) (Ev.now _)
theorem bx_sep (a : ByteArray) (i x w h : Nat) (cs : List Int) (hx : x ≤ 100) (hh : h ≤ 100) (hi : i ≤ 100) (R : RdG)
  (hR : Ev (fun k => qP.l0 k a 0 ((i : Int) + 1) (x : Int) ((h + 1 : Nat) : Int) cs) R) :
  Ev (fun k => qP.j1 k a (x : Int) (i : Int) false (w : Int) (h : Int) cs) (if (0 < h ∧ x ≠ w) ∨ x = 0 then badG else R) := by
 have w1 : wrap64 ((i : Int) + 1) = (i : Int) + 1 := by unfold wrap64; omega
 have w2 : wrap64 ((h : Int) + 1) = ((h + 1 : Nat) : Int) := by unfold wrap64; omega
 refine Ev.step (f := fun k => _) (fun k => by rw [qP.j1]) ?_
 refine Ev.neg (by decide) ?_
 rw [w1, w2]
 by_cases h1 : 0 < h
 ·refine Ev.pos (by omega) ?_
  by_cases h2 : x = w
  case neg => rw [if_pos (.inl ⟨h1, h2⟩)]; exact Ev.neg (by omega) (Ev.now _)
  refine Ev.pos (by omega) ?_
  by_cases h3 : x = 0
  case neg => rw [if_neg (by omega)]; exact Ev.neg (by omega) hR
  rw [if_pos (.inr h3)]; exact Ev.pos (by omega) (Ev.now _)
 ·refine Ev.neg (by omega) ?_
  by_cases h3 : x = 0
  case pos => rw [if_pos (.inr h3)]; exact Ev.pos (by omega) (Ev.now _)
  rw [if_neg (by omega)]; exact Ev.neg (by omega) hR
theorem bx_loop (a : ByteArray) (ha : a.size ≤ 42) (d : Nat) : ∀ (i x w h : Nat) (cs : List Int), i ≤ a.size → a.size - i = d → x ≤ i → h ≤ i → cs.length ≤ i →
  Ev (fun k => qP.l0 k a (x : Int) (i : Int) (w : Int) (h : Int) cs) (runG (a.data.toList.drop i) x w h cs) := by
 have hsz := qdB a
 induction d with
 | zero =>
  intro i x w h cs hi hd hx hh hc
  obtain rfl : i = a.size := by omega
  refine Ev.step (f := fun k => _) (fun k => by rw [qP.l0]) ?_
  refine Ev.pos (by omega) (Ev.neg (by omega) ?_)
  rw [List.drop_eq_nil_of_le (by omega), runG]
  exact bx_sep a a.size x w h cs (by omega) (by omega) (by omega) _ (bx_end a ha x (h + 1) cs)
 | succ d ih =>
  intro i x w h cs hi hd hx hh hc
  have hl : i < a.data.toList.length := by omega
  have e1 : ((i : Int) + 1) = ((i + 1 : Nat) : Int) := by omega
  have w1 : wrap64 ((i : Int) + 1) = ((i + 1 : Nat) : Int) := by unfold wrap64; omega
  have w2 : wrap64 ((x : Int) + 1) = ((x + 1 : Nat) : Int) := by unfold wrap64; omega
  have hdr := List.drop_eq_getElem_cons hl
  obtain ⟨c, hcc, hb⟩ : ∃ c, a.data.toList[i] = c ∧ bt a (i : Int) = (c.toNat : Int) := ⟨_, rfl, gr_bt a i hl⟩
  rw [hcc] at hdr
  clear hcc
  have HB := Lib.hid hb
  have HW1 := Lib.hid w1
  have HW2 := Lib.hid w2
  have HD := Lib.hid hdr
  clear hb w1 w2 hdr
  refine Ev.step (f := fun k => _) (fun k => by rw [qP.l0]) ?_
  refine Ev.pos (by omega) (Ev.pos (by omega) (Ev.pos (by omega) ?_))
  rw [HD.out, HB.out, runG]
  by_cases h47 : c = 47
  ·rw [show ((c.toNat : Int) != 47) = false by subst h47; rfl, if_pos h47]
   clear HB HD h47
   refine bx_sep a i x w h cs (by omega) (by omega) (by omega) _ ?_
   rw [e1]
   exact ih (i + 1) 0 x (h + 1) cs (by omega) (by omega) (by omega) (by omega) (by omega)
  ·rw [show ((c.toNat : Int) != 47) = true by
    rw [bne_iff_ne]; intro e; exact h47 ((u8eq c 47 (by decide)).1 e), if_neg h47]
   have go1 := ih (i + 1) (x + 1) w h (cs ++ [(c.toNat : Int)]) (by omega) (by omega) (by omega) (by omega) (by simp; omega)
   have step : ∀ R, Ev (fun k => qP.l0 k a ((x + 1 : Nat) : Int) ((i + 1 : Nat) : Int) (w : Int) (h : Int) (cs ++ [(c.toNat : Int)])) R →
     Ev (fun k => qP.j2 k a (x : Int) (i : Int) false (w : Int) (h : Int) cs) R := fun R hR => by
    refine Ev.step (f := fun k => _) (fun k => by rw [qP.j2]) ?_
    refine Ev.neg (by decide) (Ev.pos (by omega) (Ev.pos (by omega) (Ev.pos (by omega) ?_)))
    rw [HW1.out, HW2.out, HB.out]
    exact hR
   refine Ev.step (f := fun k => _) (fun k => by rw [qP.j1]) ?_
   refine Ev.pos rfl (Ev.pos (by omega) (Ev.pos (by omega) ?_))
   rw [HB.out]
   by_cases h46 : c = 46
   case pos => rw [if_pos (.inl h46)]; exact Ev.pos (by subst h46; rfl) (step _ go1)
   refine Ev.neg (fun e => h46 ((u8eq c 46 (by decide)).1 e)) ?_
   by_cases h35 : c = 35
   case pos => rw [if_pos (.inr h35), show ((c.toNat : Int) != 35) = false by subst h35; rfl]; exact step _ go1
   rw [if_neg (by simp [h46, h35]), show ((c.toNat : Int) != 35) = true by
     rw [bne_iff_ne]; intro e; exact h35 ((u8eq c 35 (by decide)).1 e)]
   refine Ev.step (f := fun k => _) (fun k => by rw [qP.j2]) ?_
   exact Ev.pos rfl (Ev.now _)
def cB : List UInt8 := [46, 35]
def numsOf (l : List UInt8) : List Int := l.map fun c => (c.toNat : Int)
def flatT (l : List UInt8) : List UInt8 := (sp 47 l).1 ++ (sp 47 l).2.flatten
theorem runG_eq (l : List UInt8) : ∀ (x w h : Nat) (cs : List Int), runG l x w h cs =
  if (l.all (fun b => b == 47 || cB.contains b)) = true ∧ x + (sp 47 l).1.length ≠ 0 ∧ (0 < h → x + (sp 47 l).1.length = w) ∧ (∀ r ∈ (sp 47 l).2, r.length = x + (sp 47 l).1.length)
  then finG (x + (sp 47 l).1.length) (h + ((sp 47 l).2.length + 1)) (cs ++ numsOf (flatT l)) else badG := by
 induction l with
 | nil =>
  intro x w h cs
  rw [runG]
  simp only [sp, List.all_nil, List.length_nil, Nat.add_zero, flatT, List.flatten_nil, List.append_nil, numsOf, List.map_nil, Nat.zero_add]
  by_cases hb : (0 < h ∧ x ≠ w) ∨ x = 0
  case neg => rw [if_neg hb, if_pos ⟨trivial, fun e => hb (.inr e), fun h3 => Classical.byContradiction fun h4 => hb (.inl ⟨h3, h4⟩), by simp⟩]
  rw [if_pos hb, if_neg (by rintro ⟨_, h1, h2, _⟩; exact hb.elim (fun h34 => h34.2 (h2 h34.1)) h1)]
 | cons c r ih =>
  intro x w h cs
  rw [runG]
  by_cases h47 : c = 47
  ·subst h47
   rw [if_pos rfl]
   simp only [sp, if_true, List.all_cons, beq_self_eq_true, Bool.true_or, Bool.true_and, List.length_nil, Nat.add_zero, flatT, List.nil_append, List.flatten_cons, List.length_cons]
   by_cases hb : (0 < h ∧ x ≠ w) ∨ x = 0
   case pos => rw [if_pos hb, if_neg (by rintro ⟨_, h1, h2, _⟩; exact hb.elim (fun h34 => h34.2 (h2 h34.1)) h1)]
   rw [if_neg hb, ih]
   have hx0 : x ≠ 0 := fun e => hb (.inr e)
   have hxw : 0 < h → x = w := fun h3 => Classical.byContradiction fun h4 => hb (.inl ⟨h3, h4⟩)
   by_cases hg : (r.all (fun b => b == 47 || cB.contains b)) = true ∧ ∀ q ∈ (sp 47 r).1 :: (sp 47 r).2, q.length = x
   ·have hf : (sp 47 r).1.length = x := hg.2 _ (List.mem_cons_self)
    rw [if_pos ⟨hg.1, by omega, fun _ => by omega, fun q hq => by have := hg.2 q (List.mem_cons_of_mem _ hq); omega⟩, if_pos ⟨hg.1, hx0, hxw, hg.2⟩]
    congr 1
    ·omega
    ·omega
   ·rw [if_neg, if_neg]
    ·rintro ⟨h1, _, _, h4⟩; exact hg ⟨h1, h4⟩
    ·rintro ⟨h1, _, h3, h4⟩
     have h5 := h3 (by omega)
     refine hg ⟨h1, fun q hq => ?_⟩
     rcases List.mem_cons.1 hq with rfl | hq
     ·omega
     ·have := h4 q hq; omega
  ·rw [if_neg h47]
   have e47 : (c == 47) = false := by simpa using h47
   simp only [sp, if_neg h47, List.all_cons, e47, Bool.false_or, List.length_cons]
   have hsh : x + ((sp 47 r).1.length + 1) = x + 1 + (sp 47 r).1.length := by omega
   by_cases h3 : c = 46 ∨ c = 35
   case pos => (have hc : cB.contains c = true := by rcases h3 with rfl | rfl <;> decide); rw [if_pos h3, ih, hc, Bool.true_and, hsh]; simp only [flatT, sp, if_neg h47, numsOf, List.cons_append, List.map_cons, List.append_assoc, List.nil_append]
   rw [if_neg h3, if_neg]
   rintro ⟨h1, _⟩
   have : cB.contains c = false := by
    simp only [cB, List.contains_cons, List.contains_nil, Bool.or_false, Bool.or_eq_false_iff, beq_eq_false_iff_ne]
    exact ⟨fun e => h3 (.inl e), fun e => h3 (.inr e)⟩
   rw [this] at h1; simp at h1
theorem qHD (f : Nat) : ∀ (L : List (List UInt8)), (∀ r ∈ L, r.length = f) → L.flatten.length = f * L.length ∧ (L.map List.length).sum = f * L.length
 | [], _ => by simp
 | a :: L, h => by
  obtain ⟨h1, h2⟩ := qHD f L (fun r hr => h r (List.mem_cons_of_mem _ hr))
  have h3 := h a List.mem_cons_self
  simp only [List.flatten_cons, List.length_append, List.map_cons, List.sum_cons, List.length_cons, h1, h2, h3, Nat.mul_add, Nat.mul_one]
  omega
def boardB (a : ByteArray) : Bool := rowsFit cB a && szR (wideT a) (highT a)
theorem qpB (a : ByteArray) : rowsFit cB a = true ↔ (a.data.toList.all (fun b => b == 47 || cB.contains b)) = true ∧ ∀ r ∈ (sp 47 a.data.toList).2, r.length = wideT a := by
 have hs := sp_all 47 (cB.contains ·) a.data.toList (by decide)
 unfold rowsFit
 rw [← hs, List.all_cons]
 unfold fitR wideT
 simp only [Bool.and_eq_true, decide_eq_true_eq, List.all_eq_true, true_and]
 constructor
 ·rintro ⟨h1, h2⟩
  exact ⟨⟨h1, fun r hr => (h2 r hr).2⟩, fun r hr => (h2 r hr).1⟩
 ·rintro ⟨⟨h1, h2⟩, h3⟩
  exact ⟨h1, fun r hr => ⟨h3 r hr, h2 r hr⟩⟩
theorem boRead_ev (a : ByteArray) : Ev (fun k => qP.f k a) (if boardB a then ((wideT a : Int), (highT a : Int), numsOf (flatT a.data.toList), true) else badG) := by
 have hl := qoC 47 a.data.toList
 rw [qdB] at hl
 unfold qP.f
 by_cases h42 : a.size ≤ 42
 ·refine Ev.neg (by omega) ?_
  have := bx_loop a h42 a.size 0 0 0 0 [] (by omega) (by omega) (by omega) (by omega) (by simp)
  rw [List.drop_zero, runG_eq] at this
  simp only [Nat.zero_add, List.nil_append, Nat.lt_irrefl, false_implies, true_and] at this
  have e : (if (a.data.toList.all (fun b => b == 47 || cB.contains b)) = true ∧ (sp 47 a.data.toList).1.length ≠ 0 ∧ (∀ r ∈ (sp 47 a.data.toList).2, r.length = (sp 47 a.data.toList).1.length) then finG (sp 47 a.data.toList).1.length ((sp 47 a.data.toList).2.length + 1) (numsOf (flatT a.data.toList)) else badG) = (if boardB a then ((wideT a : Int), (highT a : Int), numsOf (flatT a.data.toList), true) else badG) := by
   have hw : (sp 47 a.data.toList).1.length = wideT a := rfl
   have hh : (sp 47 a.data.toList).2.length + 1 = highT a := rfl
   rw [hw, hh]
   unfold boardB
   by_cases hr : rowsFit cB a = true
   case neg => rw [if_neg (fun h => hr ((qpB a).2 ⟨h.1, h.2.2⟩)), Bool.eq_false_iff.2 hr]; simp
   obtain ⟨h1, h2⟩ := (qpB a).1 hr
   obtain ⟨f1, f2⟩ := qHD (wideT a) (sp 47 a.data.toList).2 h2
   have hfl : (numsOf (flatT a.data.toList)).length = wideT a * highT a := by
    simp only [numsOf, List.length_map, flatT, List.length_append, f1, hw, ← hh, Nat.mul_add, Nat.mul_one]; omega
   rw [hr, Bool.true_and]
   by_cases h0 : wideT a ≠ 0
   ·rw [if_pos ⟨h1, h0, h2⟩]
    unfold finG szR
    rw [hfl]
    have hh1 : 1 ≤ highT a := by omega
    rw [decide_eq_true hh1, Bool.true_and, decide_eq_true (show 1 ≤ wideT a by omega)]
    by_cases a1 : 7 < wideT a
    ·rw [if_pos a1, decide_eq_false (show ¬ wideT a ≤ 7 by omega)]; simp
    rw [if_neg a1, decide_eq_true (show wideT a ≤ 7 by omega)]
    by_cases a2 : 7 < highT a
    ·rw [if_pos a2, decide_eq_false (show ¬ highT a ≤ 7 by omega)]; simp
    rw [if_neg a2, decide_eq_true (show highT a ≤ 7 by omega)]
    by_cases a3 : 36 < wideT a * highT a
    case neg => rw [if_neg a3, decide_eq_true (show wideT a * highT a ≤ 36 by omega)]; simp
    rw [if_pos a3, decide_eq_false (show ¬ wideT a * highT a ≤ 36 by omega)]; simp
   ·rw [if_neg (fun h => h0 h.2.1)]
    have : szR (wideT a) (highT a) = false := by
     unfold szR
     simp only [Bool.and_eq_false_iff, decide_eq_false_iff_not]; omega
    rw [this]; simp
  rw [e] at this
  exact this
 ·refine Ev.pos (by omega) (Ev.some_ ?_)
  have : boardB a = false := by
   cases hg : boardB a with
   | false => rfl
   | true =>
    unfold boardB szR at hg
    simp only [Bool.and_eq_true, decide_eq_true_eq] at hg
    obtain ⟨hr, ⟨⟨⟨g1, g2⟩, g3⟩, g4⟩, g5⟩ := hg
    obtain ⟨h1, h2⟩ := (qpB a).1 hr
    obtain ⟨f1, f2⟩ := qHD (wideT a) (sp 47 a.data.toList).2 h2
    rw [f2] at hl
    have hw : (sp 47 a.data.toList).1.length = wideT a := rfl
    have hh : (sp 47 a.data.toList).2.length + 1 = highT a := rfl
    have : wideT a * highT a = wideT a + wideT a * (sp 47 a.data.toList).2.length := by rw [← hh, Nat.mul_add, Nat.mul_one]; omega
    omega
  rw [this]; rfl
theorem board_ev (a : ByteArray) (ha : a.size ≤ 1048576) : ∃ rows : List ByteArray, Ev (fun k => qsA.f k a) (rows, boardB a) ∧ (boardB a = true → rows = rowsT a) := by
 have h := rowsOf_ev a ⟨#[46, 35]⟩ ha (by decide) (by decide)
 have hc : (⟨#[46, 35]⟩ : ByteArray).data.toList = cB := rfl
 rw [hc] at h
 unfold qsA.f
 unfold boardB
 cases hr : rowsFit cB a with
 | false =>
  rw [hr, if_neg (by decide)] at h
  exact ⟨[], Ev.bind h (Ev.now _), fun e => by cases e⟩
 | true =>
  rw [hr, if_pos rfl] at h
  rw [Bool.true_and]
  exact ⟨rowsT a, Ev.bind h (Ev.now _), fun _ => rfl⟩
end Go.Proofs.YtdhbimankkpllaaGreatDoor
namespace Go.Proofs.YtdhbimankkpllaaGreatDoor.P
open Go.RowKit Go.Proofs.YtdhbimankkpllaaGreatDoorW.PrintWords Go.Proofs.YtdhbimankkpllaaGreatDoorW.PrintLast Go.Proofs.YtdhbimankkpllaaGreatDoorW.PrintMore
attribute [local go_sem] qq qo qBA qAA qe qd qp qn
set_option linter.unusedVariables false
set_option linter.unusedSimpArgs false
def qbA.f (l0 : List ByteArray) (a1 : Int) (a2 : Int) : Option (Bool) := (qmA.f a2 0 (wrap64 ((l0.length : Int) - 1))).bind fun t355 => (if t355 = true then (if 0 < (l0.length : Int) then ((qmA.f a1 0 (wrap64 (((rdOf ByteArray.empty l0 0).size : Int) - 1))).bind fun t357 => (some t357)) else (none)) else (some false))
set_option maxHeartbeats 8000000 in
set_option maxRecDepth 100000 in
theorem qbA.calls (A0 : Option Addr) (c0 : Nat) (l0 : List ByteArray) (a1 : Int) (a2 : Int) (r : Bool) (w : World) (hr0 : Kd.C Kd.string w A0 l0.length l0) (hc0 : l0.length ≤ c0) (h : qbA.f l0 a1 a2 = some r) :
  Calls Tryz.prog 32 #[.slice A0 l0.length c0, .int .i64 a1, .int .i64 a2] w fun e w' => e = .returned (.bool r) ∧ Drawn0 w w' := by
 have HR0 := aM hr0
 have HC0 := aM hc0
 clear hr0 hc0
 have H : ((qmA.f a2 0 (wrap64 ((l0.length : Int) - 1))).bind fun t355 => (if t355 = true then (if 0 < (l0.length : Int) then ((qmA.f a1 0 (wrap64 (((rdOf ByteArray.empty l0 0).size : Int) - 1))).bind fun t357 => (some t357)) else (none)) else (some false))) = some r := h
 clear h
 replace H := bO H
 obtain ⟨t355, A4, H⟩ := H
 by_cases c5 : t355 = true
 ·subst c5
  replace H := iT H
  by_cases c6 : 0 < (l0.length : Int)
  case neg => exact nN c6 H
  rw [if_pos c6] at H
  have c6b0 := decide_eq_true c6
  have c6b1 : decide (0 < l0.length) = true := decide_eq_true (by omega)
  clear c6
  replace H := bO H
  obtain ⟨t357, A7, H⟩ := H
  obtain rfl := Option.some.inj H
  go_enter Tryz.func32, Tryz.ntmps32
  go_wp2_with (first | ((with_reducible refine qF (f := 47) rfl ?_); refine qh (some 11) rfl rfl Tryz.func47 (by kernel_rfl) rfl #[.int .i64 a2, .int .i64 0, .int .i64 (wrap64 ((l0.length : Int) - 1))] rfl gA ?_; (with_reducible refine (qmA.calls a2 0 (wrap64 ((l0.length : Int) - 1)) true _ A4.out).mono ?_); rintro e w' ⟨rfl, ⟨nd, rfl⟩⟩; refine ⟨_, rfl, ?_⟩; have p356 : 0 ≤ (0 : Int) := (by omega); have q356 : 0 < (l0.length : Int) := of_decide_eq_true am; obtain ⟨ad356, e356, hx356_0⟩ := Kd.qmB HR0.out 0 p356 q356; cases e356; have qi356 : (0 < l0.length) = True := eq_true (by omega); (try rw [show ((0 : Int)).toNat = 0 from rfl] at hx356_0); (try rw [Addr.add_zero'] at hx356_0); replace p356 := eq_true p356; replace q356 := eq_true q356) | (go_at_call 47; (with_reducible refine (qmA.calls a1 0 (wrap64 (((rdOf ByteArray.empty l0 0).size : Int) - 1)) t357 _ A7.out).mono ?_); rintro e w' ⟨rfl, ⟨nd, rfl⟩⟩))
  go_ret
  exact ⟨by first | rfl | (simp; done) | (simp [*]; done), dR⟩
 ·replace c5 := Bool.eq_false_iff.mpr c5
  subst c5
  replace H := iF H
  obtain rfl := Option.some.inj H
  go_enter Tryz.func32, Tryz.ntmps32
  go_wp2_with (first | ((with_reducible refine qF (f := 47) rfl ?_); refine qh (some 11) rfl rfl Tryz.func47 (by kernel_rfl) rfl #[.int .i64 a2, .int .i64 0, .int .i64 (wrap64 ((l0.length : Int) - 1))] rfl gA ?_; (with_reducible refine (qmA.calls a2 0 (wrap64 ((l0.length : Int) - 1)) false _ A4.out).mono ?_); rintro e w' ⟨rfl, ⟨nd, rfl⟩⟩; refine ⟨_, rfl, ?_⟩))
  go_ret
  exact ⟨by first | rfl | (simp; done) | (simp [*]; done), dR⟩
def qRA.f (l0 : List ByteArray) (a1 : Int) (a2 : Int) : Option (Int) := (qbA.f l0 a1 a2).bind fun t358 => (if t358 = true then (if 0 ≤ a2 then (if a2 < (l0.length : Int) then (if 0 ≤ a1 then (if a1 < ((rdOf ByteArray.empty l0 a2).size : Int) then (some (bt (rdOf ByteArray.empty l0 a2) a1)) else (none)) else (none)) else (none)) else (none)) else (some 0))
set_option maxHeartbeats 8000000 in
set_option maxRecDepth 100000 in
theorem qRA.calls (A0 : Option Addr) (c0 : Nat) (l0 : List ByteArray) (a1 : Int) (a2 : Int) (r : Int) (w : World) (hr0 : Kd.C Kd.string w A0 l0.length l0) (hc0 : l0.length ≤ c0) (h : qRA.f l0 a1 a2 = some r) :
  Calls Tryz.prog 59 #[.slice A0 l0.length c0, .int .i64 a1, .int .i64 a2] w fun e w' => e = .returned (.int .u8 r) ∧ Drawn0 w w' := by
 have HR0 := aM hr0
 have HC0 := aM hc0
 clear hr0 hc0
 have H : ((qbA.f l0 a1 a2).bind fun t358 => (if t358 = true then (if 0 ≤ a2 then (if a2 < (l0.length : Int) then (if 0 ≤ a1 then (if a1 < ((rdOf ByteArray.empty l0 a2).size : Int) then (some (bt (rdOf ByteArray.empty l0 a2) a1)) else (none)) else (none)) else (none)) else (none)) else (some 0))) = some r := h
 clear h
 replace H := bO H
 obtain ⟨t358, A4, H⟩ := H
 by_cases c5 : t358 = true
 ·subst c5
  replace H := iT H
  by_cases c6 : 0 ≤ a2
  case neg => exact nN c6 H
  rw [if_pos c6] at H
  have c6b0 := decide_eq_true c6
  clear c6
  by_cases c7 : a2 < (l0.length : Int)
  case neg => exact nN c7 H
  rw [if_pos c7] at H
  have c7b0 := decide_eq_true c7
  clear c7
  by_cases c8 : 0 ≤ a1
  case neg => exact nN c8 H
  rw [if_pos c8] at H
  have c8b0 := decide_eq_true c8
  clear c8
  by_cases c9 : a1 < ((rdOf ByteArray.empty l0 a2).size : Int)
  case neg => exact nN c9 H
  rw [if_pos c9] at H
  have c9b0 := decide_eq_true c9
  clear c9
  obtain rfl := Option.some.inj H
  go_enter Tryz.func59, Tryz.ntmps59
  go_wp2_with (first | ((with_reducible refine qF (f := 32) rfl ?_); refine qh (some 10) rfl rfl Tryz.func32 (by kernel_rfl) rfl #[.slice A0 l0.length c0, .int .i64 a1, .int .i64 a2] rfl gA ?_; (with_reducible refine (qbA.calls _ _ l0 a1 a2 true _ ?side1 ?side2 A4.out).mono ?_); (case side1 => repeat (first | exact HR0.out | (with_reducible refine Kd.qc ?_ _) | (with_reducible refine Kd.qb ?_ _) | (with_reducible refine Kd.qu ?_))); (case side2 => exact HC0.out); rintro e w' ⟨rfl, ⟨nd, rfl⟩⟩; refine ⟨_, rfl, ?_⟩; have p359 : 0 ≤ (a2 : Int) := of_decide_eq_true am; have q359 : a2 < (l0.length : Int) := of_decide_eq_true am; obtain ⟨ad359, e359, hx359_0⟩ := Kd.qmB HR0.out a2 p359 q359; cases e359; replace p359 := eq_true p359; replace q359 := eq_true q359; have p10 : 0 ≤ (a1 : Int) := of_decide_eq_true am; have q10 : a1 < ((rdOf ByteArray.empty l0 a2).size : Int) := of_decide_eq_true am; have hx10 := bt_at (rdOf ByteArray.empty l0 a2) a1; replace p10 := eq_true p10; replace q10 := eq_true q10))
  go_ret
  exact ⟨by first | rfl | (simp; done) | (simp [*]; done), dR⟩
 ·replace c5 := Bool.eq_false_iff.mpr c5
  subst c5
  replace H := iF H
  obtain rfl := Option.some.inj H
  go_enter Tryz.func59, Tryz.ntmps59
  go_wp2_with (first | ((with_reducible refine qF (f := 32) rfl ?_); refine qh (some 10) rfl rfl Tryz.func32 (by kernel_rfl) rfl #[.slice A0 l0.length c0, .int .i64 a1, .int .i64 a2] rfl gA ?_; (with_reducible refine (qbA.calls _ _ l0 a1 a2 false _ ?side1 ?side2 A4.out).mono ?_); (case side1 => repeat (first | exact HR0.out | (with_reducible refine Kd.qc ?_ _) | (with_reducible refine Kd.qb ?_ _) | (with_reducible refine Kd.qu ?_))); (case side2 => exact HC0.out); rintro e w' ⟨rfl, ⟨nd, rfl⟩⟩; refine ⟨_, rfl, ?_⟩))
  go_ret
  exact ⟨by first | rfl | (simp; done) | (simp [*]; done), dR⟩
end Go.Proofs.YtdhbimankkpllaaGreatDoor.P
