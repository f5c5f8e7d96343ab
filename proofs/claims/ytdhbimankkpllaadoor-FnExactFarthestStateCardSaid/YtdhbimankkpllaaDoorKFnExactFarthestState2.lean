/- The program's FarthestState and the reference's: the same, at all texts and states. -/
import Derived.Test.YtdhbimankkpllaaDoorKFnExactFarthestState1
import Derived.Maps.OwnSet
import Derived.DeepKeys4
import Derived.Shelf.SlGeneric
import Derived.Shelf.Small.Strs
import Derived.Shelf.Strings.Search1
import Derived.Ground.NamesProg
import Derived.Shelf.Strings.Split
import Derived.Shelf.Strings.Count
import Derived.Shelf.Strings.SlTrimAscii
import Derived.Test.YtdhbimankkpllaaDoorProg
import Derived.Lib.Strings
import Derived.Lib.SplitLaws
import Derived.KernelRfl

namespace Go.Proofs.YtdhbimankkpllaaDoor.P
open Go.RowKit Go.Proofs.YtdhbimankkpllaaDoorW.PrintWords Go.Proofs.YtdhbimankkpllaaDoorW.PrintLast Go.Proofs.YtdhbimankkpllaaDoorW.PrintMore
attribute [local go_sem] qg qe qq qp qX qW qf qd
set_option linter.unusedVariables false
set_option linter.unusedSimpArgs false
def qR.l0 : Nat → Int → List (S43) → Int → Int → Int → Int → Int → Int → Int → Int → Int → Int → Option (Int × Int × Int × Int × Int × Int × Int × Int × Int × Bool)
 | 0, _, _, _, _, _, _, _, _, _, _, _, _ => none
 | k + 1, x10, x25, x26, x27, x221000, x221001, x221002, x221003, x221004, x221005, x221006, x221007 => if x27 < x26 then (if 0 ≤ x27 then (if x27 < (x25.length : Int) then (if ((qA x25 x27).f1) > x10 then (qR.l0 k ((qA x25 x27).f1) x25 x26 (wrap64 (x27 + 1)) ((qA x25 x27).f0.f0) ((qA x25 x27).f0.f1) ((qA x25 x27).f0.f2.f0) ((qA x25 x27).f0.f2.f1) ((qA x25 x27).f0.f2.f2) ((qA x25 x27).f0.f2.f3) ((qA x25 x27).f0.f2.f4) ((qA x25 x27).f0.f2.f5)) else (if ((qA x25 x27).f1) = x10 then ((qAB.f k ((qA x25 x27).f0.f0) ((qA x25 x27).f0.f1) ((qA x25 x27).f0.f2.f0) ((qA x25 x27).f0.f2.f1) ((qA x25 x27).f0.f2.f2) ((qA x25 x27).f0.f2.f3) ((qA x25 x27).f0.f2.f4) ((qA x25 x27).f0.f2.f5) x221000 x221001 x221002 x221003 x221004 x221005 x221006 x221007).bind fun t226 => (if t226 = true then (qR.l0 k ((qA x25 x27).f1) x25 x26 (wrap64 (x27 + 1)) ((qA x25 x27).f0.f0) ((qA x25 x27).f0.f1) ((qA x25 x27).f0.f2.f0) ((qA x25 x27).f0.f2.f1) ((qA x25 x27).f0.f2.f2) ((qA x25 x27).f0.f2.f3) ((qA x25 x27).f0.f2.f4) ((qA x25 x27).f0.f2.f5)) else (qR.l0 k x10 x25 x26 (wrap64 (x27 + 1)) x221000 x221001 x221002 x221003 x221004 x221005 x221006 x221007))) else (qR.l0 k x10 x25 x26 (wrap64 (x27 + 1)) x221000 x221001 x221002 x221003 x221004 x221005 x221006 x221007))) else (none)) else (none)) else (some (x221000, x221001, x221002, x221003, x221004, x221005, x221006, x221007, x10, true))
def qR.f (k : Nat) (a0 : ByteArray) (a1_0 : Int) (a1_1 : Int) (a1_2 : Int) (a1_3 : Int) (a1_4 : Int) (a1_5 : Int) (a1_6 : Int) (a1_7 : Int) : Option (Int × Int × Int × Int × Int × Int × Int × Int × Int × Bool) := (qt.f k a0 a1_0 a1_1 a1_2 a1_3 a1_4 a1_5 a1_6 a1_7).bind fun bt213 => (if bt213.2.2.2 = true then ((qK.f k bt213.1 bt213.2.1 bt213.2.2.1 a1_0 a1_1 a1_2 a1_3 a1_4 a1_5 a1_6 a1_7).bind fun t221 => (qR.l0 k 0 t221 (t221.length : Int) 0 a1_0 a1_1 a1_2 a1_3 a1_4 a1_5 a1_6 a1_7)) else (some (0, 0, 0, 0, 0, 0, 0, 0, 0, false)))
theorem heapCells_ : ∀ (vs : List Value) (w : World) (g o : Nat) (t : TypeId) (cs : List Value), w.heap[g]? = some (.cells cs.toArray t (0, 0)) → o + vs.length ≤ cs.length → (w.setCells g o vs).heap[g]? = some (.cells (cs.take o ++ vs ++ cs.drop (o + vs.length)).toArray t (0, 0))
 | [], w, g, o, t, cs, h, _ => by
  show w.heap[g]? = _
  rw [h, List.append_nil, List.length_nil, Nat.add_zero, List.take_append_drop]
 | v :: vs, w, g, o, t, cs, h, hl => by
  have hl' : o + 1 + vs.length ≤ cs.length := by rw [List.length_cons] at hl; omega
  have h1 := heapCells_ vs (w.setCell ⟨g, o, none⟩ v) g (o + 1) t (cs.set o v) (by rw [qmC h o v, List.setIfInBounds_toArray]) (by rw [List.length_set]; exact hl')
  show ((w.setCell ⟨g, o, none⟩ v).setCells g (o + 1) vs).heap[g]? = _
  rw [h1]
  congr 3
  have e1 : (cs.set o v).take (o + 1) = cs.take o ++ [v] := by
   rw [List.take_succ_eq_append_getElem (by rw [List.length_set]; omega), List.getElem_set_self, List.take_set_of_le (Nat.le_refl o)]
  rw [e1, List.drop_set_of_lt (by omega), List.length_cons, show o + (vs.length + 1) = o + 1 + vs.length by omega, List.append_assoc (cs.take o) [v] vs]
  rfl
theorem belowCells_ : ∀ (vs : List Value) (w W : World) (g o : Nat), Below W.heap.size W w → W.heap.size ≤ g → Below W.heap.size W (w.setCells g o vs)
 | [], w, W, g, o, h, _ => h
 | v :: vs, w, W, g, o, h, hg => belowCells_ vs _ W g (o + 1) (qGA h hg) hg
theorem qKC {ops : Array Oper} {rest : List Oper} {o1 o2 : Oper} {a : Act} {Q : Exit → Act → World → Prop} {W : World} {N : Tmp} {v : Operand} (y0 y1 y2 y3 y4 y5 y6 y7 y8 y9 y10 y11 y12 y13 y14 y15 : Int) (g1 : o1.guard = none) (h1 : o1.op = .alloc 43) (d1 : o1.dst = some N) (g2 : o2.guard = none) (h2 : o2.op = .store 43 (.tmp N) v) (d2 : o2.dst = none)
  (hx : (a.put (some N) (.pointer (some ⟨W.heap.size, 0, none⟩))).eval (.tmp N) = .pointer (some ⟨W.heap.size, 0, none⟩)) (hv : (a.put (some N) (.pointer (some ⟨W.heap.size, 0, none⟩))).eval v = .agg #[.int .i64 y0, .int .i64 y1, .int .i64 y2, .int .i64 y3, .int .i64 y4, .int .i64 y5, .int .i64 y6, .int .i64 y7, .int .i64 y8, .int .i64 y9, .int .i64 y10, .int .i64 y11, .int .i64 y12, .int .i64 y13, .int .i64 y14, .int .i64 y15])
  (h : ∀ g, g = W.heap.size → ∀ w1, w1.heap[g]? = some (.cells #[.int .i64 y0, .int .i64 y1, .int .i64 y2, .int .i64 y3, .int .i64 y4, .int .i64 y5, .int .i64 y6, .int .i64 y7, .int .i64 y8, .int .i64 y9, .int .i64 y10, .int .i64 y11, .int .i64 y12, .int .i64 y13, .int .i64 y14, .int .i64 y15] 43 (0, 0)) → Below W.heap.size W w1 → wpList Tryd.prog ops Q rest (a.put (some N) (.pointer (some ⟨g, 0, none⟩))) w1) : wpList Tryd.prog ops Q (o1 :: o2 :: rest) a W := by
 have hrun : (execOp a.eval o1).run Tryd.prog W = .ok (.value (.pointer (some ⟨W.heap.size, 0, none⟩))) (W.alloc (.cells #[.int .i64 0, .int .i64 0, .int .i64 0, .int .i64 0, .int .i64 0, .int .i64 0, .int .i64 0, .int .i64 0, .int .i64 0, .int .i64 0, .int .i64 0, .int .i64 0, .int .i64 0, .int .i64 0, .int .i64 0, .int .i64 0] 43 (0, 0))) := by
  unfold execOp
  simp only [h1]
  first | (go_simp; done) | (go_simp; rfl)
 refine box_event g1 d1 hrun ?_
 rintro g rfl w1 hb hbl
 rw [d1]
 refine wpList_store_mid g2 43 (.tmp N) v h2 W.heap.size 0 #[.int .i64 y0, .int .i64 y1, .int .i64 y2, .int .i64 y3, .int .i64 y4, .int .i64 y5, .int .i64 y6, .int .i64 y7, .int .i64 y8, .int .i64 y9, .int .i64 y10, .int .i64 y11, .int .i64 y12, .int .i64 y13, .int .i64 y14, .int .i64 y15] hx hv ?_ (by kernel_rfl) (by simp [Value.oneCell']) ?_
 ·intro j hj
  have hj' : j < 16 := hj
  rw [Nat.zero_add]
  refine ⟨?_, qQ hb j⟩
  rw [qD hb j, Array.getElem?_eq_getElem (show j < (#[.int .i64 0, .int .i64 0, .int .i64 0, .int .i64 0, .int .i64 0, .int .i64 0, .int .i64 0, .int .i64 0, .int .i64 0, .int .i64 0, .int .i64 0, .int .i64 0, .int .i64 0, .int .i64 0, .int .i64 0, .int .i64 0] : Array Value).size from hj')]
  rfl
 ·rw [d2]
  refine h _ rfl _ ?_ (belowCells_ _ _ _ _ _ hbl (Nat.le_refl _))
  have h3 := heapCells_ [.int .i64 y0, .int .i64 y1, .int .i64 y2, .int .i64 y3, .int .i64 y4, .int .i64 y5, .int .i64 y6, .int .i64 y7, .int .i64 y8, .int .i64 y9, .int .i64 y10, .int .i64 y11, .int .i64 y12, .int .i64 y13, .int .i64 y14, .int .i64 y15] w1 W.heap.size 0 43 [.int .i64 0, .int .i64 0, .int .i64 0, .int .i64 0, .int .i64 0, .int .i64 0, .int .i64 0, .int .i64 0, .int .i64 0, .int .i64 0, .int .i64 0, .int .i64 0, .int .i64 0, .int .i64 0, .int .i64 0, .int .i64 0] hb (Nat.le_refl 16)
  exact h3
theorem qaC {ops : Array Oper} {rest : List Oper} {o : Oper} {a : Act} {Q : Exit → Act → World → Prop} {w : World} {N : Tmp} {ad : Addr} (p : Operand) {y0 y1 y2 y3 y4 y5 y6 y7 y8 y9 y10 y11 y12 y13 y14 y15 : Int} (g : o.guard = none) (h1 : o.op = .load 43 p) (d : o.dst = some N) (hp : a.eval p = .pointer (some ad)) (hx0 : w.cell? ad = some (.int .i64 y0)) (hx1 : w.cell? ⟨ad.block, ad.off + 1, none⟩ = some (.int .i64 y1)) (hx2 : w.cell? ⟨ad.block, ad.off + 2, none⟩ = some (.int .i64 y2)) (hx3 : w.cell? ⟨ad.block, ad.off + 3, none⟩ = some (.int .i64 y3)) (hx4 : w.cell? ⟨ad.block, ad.off + 4, none⟩ = some (.int .i64 y4)) (hx5 : w.cell? ⟨ad.block, ad.off + 5, none⟩ = some (.int .i64 y5)) (hx6 : w.cell? ⟨ad.block, ad.off + 6, none⟩ = some (.int .i64 y6)) (hx7 : w.cell? ⟨ad.block, ad.off + 7, none⟩ = some (.int .i64 y7)) (hx8 : w.cell? ⟨ad.block, ad.off + 8, none⟩ = some (.int .i64 y8)) (hx9 : w.cell? ⟨ad.block, ad.off + 9, none⟩ = some (.int .i64 y9)) (hx10 : w.cell? ⟨ad.block, ad.off + 10, none⟩ = some (.int .i64 y10)) (hx11 : w.cell? ⟨ad.block, ad.off + 11, none⟩ = some (.int .i64 y11)) (hx12 : w.cell? ⟨ad.block, ad.off + 12, none⟩ = some (.int .i64 y12)) (hx13 : w.cell? ⟨ad.block, ad.off + 13, none⟩ = some (.int .i64 y13)) (hx14 : w.cell? ⟨ad.block, ad.off + 14, none⟩ = some (.int .i64 y14)) (hx15 : w.cell? ⟨ad.block, ad.off + 15, none⟩ = some (.int .i64 y15))
  (h : wpList Tryd.prog ops Q rest (a.put (some N) (.agg #[.int .i64 y0, .int .i64 y1, .int .i64 y2, .int .i64 y3, .int .i64 y4, .int .i64 y5, .int .i64 y6, .int .i64 y7, .int .i64 y8, .int .i64 y9, .int .i64 y10, .int .i64 y11, .int .i64 y12, .int .i64 y13, .int .i64 y14, .int .i64 y15])) w) : wpList Tryd.prog ops Q (o :: rest) a w := by
 have hu_ := Tryd.underlying43
 have hrun : (execOp a.eval o).run Tryd.prog w = .ok (.value (.agg #[.int .i64 y0, .int .i64 y1, .int .i64 y2, .int .i64 y3, .int .i64 y4, .int .i64 y5, .int .i64 y6, .int .i64 y7, .int .i64 y8, .int .i64 y9, .int .i64 y10, .int .i64 y11, .int .i64 y12, .int .i64 y13, .int .i64 y14, .int .i64 y15])) w := by
  unfold execOp
  simp only [h1, hp]
  first | (go_simp; done) | (go_simp; rfl)
 refine Kd.qVC g hrun ?_
 rw [d]
 exact h
set_option maxHeartbeats 8000000 in
set_option maxRecDepth 100000 in
theorem qR.calls (k : Nat) (a0 : ByteArray) (a1_0 : Int) (a1_1 : Int) (a1_2 : Int) (a1_3 : Int) (a1_4 : Int) (a1_5 : Int) (a1_6 : Int) (a1_7 : Int) (r1 : Int) (r2 : Int) (r3 : Int) (r4 : Int) (r5 : Int) (r6 : Int) (r7 : Int) (r8 : Int) (r9 : Int) (r10 : Bool) (w : World) (h : qR.f k a0 a1_0 a1_1 a1_2 a1_3 a1_4 a1_5 a1_6 a1_7 = some (r1, r2, r3, r4, r5, r6, r7, r8, r9, r10)) :
  Calls Tryd.prog 4 #[.string a0, .agg #[.int .i64 a1_0, .int .i64 a1_1, .int .i64 a1_2, .int .i64 a1_3, .int .i64 a1_4, .int .i64 a1_5, .int .i64 a1_6, .int .i64 a1_7]] w fun e w' => e = .returned (.tuple #[.agg #[.int .i64 r1, .int .i64 r2, .int .i64 r3, .int .i64 r4, .int .i64 r5, .int .i64 r6, .int .i64 r7, .int .i64 r8], .int .i64 r9, .bool r10]) ∧ Below w.heap.size w w' := by
 have hu28 := Tryd.underlying28
 have hu36 := Tryd.underlying36
 have hu43 := Tryd.underlying43
 have HB := aM (Below.refl w.heap.size w)
 have H : ((qt.f k a0 a1_0 a1_1 a1_2 a1_3 a1_4 a1_5 a1_6 a1_7).bind fun bt213 => (if bt213.2.2.2 = true then ((qK.f k bt213.1 bt213.2.1 bt213.2.2.1 a1_0 a1_1 a1_2 a1_3 a1_4 a1_5 a1_6 a1_7).bind fun t221 => (qR.l0 k 0 t221 (t221.length : Int) 0 a1_0 a1_1 a1_2 a1_3 a1_4 a1_5 a1_6 a1_7)) else (some (0, 0, 0, 0, 0, 0, 0, 0, 0, false)))) = some (r1, r2, r3, r4, r5, r6, r7, r8, r9, r10) := h
 clear h
 replace H := bO H
 obtain ⟨⟨t213, t214, t215, t218⟩, A3, H⟩ := H
 dsimp only at H A3
 by_cases c4 : t218 = true
 ·subst c4
  replace H := iT H
  replace H := bO H
  obtain ⟨t221, A5, H⟩ := H
  have H' := aM H
  clear H
  go_enter Tryd.func4, Tryd.ntmps4
  go_wp2_with (first | ((with_reducible refine qH (N := 3) rfl ?_); refine bE (N := 3) (cs := #[.int .i64 a1_0, .int .i64 a1_1, .int .i64 a1_2, .int .i64 a1_3, .int .i64 a1_4, .int .i64 a1_5, .int .i64 a1_6, .int .i64 a1_7]) (t := 28) ?_; intro gb211 hg w6 hbox hb; have BK211 := aM (hbox); have GW211 := aM ((gg hg)); have GE211 := aM ((gg hg)); replace HB := aM (qB bl hb); clear hb hbox hg) | ((with_reducible refine qH (N := 4) rfl ?_); refine bE (N := 4) (cs := #[.int .i64 0, .int .i64 0, .int .i64 0, .int .i64 0, .int .i64 0, .int .i64 0, .int .i64 0, .int .i64 0]) (t := 28) ?_; intro gb212 hg w7 hbox hb; have BK212 := aM (hbox); have GW212 := aM ((gg hg)); have GE212 := aM ((gg hg)); have NB211_212 := aM ((nl BK211 hg)); have NB212_211 := aM ((nr BK211 hg)); replace BK211 := aM (bb BK211 hb); replace HB := aM (qB bl hb); clear hb hbox hg; have hnb8 := NB211_212.out; have hnc8 := NB212_211.out; (refine cb8 BK211 ?_; intro hcz9_0 hcz9_1 hcz9_2 hcz9_3 hcz9_4 hcz9_5 hcz9_6 hcz9_7); (refine cz8 BK211 ?_; intro hfz9_0 hfz9_1 hfz9_2 hfz9_3 hfz9_4 hfz9_5 hfz9_6 hfz9_7)) | ((with_reducible refine qJ (f := 8) rfl ?_); refine qZ (some 16) rfl rfl Tryd.func8 (by kernel_rfl) rfl #[.string a0, .agg #[.int .i64 a1_0, .int .i64 a1_1, .int .i64 a1_2, .int .i64 a1_3, .int .i64 a1_4, .int .i64 a1_5, .int .i64 a1_6, .int .i64 a1_7]] rfl gA ?_; (with_reducible refine (qt.calls k a0 a1_0 a1_1 a1_2 a1_3 a1_4 a1_5 a1_6 a1_7 t213 t214 t215 true _ A3.out).mono ?_); rintro e w10 ⟨v216, rfl, ho0, hb⟩; refine ⟨_, rfl, ?_⟩; have HO217 := aM (Kd.qSA ho0 (qk bl)); replace BK211 := aM (bb BK211 hb); replace BK212 := aM (bb BK212 hb); replace HB := aM (qB bl hb); (try clear hb); (try clear hb2); (try clear hk); (try clear hi); (try clear ho0)) | ((with_reducible refine qH (N := 7) rfl ?_); refine bE (N := 7) (cs := #[.int .i64 0, .int .i64 0, .slice none 0 0]) (t := 36) ?_; intro gb219 hg w11 hbox hb; have BK219 := aM (hbox); have GW219 := aM ((gg hg)); have GE219 := aM ((gg hg)); have NB211_219 := aM ((nl BK211 hg)); have NB219_211 := aM ((nr BK211 hg)); have NB212_219 := aM ((nl BK212 hg)); have NB219_212 := aM ((nr BK212 hg)); replace HO217 := aM (Kd.qY (rR HO217) hb); replace BK211 := aM (bb BK211 hb); replace BK212 := aM (bb BK212 hb); replace HB := aM (qB bl hb); clear hb hbox hg; have hnb12 := NB219_211.out; have hnc12 := NB211_219.out; have hnb13 := NB219_212.out; have hnc13 := NB212_219.out; (refine cb3 BK219 ?_; intro hcz14_0 hcz14_1 hcz14_2); (refine cz3 BK219 ?_; intro hfz14_0 hfz14_1 hfz14_2); obtain ⟨Ao15, co15, eo15⟩ := Kd.qx HO217.out; subst eo15; (refine cb8 BK211 ?_; intro hcz16_0 hcz16_1 hcz16_2 hcz16_3 hcz16_4 hcz16_5 hcz16_6 hcz16_7); (refine cz8 BK211 ?_; intro hfz16_0 hfz16_1 hfz16_2 hfz16_3 hfz16_4 hfz16_5 hfz16_6 hfz16_7)) | ((with_reducible refine qH (N := 9) rfl ?_); refine bE (N := 9) (cs := #[.int .i64 0, .int .i64 0, .int .i64 0, .int .i64 0, .int .i64 0, .int .i64 0, .int .i64 0, .int .i64 0]) (t := 28) ?_; intro gb220 hg w17 hbox hb; have BK220 := aM (hbox); have GW220 := aM ((gg hg)); have GE220 := aM ((gg hg)); have NB211_220 := aM ((by rw [hg]; exact Nat.ne_of_lt (qPB (g := gb211) (o := .cells #[.int .i64 a1_0, .int .i64 a1_1, .int .i64 a1_2, .int .i64 a1_3, .int .i64 a1_4, .int .i64 a1_5, .int .i64 a1_6, .int .i64 a1_7] 28 (0, 0)) (bF BK211 NB211_219)) : gb211 ≠ gb220)); have NB220_211 := aM ((by rw [hg]; exact Nat.ne_of_gt (qPB (g := gb211) (o := .cells #[.int .i64 a1_0, .int .i64 a1_1, .int .i64 a1_2, .int .i64 a1_3, .int .i64 a1_4, .int .i64 a1_5, .int .i64 a1_6, .int .i64 a1_7] 28 (0, 0)) (bF BK211 NB211_219)) : gb220 ≠ gb211)); have NB212_220 := aM ((by rw [hg]; exact Nat.ne_of_lt (qPB (g := gb212) (o := .cells #[.int .i64 0, .int .i64 0, .int .i64 0, .int .i64 0, .int .i64 0, .int .i64 0, .int .i64 0, .int .i64 0] 28 (0, 0)) (bF BK212 NB212_219)) : gb212 ≠ gb220)); have NB220_212 := aM ((by rw [hg]; exact Nat.ne_of_gt (qPB (g := gb212) (o := .cells #[.int .i64 0, .int .i64 0, .int .i64 0, .int .i64 0, .int .i64 0, .int .i64 0, .int .i64 0, .int .i64 0] 28 (0, 0)) (bF BK212 NB212_219)) : gb220 ≠ gb212)); have NB219_220 := aM ((by rw [hg]; exact Nat.ne_of_lt (qPB (g := gb219) (o := .cells #[.int .i64 t213, .int .i64 t214, .slice Ao15 t215.length co15] 36 (0, 0)) (by (with_reducible repeat (first | refine qG ?_ _ | refine qE ?_ | refine qF ?_ _)); exact bP3 BK219)) : gb219 ≠ gb220)); have NB220_219 := aM ((by rw [hg]; exact Nat.ne_of_gt (qPB (g := gb219) (o := .cells #[.int .i64 t213, .int .i64 t214, .slice Ao15 t215.length co15] 36 (0, 0)) (by (with_reducible repeat (first | refine qG ?_ _ | refine qE ?_ | refine qF ?_ _)); exact bP3 BK219)) : gb220 ≠ gb219)); replace HO217 := aM (Kd.qY (by (with_reducible repeat (first | apply Kd.qo | apply Kd.qr | apply Kd.qc)); exact (Kd.qAA (Kd.R_far (p := ⟨gb219, 2, none⟩) (Kd.R_far (p := ⟨gb219, 1, none⟩) (Kd.R_far (p := ⟨gb219, 0, none⟩) (Kd.qRA HO217.out BK219.out (by decide)) (fun _ hk => hk.2) (.int .i64 t213)) (fun _ hk => hk.2) (.int .i64 t214)) (fun _ hk => hk.2) (.slice Ao15 t215.length co15)) (fun _ h_ => h_.1))) hb); replace BK211 := aM (qS (g := gb211) (o := .cells #[.int .i64 a1_0, .int .i64 a1_1, .int .i64 a1_2, .int .i64 a1_3, .int .i64 a1_4, .int .i64 a1_5, .int .i64 a1_6, .int .i64 a1_7] 28 (0, 0)) (bF BK211 NB211_219) hb); replace BK212 := aM (qS (g := gb212) (o := .cells #[.int .i64 0, .int .i64 0, .int .i64 0, .int .i64 0, .int .i64 0, .int .i64 0, .int .i64 0, .int .i64 0] 28 (0, 0)) (bF BK212 NB212_219) hb); replace BK219 := aM (qS (g := gb219) (o := .cells #[.int .i64 t213, .int .i64 t214, .slice Ao15 t215.length co15] 36 (0, 0)) (by (with_reducible repeat (first | refine qG ?_ _ | refine qE ?_ | refine qF ?_ _)); exact bP3 BK219) hb); replace HB := aM (qB bl hb); clear hb hbox hg; have hnb18 := NB220_211.out; have hnc18 := NB211_220.out; have hnb19 := NB220_212.out; have hnc19 := NB212_220.out; have hnb20 := NB220_219.out; have hnc20 := NB219_220.out; (refine cb8 BK220 ?_; intro hcz21_0 hcz21_1 hcz21_2 hcz21_3 hcz21_4 hcz21_5 hcz21_6 hcz21_7); (refine cz8 BK220 ?_; intro hfz21_0 hfz21_1 hfz21_2 hfz21_3 hfz21_4 hfz21_5 hfz21_6 hfz21_7); (refine cb3 BK219 ?_; intro hcz22_0 hcz22_1 hcz22_2); (refine cz3 BK219 ?_; intro hfz22_0 hfz22_1 hfz22_2); (refine cb8 BK211 ?_; intro hcz23_0 hcz23_1 hcz23_2 hcz23_3 hcz23_4 hcz23_5 hcz23_6 hcz23_7); (refine cz8 BK211 ?_; intro hfz23_0 hfz23_1 hfz23_2 hfz23_3 hfz23_4 hfz23_5 hfz23_6 hfz23_7)) | ((with_reducible refine qJ (f := 9) rfl ?_); refine qZ (some 25) rfl rfl Tryd.func9 (by kernel_rfl) rfl #[.agg #[.int .i64 t213, .int .i64 t214, .slice Ao15 t215.length co15], .agg #[.int .i64 a1_0, .int .i64 a1_1, .int .i64 a1_2, .int .i64 a1_3, .int .i64 a1_4, .int .i64 a1_5, .int .i64 a1_6, .int .i64 a1_7]] rfl gA ?_; (with_reducible refine (qK.calls k t213 t214 _ _ t215 a1_0 a1_1 a1_2 a1_3 a1_4 a1_5 a1_6 a1_7 t221 _ ?side1 ?side2 A5.out).mono ?_); (case side1 => refine (Kd.qT (e := 5) (base := w.heap.size) (ok := fun k_ => True) (n := t215.length) (c := co15) ?_).2.2; exact (by (with_reducible repeat (first | apply Kd.qo | apply Kd.qr | apply Kd.qc)); exact (Kd.qAA (Kd.R_far (p := ⟨gb220, 7, none⟩) (Kd.R_far (p := ⟨gb220, 6, none⟩) (Kd.R_far (p := ⟨gb220, 5, none⟩) (Kd.R_far (p := ⟨gb220, 4, none⟩) (Kd.R_far (p := ⟨gb220, 3, none⟩) (Kd.R_far (p := ⟨gb220, 2, none⟩) (Kd.R_far (p := ⟨gb220, 1, none⟩) (Kd.R_far (p := ⟨gb220, 0, none⟩) (Kd.qRA HO217.out BK220.out (by decide)) (fun _ hk => hk.2) (.int .i64 a1_0)) (fun _ hk => hk.2) (.int .i64 a1_1)) (fun _ hk => hk.2) (.int .i64 a1_2)) (fun _ hk => hk.2) (.int .i64 a1_3)) (fun _ hk => hk.2) (.int .i64 a1_4)) (fun _ hk => hk.2) (.int .i64 a1_5)) (fun _ hk => hk.2) (.int .i64 a1_6)) (fun _ hk => hk.2) (.int .i64 a1_7)) (fun _ h_ => h_.1)))); (case side2 => exact (Kd.qT HO217.out).2.1); rintro e w24 ⟨v222, rfl, ho0, hb⟩; refine ⟨_, rfl, ?_⟩; have HO223 := aM (Kd.qSA ho0 (qk bl)); replace HO217 := aM (Kd.qY (by (with_reducible repeat (first | apply Kd.qo | apply Kd.qr | apply Kd.qc)); exact (Kd.qAA (Kd.R_far (p := ⟨gb220, 7, none⟩) (Kd.R_far (p := ⟨gb220, 6, none⟩) (Kd.R_far (p := ⟨gb220, 5, none⟩) (Kd.R_far (p := ⟨gb220, 4, none⟩) (Kd.R_far (p := ⟨gb220, 3, none⟩) (Kd.R_far (p := ⟨gb220, 2, none⟩) (Kd.R_far (p := ⟨gb220, 1, none⟩) (Kd.R_far (p := ⟨gb220, 0, none⟩) (Kd.qRA HO217.out BK220.out (by decide)) (fun _ hk => hk.2) (.int .i64 a1_0)) (fun _ hk => hk.2) (.int .i64 a1_1)) (fun _ hk => hk.2) (.int .i64 a1_2)) (fun _ hk => hk.2) (.int .i64 a1_3)) (fun _ hk => hk.2) (.int .i64 a1_4)) (fun _ hk => hk.2) (.int .i64 a1_5)) (fun _ hk => hk.2) (.int .i64 a1_6)) (fun _ hk => hk.2) (.int .i64 a1_7)) (fun _ h_ => h_.1))) hb); replace BK211 := aM (qS (g := gb211) (o := .cells #[.int .i64 a1_0, .int .i64 a1_1, .int .i64 a1_2, .int .i64 a1_3, .int .i64 a1_4, .int .i64 a1_5, .int .i64 a1_6, .int .i64 a1_7] 28 (0, 0)) (bF BK211 NB211_220) hb); replace BK212 := aM (qS (g := gb212) (o := .cells #[.int .i64 0, .int .i64 0, .int .i64 0, .int .i64 0, .int .i64 0, .int .i64 0, .int .i64 0, .int .i64 0] 28 (0, 0)) (bF BK212 NB212_220) hb); replace BK219 := aM (qS (g := gb219) (o := .cells #[.int .i64 t213, .int .i64 t214, .slice Ao15 t215.length co15] 36 (0, 0)) (bF BK219 NB219_220) hb); replace BK220 := aM (qS (g := gb220) (o := .cells #[.int .i64 a1_0, .int .i64 a1_1, .int .i64 a1_2, .int .i64 a1_3, .int .i64 a1_4, .int .i64 a1_5, .int .i64 a1_6, .int .i64 a1_7] 28 (0, 0)) (by (with_reducible repeat (first | refine qG ?_ _ | refine qE ?_ | refine qF ?_ _)); exact bP8 BK220) hb); replace HB := aM (qB bl hb); (try clear hb); (try clear hb2); (try clear hk); (try clear hi); (try clear ho0); obtain ⟨Ao25, co25, eo25⟩ := Kd.qx HO223.out; subst eo25))
  go_loopg [10, 27] k (fun kq v10 v27 w' => ∃ (x10_1 : Int) (x27_1 : Int) (x221000_1 : Int) (x221001_1 : Int) (x221002_1 : Int) (x221003_1 : Int) (x221004_1 : Int) (x221005_1 : Int) (x221006_1 : Int) (x221007_1 : Int), v10 = .int .i64 x10_1 ∧ v27 = .int .i64 x27_1 ∧ Aside0 (qR.l0 kq x10_1 t221 (t221.length : Int) x27_1 x221000_1 x221001_1 x221002_1 x221003_1 x221004_1 x221005_1 x221006_1 x221007_1 = some (r1, r2, r3, r4, r5, r6, r7, r8, r9, r10)) ∧ Aside0 (kq ≤ k) ∧ Aside0 (Kd.R k43 43 w' w.heap.size (fun _ => True) (.slice Ao25 t221.length co25) t221) ∧ Aside0 (Kd.R (Kd.int .u8) 5 w' w.heap.size (fun _ => True) (.slice Ao15 t215.length co15) t215) ∧ Aside0 (w'.heap[gb211]? = some (.cells #[.int .i64 a1_0, .int .i64 a1_1, .int .i64 a1_2, .int .i64 a1_3, .int .i64 a1_4, .int .i64 a1_5, .int .i64 a1_6, .int .i64 a1_7] 28 (0, 0))) ∧ Aside0 (w'.heap[gb212]? = some (.cells #[.int .i64 0, .int .i64 0, .int .i64 0, .int .i64 0, .int .i64 0, .int .i64 0, .int .i64 0, .int .i64 0] 28 (0, 0))) ∧ Aside0 (w'.heap[gb219]? = some (.cells #[.int .i64 t213, .int .i64 t214, (.slice Ao15 t215.length co15)] 36 (0, 0))) ∧ Aside0 (w'.heap[gb220]? = some (.cells #[.int .i64 x221000_1, .int .i64 x221001_1, .int .i64 x221002_1, .int .i64 x221003_1, .int .i64 x221004_1, .int .i64 x221005_1, .int .i64 x221006_1, .int .i64 x221007_1] 28 (0, 0))) ∧ Aside0 (Below w.heap.size w w'))
  case atStart => exact ⟨(0), (0), (a1_0), (a1_1), (a1_2), (a1_3), (a1_4), (a1_5), (a1_6), (a1_7), sD, sD, H', ⟨Nat.le_refl _⟩, ⟨rR HO223⟩, ⟨rR HO217⟩, ⟨rB BK211⟩, ⟨rB BK212⟩, ⟨rB BK219⟩, ⟨rB BK220⟩, ⟨bl⟩⟩
  case round =>
   clear H'; (try clear c1); (try clear c2); (try clear p2); (try clear c4); (try clear c8); (try clear c9); (try clear c12); (try clear c13); (try clear c18); (try clear c19); (try clear c20); (try clear hcz14_0 hcz14_1 hcz14_2); (try clear hcz16_0 hcz16_1 hcz16_2 hcz16_3 hcz16_4 hcz16_5 hcz16_6 hcz16_7); (try clear hcz21_0 hcz21_1 hcz21_2 hcz21_3 hcz21_4 hcz21_5 hcz21_6 hcz21_7); (try clear hcz22_0 hcz22_1 hcz22_2); (try clear hcz23_0 hcz23_1 hcz23_2 hcz23_3 hcz23_4 hcz23_5 hcz23_6 hcz23_7); (try clear hcz9_0 hcz9_1 hcz9_2 hcz9_3 hcz9_4 hcz9_5 hcz9_6 hcz9_7); (try clear hfz14_0 hfz14_1 hfz14_2); (try clear hfz16_0 hfz16_1 hfz16_2 hfz16_3 hfz16_4 hfz16_5 hfz16_6 hfz16_7); (try clear hfz21_0 hfz21_1 hfz21_2 hfz21_3 hfz21_4 hfz21_5 hfz21_6 hfz21_7); (try clear hfz22_0 hfz22_1 hfz22_2); (try clear hfz23_0 hfz23_1 hfz23_2 hfz23_3 hfz23_4 hfz23_5 hfz23_6 hfz23_7); (try clear hfz9_0 hfz9_1 hfz9_2 hfz9_3 hfz9_4 hfz9_5 hfz9_6 hfz9_7)
   obtain ⟨x10_1, x27_1, x221000_1, x221001_1, x221002_1, x221003_1, x221004_1, x221005_1, x221006_1, x221007_1, rfl, rfl, HA, HK1, HO_25, HO_220002, BK211, BK212, BK219, BK220, HB⟩ := hrel
   cases gk with
   | zero => exact absurd HA.out (by simp [qR.l0])
   | succ k1 =>
    have H := HA.out
    clear HA
    simp only [qR.l0] at H
    by_cases c26 : x27_1 < (t221.length : Int)
    ·rw [if_pos c26] at H
     have c26b0 := decide_eq_true c26
     clear c26
     by_cases c27 : 0 ≤ x27_1
     case neg => exact nN c27 H
     rw [if_pos c27] at H
     have c27b0 := decide_eq_true c27
     clear c27
     by_cases c28 : x27_1 < (t221.length : Int)
     case neg => exact nN c28 H
     rw [if_pos c28] at H
     have c28b0 := decide_eq_true c28
     clear c28
     by_cases c29 : ((qA t221 x27_1).f1) > x10_1
     ·rw [if_pos c29] at H
      have c29b0 := decide_eq_true c29
      clear c29
      have H' := aM H
      clear H
      have p224 : 0 ≤ (x27_1 : Int) := of_decide_eq_true am
      have q224 : x27_1 < (t221.length : Int) := of_decide_eq_true am
      obtain ⟨ad224, e224, hx224_0, hx224_1, hx224_2, hx224_3, hx224_4, hx224_5, hx224_6, hx224_7, hx224_8, hx224_9, hx224_10, hx224_11, hx224_12, hx224_13, hx224_14, hx224_15⟩ := qcB (Kd.qT HO_25.out).2.2 x27_1 p224 q224
      cases e224
      replace p224 := eq_true p224
      replace q224 := eq_true q224
      go_wp2_with (first | ((with_reducible refine qH (N := 30) rfl ?_); refine qaC (N := 30) _ rfl rfl rfl ?hp hx224_0 hx224_1 hx224_2 hx224_3 hx224_4 hx224_5 hx224_6 hx224_7 hx224_8 hx224_9 hx224_10 hx224_11 hx224_12 hx224_13 hx224_14 hx224_15 ?_; (case hp => rfl)) | ((with_reducible refine qH (N := 12) rfl ?_); refine qKC (N := 12) (v := .tmp 30) ((qA t221 x27_1).f0.f0) ((qA t221 x27_1).f0.f1) ((qA t221 x27_1).f0.f2.f0) ((qA t221 x27_1).f0.f2.f1) ((qA t221 x27_1).f0.f2.f2) ((qA t221 x27_1).f0.f2.f3) ((qA t221 x27_1).f0.f2.f4) ((qA t221 x27_1).f0.f2.f5) ((qA t221 x27_1).f1) ((qA t221 x27_1).f2) ((qA t221 x27_1).f3) ((qA t221 x27_1).f4) ((qA t221 x27_1).f5.f0) ((qA t221 x27_1).f5.f1) ((qA t221 x27_1).f5.f2) ((qA t221 x27_1).f5.f3) rfl rfl rfl rfl rfl rfl rfl ?hv ?_; (case hv => rfl); intro gb225 hg w30 hbox hb; clear hx224_0 hx224_1 hx224_2 hx224_3 hx224_4 hx224_5 hx224_6 hx224_7 hx224_8 hx224_9 hx224_10 hx224_11 hx224_12 hx224_13 hx224_14 hx224_15; have BK225 := aM (hbox); have GW225 := aM ((gg hg)); have GE225 := aM ((gg hg)); have NB211_225 := aM ((nl BK211 hg)); have NB225_211 := aM ((nr BK211 hg)); have NB212_225 := aM ((nl BK212 hg)); have NB225_212 := aM ((nr BK212 hg)); have NB219_225 := aM ((nl BK219 hg)); have NB225_219 := aM ((nr BK219 hg)); have NB220_225 := aM ((nl BK220 hg)); have NB225_220 := aM ((nr BK220 hg)); replace HO_25 := aM (Kd.qY (Kd.qLC (rR HO_25) gb225 (Nat.le_of_eq hg.symm)) hb); replace HO_220002 := aM (Kd.qY (rR HO_220002) hb); replace BK211 := aM (bb BK211 hb); replace BK212 := aM (bb BK212 hb); replace BK219 := aM (bb BK219 hb); replace BK220 := aM (bb BK220 hb); replace HB := aM (qB bl hb); clear hb hbox hg; have hnb31 := NB225_211.out; have hnc31 := NB211_225.out; have hnb32 := NB225_212.out; have hnc32 := NB212_225.out; have hnb33 := NB225_219.out; have hnc33 := NB219_225.out; have hnb34 := NB225_220.out; have hnc34 := NB220_225.out; have hcz35_0 := bc BK225 0; have hcz35_1 := bc BK225 1; have hcz35_2 := bc BK225 2; have hcz35_3 := bc BK225 3; have hcz35_4 := bc BK225 4; have hcz35_5 := bc BK225 5; have hcz35_6 := bc BK225 6; have hcz35_7 := bc BK225 7; have hcz35_8 := bc BK225 8; have hnb36 := NB220_211.out; have hnc36 := NB211_220.out; have hnb37 := NB220_212.out; have hnc37 := NB212_220.out; have hnb38 := NB220_219.out; have hnc38 := NB219_220.out; (refine cb8 BK220 ?_; intro _ _ _ _ _ _ _ _); (refine cz8 BK220 ?_; intro _ _ _ _ _ _ _ _)))
      go_roundg k1
      case measure => have := HK1.out; omega
      case rel => exact ⟨((qA t221 x27_1).f1), (wrap64 (x27_1 + 1)), ((qA t221 x27_1).f0.f0), ((qA t221 x27_1).f0.f1), ((qA t221 x27_1).f0.f2.f0), ((qA t221 x27_1).f0.f2.f1), ((qA t221 x27_1).f0.f2.f2), ((qA t221 x27_1).f0.f2.f3), ((qA t221 x27_1).f0.f2.f4), ((qA t221 x27_1).f0.f2.f5), sD, sD, H', ⟨by have := HK1.out; omega⟩, ⟨by (with_reducible repeat (first | apply Kd.qo | apply Kd.qr | apply Kd.qc)); exact Kd.qAA (Kd.R_far (p := ⟨gb220, 7, none⟩) (Kd.R_far (p := ⟨gb220, 6, none⟩) (Kd.R_far (p := ⟨gb220, 5, none⟩) (Kd.R_far (p := ⟨gb220, 4, none⟩) (Kd.R_far (p := ⟨gb220, 3, none⟩) (Kd.R_far (p := ⟨gb220, 2, none⟩) (Kd.R_far (p := ⟨gb220, 1, none⟩) (Kd.R_far (p := ⟨gb220, 0, none⟩) (((((((((((((((((Kd.qRA (Kd.qAA HO_25.out (fun k_ hk => (⟨hk, hk.2⟩ : _ ∧ k_ ≠ gb225))) BK220.out (by decide)))))))))))))))))) (fun _ hk => hk.2) (.int .i64 ((qA t221 x27_1).f0.f0))) (fun _ hk => hk.2) (.int .i64 ((qA t221 x27_1).f0.f1))) (fun _ hk => hk.2) (.int .i64 ((qA t221 x27_1).f0.f2.f0))) (fun _ hk => hk.2) (.int .i64 ((qA t221 x27_1).f0.f2.f1))) (fun _ hk => hk.2) (.int .i64 ((qA t221 x27_1).f0.f2.f2))) (fun _ hk => hk.2) (.int .i64 ((qA t221 x27_1).f0.f2.f3))) (fun _ hk => hk.2) (.int .i64 ((qA t221 x27_1).f0.f2.f4))) (fun _ hk => hk.2) (.int .i64 ((qA t221 x27_1).f0.f2.f5))) (fun _ hk => trivial)⟩, ⟨by (with_reducible repeat (first | apply Kd.qo | apply Kd.qr | apply Kd.qc)); exact Kd.qAA (Kd.R_far (p := ⟨gb220, 7, none⟩) (Kd.R_far (p := ⟨gb220, 6, none⟩) (Kd.R_far (p := ⟨gb220, 5, none⟩) (Kd.R_far (p := ⟨gb220, 4, none⟩) (Kd.R_far (p := ⟨gb220, 3, none⟩) (Kd.R_far (p := ⟨gb220, 2, none⟩) (Kd.R_far (p := ⟨gb220, 1, none⟩) (Kd.R_far (p := ⟨gb220, 0, none⟩) (((((((((((((((((Kd.qRA (Kd.qRA HO_220002.out BK225.out (by decide)) BK220.out (by decide)))))))))))))))))) (fun _ hk => hk.2) (.int .i64 ((qA t221 x27_1).f0.f0))) (fun _ hk => hk.2) (.int .i64 ((qA t221 x27_1).f0.f1))) (fun _ hk => hk.2) (.int .i64 ((qA t221 x27_1).f0.f2.f0))) (fun _ hk => hk.2) (.int .i64 ((qA t221 x27_1).f0.f2.f1))) (fun _ hk => hk.2) (.int .i64 ((qA t221 x27_1).f0.f2.f2))) (fun _ hk => hk.2) (.int .i64 ((qA t221 x27_1).f0.f2.f3))) (fun _ hk => hk.2) (.int .i64 ((qA t221 x27_1).f0.f2.f4))) (fun _ hk => hk.2) (.int .i64 ((qA t221 x27_1).f0.f2.f5))) (fun _ hk => trivial)⟩, ⟨bF BK211 NB211_220⟩, ⟨bF BK212 NB212_220⟩, ⟨bF BK219 NB219_220⟩, ⟨by (with_reducible repeat (first | refine qG ?_ _ | refine qE ?_ | refine qF ?_ _)); exact bP8 BK220⟩, ⟨bl⟩⟩
     ·rw [if_neg c29] at H
      have c29b0 := decide_eq_false c29
      clear c29
      by_cases c40 : ((qA t221 x27_1).f1) = x10_1
      ·rw [if_pos c40] at H
       have c40b0 := beq_iff_eq.mpr c40
       have c40b1 := bne_eq_false_iff_eq.mpr c40
       clear c40
       replace H := bO H
       obtain ⟨t226, A41, H⟩ := H
       by_cases c42 : t226 = true
       ·subst c42
        replace H := iT H
        have H' := aM H
        clear H
        have p224 : 0 ≤ (x27_1 : Int) := of_decide_eq_true am
        have q224 : x27_1 < (t221.length : Int) := of_decide_eq_true am
        obtain ⟨ad224, e224, hx224_0, hx224_1, hx224_2, hx224_3, hx224_4, hx224_5, hx224_6, hx224_7, hx224_8, hx224_9, hx224_10, hx224_11, hx224_12, hx224_13, hx224_14, hx224_15⟩ := qcB (Kd.qT HO_25.out).2.2 x27_1 p224 q224
        cases e224
        replace p224 := eq_true p224
        replace q224 := eq_true q224
        go_wp2_with (first | ((with_reducible refine qH (N := 30) rfl ?_); refine qaC (N := 30) _ rfl rfl rfl ?hp hx224_0 hx224_1 hx224_2 hx224_3 hx224_4 hx224_5 hx224_6 hx224_7 hx224_8 hx224_9 hx224_10 hx224_11 hx224_12 hx224_13 hx224_14 hx224_15 ?_; (case hp => rfl)) | ((with_reducible refine qH (N := 12) rfl ?_); refine qKC (N := 12) (v := .tmp 30) ((qA t221 x27_1).f0.f0) ((qA t221 x27_1).f0.f1) ((qA t221 x27_1).f0.f2.f0) ((qA t221 x27_1).f0.f2.f1) ((qA t221 x27_1).f0.f2.f2) ((qA t221 x27_1).f0.f2.f3) ((qA t221 x27_1).f0.f2.f4) ((qA t221 x27_1).f0.f2.f5) ((qA t221 x27_1).f1) ((qA t221 x27_1).f2) ((qA t221 x27_1).f3) ((qA t221 x27_1).f4) ((qA t221 x27_1).f5.f0) ((qA t221 x27_1).f5.f1) ((qA t221 x27_1).f5.f2) ((qA t221 x27_1).f5.f3) rfl rfl rfl rfl rfl rfl rfl ?hv ?_; (case hv => rfl); intro gb225 hg w43 hbox hb; clear hx224_0 hx224_1 hx224_2 hx224_3 hx224_4 hx224_5 hx224_6 hx224_7 hx224_8 hx224_9 hx224_10 hx224_11 hx224_12 hx224_13 hx224_14 hx224_15; have BK225 := aM (hbox); have GW225 := aM ((gg hg)); have GE225 := aM ((gg hg)); have NB211_225 := aM ((nl BK211 hg)); have NB225_211 := aM ((nr BK211 hg)); have NB212_225 := aM ((nl BK212 hg)); have NB225_212 := aM ((nr BK212 hg)); have NB219_225 := aM ((nl BK219 hg)); have NB225_219 := aM ((nr BK219 hg)); have NB220_225 := aM ((nl BK220 hg)); have NB225_220 := aM ((nr BK220 hg)); replace HO_25 := aM (Kd.qY (Kd.qLC (rR HO_25) gb225 (Nat.le_of_eq hg.symm)) hb); replace HO_220002 := aM (Kd.qY (rR HO_220002) hb); replace BK211 := aM (bb BK211 hb); replace BK212 := aM (bb BK212 hb); replace BK219 := aM (bb BK219 hb); replace BK220 := aM (bb BK220 hb); replace HB := aM (qB bl hb); clear hb hbox hg; have hnb44 := NB225_211.out; have hnc44 := NB211_225.out; have hnb45 := NB225_212.out; have hnc45 := NB212_225.out; have hnb46 := NB225_219.out; have hnc46 := NB219_225.out; have hnb47 := NB225_220.out; have hnc47 := NB220_225.out; have hcz48_0 := bc BK225 0; have hcz48_1 := bc BK225 1; have hcz48_2 := bc BK225 2; have hcz48_3 := bc BK225 3; have hcz48_4 := bc BK225 4; have hcz48_5 := bc BK225 5; have hcz48_6 := bc BK225 6; have hcz48_7 := bc BK225 7; have hcz48_8 := bc BK225 8; have hnb49 := NB220_211.out; have hnc49 := NB211_220.out; have hnb50 := NB220_212.out; have hnc50 := NB212_220.out; have hnb51 := NB220_219.out; have hnc51 := NB219_220.out; (refine cb8 BK220 ?_; intro _ _ _ _ _ _ _ _); (refine cz8 BK220 ?_; intro _ _ _ _ _ _ _ _)) | (go_at_call 10; (with_reducible refine (qAB.calls k1 ((qA t221 x27_1).f0.f0) ((qA t221 x27_1).f0.f1) ((qA t221 x27_1).f0.f2.f0) ((qA t221 x27_1).f0.f2.f1) ((qA t221 x27_1).f0.f2.f2) ((qA t221 x27_1).f0.f2.f3) ((qA t221 x27_1).f0.f2.f4) ((qA t221 x27_1).f0.f2.f5) x221000_1 x221001_1 x221002_1 x221003_1 x221004_1 x221005_1 x221006_1 x221007_1 true _ A41.out).mono ?_); rintro e w53 ⟨rfl, hb⟩; replace HO_25 := aM (Kd.qY (by (with_reducible repeat (first | apply Kd.qo | apply Kd.qr | apply Kd.qc)); exact (Kd.qAA (((((((((((((((((Kd.qAA HO_25.out (fun k_ hk => (⟨hk, hk.2⟩ : _ ∧ k_ ≠ gb225))))))))))))))))))) (fun _ h_ => h_.1))) hb); replace HO_220002 := aM (Kd.qY (by (with_reducible repeat (first | apply Kd.qo | apply Kd.qr | apply Kd.qc)); exact (Kd.qAA (((((((((((((((((Kd.qRA HO_220002.out BK225.out (by decide)))))))))))))))))) (fun _ h_ => h_.1))) hb); replace BK211 := aM (bb BK211 hb); replace BK212 := aM (bb BK212 hb); replace BK219 := aM (bb BK219 hb); replace BK220 := aM (bb BK220 hb); replace BK225 := aM (bb BK225 hb); replace HB := aM (qB bl hb); (try clear hb); (try clear hb2); (try clear hk); (try clear hi); have hcz54_0 := bc BK225 0; have hcz54_1 := bc BK225 1; have hcz54_2 := bc BK225 2; have hcz54_3 := bc BK225 3; have hcz54_4 := bc BK225 4; have hcz54_5 := bc BK225 5; have hcz54_6 := bc BK225 6; have hcz54_7 := bc BK225 7; have hcz54_8 := bc BK225 8; (refine cb8 BK220 ?_; intro _ _ _ _ _ _ _ _); (refine cz8 BK220 ?_; intro _ _ _ _ _ _ _ _)))
        go_roundg k1
        case measure => have := HK1.out; omega
        case rel => exact ⟨((qA t221 x27_1).f1), (wrap64 (x27_1 + 1)), ((qA t221 x27_1).f0.f0), ((qA t221 x27_1).f0.f1), ((qA t221 x27_1).f0.f2.f0), ((qA t221 x27_1).f0.f2.f1), ((qA t221 x27_1).f0.f2.f2), ((qA t221 x27_1).f0.f2.f3), ((qA t221 x27_1).f0.f2.f4), ((qA t221 x27_1).f0.f2.f5), sD, sD, H', ⟨by have := HK1.out; omega⟩, ⟨by (with_reducible repeat (first | apply Kd.qo | apply Kd.qr | apply Kd.qc)); exact Kd.qAA (Kd.R_far (p := ⟨gb220, 7, none⟩) (Kd.R_far (p := ⟨gb220, 6, none⟩) (Kd.R_far (p := ⟨gb220, 5, none⟩) (Kd.R_far (p := ⟨gb220, 4, none⟩) (Kd.R_far (p := ⟨gb220, 3, none⟩) (Kd.R_far (p := ⟨gb220, 2, none⟩) (Kd.R_far (p := ⟨gb220, 1, none⟩) (Kd.R_far (p := ⟨gb220, 0, none⟩) (Kd.qRA HO_25.out BK220.out (by decide)) (fun _ hk => hk.2) (.int .i64 ((qA t221 x27_1).f0.f0))) (fun _ hk => hk.2) (.int .i64 ((qA t221 x27_1).f0.f1))) (fun _ hk => hk.2) (.int .i64 ((qA t221 x27_1).f0.f2.f0))) (fun _ hk => hk.2) (.int .i64 ((qA t221 x27_1).f0.f2.f1))) (fun _ hk => hk.2) (.int .i64 ((qA t221 x27_1).f0.f2.f2))) (fun _ hk => hk.2) (.int .i64 ((qA t221 x27_1).f0.f2.f3))) (fun _ hk => hk.2) (.int .i64 ((qA t221 x27_1).f0.f2.f4))) (fun _ hk => hk.2) (.int .i64 ((qA t221 x27_1).f0.f2.f5))) (fun _ hk => trivial)⟩, ⟨by (with_reducible repeat (first | apply Kd.qo | apply Kd.qr | apply Kd.qc)); exact Kd.qAA (Kd.R_far (p := ⟨gb220, 7, none⟩) (Kd.R_far (p := ⟨gb220, 6, none⟩) (Kd.R_far (p := ⟨gb220, 5, none⟩) (Kd.R_far (p := ⟨gb220, 4, none⟩) (Kd.R_far (p := ⟨gb220, 3, none⟩) (Kd.R_far (p := ⟨gb220, 2, none⟩) (Kd.R_far (p := ⟨gb220, 1, none⟩) (Kd.R_far (p := ⟨gb220, 0, none⟩) (Kd.qRA HO_220002.out BK220.out (by decide)) (fun _ hk => hk.2) (.int .i64 ((qA t221 x27_1).f0.f0))) (fun _ hk => hk.2) (.int .i64 ((qA t221 x27_1).f0.f1))) (fun _ hk => hk.2) (.int .i64 ((qA t221 x27_1).f0.f2.f0))) (fun _ hk => hk.2) (.int .i64 ((qA t221 x27_1).f0.f2.f1))) (fun _ hk => hk.2) (.int .i64 ((qA t221 x27_1).f0.f2.f2))) (fun _ hk => hk.2) (.int .i64 ((qA t221 x27_1).f0.f2.f3))) (fun _ hk => hk.2) (.int .i64 ((qA t221 x27_1).f0.f2.f4))) (fun _ hk => hk.2) (.int .i64 ((qA t221 x27_1).f0.f2.f5))) (fun _ hk => trivial)⟩, ⟨bF BK211 NB211_220⟩, ⟨bF BK212 NB212_220⟩, ⟨bF BK219 NB219_220⟩, ⟨by (with_reducible repeat (first | refine qG ?_ _ | refine qE ?_ | refine qF ?_ _)); exact bP8 BK220⟩, ⟨bl⟩⟩
       ·replace c42 := Bool.eq_false_iff.mpr c42
        subst c42
        replace H := iF H
        have H' := aM H
        clear H
        have p224 : 0 ≤ (x27_1 : Int) := of_decide_eq_true am
        have q224 : x27_1 < (t221.length : Int) := of_decide_eq_true am
        obtain ⟨ad224, e224, hx224_0, hx224_1, hx224_2, hx224_3, hx224_4, hx224_5, hx224_6, hx224_7, hx224_8, hx224_9, hx224_10, hx224_11, hx224_12, hx224_13, hx224_14, hx224_15⟩ := qcB (Kd.qT HO_25.out).2.2 x27_1 p224 q224
        cases e224
        replace p224 := eq_true p224
        replace q224 := eq_true q224
        go_wp2_with (first | ((with_reducible refine qH (N := 30) rfl ?_); refine qaC (N := 30) _ rfl rfl rfl ?hp hx224_0 hx224_1 hx224_2 hx224_3 hx224_4 hx224_5 hx224_6 hx224_7 hx224_8 hx224_9 hx224_10 hx224_11 hx224_12 hx224_13 hx224_14 hx224_15 ?_; (case hp => rfl)) | ((with_reducible refine qH (N := 12) rfl ?_); refine qKC (N := 12) (v := .tmp 30) ((qA t221 x27_1).f0.f0) ((qA t221 x27_1).f0.f1) ((qA t221 x27_1).f0.f2.f0) ((qA t221 x27_1).f0.f2.f1) ((qA t221 x27_1).f0.f2.f2) ((qA t221 x27_1).f0.f2.f3) ((qA t221 x27_1).f0.f2.f4) ((qA t221 x27_1).f0.f2.f5) ((qA t221 x27_1).f1) ((qA t221 x27_1).f2) ((qA t221 x27_1).f3) ((qA t221 x27_1).f4) ((qA t221 x27_1).f5.f0) ((qA t221 x27_1).f5.f1) ((qA t221 x27_1).f5.f2) ((qA t221 x27_1).f5.f3) rfl rfl rfl rfl rfl rfl rfl ?hv ?_; (case hv => rfl); intro gb225 hg w56 hbox hb; clear hx224_0 hx224_1 hx224_2 hx224_3 hx224_4 hx224_5 hx224_6 hx224_7 hx224_8 hx224_9 hx224_10 hx224_11 hx224_12 hx224_13 hx224_14 hx224_15; have BK225 := aM (hbox); have GW225 := aM ((gg hg)); have GE225 := aM ((gg hg)); have NB211_225 := aM ((nl BK211 hg)); have NB225_211 := aM ((nr BK211 hg)); have NB212_225 := aM ((nl BK212 hg)); have NB225_212 := aM ((nr BK212 hg)); have NB219_225 := aM ((nl BK219 hg)); have NB225_219 := aM ((nr BK219 hg)); have NB220_225 := aM ((nl BK220 hg)); have NB225_220 := aM ((nr BK220 hg)); replace HO_25 := aM (Kd.qY (Kd.qLC (rR HO_25) gb225 (Nat.le_of_eq hg.symm)) hb); replace HO_220002 := aM (Kd.qY (rR HO_220002) hb); replace BK211 := aM (bb BK211 hb); replace BK212 := aM (bb BK212 hb); replace BK219 := aM (bb BK219 hb); replace BK220 := aM (bb BK220 hb); replace HB := aM (qB bl hb); clear hb hbox hg; have hnb57 := NB225_211.out; have hnc57 := NB211_225.out; have hnb58 := NB225_212.out; have hnc58 := NB212_225.out; have hnb59 := NB225_219.out; have hnc59 := NB219_225.out; have hnb60 := NB225_220.out; have hnc60 := NB220_225.out; have hcz61_0 := bc BK225 0; have hcz61_1 := bc BK225 1; have hcz61_2 := bc BK225 2; have hcz61_3 := bc BK225 3; have hcz61_4 := bc BK225 4; have hcz61_5 := bc BK225 5; have hcz61_6 := bc BK225 6; have hcz61_7 := bc BK225 7; have hcz61_8 := bc BK225 8; have hnb62 := NB220_211.out; have hnc62 := NB211_220.out; have hnb63 := NB220_212.out; have hnc63 := NB212_220.out; have hnb64 := NB220_219.out; have hnc64 := NB219_220.out; (refine cb8 BK220 ?_; intro _ _ _ _ _ _ _ _); (refine cz8 BK220 ?_; intro _ _ _ _ _ _ _ _)) | (go_at_call 10; (with_reducible refine (qAB.calls k1 ((qA t221 x27_1).f0.f0) ((qA t221 x27_1).f0.f1) ((qA t221 x27_1).f0.f2.f0) ((qA t221 x27_1).f0.f2.f1) ((qA t221 x27_1).f0.f2.f2) ((qA t221 x27_1).f0.f2.f3) ((qA t221 x27_1).f0.f2.f4) ((qA t221 x27_1).f0.f2.f5) x221000_1 x221001_1 x221002_1 x221003_1 x221004_1 x221005_1 x221006_1 x221007_1 false _ A41.out).mono ?_); rintro e w66 ⟨rfl, hb⟩; replace HO_25 := aM (Kd.qY (by (with_reducible repeat (first | apply Kd.qo | apply Kd.qr | apply Kd.qc)); exact (Kd.qAA (((((((((((((((((Kd.qAA HO_25.out (fun k_ hk => (⟨hk, hk.2⟩ : _ ∧ k_ ≠ gb225))))))))))))))))))) (fun _ h_ => h_.1))) hb); replace HO_220002 := aM (Kd.qY (by (with_reducible repeat (first | apply Kd.qo | apply Kd.qr | apply Kd.qc)); exact (Kd.qAA (((((((((((((((((Kd.qRA HO_220002.out BK225.out (by decide)))))))))))))))))) (fun _ h_ => h_.1))) hb); replace BK211 := aM (bb BK211 hb); replace BK212 := aM (bb BK212 hb); replace BK219 := aM (bb BK219 hb); replace BK220 := aM (bb BK220 hb); replace BK225 := aM (bb BK225 hb); replace HB := aM (qB bl hb); (try clear hb); (try clear hb2); (try clear hk); (try clear hi)))
        go_roundg k1
        case measure => have := HK1.out; omega
        case rel => exact ⟨(x10_1), (wrap64 (x27_1 + 1)), (x221000_1), (x221001_1), (x221002_1), (x221003_1), (x221004_1), (x221005_1), (x221006_1), (x221007_1), sD, sD, H', ⟨by have := HK1.out; omega⟩, ⟨by (with_reducible repeat (first | apply Kd.qo | apply Kd.qr | apply Kd.qc)); exact Kd.qAA HO_25.out (fun _ hk => trivial)⟩, ⟨rR HO_220002⟩, ⟨rB BK211⟩, ⟨rB BK212⟩, ⟨rB BK219⟩, ⟨rB BK220⟩, ⟨bl⟩⟩
      ·rw [if_neg c40] at H
       have c40b0 := beq_eq_false_iff_ne.mpr c40
       have c40b1 := bne_iff_ne.mpr c40
       have H' := aM H
       clear H
       have p224 : 0 ≤ (x27_1 : Int) := of_decide_eq_true am
       have q224 : x27_1 < (t221.length : Int) := of_decide_eq_true am
       obtain ⟨ad224, e224, hx224_0, hx224_1, hx224_2, hx224_3, hx224_4, hx224_5, hx224_6, hx224_7, hx224_8, hx224_9, hx224_10, hx224_11, hx224_12, hx224_13, hx224_14, hx224_15⟩ := qcB (Kd.qT HO_25.out).2.2 x27_1 p224 q224
       cases e224
       replace p224 := eq_true p224
       replace q224 := eq_true q224
       go_wp2_with (first | ((with_reducible refine qH (N := 30) rfl ?_); refine qaC (N := 30) _ rfl rfl rfl ?hp hx224_0 hx224_1 hx224_2 hx224_3 hx224_4 hx224_5 hx224_6 hx224_7 hx224_8 hx224_9 hx224_10 hx224_11 hx224_12 hx224_13 hx224_14 hx224_15 ?_; (case hp => rfl)) | ((with_reducible refine qH (N := 12) rfl ?_); refine qKC (N := 12) (v := .tmp 30) ((qA t221 x27_1).f0.f0) ((qA t221 x27_1).f0.f1) ((qA t221 x27_1).f0.f2.f0) ((qA t221 x27_1).f0.f2.f1) ((qA t221 x27_1).f0.f2.f2) ((qA t221 x27_1).f0.f2.f3) ((qA t221 x27_1).f0.f2.f4) ((qA t221 x27_1).f0.f2.f5) ((qA t221 x27_1).f1) ((qA t221 x27_1).f2) ((qA t221 x27_1).f3) ((qA t221 x27_1).f4) ((qA t221 x27_1).f5.f0) ((qA t221 x27_1).f5.f1) ((qA t221 x27_1).f5.f2) ((qA t221 x27_1).f5.f3) rfl rfl rfl rfl rfl rfl rfl ?hv ?_; (case hv => rfl); intro gb225 hg w67 hbox hb; clear hx224_0 hx224_1 hx224_2 hx224_3 hx224_4 hx224_5 hx224_6 hx224_7 hx224_8 hx224_9 hx224_10 hx224_11 hx224_12 hx224_13 hx224_14 hx224_15; have BK225 := aM (hbox); have GW225 := aM ((gg hg)); have GE225 := aM ((gg hg)); have NB211_225 := aM ((nl BK211 hg)); have NB225_211 := aM ((nr BK211 hg)); have NB212_225 := aM ((nl BK212 hg)); have NB225_212 := aM ((nr BK212 hg)); have NB219_225 := aM ((nl BK219 hg)); have NB225_219 := aM ((nr BK219 hg)); have NB220_225 := aM ((nl BK220 hg)); have NB225_220 := aM ((nr BK220 hg)); replace HO_25 := aM (Kd.qY (Kd.qLC (rR HO_25) gb225 (Nat.le_of_eq hg.symm)) hb); replace HO_220002 := aM (Kd.qY (rR HO_220002) hb); replace BK211 := aM (bb BK211 hb); replace BK212 := aM (bb BK212 hb); replace BK219 := aM (bb BK219 hb); replace BK220 := aM (bb BK220 hb); replace HB := aM (qB bl hb); clear hb hbox hg; have hnb68 := NB225_211.out; have hnc68 := NB211_225.out; have hnb69 := NB225_212.out; have hnc69 := NB212_225.out; have hnb70 := NB225_219.out; have hnc70 := NB219_225.out; have hnb71 := NB225_220.out; have hnc71 := NB220_225.out; have hcz72_0 := bc BK225 0; have hcz72_1 := bc BK225 1; have hcz72_2 := bc BK225 2; have hcz72_3 := bc BK225 3; have hcz72_4 := bc BK225 4; have hcz72_5 := bc BK225 5; have hcz72_6 := bc BK225 6; have hcz72_7 := bc BK225 7; have hcz72_8 := bc BK225 8; have hfz72_15 := qQ BK225.out 15))
       go_roundg k1
       case measure => have := HK1.out; omega
       case rel => exact ⟨(x10_1), (wrap64 (x27_1 + 1)), (x221000_1), (x221001_1), (x221002_1), (x221003_1), (x221004_1), (x221005_1), (x221006_1), (x221007_1), sD, sD, H', ⟨by have := HK1.out; omega⟩, ⟨by (with_reducible repeat (first | apply Kd.qo | apply Kd.qr | apply Kd.qc)); exact Kd.qAA (((((((((((((((((Kd.qAA HO_25.out (fun k_ hk => (⟨hk, hk.2⟩ : _ ∧ k_ ≠ gb225))))))))))))))))))) (fun _ hk => trivial)⟩, ⟨by (with_reducible repeat (first | apply Kd.qo | apply Kd.qr | apply Kd.qc)); exact Kd.qAA (((((((((((((((((Kd.qRA HO_220002.out BK225.out (by decide)))))))))))))))))) (fun _ hk => trivial)⟩, ⟨rB BK211⟩, ⟨rB BK212⟩, ⟨rB BK219⟩, ⟨rB BK220⟩, ⟨bl⟩⟩
    ·rw [if_neg c26] at H
     have c26b0 := decide_eq_false c26
     clear c26
     simp only [Option.some.injEq, Prod.mk.injEq] at H
     obtain ⟨rfl, rfl, rfl, rfl, rfl, rfl, rfl, rfl, rfl, rfl⟩ := H
     have hnb73 := NB220_211.out
     have hnc73 := NB211_220.out
     have hnb74 := NB220_212.out
     have hnc74 := NB212_220.out
     have hnb75 := NB220_219.out
     have hnc75 := NB219_220.out
     (refine cb8 BK220 ?_; intro _ _ _ _ _ _ _ _)
     (refine cz8 BK220 ?_; intro _ _ _ _ _ _ _ _)
     have hnb77 := NB212_211.out
     have hnc77 := NB211_212.out
     have hnb78 := NB212_219.out
     have hnc78 := NB219_212.out
     (refine cb8 BK212 ?_; intro _ _ _ _ _ _ _ _)
     (refine cz8 BK212 ?_; intro _ _ _ _ _ _ _ _)
     go_wp2
     refine bodyPost_ret (qfB rfl _ _ gb212 28 #[.int .i64 x221000_1, .int .i64 x221001_1, .int .i64 x221002_1, .int .i64 x221003_1, .int .i64 x221004_1, .int .i64 x221005_1, .int .i64 x221006_1, .int .i64 x221007_1] (0, 0) _ rfl (by (with_reducible repeat (first | refine qG ?_ _ | refine qE ?_ | refine qF ?_ _)); exact bP8 BK212) Tryd.underlying28 rfl (by kernel_rfl)) rfl ?_
     exact ⟨sR, bl⟩
 ·replace c4 := Bool.eq_false_iff.mpr c4
  subst c4
  replace H := iF H
  simp only [Option.some.injEq, Prod.mk.injEq] at H
  obtain ⟨rfl, rfl, rfl, rfl, rfl, rfl, rfl, rfl, rfl, rfl⟩ := H
  go_enter Tryd.func4, Tryd.ntmps4
  go_wp2_with (first | ((with_reducible refine qH (N := 3) rfl ?_); refine bE (N := 3) (cs := #[.int .i64 a1_0, .int .i64 a1_1, .int .i64 a1_2, .int .i64 a1_3, .int .i64 a1_4, .int .i64 a1_5, .int .i64 a1_6, .int .i64 a1_7]) (t := 28) ?_; intro gb211 hg w80 hbox hb; have BK211 := aM (hbox); have GW211 := aM ((gg hg)); have GE211 := aM ((gg hg)); replace HB := aM (qB bl hb); clear hb hbox hg) | ((with_reducible refine qH (N := 4) rfl ?_); refine bE (N := 4) (cs := #[.int .i64 0, .int .i64 0, .int .i64 0, .int .i64 0, .int .i64 0, .int .i64 0, .int .i64 0, .int .i64 0]) (t := 28) ?_; intro gb212 hg w81 hbox hb; have BK212 := aM (hbox); have GW212 := aM ((gg hg)); have GE212 := aM ((gg hg)); have NB211_212 := aM ((nl BK211 hg)); have NB212_211 := aM ((nr BK211 hg)); replace BK211 := aM (bb BK211 hb); replace HB := aM (qB bl hb); clear hb hbox hg; have hnb82 := NB211_212.out; have hnc82 := NB212_211.out; (refine cb8 BK211 ?_; intro _ _ _ _ _ _ _ _); (refine cz8 BK211 ?_; intro _ _ _ _ _ _ _ _)) | ((with_reducible refine qJ (f := 8) rfl ?_); refine qZ (some 16) rfl rfl Tryd.func8 (by kernel_rfl) rfl #[.string a0, .agg #[.int .i64 a1_0, .int .i64 a1_1, .int .i64 a1_2, .int .i64 a1_3, .int .i64 a1_4, .int .i64 a1_5, .int .i64 a1_6, .int .i64 a1_7]] rfl gA ?_; (with_reducible refine (qt.calls k a0 a1_0 a1_1 a1_2 a1_3 a1_4 a1_5 a1_6 a1_7 t213 t214 t215 false _ A3.out).mono ?_); rintro e w84 ⟨v216, rfl, ho0, hb⟩; refine ⟨_, rfl, ?_⟩; have HO217 := aM (Kd.qSA ho0 (qk bl)); replace BK211 := aM (bb BK211 hb); replace BK212 := aM (bb BK212 hb); replace HB := aM (qB bl hb); (try clear hb); (try clear hb2); (try clear hk); (try clear hi); (try clear ho0)) | ((with_reducible refine qH (N := 7) rfl ?_); refine bE (N := 7) (cs := #[.int .i64 0, .int .i64 0, .slice none 0 0]) (t := 36) ?_; intro gb219 hg w85 hbox hb; have BK219 := aM (hbox); have GW219 := aM ((gg hg)); have GE219 := aM ((gg hg)); have NB211_219 := aM ((nl BK211 hg)); have NB219_211 := aM ((nr BK211 hg)); have NB212_219 := aM ((nl BK212 hg)); have NB219_212 := aM ((nr BK212 hg)); replace HO217 := aM (Kd.qY (rR HO217) hb); replace BK211 := aM (bb BK211 hb); replace BK212 := aM (bb BK212 hb); replace HB := aM (qB bl hb); clear hb hbox hg; have hnb86 := NB219_211.out; have hnc86 := NB211_219.out; have hnb87 := NB219_212.out; have hnc87 := NB212_219.out; (refine cb3 BK219 ?_; intro _ _ _); (refine cz3 BK219 ?_; intro _ _ _); obtain ⟨Ao89, co89, eo89⟩ := Kd.qx HO217.out; subst eo89; (refine cb8 BK212 ?_; intro _ _ _ _ _ _ _ _); (refine cz8 BK212 ?_; intro _ _ _ _ _ _ _ _)))
  refine bodyPost_ret (qfB rfl _ _ gb212 28 #[.int .i64 0, .int .i64 0, .int .i64 0, .int .i64 0, .int .i64 0, .int .i64 0, .int .i64 0, .int .i64 0] (0, 0) _ rfl (by (with_reducible repeat (first | refine qG ?_ _ | refine qE ?_ | refine qF ?_ _)); refine qb (cs := #[.int .i64 0, .int .i64 0, .int .i64 0, .int .i64 0, .int .i64 0, .int .i64 0, .int .i64 0, .int .i64 0]) ?_ 7 _ rfl; (with_reducible repeat (first | refine qG ?_ _ | refine qE ?_ | refine qF ?_ _)); refine qb (cs := #[.int .i64 0, .int .i64 0, .int .i64 0, .int .i64 0, .int .i64 0, .int .i64 0, .int .i64 0, .int .i64 0]) ?_ 6 _ rfl; (with_reducible repeat (first | refine qG ?_ _ | refine qE ?_ | refine qF ?_ _)); refine qb (cs := #[.int .i64 0, .int .i64 0, .int .i64 0, .int .i64 0, .int .i64 0, .int .i64 0, .int .i64 0, .int .i64 0]) ?_ 5 _ rfl; (with_reducible repeat (first | refine qG ?_ _ | refine qE ?_ | refine qF ?_ _)); refine qb (cs := #[.int .i64 0, .int .i64 0, .int .i64 0, .int .i64 0, .int .i64 0, .int .i64 0, .int .i64 0, .int .i64 0]) ?_ 4 _ rfl; (with_reducible repeat (first | refine qG ?_ _ | refine qE ?_ | refine qF ?_ _)); refine qb (cs := #[.int .i64 0, .int .i64 0, .int .i64 0, .int .i64 0, .int .i64 0, .int .i64 0, .int .i64 0, .int .i64 0]) ?_ 3 _ rfl; (with_reducible repeat (first | refine qG ?_ _ | refine qE ?_ | refine qF ?_ _)); refine qb (cs := #[.int .i64 0, .int .i64 0, .int .i64 0, .int .i64 0, .int .i64 0, .int .i64 0, .int .i64 0, .int .i64 0]) ?_ 2 _ rfl; (with_reducible repeat (first | refine qG ?_ _ | refine qE ?_ | refine qF ?_ _)); refine qb (cs := #[.int .i64 0, .int .i64 0, .int .i64 0, .int .i64 0, .int .i64 0, .int .i64 0, .int .i64 0, .int .i64 0]) ?_ 1 _ rfl; (with_reducible repeat (first | refine qG ?_ _ | refine qE ?_ | refine qF ?_ _)); refine qb (cs := #[.int .i64 0, .int .i64 0, .int .i64 0, .int .i64 0, .int .i64 0, .int .i64 0, .int .i64 0, .int .i64 0]) ?_ 0 _ rfl; (with_reducible repeat (first | refine qG ?_ _ | refine qE ?_ | refine qF ?_ _)); refine qcA ?_ NB212_219.out _; (with_reducible repeat (first | refine qG ?_ _ | refine qE ?_ | refine qF ?_ _)); refine qcA ?_ NB212_219.out _; (with_reducible repeat (first | refine qG ?_ _ | refine qE ?_ | refine qF ?_ _)); refine qcA ?_ NB212_219.out _; (with_reducible repeat (first | refine qG ?_ _ | refine qE ?_ | refine qF ?_ _)); exact BK212.out) Tryd.underlying28 rfl (by kernel_rfl)) rfl ?_
  exact ⟨sR, bl⟩
def qZB.f (a0_0 : Int) (a0_1 : Int) (a0_2 : Int) (a0_3 : Int) (a0_4 : Int) (a0_5 : Int) : Option (Int × Int × Int × Int × Int × Int) := some (a0_0, a0_1, a0_2, a0_3, a0_4, a0_5)
set_option maxHeartbeats 8000000 in
set_option maxRecDepth 100000 in
theorem qZB.calls (a0_0 : Int) (a0_1 : Int) (a0_2 : Int) (a0_3 : Int) (a0_4 : Int) (a0_5 : Int) (r1 : Int) (r2 : Int) (r3 : Int) (r4 : Int) (r5 : Int) (r6 : Int) (w : World) (h : qZB.f a0_0 a0_1 a0_2 a0_3 a0_4 a0_5 = some (r1, r2, r3, r4, r5, r6)) :
  Calls Tryd.prog 11 #[.agg #[.int .i64 a0_0, .int .i64 a0_1, .int .i64 a0_2, .int .i64 a0_3, .int .i64 a0_4, .int .i64 a0_5]] w fun e w' => e = .returned (.agg #[.int .i64 r1, .int .i64 r2, .int .i64 r3, .int .i64 r4, .int .i64 r5, .int .i64 r6]) ∧ Below w.heap.size w w' := by
 have hu23 := Tryd.underlying23
 have hu26 := Tryd.underlying26
 have HB := aM (Below.refl w.heap.size w)
 have H : (some (a0_0, a0_1, a0_2, a0_3, a0_4, a0_5)) = some (r1, r2, r3, r4, r5, r6) := h
 clear h
 simp only [Option.some.injEq, Prod.mk.injEq] at H
 obtain ⟨rfl, rfl, rfl, rfl, rfl, rfl⟩ := H
 go_enter Tryd.func11, Tryd.ntmps11
 go_wp2_with (first | ((with_reducible refine qH (N := 1) rfl ?_); refine bE (N := 1) (cs := #[.int .i64 a0_0, .int .i64 a0_1, .int .i64 a0_2, .int .i64 a0_3, .int .i64 a0_4, .int .i64 a0_5]) (t := 23) ?_; intro gb227 hg w2 hbox hb; have BK227 := aM (hbox); have GW227 := aM ((gg hg)); have GE227 := aM ((gg hg)); replace HB := aM (qB bl hb); clear hb hbox hg) | ((with_reducible refine qH (N := 2) rfl ?_); refine bE (N := 2) (cs := #[.int .i64 0, .int .i64 0, .int .i64 0, .int .i64 0, .int .i64 0, .int .i64 0]) (t := 26) ?_; intro gb228 hg w3 hbox hb; have BK228 := aM (hbox); have GW228 := aM ((gg hg)); have GE228 := aM ((gg hg)); have NB227_228 := aM ((nl BK227 hg)); have NB228_227 := aM ((nr BK227 hg)); replace BK227 := aM (bb BK227 hb); replace HB := aM (qB bl hb); clear hb hbox hg) | ((with_reducible refine qH (N := 3) rfl ?_); refine bE (N := 3) (cs := #[.int .i64 0, .int .i64 0, .int .i64 0, .int .i64 0, .int .i64 0, .int .i64 0]) (t := 26) ?_; intro gb229 hg w4 hbox hb; have BK229 := aM (hbox); have GW229 := aM ((gg hg)); have GE229 := aM ((gg hg)); have NB227_229 := aM ((nl BK227 hg)); have NB229_227 := aM ((nr BK227 hg)); have NB228_229 := aM ((nl BK228 hg)); have NB229_228 := aM ((nr BK228 hg)); replace BK227 := aM (bb BK227 hb); replace BK228 := aM (bb BK228 hb); replace HB := aM (qB bl hb); clear hb hbox hg; have hnb5 := NB227_228.out; have hnc5 := NB228_227.out; have hnb6 := NB227_229.out; have hnc6 := NB229_227.out; (refine cb6 BK227 ?_; intro _ _ _ _ _ _); (refine cz6 BK227 ?_; intro _ _ _ _ _ _); have hnb8 := NB229_228.out; have hnc8 := NB228_229.out; (refine cb6 BK229 ?_; intro _ _ _ _ _ _); (refine cz6 BK229 ?_; intro _ _ _ _ _ _); (refine cb6 BK228 ?_; intro _ _ _ _ _ _); (refine cz6 BK228 ?_; intro _ _ _ _ _ _)))
 refine bodyPost_ret (results_cell_row rfl _ _ gb228 26 #[.int .i64 a0_0, .int .i64 a0_1, .int .i64 a0_2, .int .i64 a0_3, .int .i64 a0_4, .int .i64 a0_5] (0, 0) _ rfl (by (with_reducible repeat (first | refine qG ?_ _ | refine qE ?_ | refine qF ?_ _)); refine qb (cs := #[.int .i64 a0_0, .int .i64 a0_1, .int .i64 a0_2, .int .i64 a0_3, .int .i64 a0_4, .int .i64 0]) ?_ 5 _ rfl; (with_reducible repeat (first | refine qG ?_ _ | refine qE ?_ | refine qF ?_ _)); refine qb (cs := #[.int .i64 a0_0, .int .i64 a0_1, .int .i64 a0_2, .int .i64 a0_3, .int .i64 0, .int .i64 0]) ?_ 4 _ rfl; (with_reducible repeat (first | refine qG ?_ _ | refine qE ?_ | refine qF ?_ _)); refine qb (cs := #[.int .i64 a0_0, .int .i64 a0_1, .int .i64 a0_2, .int .i64 0, .int .i64 0, .int .i64 0]) ?_ 3 _ rfl; (with_reducible repeat (first | refine qG ?_ _ | refine qE ?_ | refine qF ?_ _)); refine qb (cs := #[.int .i64 a0_0, .int .i64 a0_1, .int .i64 0, .int .i64 0, .int .i64 0, .int .i64 0]) ?_ 2 _ rfl; (with_reducible repeat (first | refine qG ?_ _ | refine qE ?_ | refine qF ?_ _)); refine qb (cs := #[.int .i64 a0_0, .int .i64 0, .int .i64 0, .int .i64 0, .int .i64 0, .int .i64 0]) ?_ 1 _ rfl; (with_reducible repeat (first | refine qG ?_ _ | refine qE ?_ | refine qF ?_ _)); refine qb (cs := #[.int .i64 0, .int .i64 0, .int .i64 0, .int .i64 0, .int .i64 0, .int .i64 0]) ?_ 0 _ rfl; (with_reducible repeat (first | refine qG ?_ _ | refine qE ?_ | refine qF ?_ _)); refine qcA ?_ NB228_229.out _; (with_reducible repeat (first | refine qG ?_ _ | refine qE ?_ | refine qF ?_ _)); refine qcA ?_ NB228_229.out _; (with_reducible repeat (first | refine qG ?_ _ | refine qE ?_ | refine qF ?_ _)); refine qcA ?_ NB228_229.out _; (with_reducible repeat (first | refine qG ?_ _ | refine qE ?_ | refine qF ?_ _)); refine qcA ?_ NB228_229.out _; (with_reducible repeat (first | refine qG ?_ _ | refine qE ?_ | refine qF ?_ _)); refine qcA ?_ NB228_229.out _; (with_reducible repeat (first | refine qG ?_ _ | refine qE ?_ | refine qF ?_ _)); refine qcA ?_ NB228_229.out _; (with_reducible repeat (first | refine qG ?_ _ | refine qE ?_ | refine qF ?_ _)); exact BK228.out) Tryd.underlying26 rfl (by kernel_rfl)) rfl ?_
 exact ⟨sR, bl⟩
def qEA.f (a0_0 : Int) (a0_1 : Int) (a0_2 : Int) (a0_3 : Int) (a0_4 : Int) (a0_5 : Int) (a0_6 : Int) (a0_7 : Int) : Option (Int × Int × Int × Int × Int × Int × Int × Int) := (qZB.f a0_2 a0_3 a0_4 a0_5 a0_6 a0_7).bind fun bt233 => (some (a0_0, a0_1, bt233.1, bt233.2.1, bt233.2.2.1, bt233.2.2.2.1, bt233.2.2.2.2.1, bt233.2.2.2.2.2))
set_option maxHeartbeats 8000000 in
set_option maxRecDepth 100000 in
theorem qEA.calls (a0_0 : Int) (a0_1 : Int) (a0_2 : Int) (a0_3 : Int) (a0_4 : Int) (a0_5 : Int) (a0_6 : Int) (a0_7 : Int) (r1 : Int) (r2 : Int) (r3 : Int) (r4 : Int) (r5 : Int) (r6 : Int) (r7 : Int) (r8 : Int) (w : World) (h : qEA.f a0_0 a0_1 a0_2 a0_3 a0_4 a0_5 a0_6 a0_7 = some (r1, r2, r3, r4, r5, r6, r7, r8)) :
  Calls Tryd.prog 5 #[.agg #[.int .i64 a0_0, .int .i64 a0_1, .int .i64 a0_2, .int .i64 a0_3, .int .i64 a0_4, .int .i64 a0_5, .int .i64 a0_6, .int .i64 a0_7]] w fun e w' => e = .returned (.agg #[.int .i64 r1, .int .i64 r2, .int .i64 r3, .int .i64 r4, .int .i64 r5, .int .i64 r6, .int .i64 r7, .int .i64 r8]) ∧ Below w.heap.size w w' := by
 have hu25 := Tryd.underlying25
 have hu28 := Tryd.underlying28
 have hu23 := Tryd.underlying23
 have hu26 := Tryd.underlying26
 have HB := aM (Below.refl w.heap.size w)
 have H : ((qZB.f a0_2 a0_3 a0_4 a0_5 a0_6 a0_7).bind fun bt233 => (some (a0_0, a0_1, bt233.1, bt233.2.1, bt233.2.2.1, bt233.2.2.2.1, bt233.2.2.2.2.1, bt233.2.2.2.2.2))) = some (r1, r2, r3, r4, r5, r6, r7, r8) := h
 clear h
 replace H := bO H
 obtain ⟨⟨t233, t234, t235, t236, t237, t238⟩, A2, H⟩ := H
 dsimp only at H A2
 simp only [Option.some.injEq, Prod.mk.injEq] at H
 obtain ⟨rfl, rfl, rfl, rfl, rfl, rfl, rfl, rfl⟩ := H
 go_enter Tryd.func5, Tryd.ntmps5
 go_wp2_with (first | ((with_reducible refine qH (N := 1) rfl ?_); refine bE (N := 1) (cs := #[.int .i64 a0_0, .int .i64 a0_1, .int .i64 a0_2, .int .i64 a0_3, .int .i64 a0_4, .int .i64 a0_5, .int .i64 a0_6, .int .i64 a0_7]) (t := 25) ?_; intro gb230 hg w3 hbox hb; have BK230 := aM (hbox); have GW230 := aM ((gg hg)); have GE230 := aM ((gg hg)); replace HB := aM (qB bl hb); clear hb hbox hg) | ((with_reducible refine qH (N := 2) rfl ?_); refine bE (N := 2) (cs := #[.int .i64 0, .int .i64 0, .int .i64 0, .int .i64 0, .int .i64 0, .int .i64 0, .int .i64 0, .int .i64 0]) (t := 28) ?_; intro gb231 hg w4 hbox hb; have BK231 := aM (hbox); have GW231 := aM ((gg hg)); have GE231 := aM ((gg hg)); have NB230_231 := aM ((nl BK230 hg)); have NB231_230 := aM ((nr BK230 hg)); replace BK230 := aM (bb BK230 hb); replace HB := aM (qB bl hb); clear hb hbox hg) | ((with_reducible refine qH (N := 3) rfl ?_); refine bE (N := 3) (cs := #[.int .i64 0, .int .i64 0, .int .i64 0, .int .i64 0, .int .i64 0, .int .i64 0, .int .i64 0, .int .i64 0]) (t := 28) ?_; intro gb232 hg w5 hbox hb; have BK232 := aM (hbox); have GW232 := aM ((gg hg)); have GE232 := aM ((gg hg)); have NB230_232 := aM ((nl BK230 hg)); have NB232_230 := aM ((nr BK230 hg)); have NB231_232 := aM ((nl BK231 hg)); have NB232_231 := aM ((nr BK231 hg)); replace BK230 := aM (bb BK230 hb); replace BK231 := aM (bb BK231 hb); replace HB := aM (qB bl hb); clear hb hbox hg; have hnb6 := NB230_231.out; have hnc6 := NB231_230.out; have hnb7 := NB230_232.out; have hnc7 := NB232_230.out; (refine cb8 BK230 ?_; intro _ _ _ _ _ _ _ _); (refine cz8 BK230 ?_; intro _ _ _ _ _ _ _ _); have hnb9 := NB232_231.out; have hnc9 := NB231_232.out; (refine cb8 BK232 ?_; intro _ _ _ _ _ _ _ _); (refine cz8 BK232 ?_; intro _ _ _ _ _ _ _ _)) | ((with_reducible refine qJ (f := 11) rfl ?_); refine qZ (some 12) rfl rfl Tryd.func11 (by kernel_rfl) rfl #[.agg #[.int .i64 a0_2, .int .i64 a0_3, .int .i64 a0_4, .int .i64 a0_5, .int .i64 a0_6, .int .i64 a0_7]] rfl gA ?_; (with_reducible refine (qZB.calls a0_2 a0_3 a0_4 a0_5 a0_6 a0_7 t233 t234 t235 t236 t237 t238 _ A2.out).mono ?_); rintro e w11 ⟨rfl, hb⟩; refine ⟨_, rfl, ?_⟩; replace BK230 := aM (qS (g := gb230) (o := .cells #[.int .i64 a0_0, .int .i64 a0_1, .int .i64 a0_2, .int .i64 a0_3, .int .i64 a0_4, .int .i64 a0_5, .int .i64 a0_6, .int .i64 a0_7] 25 (0, 0)) (bF BK230 NB230_232) hb); replace BK231 := aM (qS (g := gb231) (o := .cells #[.int .i64 0, .int .i64 0, .int .i64 0, .int .i64 0, .int .i64 0, .int .i64 0, .int .i64 0, .int .i64 0] 28 (0, 0)) (bF BK231 NB231_232) hb); replace BK232 := aM (qS (g := gb232) (o := .cells #[.int .i64 a0_0, .int .i64 a0_1, .int .i64 0, .int .i64 0, .int .i64 0, .int .i64 0, .int .i64 0, .int .i64 0] 28 (0, 0)) (by (with_reducible repeat (first | refine qG ?_ _ | refine qE ?_ | refine qF ?_ _)); refine qb (cs := #[.int .i64 a0_0, .int .i64 0, .int .i64 0, .int .i64 0, .int .i64 0, .int .i64 0, .int .i64 0, .int .i64 0]) ?_ 1 _ rfl; (with_reducible repeat (first | refine qG ?_ _ | refine qE ?_ | refine qF ?_ _)); refine qb (cs := #[.int .i64 0, .int .i64 0, .int .i64 0, .int .i64 0, .int .i64 0, .int .i64 0, .int .i64 0, .int .i64 0]) ?_ 0 _ rfl; (with_reducible repeat (first | refine qG ?_ _ | refine qE ?_ | refine qF ?_ _)); exact BK232.out) hb); replace HB := aM (qB bl hb); (try clear hb); (try clear hb2); (try clear hk); (try clear hi); (refine cb8 BK232 ?_; intro _ _ _ _ _ _ _ _); (refine cz8 BK232 ?_; intro _ _ _ _ _ _ _ _); (refine cb8 BK231 ?_; intro _ _ _ _ _ _ _ _); (refine cz8 BK231 ?_; intro _ _ _ _ _ _ _ _)))
 refine bodyPost_ret (results_cell_row rfl _ _ gb231 28 #[.int .i64 a0_0, .int .i64 a0_1, .int .i64 t233, .int .i64 t234, .int .i64 t235, .int .i64 t236, .int .i64 t237, .int .i64 t238] (0, 0) _ rfl (by (with_reducible repeat (first | refine qG ?_ _ | refine qE ?_ | refine qF ?_ _)); refine qb (cs := #[.int .i64 a0_0, .int .i64 a0_1, .int .i64 t233, .int .i64 t234, .int .i64 t235, .int .i64 t236, .int .i64 t237, .int .i64 0]) ?_ 7 _ rfl; (with_reducible repeat (first | refine qG ?_ _ | refine qE ?_ | refine qF ?_ _)); refine qb (cs := #[.int .i64 a0_0, .int .i64 a0_1, .int .i64 t233, .int .i64 t234, .int .i64 t235, .int .i64 t236, .int .i64 0, .int .i64 0]) ?_ 6 _ rfl; (with_reducible repeat (first | refine qG ?_ _ | refine qE ?_ | refine qF ?_ _)); refine qb (cs := #[.int .i64 a0_0, .int .i64 a0_1, .int .i64 t233, .int .i64 t234, .int .i64 t235, .int .i64 0, .int .i64 0, .int .i64 0]) ?_ 5 _ rfl; (with_reducible repeat (first | refine qG ?_ _ | refine qE ?_ | refine qF ?_ _)); refine qb (cs := #[.int .i64 a0_0, .int .i64 a0_1, .int .i64 t233, .int .i64 t234, .int .i64 0, .int .i64 0, .int .i64 0, .int .i64 0]) ?_ 4 _ rfl; (with_reducible repeat (first | refine qG ?_ _ | refine qE ?_ | refine qF ?_ _)); refine qb (cs := #[.int .i64 a0_0, .int .i64 a0_1, .int .i64 t233, .int .i64 0, .int .i64 0, .int .i64 0, .int .i64 0, .int .i64 0]) ?_ 3 _ rfl; (with_reducible repeat (first | refine qG ?_ _ | refine qE ?_ | refine qF ?_ _)); refine qb (cs := #[.int .i64 a0_0, .int .i64 a0_1, .int .i64 0, .int .i64 0, .int .i64 0, .int .i64 0, .int .i64 0, .int .i64 0]) ?_ 2 _ rfl; (with_reducible repeat (first | refine qG ?_ _ | refine qE ?_ | refine qF ?_ _)); refine qb (cs := #[.int .i64 a0_0, .int .i64 0, .int .i64 0, .int .i64 0, .int .i64 0, .int .i64 0, .int .i64 0, .int .i64 0]) ?_ 1 _ rfl; (with_reducible repeat (first | refine qG ?_ _ | refine qE ?_ | refine qF ?_ _)); refine qb (cs := #[.int .i64 0, .int .i64 0, .int .i64 0, .int .i64 0, .int .i64 0, .int .i64 0, .int .i64 0, .int .i64 0]) ?_ 0 _ rfl; (with_reducible repeat (first | refine qG ?_ _ | refine qE ?_ | refine qF ?_ _)); refine qcA ?_ NB231_232.out _; (with_reducible repeat (first | refine qG ?_ _ | refine qE ?_ | refine qF ?_ _)); refine qcA ?_ NB231_232.out _; (with_reducible repeat (first | refine qG ?_ _ | refine qE ?_ | refine qF ?_ _)); refine qcA ?_ NB231_232.out _; (with_reducible repeat (first | refine qG ?_ _ | refine qE ?_ | refine qF ?_ _)); refine qcA ?_ NB231_232.out _; (with_reducible repeat (first | refine qG ?_ _ | refine qE ?_ | refine qF ?_ _)); refine qcA ?_ NB231_232.out _; (with_reducible repeat (first | refine qG ?_ _ | refine qE ?_ | refine qF ?_ _)); refine qcA ?_ NB231_232.out _; (with_reducible repeat (first | refine qG ?_ _ | refine qE ?_ | refine qF ?_ _)); exact BK231.out) Tryd.underlying28 rfl (by kernel_rfl)) rfl ?_
 exact ⟨sR, bl⟩
def qLB.f (a0_0 : Int) (a0_1 : Int) (a0_2 : Int) (a0_3 : Int) (a0_4 : Int) (a0_5 : Int) (a1_0 : Int) (a1_1 : Int) (a1_2 : Int) (a1_3 : Int) (a1_4 : Int) (a1_5 : Int) : Option (Bool) := if a0_0 = a1_0 then (if a0_1 = a1_1 then (if a0_2 = a1_2 then (if a0_3 = a1_3 then (if a0_4 = a1_4 then (if a0_5 = a1_5 then (some true) else (some false)) else (some false)) else (some false)) else (some false)) else (some false)) else (some false)
set_option maxHeartbeats 8000000 in
set_option maxRecDepth 100000 in
theorem qLB.calls (a0_0 : Int) (a0_1 : Int) (a0_2 : Int) (a0_3 : Int) (a0_4 : Int) (a0_5 : Int) (a1_0 : Int) (a1_1 : Int) (a1_2 : Int) (a1_3 : Int) (a1_4 : Int) (a1_5 : Int) (r : Bool) (w : World) (h : qLB.f a0_0 a0_1 a0_2 a0_3 a0_4 a0_5 a1_0 a1_1 a1_2 a1_3 a1_4 a1_5 = some r) :
  Calls Tryd.prog 14 #[.agg #[.int .i64 a0_0, .int .i64 a0_1, .int .i64 a0_2, .int .i64 a0_3, .int .i64 a0_4, .int .i64 a0_5], .agg #[.int .i64 a1_0, .int .i64 a1_1, .int .i64 a1_2, .int .i64 a1_3, .int .i64 a1_4, .int .i64 a1_5]] w fun e w' => e = .returned (.bool r) ∧ Below w.heap.size w w' := by
 have hu26 := Tryd.underlying26
 have HB := aM (Below.refl w.heap.size w)
 have H : (if a0_0 = a1_0 then (if a0_1 = a1_1 then (if a0_2 = a1_2 then (if a0_3 = a1_3 then (if a0_4 = a1_4 then (if a0_5 = a1_5 then (some true) else (some false)) else (some false)) else (some false)) else (some false)) else (some false)) else (some false)) = some r := h
 clear h
 by_cases c3 : a0_0 = a1_0
 ·rw [if_pos c3] at H
  have c3b0 := beq_iff_eq.mpr c3
  have c3b1 := bne_eq_false_iff_eq.mpr c3
  clear c3
  by_cases c4 : a0_1 = a1_1
  ·rw [if_pos c4] at H
   have c4b0 := beq_iff_eq.mpr c4
   have c4b1 := bne_eq_false_iff_eq.mpr c4
   clear c4
   by_cases c5 : a0_2 = a1_2
   ·rw [if_pos c5] at H
    have c5b0 := beq_iff_eq.mpr c5
    have c5b1 := bne_eq_false_iff_eq.mpr c5
    clear c5
    by_cases c6 : a0_3 = a1_3
    ·rw [if_pos c6] at H
     have c6b0 := beq_iff_eq.mpr c6
     have c6b1 := bne_eq_false_iff_eq.mpr c6
     clear c6
     by_cases c7 : a0_4 = a1_4
     ·rw [if_pos c7] at H
      have c7b0 := beq_iff_eq.mpr c7
      have c7b1 := bne_eq_false_iff_eq.mpr c7
      clear c7
      by_cases c8 : a0_5 = a1_5
      ·rw [if_pos c8] at H
       have c8b0 := beq_iff_eq.mpr c8
       have c8b1 := bne_eq_false_iff_eq.mpr c8
       clear c8
       obtain rfl := Option.some.inj H
       go_enter Tryd.func14, Tryd.ntmps14
       go_wp2_with (first | ((with_reducible refine qH (N := 2) rfl ?_); refine bE (N := 2) (cs := #[.int .i64 a0_0, .int .i64 a0_1, .int .i64 a0_2, .int .i64 a0_3, .int .i64 a0_4, .int .i64 a0_5]) (t := 26) ?_; intro gb312 hg w9 hbox hb; have BK312 := aM (hbox); have GW312 := aM ((gg hg)); have GE312 := aM ((gg hg)); replace HB := aM (qB bl hb); clear hb hbox hg) | ((with_reducible refine qH (N := 3) rfl ?_); refine bE (N := 3) (cs := #[.int .i64 a1_0, .int .i64 a1_1, .int .i64 a1_2, .int .i64 a1_3, .int .i64 a1_4, .int .i64 a1_5]) (t := 26) ?_; intro gb313 hg w10 hbox hb; have BK313 := aM (hbox); have GW313 := aM ((gg hg)); have GE313 := aM ((gg hg)); have NB312_313 := aM ((nl BK312 hg)); have NB313_312 := aM ((nr BK312 hg)); replace BK312 := aM (bb BK312 hb); replace HB := aM (qB bl hb); clear hb hbox hg; have hnb11 := NB312_313.out; have hnc11 := NB313_312.out; (refine cb6 BK312 ?_; intro _ _ _ _ _ _); (refine cz6 BK312 ?_; intro _ _ _ _ _ _); (refine cb6 BK313 ?_; intro _ _ _ _ _ _); (refine cz6 BK313 ?_; intro _ _ _ _ _ _)))
       go_ret
       exact ⟨sR, bl⟩
      ·rw [if_neg c8] at H
       have c8b0 := beq_eq_false_iff_ne.mpr c8
       have c8b1 := bne_iff_ne.mpr c8
       obtain rfl := Option.some.inj H
       go_enter Tryd.func14, Tryd.ntmps14
       go_wp2_with (first | ((with_reducible refine qH (N := 2) rfl ?_); refine bE (N := 2) (cs := #[.int .i64 a0_0, .int .i64 a0_1, .int .i64 a0_2, .int .i64 a0_3, .int .i64 a0_4, .int .i64 a0_5]) (t := 26) ?_; intro gb312 hg w14 hbox hb; have BK312 := aM (hbox); have GW312 := aM ((gg hg)); have GE312 := aM ((gg hg)); replace HB := aM (qB bl hb); clear hb hbox hg) | ((with_reducible refine qH (N := 3) rfl ?_); refine bE (N := 3) (cs := #[.int .i64 a1_0, .int .i64 a1_1, .int .i64 a1_2, .int .i64 a1_3, .int .i64 a1_4, .int .i64 a1_5]) (t := 26) ?_; intro gb313 hg w15 hbox hb; have BK313 := aM (hbox); have GW313 := aM ((gg hg)); have GE313 := aM ((gg hg)); have NB312_313 := aM ((nl BK312 hg)); have NB313_312 := aM ((nr BK312 hg)); replace BK312 := aM (bb BK312 hb); replace HB := aM (qB bl hb); clear hb hbox hg; have hnb16 := NB312_313.out; have hnc16 := NB313_312.out; (refine cb6 BK312 ?_; intro _ _ _ _ _ _); (refine cz6 BK312 ?_; intro _ _ _ _ _ _); (refine cb6 BK313 ?_; intro _ _ _ _ _ _); (refine cz6 BK313 ?_; intro _ _ _ _ _ _)))
       go_ret
       exact ⟨sR, bl⟩
     ·rw [if_neg c7] at H
      have c7b0 := beq_eq_false_iff_ne.mpr c7
      have c7b1 := bne_iff_ne.mpr c7
      obtain rfl := Option.some.inj H
      go_enter Tryd.func14, Tryd.ntmps14
      go_wp2_with (first | ((with_reducible refine qH (N := 2) rfl ?_); refine bE (N := 2) (cs := #[.int .i64 a0_0, .int .i64 a0_1, .int .i64 a0_2, .int .i64 a0_3, .int .i64 a0_4, .int .i64 a0_5]) (t := 26) ?_; intro gb312 hg w19 hbox hb; have BK312 := aM (hbox); have GW312 := aM ((gg hg)); have GE312 := aM ((gg hg)); replace HB := aM (qB bl hb); clear hb hbox hg) | ((with_reducible refine qH (N := 3) rfl ?_); refine bE (N := 3) (cs := #[.int .i64 a1_0, .int .i64 a1_1, .int .i64 a1_2, .int .i64 a1_3, .int .i64 a1_4, .int .i64 a1_5]) (t := 26) ?_; intro gb313 hg w20 hbox hb; have BK313 := aM (hbox); have GW313 := aM ((gg hg)); have GE313 := aM ((gg hg)); have NB312_313 := aM ((nl BK312 hg)); have NB313_312 := aM ((nr BK312 hg)); replace BK312 := aM (bb BK312 hb); replace HB := aM (qB bl hb); clear hb hbox hg; have hnb21 := NB312_313.out; have hnc21 := NB313_312.out; (refine cb6 BK312 ?_; intro _ _ _ _ _ _); (refine cz6 BK312 ?_; intro _ _ _ _ _ _); (refine cb6 BK313 ?_; intro _ _ _ _ _ _); (refine cz6 BK313 ?_; intro _ _ _ _ _ _)))
      go_ret
      exact ⟨sR, bl⟩
    ·rw [if_neg c6] at H
     have c6b0 := beq_eq_false_iff_ne.mpr c6
     have c6b1 := bne_iff_ne.mpr c6
     obtain rfl := Option.some.inj H
     go_enter Tryd.func14, Tryd.ntmps14
     go_wp2_with (first | ((with_reducible refine qH (N := 2) rfl ?_); refine bE (N := 2) (cs := #[.int .i64 a0_0, .int .i64 a0_1, .int .i64 a0_2, .int .i64 a0_3, .int .i64 a0_4, .int .i64 a0_5]) (t := 26) ?_; intro gb312 hg w24 hbox hb; have BK312 := aM (hbox); have GW312 := aM ((gg hg)); have GE312 := aM ((gg hg)); replace HB := aM (qB bl hb); clear hb hbox hg) | ((with_reducible refine qH (N := 3) rfl ?_); refine bE (N := 3) (cs := #[.int .i64 a1_0, .int .i64 a1_1, .int .i64 a1_2, .int .i64 a1_3, .int .i64 a1_4, .int .i64 a1_5]) (t := 26) ?_; intro gb313 hg w25 hbox hb; have BK313 := aM (hbox); have GW313 := aM ((gg hg)); have GE313 := aM ((gg hg)); have NB312_313 := aM ((nl BK312 hg)); have NB313_312 := aM ((nr BK312 hg)); replace BK312 := aM (bb BK312 hb); replace HB := aM (qB bl hb); clear hb hbox hg; have hnb26 := NB312_313.out; have hnc26 := NB313_312.out; (refine cb6 BK312 ?_; intro _ _ _ _ _ _); (refine cz6 BK312 ?_; intro _ _ _ _ _ _); (refine cb6 BK313 ?_; intro _ _ _ _ _ _); (refine cz6 BK313 ?_; intro _ _ _ _ _ _)))
     go_ret
     exact ⟨sR, bl⟩
   ·rw [if_neg c5] at H
    have c5b0 := beq_eq_false_iff_ne.mpr c5
    have c5b1 := bne_iff_ne.mpr c5
    obtain rfl := Option.some.inj H
    go_enter Tryd.func14, Tryd.ntmps14
    go_wp2_with (first | ((with_reducible refine qH (N := 2) rfl ?_); refine bE (N := 2) (cs := #[.int .i64 a0_0, .int .i64 a0_1, .int .i64 a0_2, .int .i64 a0_3, .int .i64 a0_4, .int .i64 a0_5]) (t := 26) ?_; intro gb312 hg w29 hbox hb; have BK312 := aM (hbox); have GW312 := aM ((gg hg)); have GE312 := aM ((gg hg)); replace HB := aM (qB bl hb); clear hb hbox hg) | ((with_reducible refine qH (N := 3) rfl ?_); refine bE (N := 3) (cs := #[.int .i64 a1_0, .int .i64 a1_1, .int .i64 a1_2, .int .i64 a1_3, .int .i64 a1_4, .int .i64 a1_5]) (t := 26) ?_; intro gb313 hg w30 hbox hb; have BK313 := aM (hbox); have GW313 := aM ((gg hg)); have GE313 := aM ((gg hg)); have NB312_313 := aM ((nl BK312 hg)); have NB313_312 := aM ((nr BK312 hg)); replace BK312 := aM (bb BK312 hb); replace HB := aM (qB bl hb); clear hb hbox hg; have hnb31 := NB312_313.out; have hnc31 := NB313_312.out; (refine cb6 BK312 ?_; intro _ _ _ _ _ _); (refine cz6 BK312 ?_; intro _ _ _ _ _ _); (refine cb6 BK313 ?_; intro _ _ _ _ _ _); (refine cz6 BK313 ?_; intro _ _ _ _ _ _)))
    go_ret
    exact ⟨sR, bl⟩
  ·rw [if_neg c4] at H
   have c4b0 := beq_eq_false_iff_ne.mpr c4
   have c4b1 := bne_iff_ne.mpr c4
   obtain rfl := Option.some.inj H
   go_enter Tryd.func14, Tryd.ntmps14
   go_wp2_with (first | ((with_reducible refine qH (N := 2) rfl ?_); refine bE (N := 2) (cs := #[.int .i64 a0_0, .int .i64 a0_1, .int .i64 a0_2, .int .i64 a0_3, .int .i64 a0_4, .int .i64 a0_5]) (t := 26) ?_; intro gb312 hg w34 hbox hb; have BK312 := aM (hbox); have GW312 := aM ((gg hg)); have GE312 := aM ((gg hg)); replace HB := aM (qB bl hb); clear hb hbox hg) | ((with_reducible refine qH (N := 3) rfl ?_); refine bE (N := 3) (cs := #[.int .i64 a1_0, .int .i64 a1_1, .int .i64 a1_2, .int .i64 a1_3, .int .i64 a1_4, .int .i64 a1_5]) (t := 26) ?_; intro gb313 hg w35 hbox hb; have BK313 := aM (hbox); have GW313 := aM ((gg hg)); have GE313 := aM ((gg hg)); have NB312_313 := aM ((nl BK312 hg)); have NB313_312 := aM ((nr BK312 hg)); replace BK312 := aM (bb BK312 hb); replace HB := aM (qB bl hb); clear hb hbox hg; have hnb36 := NB312_313.out; have hnc36 := NB313_312.out; (refine cb6 BK312 ?_; intro _ _ _ _ _ _); (refine cz6 BK312 ?_; intro _ _ _ _ _ _); (refine cb6 BK313 ?_; intro _ _ _ _ _ _); (refine cz6 BK313 ?_; intro _ _ _ _ _ _)))
   go_ret
   exact ⟨sR, bl⟩
 ·rw [if_neg c3] at H
  have c3b0 := beq_eq_false_iff_ne.mpr c3
  have c3b1 := bne_iff_ne.mpr c3
  obtain rfl := Option.some.inj H
  go_enter Tryd.func14, Tryd.ntmps14
  go_wp2_with (first | ((with_reducible refine qH (N := 2) rfl ?_); refine bE (N := 2) (cs := #[.int .i64 a0_0, .int .i64 a0_1, .int .i64 a0_2, .int .i64 a0_3, .int .i64 a0_4, .int .i64 a0_5]) (t := 26) ?_; intro gb312 hg w39 hbox hb; have BK312 := aM (hbox); have GW312 := aM ((gg hg)); have GE312 := aM ((gg hg)); replace HB := aM (qB bl hb); clear hb hbox hg) | ((with_reducible refine qH (N := 3) rfl ?_); refine bE (N := 3) (cs := #[.int .i64 a1_0, .int .i64 a1_1, .int .i64 a1_2, .int .i64 a1_3, .int .i64 a1_4, .int .i64 a1_5]) (t := 26) ?_; intro gb313 hg w40 hbox hb; have BK313 := aM (hbox); have GW313 := aM ((gg hg)); have GE313 := aM ((gg hg)); have NB312_313 := aM ((nl BK312 hg)); have NB313_312 := aM ((nr BK312 hg)); replace BK312 := aM (bb BK312 hb); replace HB := aM (qB bl hb); clear hb hbox hg; have hnb41 := NB312_313.out; have hnc41 := NB313_312.out; (refine cb6 BK312 ?_; intro _ _ _ _ _ _); (refine cz6 BK312 ?_; intro _ _ _ _ _ _); (refine cb6 BK313 ?_; intro _ _ _ _ _ _); (refine cz6 BK313 ?_; intro _ _ _ _ _ _)))
  go_ret
  exact ⟨sR, bl⟩
def qZA.f (a0_0 : Int) (a0_1 : Int) (a0_2 : Int) (a0_3 : Int) (a0_4 : Int) (a0_5 : Int) (a0_6 : Int) (a0_7 : Int) (a1_0 : Int) (a1_1 : Int) (a1_2 : Int) (a1_3 : Int) (a1_4 : Int) (a1_5 : Int) (a1_6 : Int) (a1_7 : Int) : Option (Bool) := if a0_0 = a1_0 then (if a0_1 = a1_1 then ((qLB.f a0_2 a0_3 a0_4 a0_5 a0_6 a0_7 a1_2 a1_3 a1_4 a1_5 a1_6 a1_7).bind fun t316 => (if t316 = true then (some true) else (some false))) else (some false)) else (some false)
set_option maxHeartbeats 8000000 in
set_option maxRecDepth 100000 in
theorem qZA.calls (a0_0 : Int) (a0_1 : Int) (a0_2 : Int) (a0_3 : Int) (a0_4 : Int) (a0_5 : Int) (a0_6 : Int) (a0_7 : Int) (a1_0 : Int) (a1_1 : Int) (a1_2 : Int) (a1_3 : Int) (a1_4 : Int) (a1_5 : Int) (a1_6 : Int) (a1_7 : Int) (r : Bool) (w : World) (h : qZA.f a0_0 a0_1 a0_2 a0_3 a0_4 a0_5 a0_6 a0_7 a1_0 a1_1 a1_2 a1_3 a1_4 a1_5 a1_6 a1_7 = some r) :
  Calls Tryd.prog 7 #[.agg #[.int .i64 a0_0, .int .i64 a0_1, .int .i64 a0_2, .int .i64 a0_3, .int .i64 a0_4, .int .i64 a0_5, .int .i64 a0_6, .int .i64 a0_7], .agg #[.int .i64 a1_0, .int .i64 a1_1, .int .i64 a1_2, .int .i64 a1_3, .int .i64 a1_4, .int .i64 a1_5, .int .i64 a1_6, .int .i64 a1_7]] w fun e w' => e = .returned (.bool r) ∧ Below w.heap.size w w' := by
 have hu28 := Tryd.underlying28
 have hu26 := Tryd.underlying26
 have HB := aM (Below.refl w.heap.size w)
 have H : (if a0_0 = a1_0 then (if a0_1 = a1_1 then ((qLB.f a0_2 a0_3 a0_4 a0_5 a0_6 a0_7 a1_2 a1_3 a1_4 a1_5 a1_6 a1_7).bind fun t316 => (if t316 = true then (some true) else (some false))) else (some false)) else (some false)) = some r := h
 clear h
 by_cases c3 : a0_0 = a1_0
 ·rw [if_pos c3] at H
  have c3b0 := beq_iff_eq.mpr c3
  have c3b1 := bne_eq_false_iff_eq.mpr c3
  clear c3
  by_cases c4 : a0_1 = a1_1
  ·rw [if_pos c4] at H
   have c4b0 := beq_iff_eq.mpr c4
   have c4b1 := bne_eq_false_iff_eq.mpr c4
   clear c4
   replace H := bO H
   obtain ⟨t316, A5, H⟩ := H
   by_cases c6 : t316 = true
   ·subst c6
    replace H := iT H
    obtain rfl := Option.some.inj H
    go_enter Tryd.func7, Tryd.ntmps7
    go_wp2_with (first | ((with_reducible refine qH (N := 2) rfl ?_); refine bE (N := 2) (cs := #[.int .i64 a0_0, .int .i64 a0_1, .int .i64 a0_2, .int .i64 a0_3, .int .i64 a0_4, .int .i64 a0_5, .int .i64 a0_6, .int .i64 a0_7]) (t := 28) ?_; intro gb314 hg w7 hbox hb; have BK314 := aM (hbox); have GW314 := aM ((gg hg)); have GE314 := aM ((gg hg)); replace HB := aM (qB bl hb); clear hb hbox hg) | ((with_reducible refine qH (N := 3) rfl ?_); refine bE (N := 3) (cs := #[.int .i64 a1_0, .int .i64 a1_1, .int .i64 a1_2, .int .i64 a1_3, .int .i64 a1_4, .int .i64 a1_5, .int .i64 a1_6, .int .i64 a1_7]) (t := 28) ?_; intro gb315 hg w8 hbox hb; have BK315 := aM (hbox); have GW315 := aM ((gg hg)); have GE315 := aM ((gg hg)); have NB314_315 := aM ((nl BK314 hg)); have NB315_314 := aM ((nr BK314 hg)); replace BK314 := aM (bb BK314 hb); replace HB := aM (qB bl hb); clear hb hbox hg; have hnb9 := NB314_315.out; have hnc9 := NB315_314.out; (refine cb8 BK314 ?_; intro _ _ _ _ _ _ _ _); (refine cz8 BK314 ?_; intro _ _ _ _ _ _ _ _); (refine cb8 BK315 ?_; intro _ _ _ _ _ _ _ _); (refine cz8 BK315 ?_; intro _ _ _ _ _ _ _ _)) | ((with_reducible refine qJ (f := 14) rfl ?_); refine qZ (some 19) rfl rfl Tryd.func14 (by kernel_rfl) rfl #[.agg #[.int .i64 a0_2, .int .i64 a0_3, .int .i64 a0_4, .int .i64 a0_5, .int .i64 a0_6, .int .i64 a0_7], .agg #[.int .i64 a1_2, .int .i64 a1_3, .int .i64 a1_4, .int .i64 a1_5, .int .i64 a1_6, .int .i64 a1_7]] rfl gA ?_; (with_reducible refine (qLB.calls a0_2 a0_3 a0_4 a0_5 a0_6 a0_7 a1_2 a1_3 a1_4 a1_5 a1_6 a1_7 true _ A5.out).mono ?_); rintro e w12 ⟨rfl, hb⟩; refine ⟨_, rfl, ?_⟩; replace BK314 := aM (bb BK314 hb); replace BK315 := aM (bb BK315 hb); replace HB := aM (qB bl hb); (try clear hb); (try clear hb2); (try clear hk); (try clear hi)))
    go_ret
    exact ⟨sR, bl⟩
   ·replace c6 := Bool.eq_false_iff.mpr c6
    subst c6
    replace H := iF H
    obtain rfl := Option.some.inj H
    go_enter Tryd.func7, Tryd.ntmps7
    go_wp2_with (first | ((with_reducible refine qH (N := 2) rfl ?_); refine bE (N := 2) (cs := #[.int .i64 a0_0, .int .i64 a0_1, .int .i64 a0_2, .int .i64 a0_3, .int .i64 a0_4, .int .i64 a0_5, .int .i64 a0_6, .int .i64 a0_7]) (t := 28) ?_; intro gb314 hg w13 hbox hb; have BK314 := aM (hbox); have GW314 := aM ((gg hg)); have GE314 := aM ((gg hg)); replace HB := aM (qB bl hb); clear hb hbox hg) | ((with_reducible refine qH (N := 3) rfl ?_); refine bE (N := 3) (cs := #[.int .i64 a1_0, .int .i64 a1_1, .int .i64 a1_2, .int .i64 a1_3, .int .i64 a1_4, .int .i64 a1_5, .int .i64 a1_6, .int .i64 a1_7]) (t := 28) ?_; intro gb315 hg w14 hbox hb; have BK315 := aM (hbox); have GW315 := aM ((gg hg)); have GE315 := aM ((gg hg)); have NB314_315 := aM ((nl BK314 hg)); have NB315_314 := aM ((nr BK314 hg)); replace BK314 := aM (bb BK314 hb); replace HB := aM (qB bl hb); clear hb hbox hg; have hnb15 := NB314_315.out; have hnc15 := NB315_314.out; (refine cb8 BK314 ?_; intro _ _ _ _ _ _ _ _); (refine cz8 BK314 ?_; intro _ _ _ _ _ _ _ _); (refine cb8 BK315 ?_; intro _ _ _ _ _ _ _ _); (refine cz8 BK315 ?_; intro _ _ _ _ _ _ _ _)) | ((with_reducible refine qJ (f := 14) rfl ?_); refine qZ (some 19) rfl rfl Tryd.func14 (by kernel_rfl) rfl #[.agg #[.int .i64 a0_2, .int .i64 a0_3, .int .i64 a0_4, .int .i64 a0_5, .int .i64 a0_6, .int .i64 a0_7], .agg #[.int .i64 a1_2, .int .i64 a1_3, .int .i64 a1_4, .int .i64 a1_5, .int .i64 a1_6, .int .i64 a1_7]] rfl gA ?_; (with_reducible refine (qLB.calls a0_2 a0_3 a0_4 a0_5 a0_6 a0_7 a1_2 a1_3 a1_4 a1_5 a1_6 a1_7 false _ A5.out).mono ?_); rintro e w18 ⟨rfl, hb⟩; refine ⟨_, rfl, ?_⟩; replace BK314 := aM (bb BK314 hb); replace BK315 := aM (bb BK315 hb); replace HB := aM (qB bl hb); (try clear hb); (try clear hb2); (try clear hk); (try clear hi)))
    go_ret
    exact ⟨sR, bl⟩
  ·rw [if_neg c4] at H
   have c4b0 := beq_eq_false_iff_ne.mpr c4
   have c4b1 := bne_iff_ne.mpr c4
   obtain rfl := Option.some.inj H
   go_enter Tryd.func7, Tryd.ntmps7
   go_wp2_with (first | ((with_reducible refine qH (N := 2) rfl ?_); refine bE (N := 2) (cs := #[.int .i64 a0_0, .int .i64 a0_1, .int .i64 a0_2, .int .i64 a0_3, .int .i64 a0_4, .int .i64 a0_5, .int .i64 a0_6, .int .i64 a0_7]) (t := 28) ?_; intro gb314 hg w19 hbox hb; have BK314 := aM (hbox); have GW314 := aM ((gg hg)); have GE314 := aM ((gg hg)); replace HB := aM (qB bl hb); clear hb hbox hg) | ((with_reducible refine qH (N := 3) rfl ?_); refine bE (N := 3) (cs := #[.int .i64 a1_0, .int .i64 a1_1, .int .i64 a1_2, .int .i64 a1_3, .int .i64 a1_4, .int .i64 a1_5, .int .i64 a1_6, .int .i64 a1_7]) (t := 28) ?_; intro gb315 hg w20 hbox hb; have BK315 := aM (hbox); have GW315 := aM ((gg hg)); have GE315 := aM ((gg hg)); have NB314_315 := aM ((nl BK314 hg)); have NB315_314 := aM ((nr BK314 hg)); replace BK314 := aM (bb BK314 hb); replace HB := aM (qB bl hb); clear hb hbox hg; have hnb21 := NB314_315.out; have hnc21 := NB315_314.out; (refine cb8 BK314 ?_; intro _ _ _ _ _ _ _ _); (refine cz8 BK314 ?_; intro _ _ _ _ _ _ _ _); (refine cb8 BK315 ?_; intro _ _ _ _ _ _ _ _); (refine cz8 BK315 ?_; intro _ _ _ _ _ _ _ _)))
   go_ret
   exact ⟨sR, bl⟩
 ·rw [if_neg c3] at H
  have c3b0 := beq_eq_false_iff_ne.mpr c3
  have c3b1 := bne_iff_ne.mpr c3
  obtain rfl := Option.some.inj H
  go_enter Tryd.func7, Tryd.ntmps7
  go_wp2_with (first | ((with_reducible refine qH (N := 2) rfl ?_); refine bE (N := 2) (cs := #[.int .i64 a0_0, .int .i64 a0_1, .int .i64 a0_2, .int .i64 a0_3, .int .i64 a0_4, .int .i64 a0_5, .int .i64 a0_6, .int .i64 a0_7]) (t := 28) ?_; intro gb314 hg w24 hbox hb; have BK314 := aM (hbox); have GW314 := aM ((gg hg)); have GE314 := aM ((gg hg)); replace HB := aM (qB bl hb); clear hb hbox hg) | ((with_reducible refine qH (N := 3) rfl ?_); refine bE (N := 3) (cs := #[.int .i64 a1_0, .int .i64 a1_1, .int .i64 a1_2, .int .i64 a1_3, .int .i64 a1_4, .int .i64 a1_5, .int .i64 a1_6, .int .i64 a1_7]) (t := 28) ?_; intro gb315 hg w25 hbox hb; have BK315 := aM (hbox); have GW315 := aM ((gg hg)); have GE315 := aM ((gg hg)); have NB314_315 := aM ((nl BK314 hg)); have NB315_314 := aM ((nr BK314 hg)); replace BK314 := aM (bb BK314 hb); replace HB := aM (qB bl hb); clear hb hbox hg; have hnb26 := NB314_315.out; have hnc26 := NB315_314.out; (refine cb8 BK314 ?_; intro _ _ _ _ _ _ _ _); (refine cz8 BK314 ?_; intro _ _ _ _ _ _ _ _); (refine cb8 BK315 ?_; intro _ _ _ _ _ _ _ _); (refine cz8 BK315 ?_; intro _ _ _ _ _ _ _ _)))
  go_ret
  exact ⟨sR, bl⟩
end Go.Proofs.YtdhbimankkpllaaDoor.P
namespace Go.Proofs.YtdhbimankkpllaaDoor
open Go Go.ChangeMaps Go.MapKept
open Go.Maps (Keyed IsMap Tidy)
set_option linter.unusedVariables false
set_option linter.unusedSectionVars false
structure MapKit (P : Program) (κ ν : Type) where
 t : TypeId
 k : TypeId
 e : TypeId
 law : Keyed P k
 ht : P.underlying t = some (.map k e)
 okK : κ → Prop
 key : κ → Value
 lit : κ → Lit
 hkey : ∀ x, okK x → keyOf P k (key x) = some (lit x)
 inj : ∀ x y, key x = key y → x = y
 okV : ν → Prop
 val : ν → Value
 dat : ν → DataW Unit
 R : Value → Option (DataW Unit × List MemPlace)
 hval : ∀ v, okV v → R (val v) = some (dat v, [])
 hdat : ∀ v u ps, R u = some (dat v, ps) → u = val v
 zero : ν
 okz : okV zero
 hz : ∀ w, (zeroValue e).run P w = .ok (val zero) w
namespace MapKit
variable {P : Program} {κ ν : Type} [DecidableEq κ] (M : MapKit P κ ν)
def datum : List (κ × ν) → DataW Unit
 | [] => .map []
 | x :: l => (datum l).put (M.lit x.1) (M.dat x.2)
def look (l : List (κ × ν)) (x : κ) : ν := match l.find? fun y => decide (y.1 = x) with | some y => y.2 | none => M.zero
def met (l : List (κ × ν)) (x : κ) : Bool := l.any fun y => decide (y.1 = x)
structure Is (w : World) (b : Nat) (l : List (κ × ν)) : Prop where
 ok : ∀ y ∈ l, M.okK y.1 ∧ M.okV y.2
 own : w.ownsMap P M.k M.R b l.length (M.datum l)
theorem qAC : ∀ l : List (κ × ν), IsMap (M.datum l)
 | [] => Go.Maps.isMap_empty
 | x :: l => (qAC l).put _ _
theorem lit_ne {x y : κ} (hx : M.okK x) (hy : M.okK y) (h : x ≠ y) : M.lit x ≠ M.lit y := fun e =>
 h (M.inj _ _ (M.law.inj (M.hkey x hx) (by rw [M.hkey y hy, e])))
theorem has_datum {x : κ} (hx : M.okK x) : ∀ (l : List (κ × ν)), (∀ y ∈ l, M.okK y.1 ∧ M.okV y.2) → Go.Maps.has (M.datum l) (M.lit x) = met l x
 | [], _ => rfl
 | y :: l, h => by
  have ih := has_datum hx l (fun z hz => h z (List.mem_cons_of_mem _ hz))
  have hy := (h y List.mem_cons_self).1
  unfold met at ih ⊢
  rw [List.any_cons, ← ih]
  by_cases e : y.1 = x
  case pos => rw [decide_eq_true e, Bool.true_or]; show Go.Maps.has ((M.datum l).put (M.lit y.1) (M.dat y.2)) (M.lit x) = true; rw [e]; exact Go.Maps.has_put_same (M.qAC l) (M.law.key (M.hkey x hx)) _
  rw [decide_eq_false e, Bool.false_or]
  exact Go.Maps.has_put_other (M.lit_ne hx hy (fun q => e q.symm)) _
theorem at_datum {x : κ} (hx : M.okK x) : ∀ (l : List (κ × ν)), (∀ y ∈ l, M.okK y.1 ∧ M.okV y.2) → (M.datum l).atKey (M.lit x) (M.dat M.zero) = M.dat (M.look l x)
 | [], _ => rfl
 | y :: l, h => by
  have ih := at_datum hx l (fun z hz => h z (List.mem_cons_of_mem _ hz))
  have hy := (h y List.mem_cons_self).1
  show ((M.datum l).put (M.lit y.1) (M.dat y.2)).atKey (M.lit x) (M.dat M.zero) = _
  unfold look at ih ⊢
  by_cases e : y.1 = x
  case pos => rw [List.find?_cons_of_pos (by simpa using e), e]; exact Go.Maps.atKey_put_same (M.qAC l) (M.law.key (M.hkey x hx)) _ _
  rw [List.find?_cons_of_neg (by simpa using e), ← ih]
  exact Go.Maps.atKey_put_other (M.lit_ne hx hy (fun q => e q.symm)) _ _
variable {M} {w : World} {b : Nat} {l : List (κ × ν)}
theorem Is.made (w : World) : M.Is (w.alloc (.map #[] 0)) w.heap.size [] := ⟨fun _ h => (List.not_mem_nil h).elim, World.ownsMap_made _ _ _ _⟩
theorem Is.lt (h : M.Is w b l) : b < w.heap.size := h.own.lt
theorem Is.kept {w' : World} {row : Option Nat} (h : M.Is w b l) (hg : w.grownBy w' row) (hne : some b ≠ row) : M.Is w' b l := ⟨h.ok, h.own.kept hg hne⟩
theorem Is.alloc (h : M.Is w b l) (o : Obj) : M.Is (w.alloc o) b l := ⟨h.ok, h.own.alloc o⟩
theorem Is.setCell (h : M.Is w b l) {a : Addr} (ha : b ≠ a.block) (u : Value) : M.Is (w.setCell a u) b l := ⟨h.ok, h.own.setCell ha u⟩
theorem Is.qUA {w' : World} (h : M.Is w b l) (e : w'.heap[b]? = w.heap[b]?) : M.Is w' b l := by
 obtain ⟨es, clock, hb, r⟩ := h.own
 exact ⟨h.ok, es, clock, by rw [e, hb], r⟩
theorem Is.run_look_ok (h : M.Is w b l) {x : κ} (hx : M.okK x) : (Instr.lookup M.t (.map (some b)) (M.key x) true).run P w = .ok (.tuple #[M.val (M.look l x), .bool (met l x)]) w := by
 obtain ⟨v, ps, hrun, hv⟩ := h.own.look_ok M.law M.ht (M.hz w) (M.hval _ M.okz) (M.hkey x hx)
 rw [M.at_datum hx l h.ok] at hv
 rw [hrun, M.hdat _ _ _ hv, M.has_datum hx l h.ok]
theorem Is.run_put (h : M.Is w b l) (hn : l.length < maxLen) {x : κ} (hx : M.okK x) {v : ν} (hv : M.okV v) : ∃ w', (Instr.mapUpdate M.t (.map (some b)) (M.key x) (M.val v)).run P w = .ok () w' ∧ M.Is w' b ((x, v) :: l) ∧ w.grownBy w' (some b) := by
 obtain ⟨w', hrun, h1, h2⟩ := h.own.update M.law M.ht hn (M.hkey x hx) (M.hval v hv)
 refine ⟨w', hrun, ⟨fun y hy => ?_, h1⟩, h2⟩
 rcases List.mem_cons.1 hy with rfl | hy
 ·exact ⟨hx, hv⟩
 ·exact h.ok y hy
variable {ops : Array Oper} {rest : List Oper} {o : Oper} {a : Act} {Q : Exit → Act → World → Prop}
end MapKit
theorem elem_int {P : Program} {e : TypeId} {q : IntKind} (he : P.underlying e = some (.int q)) : (∀ v : Int, (Lit.int q v).wf = true → plainElem (H := Unit) P e (.int q v) = some (.lit (.int q v), [])) ∧ ∀ (v : Int) (u : Value) ps, plainElem (H := Unit) P e u = some (.lit (.int q v), ps) → u = .int q v := by
 refine ⟨fun v hw => plainElem_int he hw, fun v u ps h => ?_⟩
 obtain ⟨x, rfl, hz, _⟩ := plainElem_int_inv he h
 simp only [Prod.mk.injEq, DataW.lit.injEq, Lit.int.injEq] at hz
 rw [hz.1.2]
end Go.Proofs.YtdhbimankkpllaaDoor
namespace Go.Proofs.YtdhbimankkpllaaDoor
open Go.RowKit Go.Proofs.YtdhbimankkpllaaDoorW.PrintWords Go.Proofs.YtdhbimankkpllaaDoorW.PrintLast
set_option linter.unusedVariables false
set_option linter.unusedSectionVars false
namespace MapKit
variable {P : Program} {κ ν : Type} [DecidableEq κ] {M : MapKit P κ ν} {w w1 : World} {b : Nat} {l : List (κ × ν)}
theorem Is.below (h : M.Is w b l) (hb : Below w.heap.size w w1) : M.Is w1 b l := h.qUA (hb.block b h.lt)
theorem Is.drewN (h : M.Is w b l) (n : Nat) : M.Is (w.drewN n) b l := h.qUA rfl
theorem Is.drew (h : M.Is w b l) : M.Is w.drew b l := h.qUA rfl
theorem Is.obj (h : M.Is w b l) : ∃ es clock, w.heap[b]? = some (.map es clock) := by
 obtain ⟨es, clock, hb, _⟩ := h.own
 exact ⟨es, clock, hb⟩
theorem Is.off (h : M.Is w b l) {k : Nat} {cells : Array Value} {q : TypeId} (hc : w.heap[k]? = some (.cells cells q (0, 0))) : k ≠ b := by
 rintro rfl
 obtain ⟨es, clock, hb⟩ := h.obj
 rw [hb] at hc
 cases hc
theorem Is.ne (h : M.Is w b l) {α : Type} {d : Kd α} {e base : Nat} {ok : Nat → Prop} {v : Value} {xs : List α} (hR : d.R e w base ok v xs) : some b ≠ v.ownBlock := by
 intro he
 obtain ⟨_, _, _, q, _, cells, hc⟩ := (Kd.qVB hR).1 b he.symm
 exact h.off hc rfl
theorem Is.row (h : M.Is w b l) {α : Type} {d : Kd α} {e base : Nat} {ok : Nat → Prop} {v : Value} {xs : List α} (hR : d.R e w base ok v xs) (hg : w.grownBy w1 (some b)) : d.R e w1 base ok v xs :=
 Kd.qAA (Kd.qWC (Kd.qVB hR) (fun k hk hlt => hg.block k hlt (fun e_ => by
  injection e_ with e_
  obtain ⟨_, _, _, q, _, cells, hc⟩ := hk
  exact h.off hc e_))) (fun _ hk => hk.1)
end MapKit
end Go.Proofs.YtdhbimankkpllaaDoor
set_option linter.unusedSectionVars false
namespace Go.Proofs.YtdhbimankkpllaaDoor.Bfs
section
variable {α β : Type} [DecidableEq α]
def put (L : List (α × β)) (y : Option α) (p : β) : List (α × β) := match y with
 | none => L
 | some y => if y ∈ L.map Prod.fst then L else L ++ [(y, p)]
def puts (L : List (α × β)) : List (Option α × β) → List (α × β)
 | [] => L
 | (y, p) :: r => puts (put L y p) r
variable (next : Nat → α → β → List (Option α × β))
def round (i : Nat) (L : List (α × β)) : List (α × β) := match L[i]? with
 | none => L
 | some x => puts L (next i x.1 x.2)
def run : Nat → Nat → List (α × β) → List (α × β)
 | 0, _, L => L
 | n + 1, i, L => if i < L.length then run n (i + 1) (round next i L) else L
theorem put_met {L : List (α × β)} {y : α} (h : y ∈ L.map Prod.fst) (p : β) : put L (some y) p = L := if_pos h
theorem qiC {L : List (α × β)} {y : α} (h : ¬ y ∈ L.map Prod.fst) (p : β) : put L (some y) p = L ++ [(y, p)] := if_neg h
theorem put_prefix (L : List (α × β)) (y : Option α) (p : β) : L <+: put L y p := by
 unfold put
 split
 ·exact List.prefix_refl _
 ·split
  ·exact List.prefix_refl _
  ·exact List.prefix_append _ _
theorem puts_prefix (l : List (Option α × β)) : ∀ L : List (α × β), L <+: puts L l := by
 induction l with
 | nil => intro L; exact List.prefix_refl _
 | cons x l ih => intro L; exact (put_prefix L x.1 x.2).trans (ih _)
theorem round_prefix (i : Nat) (L : List (α × β)) : L <+: round next i L := by
 unfold round
 split
 ·exact List.prefix_refl _
 ·exact puts_prefix _ _
theorem run_prefix : ∀ (n i : Nat) (L : List (α × β)), L <+: run next n i L
 | 0, _, L => List.prefix_refl _
 | n + 1, i, L => by
  unfold run
  split
  ·exact (round_prefix next i L).trans (run_prefix n (i + 1) _)
  ·exact List.prefix_refl _
theorem qSC {L : List (α × β)} (h : (L.map Prod.fst).Nodup) (y : Option α) (p : β) : ((put L y p).map Prod.fst).Nodup := by
 unfold put
 split
 ·exact h
 ·rename_i y
  split
  ·exact h
  ·rename_i hy
   rw [List.map_append, List.nodup_append]
   refine ⟨h, by simp, ?_⟩
   intro a ha b hb e
   simp at hb
   subst hb
   subst e
   exact hy ha
theorem puts_nodup (l : List (Option α × β)) : ∀ {L : List (α × β)}, (L.map Prod.fst).Nodup → ((puts L l).map Prod.fst).Nodup := by
 induction l with
 | nil => intro L h; exact h
 | cons x l ih => intro L h; exact ih (qSC h _ _)
theorem qwB {L : List (α × β)} (h : (L.map Prod.fst).Nodup) (i : Nat) : ((round next i L).map Prod.fst).Nodup := by
 unfold round
 split
 ·exact h
 ·exact puts_nodup _ h
theorem qPC : ∀ (n i : Nat) {L : List (α × β)}, (L.map Prod.fst).Nodup → ((run next n i L).map Prod.fst).Nodup
 | 0, _, L, h => h
 | n + 1, i, L, h => by
  unfold run
  split
  ·exact qPC n (i + 1) (qwB next h i)
  ·exact h
theorem qjC {Q : α × β → Prop} {L : List (α × β)} (h : ∀ x ∈ L, Q x) (y : Option α) (p : β) (hy : ∀ z, y = some z → Q (z, p)) : ∀ x ∈ put L y p, Q x := by
 unfold put
 split
 ·exact h
 ·rename_i z
  split
  ·exact h
  ·intro x hx
   rcases List.mem_append.1 hx with hx | hx
   ·exact h x hx
   ·simp at hx; subst hx; exact hy z rfl
theorem qHC {Q : α × β → Prop} : ∀ (l : List (Option α × β)) {L : List (α × β)}, (∀ x ∈ L, Q x) → (∀ s ∈ l, ∀ z, s.1 = some z → Q (z, s.2)) → ∀ x ∈ puts L l, Q x
 | [], L, h, _ => h
 | s :: l, L, h, hs => qHC l (qjC h s.1 s.2 (hs s (by simp))) (fun t ht => hs t (by simp [ht]))
theorem qQC {Q : α × β → Prop} (hn : ∀ i x p, Q (x, p) → ∀ s ∈ next i x p, ∀ z, s.1 = some z → Q (z, s.2)) (i : Nat) {L : List (α × β)} (h : ∀ x ∈ L, Q x) : ∀ x ∈ round next i L, Q x := by
 unfold round
 split
 ·exact h
 ·rename_i x hx
  exact qHC _ h (hn i x.1 x.2 (h x (List.mem_of_getElem? hx)))
theorem qXC {Q : α × β → Prop} (hn : ∀ i x p, Q (x, p) → ∀ s ∈ next i x p, ∀ z, s.1 = some z → Q (z, s.2)) : ∀ (n i : Nat) {L : List (α × β)}, (∀ x ∈ L, Q x) → ∀ x ∈ run next n i L, Q x
 | 0, _, L, h => h
 | n + 1, i, L, h => by
  unfold run
  split
  ·exact qXC hn n (i + 1) (qQC next hn i h)
  ·exact h
theorem nodup_len {U : List α} : ∀ {l : List α}, l.Nodup → (∀ x ∈ l, x ∈ U) → l.length ≤ U.length := by
 intro l
 induction l generalizing U with
 | nil => intro _ _; simp
 | cons a l ih =>
  intro hn hu
  obtain ⟨h1, h2⟩ := List.nodup_cons.1 hn
  have ha : a ∈ U := hu a (by simp)
  have := ih (U := U.erase a) h2 (fun x hx => by
   have hne : x ≠ a := fun e => h1 (e ▸ hx)
   exact (List.mem_erase_of_ne hne).2 (hu x (by simp [hx])))
  rw [List.length_erase_of_mem ha] at this
  have : 0 < U.length := List.length_pos_of_mem ha
  simp only [List.length_cons]
  omega
end
section
variable {α β : Type} [DecidableEq α] (next : Nat → α → β → List (Option α × β)) (far : β → Nat)
structure Layers (i : Nat) (L : List (α × β)) : Prop where
 rise : L.Pairwise (fun x y => far x.2 ≤ far y.2)
 near : ∀ x, L[i]? = some x → ∀ y ∈ L, far y.2 ≤ far x.2 + 1
theorem put_layers {i : Nat} {L : List (α × β)} (h : Layers far i L) {x : α × β} (hx : L[i]? = some x) (y : Option α) (p : β) (hp : y.isSome → far p = far x.2 + 1) : Layers far i (put L y p) ∧ (put L y p)[i]? = some x := by
 unfold put
 split
 ·exact ⟨h, hx⟩
 ·rename_i z
  split
  ·exact ⟨h, hx⟩
  ·have hi := (List.getElem?_eq_some_iff.1 hx).1
   have e := hp rfl
   have hg : (L ++ [(z, p)])[i]? = some x := by rw [List.getElem?_append_left hi]; exact hx
   refine ⟨⟨?_, ?_⟩, hg⟩
   ·rw [List.pairwise_append]
    refine ⟨h.rise, by simp, ?_⟩
    intro a ha b hb
    simp at hb
    subst hb
    have := h.near x hx a ha
    simp only
    omega
   ·intro x' hx' y hy
    rw [hg] at hx'
    cases hx'
    rcases List.mem_append.1 hy with hy | hy
    ·exact h.near x hx y hy
    ·simp at hy; subst hy; simp only; omega
theorem puts_layers {i : Nat} : ∀ (l : List (Option α × β)) {L : List (α × β)}, Layers far i L → ∀ {x : α × β}, L[i]? = some x → (∀ s ∈ l, s.1.isSome → far s.2 = far x.2 + 1) → Layers far i (puts L l)
 | [], L, h, _, _, _ => h
 | s :: l, L, h, x, hx, hs => by
  obtain ⟨h1, h2⟩ := put_layers far h hx s.1 s.2 (hs s (by simp))
  exact puts_layers l h1 h2 (fun t ht => hs t (by simp [ht]))
theorem layers_next {i : Nat} {L : List (α × β)} (h : Layers far i L) : Layers far (i + 1) L := by
 refine ⟨h.rise, fun x hx y hy => ?_⟩
 obtain ⟨hi, e⟩ := List.getElem?_eq_some_iff.1 hx
 have h0 : L[i]? = some (L[i]'(by omega)) := List.getElem?_eq_getElem _
 have h1 := h.near _ h0 y hy
 have h2 := (List.pairwise_iff_getElem.1 h.rise) i (i + 1) (by omega) hi (by omega)
 rw [e] at h2
 omega
theorem round_layers (hn : ∀ i x p, ∀ s ∈ next i x p, s.1.isSome → far s.2 = far p + 1) {i : Nat} {L : List (α × β)} (h : Layers far i L) : Layers far (i + 1) (round next i L) := by
 apply layers_next
 unfold round
 split
 ·exact h
 ·rename_i x hx
  exact puts_layers far _ h hx (hn i x.1 x.2)
theorem run_layers (hn : ∀ i x p, ∀ s ∈ next i x p, s.1.isSome → far s.2 = far p + 1) : ∀ (n i : Nat) {L : List (α × β)}, Layers far i L → (run next n i L).Pairwise (fun x y => far x.2 ≤ far y.2)
 | 0, _, L, h => h.rise
 | n + 1, i, L, h => by
  unfold run
  split
  ·exact run_layers hn n (i + 1) (round_layers next far hn h)
  ·exact h.rise
theorem layers_start (x : α) (p : β) : Layers far 0 [(x, p)] := ⟨by simp, fun y hy z hz => by simp at hy hz; subst hy; subst hz; omega⟩
end
end Go.Proofs.YtdhbimankkpllaaDoor.Bfs
namespace Go.Proofs
open Go.Shelf
def Tryd.lays146_ren : Go.Shelf.Ren := ⟨fun | 146 => 47 | 221 => 52 | 268 => 61 | 138 => 62 | 143 => 63 | 195 => 68 | 197 => 65 | 218 => 69 | 219 => 70 | 260 => 71 | 217 => 74 | 225 => 75 | 224 => 76 | 267 => 77 | 266 => 80 | 314 => 81 | n => n, fun | 9 => 9 | 31 => 61 | 3 => 3 | 4 => 4 | 0 => 0 | 105 => 104 | 21 => 21 | 5 => 5 | 46 => 111 | 119 => 112 | 139 => 115 | 138 => 114 | 146 => 118 | 51 => 117 | n => n, fun | 1 => 0 | 3 => 1 | 4 => 2 | n => n⟩
theorem Tryd.lays146 : Go.Proofs.Lays.n146 Tryd.prog Tryd.lays146_ren := {
 mixed := by kernel_rfl
 f138 := Tryd.func62.trans (congrArg some (by kernel_rfl))
 f143 := Tryd.func63.trans (congrArg some (by kernel_rfl))
 f146 := Tryd.func47.trans (congrArg some (by kernel_rfl))
 f195 := Tryd.func68.trans (congrArg some (by kernel_rfl))
 f197 := Tryd.func65.trans (congrArg some (by kernel_rfl))
 f217 := Tryd.func74.trans (congrArg some (by kernel_rfl))
 f218 := Tryd.func69.trans (congrArg some (by kernel_rfl))
 f219 := Tryd.func70.trans (congrArg some (by kernel_rfl))
 f221 := Tryd.func52.trans (congrArg some (by kernel_rfl))
 f224 := Tryd.func76.trans (congrArg some (by kernel_rfl))
 f225 := Tryd.func75.trans (congrArg some (by kernel_rfl))
 f260 := Tryd.func71.trans (congrArg some (by kernel_rfl))
 f266 := Tryd.func80.trans (congrArg some (by kernel_rfl))
 f267 := Tryd.func77.trans (congrArg some (by kernel_rfl))
 f268 := Tryd.func61.trans (congrArg some (by kernel_rfl))
 f314 := Tryd.func81.trans (congrArg some (by kernel_rfl))
 t0 := Tryd.underlying0
 a0 := Tryd.isAgg0
 z0 := Tryd.sizeOf0
 v0 := Tryd.zeroValue0
 t3 := Tryd.underlying3
 a3 := Tryd.isAgg3
 z3 := Tryd.sizeOf3
 v3 := Tryd.zeroValue3
 t4 := Tryd.underlying4
 a4 := Tryd.isAgg4
 z4 := Tryd.sizeOf4
 v4 := Tryd.zeroValue4
 t5 := Tryd.underlying5
 a5 := Tryd.isAgg5
 z5 := Tryd.sizeOf5
 v5 := Tryd.zeroValue5
 t9 := Tryd.underlying9
 a9 := Tryd.isAgg9
 z9 := Tryd.sizeOf9
 v9 := Tryd.zeroValue9
 t21 := Tryd.underlying21
 a21 := Tryd.isAgg21
 z21 := Tryd.sizeOf21
 v21 := Tryd.zeroValue21
 t31 := Tryd.underlying61
 a31 := Tryd.isAgg61
 z31 := Tryd.sizeOf61
 v31 := Tryd.zeroValue61
 t46 := Tryd.underlying111
 a46 := Tryd.isAgg111
 z46 := Tryd.sizeOf111
 v46 := Tryd.zeroValue111
 t51 := Tryd.underlying117
 a51 := Tryd.isAgg117
 z51 := Tryd.sizeOf117
 v51 := Tryd.zeroValue117
 t105 := Tryd.underlying104
 a105 := Tryd.isAgg104
 z105 := Tryd.sizeOf104
 v105 := Tryd.zeroValue104
 t119 := Tryd.underlying112
 a119 := Tryd.isAgg112
 z119 := Tryd.sizeOf112
 t138 := Tryd.underlying114
 a138 := Tryd.isAgg114
 z138 := Tryd.sizeOf114
 v138 := Tryd.zeroValue114
 t139 := Tryd.underlying115
 a139 := Tryd.isAgg115
 z139 := Tryd.sizeOf115
 v139 := Tryd.zeroValue115
 t146 := Tryd.underlying118
 a146 := Tryd.isAgg118
 z146 := Tryd.sizeOf118
 v146 := Tryd.zeroValue118
 g1 := by kernel_rfl
 g3 := by kernel_rfl
 g4 := by kernel_rfl }
open Go.RowKit Go.Lib in
theorem Tryd.strings_Split (s sep : ByteArray) (m : Int) (w : World) (hs : s.size < 4294967281) (hm : w.cell? ⟨0, 0, none⟩ = some (.int .i64 m)) (h1 : 1 ≤ sep.size) :
  Calls Tryd.prog 47 #[.string s, .string sep] w fun e w' =>
   e = .returned (.slice (some ⟨w.heap.size, 0, none⟩) (Lib.countB s sep + 1) (Lib.countB s sep + 1)) ∧ w' = w.alloc (.cells ((Lib.splitB sep 0 (Lib.countB s sep) s).map Value.string).toArray 9) := Any.strings_Split Tryd.lays146 (by kernel_rfl) s sep m w hs hm h1
def Tryd.lays160_ren : Go.Shelf.Ren := ⟨fun | 160 => 48 | 232 => 54 | 231 => 53 | 227 => 55 | 234 => 57 | 233 => 56 | 236 => 59 | 235 => 58 | 228 => 64 | 271 => 67 | 151 => 66 | 197 => 65 | 120 => 73 | 152 => 72 | 260 => 71 | 137 => 78 | 119 => 79 | 224 => 76 | 225 => 75 | 217 => 74 | 266 => 80 | n => n, fun | 9 => 9 | 4 => 4 | 3 => 3 | 5 => 5 | 117 => 96 | 116 => 95 | 0 => 0 | 124 => 99 | 21 => 21 | 105 => 104 | 46 => 111 | 119 => 112 | 139 => 115 | 138 => 114 | n => n, fun | 3 => 1 | 4 => 2 | n => n⟩
theorem Tryd.lays160 : Go.Proofs.Lays.n160 Tryd.prog Tryd.lays160_ren := {
 mixed := by kernel_rfl
 f119 := Tryd.func79.trans (congrArg some (by kernel_rfl))
 f120 := Tryd.func73.trans (congrArg some (by kernel_rfl))
 f137 := Tryd.func78.trans (congrArg some (by kernel_rfl))
 f151 := Tryd.func66.trans (congrArg some (by kernel_rfl))
 f152 := Tryd.func72.trans (congrArg some (by kernel_rfl))
 f160 := Tryd.func48.trans (congrArg some (by kernel_rfl))
 f197 := Tryd.func65.trans (congrArg some (by kernel_rfl))
 f217 := Tryd.func74.trans (congrArg some (by kernel_rfl))
 f224 := Tryd.func76.trans (congrArg some (by kernel_rfl))
 f225 := Tryd.func75.trans (congrArg some (by kernel_rfl))
 f227 := Tryd.func55.trans (congrArg some (by kernel_rfl))
 f228 := Tryd.func64.trans (congrArg some (by kernel_rfl))
 f231 := Tryd.func53.trans (congrArg some (by kernel_rfl))
 f232 := Tryd.func54.trans (congrArg some (by kernel_rfl))
 f233 := Tryd.func56.trans (congrArg some (by kernel_rfl))
 f234 := Tryd.func57.trans (congrArg some (by kernel_rfl))
 f235 := Tryd.func58.trans (congrArg some (by kernel_rfl))
 f236 := Tryd.func59.trans (congrArg some (by kernel_rfl))
 f260 := Tryd.func71.trans (congrArg some (by kernel_rfl))
 f266 := Tryd.func80.trans (congrArg some (by kernel_rfl))
 f271 := Tryd.func67.trans (congrArg some (by kernel_rfl))
 t0 := Tryd.underlying0
 a0 := Tryd.isAgg0
 z0 := Tryd.sizeOf0
 v0 := Tryd.zeroValue0
 t3 := Tryd.underlying3
 a3 := Tryd.isAgg3
 z3 := Tryd.sizeOf3
 v3 := Tryd.zeroValue3
 t4 := Tryd.underlying4
 a4 := Tryd.isAgg4
 z4 := Tryd.sizeOf4
 v4 := Tryd.zeroValue4
 t5 := Tryd.underlying5
 a5 := Tryd.isAgg5
 z5 := Tryd.sizeOf5
 v5 := Tryd.zeroValue5
 t9 := Tryd.underlying9
 a9 := Tryd.isAgg9
 z9 := Tryd.sizeOf9
 v9 := Tryd.zeroValue9
 t21 := Tryd.underlying21
 a21 := Tryd.isAgg21
 z21 := Tryd.sizeOf21
 v21 := Tryd.zeroValue21
 t46 := Tryd.underlying111
 a46 := Tryd.isAgg111
 z46 := Tryd.sizeOf111
 v46 := Tryd.zeroValue111
 t105 := Tryd.underlying104
 a105 := Tryd.isAgg104
 z105 := Tryd.sizeOf104
 v105 := Tryd.zeroValue104
 t116 := Tryd.underlying95
 a116 := Tryd.isAgg95
 z116 := Tryd.sizeOf95
 t117 := Tryd.underlying96
 a117 := Tryd.isAgg96
 z117 := Tryd.sizeOf96
 v117 := Tryd.zeroValue96
 t119 := Tryd.underlying112
 a119 := Tryd.isAgg112
 z119 := Tryd.sizeOf112
 t124 := Tryd.underlying99
 a124 := Tryd.isAgg99
 z124 := Tryd.sizeOf99
 v124 := Tryd.zeroValue99
 t138 := Tryd.underlying114
 a138 := Tryd.isAgg114
 z138 := Tryd.sizeOf114
 v138 := Tryd.zeroValue114
 t139 := Tryd.underlying115
 a139 := Tryd.isAgg115
 z139 := Tryd.sizeOf115
 v139 := Tryd.zeroValue115
 g3 := by kernel_rfl
 g4 := by kernel_rfl }
end Go.Proofs
namespace Go.Proofs.YtdhbimankkpllaaDoor
open Go.RowKit Go.Proofs.YtdhbimankkpllaaDoorW.PrintWords Go.Proofs.YtdhbimankkpllaaDoorW.PrintLast
set_option linter.unusedVariables false
set_option linter.unusedSimpArgs false
def strings_Split.f (a0 a1 : ByteArray) : Option (List ByteArray) := if a0.size < 4294967281 ∧ 1 ≤ a1.size then some (Lib.splitB a1 0 (Lib.countB a0 a1) a0) else none
theorem strings_Split.calls (a0 a1 : ByteArray) (r : List ByteArray) (w : World) (hL : Laid w) (h : strings_Split.f a0 a1 = some r) :
  Calls Tryd.prog 47 #[.string a0, .string a1] w fun e w' => ∃ v0_ : Value, e = .returned v0_ ∧ Kd.R Kd.string 9 w' w.heap.size (fun _ => True) v0_ r ∧ Below w.heap.size w w' := by
 unfold strings_Split.f at h
 split at h
 ·rename_i hs
  obtain rfl := Option.some.inj h
  obtain ⟨m, hm⟩ := hL
  have hlen := Lib.splitB_all a1 hs.2 0 _ a0 rfl
  have hle := Lib.countB_le a1 hs.2 a0.size a0 (Nat.le_refl _)
  refine (Tryd.strings_Split a0 a1 m w hs.1 hm hs.2).mono fun e w' ⟨h1, h2⟩ => ⟨_, h1, ?_, ?_⟩
  ·subst h2
   generalize Lib.splitB a1 0 (Lib.countB a0 a1) a0 = l at *
   rw [← hlen]
   refine Kd.R_of_own ⟨by rw [encs_length, Nat.mul_one], .inr ⟨w.heap.size, l.length, (l.map Value.string).toArray, rfl, Nat.le_refl _, ?_, Nat.le_refl _, ?_, ?_, ?_⟩⟩ (fun _ _ => trivial)
   ·exact qnC _ _
   ·unfold maxLen; omega
   ·simp
   ·simp only [encs, Nat.mul_one]
    rw [List.take_of_length_le (by simp)]
  ·subst h2
   exact qWA (Below.refl _ _) _
 ·cases h
def qlA.f (a0 a1 : ByteArray) : Option ByteArray := if a0.size ≤ 9223372036854775807 ∧ a1.size < 4294967281 ∧ (a1.data.toList.all fun b => decide (b.toNat < 128)) = true then some ⟨(Lib.trimS a0.data.toList a1.data.toList).toArray⟩ else none
theorem qlA.calls (a0 a1 : ByteArray) (r : ByteArray) (w : World) (h : qlA.f a0 a1 = some r) :
  Calls Tryd.prog 48 #[.string a0, .string a1] w fun e w' => e = .returned (.string r) ∧ Below w.heap.size w w' := by
 unfold qlA.f at h
 split at h
 ·rename_i hs
  obtain rfl := Option.some.inj h
  exact Any.strings_Trim_laid Tryd.lays160 (by kernel_rfl) a0 a1 w hs.1 hs.2.1 (ascii_of_all hs.2.2)
 ·cases h
theorem Ev.at_ {α : Type} {g : Nat → Option α} {r : α} (n : Nat) (h : ∀ k, g (k + n) = some r) : Ev g r := ⟨n, fun k hk => by
 obtain ⟨m, rfl⟩ : ∃ m, k = m + n := ⟨k - n, by omega⟩
 exact h m⟩
theorem Ev.pos {α : Type} {c : Prop} [Decidable c] {g f : Nat → Option α} {r : α} (hc : c) (h : Ev g r) : Ev (fun k => if c then g k else f k) r := h.congr fun k => if_pos hc
theorem Ev.neg {α : Type} {c : Prop} [Decidable c] {g f : Nat → Option α} {r : α} (hc : ¬ c) (h : Ev f r) : Ev (fun k => if c then g k else f k) r := h.congr fun k => if_neg hc
theorem Ev.some_ {α : Type} {a r : α} (h : a = r) : Ev (fun _ => some a) r := ⟨0, fun _ _ => by rw [h]⟩
theorem Ev.bindc {α β : Type} {o : Option α} {f : Nat → α → Option β} {a : α} {r : β} (h : o = some a) (k : Ev (fun n => f n a) r) : Ev (fun n => o.bind (f n)) r := k.congr fun n => by rw [h]; rfl
theorem w64 {i : Int} (h0 : -9223372036854775808 ≤ i) (h1 : i ≤ 9223372036854775807) : wrap64 i = i := by unfold wrap64; omega
def sp (c : UInt8) : List UInt8 → List UInt8 × List (List UInt8)
 | [] => ([], [])
 | b :: r => if b = c then ([], (sp c r).1 :: (sp c r).2) else (b :: (sp c r).1, (sp c r).2)
theorem splitK_sp (c : UInt8) (l : List UInt8) : Lib.splitK [c] 0 (Lib.count l [c]) l = (sp c l).1 :: (sp c l).2 := by
 induction l with
 | nil =>
  have : Lib.count [] [c] = 0 := by rw [Lib.count_one]; rfl
  rw [this]; rfl
 | cons b l ih =>
  by_cases h : b = c
  case pos => subst h; (have hix : Lib.index (b :: l) [b] = 0 := by rw [Lib.index]; simp [List.isPrefixOf]); rw [Lib.count_cons_eq, show 1 + Lib.count l [b] = Lib.count l [b] + 1 by omega, Lib.splitK, hix]; simp only [sp, if_true]; rw [if_neg (by decide), ← ih]; rfl
  have hp : ([c] : List UInt8).isPrefixOf (b :: l) = false := by simp [List.isPrefixOf, Ne.symm h]
  have hix : Lib.index (b :: l) [c] = if Lib.index l [c] == -1 then -1 else Lib.index l [c] + 1 := by rw [Lib.index, hp]; simp
  rw [Lib.count_cons_ne b c l h]
  simp only [sp, if_neg h]
  by_cases hm : Lib.index l [c] = -1
  case pos => have h0 : Lib.count l [c] = 0 := Lib.count_miss hm; rw [h0] at ih ⊢; simp only [Lib.splitK] at ih ⊢; injection ih with e1 e2; rw [← e1, ← e2]
  have hge := Lib.index_ge l [c]
  obtain ⟨j, hj⟩ : ∃ j : Nat, Lib.index l [c] = j := ⟨(Lib.index l [c]).toNat, by omega⟩
  have hc := Lib.count_hit (sub := [c]) (by simp) hj
  obtain ⟨k, hk⟩ : ∃ k, Lib.count l [c] = k + 1 := ⟨Lib.count l [c] - 1, by omega⟩
  rw [hk] at ih ⊢
  have hne : ¬ ((j : Int) == -1) = true := by intro e; have := beq_iff_eq.1 e; omega
  have hne' : ¬ ((j : Int) + 1 == -1) = true := by intro e; have := beq_iff_eq.1 e; omega
  rw [Lib.splitK, hj, if_neg hne] at ih
  rw [Lib.splitK, hix, hj, if_neg hne, if_neg hne']
  have e1 : ((j : Int) + 1).toNat = j + 1 := by omega
  rw [e1]
  simp only [Int.toNat_natCast, Nat.add_zero, List.length_singleton] at ih ⊢
  injection ih with i1 i2
  rw [← i1, ← i2]
  rfl
theorem split_sp (a : ByteArray) (c : UInt8) : (Lib.splitB ⟨#[c]⟩ 0 (Lib.countB a ⟨#[c]⟩) a).map (·.data.toList) = (sp c a.data.toList).1 :: (sp c a.data.toList).2 := by
 rw [Lib.splitB_data]
 exact splitK_sp c a.data.toList
theorem qNC (c : UInt8) (l : List UInt8) : l.length = (sp c l).1.length + ((sp c l).2.map List.length).sum + (sp c l).2.length := by
 induction l with
 | nil => rfl
 | cons b l ih =>
  by_cases h : b = c
  case pos => simp only [sp, if_pos h, List.length_cons, List.length_nil, List.map_cons, List.sum_cons]; omega
  simp only [sp, if_neg h, List.length_cons]; omega
theorem sp_all (c : UInt8) (p : UInt8 → Bool) (l : List UInt8) (hp : p c = false) : ((sp c l).1.all p && (sp c l).2.all (·.all p)) = l.all fun b => b == c || p b := by
 induction l with
 | nil => rfl
 | cons b l ih =>
  by_cases h : b = c
  case pos => subst h; simp only [sp, if_true, List.all_nil, Bool.true_and, List.all_cons, ih, beq_self_eq_true, Bool.true_or]
  have : (b == c) = false := by simpa using h
  simp only [sp, if_neg h, List.all_cons, Bool.and_assoc, ih, this, Bool.false_or]
theorem qKB {p : UInt8 → Bool} {e : UInt8} (he : p e = false) : ∀ l : List UInt8, e ∈ l → e ∈ l.dropWhile p
 | [], h => h
 | b :: l, h => by
  rw [List.dropWhile_cons]
  split
  ·rename_i hb
   rcases List.mem_cons.1 h with rfl | h
   ·rw [he] at hb; cases hb
   ·exact qKB he l h
  ·exact h
theorem dropWhile_all {p : UInt8 → Bool} : ∀ l : List UInt8, l.all p = true → l.dropWhile p = []
 | [], _ => rfl
 | b :: l, h => by
  rw [List.all_cons, Bool.and_eq_true] at h
  rw [List.dropWhile_cons, if_pos h.1]
  exact dropWhile_all l h.2
theorem trimS_nil (l cs : List UInt8) : (Lib.trimS l cs = []) ↔ l.all (cs.contains ·) = true := by
 unfold Lib.trimS Lib.trimLeftS Lib.trimRightS
 constructor
 ·intro h
  rw [List.all_eq_true]
  intro e he
  cases hc : cs.contains e with
  | true => rfl
  | false =>
   have h1 := qKB (p := (cs.contains ·)) (e := e) hc l.reverse (by simpa using he)
   have h2 := qKB (p := (cs.contains ·)) (e := e) hc (l.reverse.dropWhile (cs.contains ·)).reverse (by simpa using h1)
   rw [h] at h2; cases h2
 ·intro h
  rw [dropWhile_all l.reverse (by rw [List.all_reverse]; exact h)]
  rfl
end Go.Proofs.YtdhbimankkpllaaDoor
namespace Go.Proofs.YtdhbimankkpllaaDoor.P
open Go.RowKit Go.Proofs.YtdhbimankkpllaaDoorW.PrintWords Go.Proofs.YtdhbimankkpllaaDoorW.PrintLast Go.Proofs.YtdhbimankkpllaaDoorW.PrintMore
attribute [local go_sem] qg qe qq qp qX qW qf qd
set_option linter.unusedVariables false
set_option linter.unusedSimpArgs false
def qaA.f (a0 : Int) (a1 : Int) (a2 : Int) : Option (Bool) := if a1 ≤ a0 then (some (decide (a0 ≤ a2))) else (some false)
set_option maxHeartbeats 8000000 in
set_option maxRecDepth 100000 in
theorem qaA.calls (a0 : Int) (a1 : Int) (a2 : Int) (r : Bool) (w : World) (h : qaA.f a0 a1 a2 = some r) :
  Calls Tryd.prog 49 #[.int .i64 a0, .int .i64 a1, .int .i64 a2] w fun e w' => e = .returned (.bool r) ∧ Drawn0 w w' := by
 have H : (if a1 ≤ a0 then (some (decide (a0 ≤ a2))) else (some false)) = some r := h
 clear h
 by_cases c4 : a1 ≤ a0
 ·rw [if_pos c4] at H
  have c4b0 := decide_eq_true c4
  clear c4
  obtain rfl := Option.some.inj H
  go_enter Tryd.func49, Tryd.ntmps49
  go_wp2
  go_ret
  exact ⟨by first | rfl | (simp; done) | (simp [*]; done), dR⟩
 ·rw [if_neg c4] at H
  have c4b0 := decide_eq_false c4
  clear c4
  obtain rfl := Option.some.inj H
  go_enter Tryd.func49, Tryd.ntmps49
  go_wp2
  go_ret
  exact ⟨by first | rfl | (simp; done) | (simp [*]; done), dR⟩
def qFA.l0 : Nat → ByteArray → Int → List ByteArray → Int → Int → Option (List ByteArray × Bool)
 | 0, _, _, _, _, _ => none
 | k + 1, x1, x7, x11, x17, x18 => if x18 < x17 then (if 0 ≤ x18 then (if x18 < (x11.length : Int) then (if ((rdOf ByteArray.empty x11 x18).size : Int) = x7 then ((qlA.f (rdOf ByteArray.empty x11 x18) x1).bind fun t248 => (if t248.toList = ([] : List UInt8) then (qFA.l0 k x1 x7 x11 x17 (wrap64 (x18 + 1))) else (some (([] : List ByteArray), false)))) else (some (([] : List ByteArray), false))) else (none)) else (none)) else ((qaA.f (x11.length : Int) 1 7).bind fun t249 => (if t249 = true then ((qaA.f x7 1 7).bind fun t250 => (if t250 = true then (some (x11, decide ((wrap64 (x7 * (x11.length : Int))) ≤ 36))) else (some (x11, false)))) else (some (x11, false))))
def qFA.f (k : Nat) (a0 : ByteArray) (a1 : ByteArray) : Option (List ByteArray × Bool) := (strings_Split.f a0 (⟨#[47]⟩ : ByteArray)).bind fun t243 => (if 0 < (t243.length : Int) then (qFA.l0 k a1 ((rdOf ByteArray.empty t243 0).size : Int) t243 (t243.length : Int) 0) else (none))
set_option maxHeartbeats 8000000 in
set_option maxRecDepth 100000 in
theorem qFA.calls (k : Nat) (a0 : ByteArray) (a1 : ByteArray) (r1 : List ByteArray) (r2 : Bool) (w : World) (hL : Laid w) (h : qFA.f k a0 a1 = some (r1, r2)) :
  Calls Tryd.prog 42 #[.string a0, .string a1] w fun e w' => ∃ v0_ : Value, e = .returned (.tuple #[v0_, .bool r2]) ∧ Kd.R Kd.string 9 w' w.heap.size (fun _ => True) v0_ r1 ∧ Below w.heap.size w w' := by
 have HLD := aM hL
 clear hL
 have HB := aM (Below.refl w.heap.size w)
 have H : ((strings_Split.f a0 (⟨#[47]⟩ : ByteArray)).bind fun t243 => (if 0 < (t243.length : Int) then (qFA.l0 k a1 ((rdOf ByteArray.empty t243 0).size : Int) t243 (t243.length : Int) 0) else (none))) = some (r1, r2) := h
 clear h
 replace H := bO H
 obtain ⟨t243, A3, H⟩ := H
 by_cases c4 : 0 < (t243.length : Int)
 ·rw [if_pos c4] at H
  have c4b0 := decide_eq_true c4
  have c4b1 : decide (0 < t243.length) = true := decide_eq_true (by omega)
  clear c4
  have H' := aM H
  clear H
  go_enter Tryd.func42, Tryd.ntmps42
  go_wp2_with (first | ((with_reducible refine qJ (f := 47) rfl ?_); refine qZ (some 11) rfl rfl Tryd.func47 (by kernel_rfl) rfl #[.string a0, .string (⟨#[47]⟩ : ByteArray)] rfl gA ?_; (with_reducible refine (strings_Split.calls a0 (⟨#[47]⟩ : ByteArray) t243 _ ?side1 A3.out).mono ?_); (case side1 => first | (with_reducible exact HLD.out) | exact Laid.below HLD.out bl); rintro e w5 ⟨v244, rfl, ho0, hb⟩; refine ⟨_, rfl, ?_⟩; have HO245 := aM (Kd.qSA ho0 (qk bl)); replace HB := aM (qB bl hb); (try clear hb); (try clear hb2); (try clear hk); (try clear hi); (try clear ho0); obtain ⟨Ao6, co6, eo6⟩ := Kd.qx HO245.out; subst eo6; have p246 : 0 ≤ (0 : Int) := (by omega); have q246 : 0 < (t243.length : Int) := of_decide_eq_true am; obtain ⟨ad246, e246, hx246_0⟩ := Kd.qbB (Kd.qT HO245.out).2.2 0 p246 q246; cases e246; have qi246 : (0 < t243.length) = True := eq_true (by omega); (try rw [show ((0 : Int)).toNat = 0 from rfl] at hx246_0); (try rw [Addr.add_zero'] at hx246_0); replace p246 := eq_true p246; replace q246 := eq_true q246))
  go_loopg [18] k (fun kq v18 w' => ∃ (x18_1 : Int), v18 = .int .i64 x18_1 ∧ Aside0 (qFA.l0 kq a1 ((rdOf ByteArray.empty t243 0).size : Int) t243 (t243.length : Int) x18_1 = some (r1, r2)) ∧ Aside0 (kq ≤ k) ∧ Aside0 (Kd.R Kd.string 9 w' w.heap.size (fun _ => True) (.slice (some ad246) t243.length co6) t243) ∧ Aside0 (Below w.heap.size w w'))
  case atStart => exact ⟨(0), sD, H', ⟨Nat.le_refl _⟩, ⟨rR HO245⟩, ⟨bl⟩⟩
  case round =>
   clear H'; (try clear p2); (try clear q2); (try clear hx2); (try clear qi2); (try clear c4); (try clear c4b0); (try clear c4b1); (try clear hx246_0); (try clear p246); (try clear q246)
   obtain ⟨x18_1, rfl, HA, HK1, HO_11, HB⟩ := hrel
   cases gk with
   | zero => exact absurd HA.out (by simp [qFA.l0])
   | succ k1 =>
    have H := HA.out
    clear HA
    simp only [qFA.l0] at H
    by_cases c7 : x18_1 < (t243.length : Int)
    ·rw [if_pos c7] at H
     have c7b0 := decide_eq_true c7
     clear c7
     by_cases c8 : 0 ≤ x18_1
     case neg => exact nN c8 H
     rw [if_pos c8] at H
     have c8b0 := decide_eq_true c8
     clear c8
     by_cases c9 : x18_1 < (t243.length : Int)
     case neg => exact nN c9 H
     rw [if_pos c9] at H
     have c9b0 := decide_eq_true c9
     clear c9
     by_cases c10 : ((rdOf ByteArray.empty t243 x18_1).size : Int) = ((rdOf ByteArray.empty t243 0).size : Int)
     ·rw [if_pos c10] at H
      have c10b0 := beq_iff_eq.mpr c10
      have c10b1 := bne_eq_false_iff_eq.mpr c10
      have c10b2 : ((rdOf ByteArray.empty t243 x18_1).size == (rdOf ByteArray.empty t243 0).size) = true := by first | simpa using c10 | (simp at c10 ⊢; omega)
      clear c10
      replace H := bO H
      obtain ⟨t248, A11, H⟩ := H
      by_cases c12 : t248.toList = ([] : List UInt8)
      ·rw [if_pos c12] at H
       have c12b0 := beq_iff_eq.mpr c12
       have c12b1 := bne_eq_false_iff_eq.mpr c12
       clear c12
       have H' := aM H
       clear H
       have p247 : 0 ≤ (x18_1 : Int) := of_decide_eq_true am
       have q247 : x18_1 < (t243.length : Int) := of_decide_eq_true am
       obtain ⟨ad247, e247, hx247_0⟩ := Kd.qbB (Kd.qT HO_11.out).2.2 x18_1 p247 q247
       obtain rfl : ad246 = ad247 := (by injection e247)
       replace p247 := eq_true p247
       replace q247 := eq_true q247
       go_wp2_with (first | (go_at_call 48; (with_reducible refine (qlA.calls (rdOf ByteArray.empty t243 x18_1) a1 t248 _ A11.out).mono ?_); rintro e w13 ⟨rfl, hb⟩; replace HO_11 := aM (Kd.qY (rR HO_11) hb); replace HB := aM (qB bl hb); (try clear hb); (try clear hb2); (try clear hk); (try clear hi)))
       go_roundg k1
       case measure => have := HK1.out; omega
       case rel => exact ⟨(wrap64 (x18_1 + 1)), sD, H', ⟨by have := HK1.out; omega⟩, ⟨rR HO_11⟩, ⟨bl⟩⟩
      ·rw [if_neg c12] at H
       have c12b0 := beq_eq_false_iff_ne.mpr c12
       have c12b1 := bne_iff_ne.mpr c12
       simp only [Option.some.injEq, Prod.mk.injEq] at H
       obtain ⟨rfl, rfl⟩ := H
       have p247 : 0 ≤ (x18_1 : Int) := of_decide_eq_true am
       have q247 : x18_1 < (t243.length : Int) := of_decide_eq_true am
       obtain ⟨ad247, e247, hx247_0⟩ := Kd.qbB (Kd.qT HO_11.out).2.2 x18_1 p247 q247
       obtain rfl : ad246 = ad247 := (by injection e247)
       replace p247 := eq_true p247
       replace q247 := eq_true q247
       go_wp2_with (first | (go_at_call 48; (with_reducible refine (qlA.calls (rdOf ByteArray.empty t243 x18_1) a1 t248 _ A11.out).mono ?_); rintro e w14 ⟨rfl, hb⟩; replace HO_11 := aM (Kd.qY (rR HO_11) hb); replace HB := aM (qB bl hb); (try clear hb); (try clear hb2); (try clear hk); (try clear hi)))
       go_ret2
       exact ⟨_, sR, nK, bl⟩
     ·rw [if_neg c10] at H
      have c10b0 := beq_eq_false_iff_ne.mpr c10
      have c10b1 := bne_iff_ne.mpr c10
      have c10b2 : ((rdOf ByteArray.empty t243 x18_1).size == (rdOf ByteArray.empty t243 0).size) = false := by first | simpa using c10 | (simp at c10 ⊢; omega)
      simp only [Option.some.injEq, Prod.mk.injEq] at H
      obtain ⟨rfl, rfl⟩ := H
      have p247 : 0 ≤ (x18_1 : Int) := of_decide_eq_true am
      have q247 : x18_1 < (t243.length : Int) := of_decide_eq_true am
      obtain ⟨ad247, e247, hx247_0⟩ := Kd.qbB (Kd.qT HO_11.out).2.2 x18_1 p247 q247
      obtain rfl : ad246 = ad247 := (by injection e247)
      replace p247 := eq_true p247
      replace q247 := eq_true q247
      go_wp2
      go_ret2
      exact ⟨_, sR, nK, bl⟩
    ·rw [if_neg c7] at H
     have c7b0 := decide_eq_false c7
     clear c7
     replace H := bO H
     obtain ⟨t249, A15, H⟩ := H
     by_cases c16 : t249 = true
     ·subst c16
      replace H := iT H
      replace H := bO H
      obtain ⟨t250, A17, H⟩ := H
      by_cases c18 : t250 = true
      ·subst c18
       replace H := iT H
       simp only [Option.some.injEq, Prod.mk.injEq] at H
       obtain ⟨rfl, rfl⟩ := H
       go_wp2_with (first | ((with_reducible refine qJ (f := 49) rfl ?_); refine qZ (some 36) rfl rfl Tryd.func49 (by kernel_rfl) rfl #[.int .i64 (t243.length : Int), .int .i64 1, .int .i64 7] rfl gA ?_; (with_reducible refine (qaA.calls (t243.length : Int) 1 7 true _ A15.out).mono ?_); rintro e w' ⟨rfl, ⟨nd, rfl⟩⟩; refine ⟨_, rfl, ?_⟩) | (go_at_call 49; (with_reducible refine (qaA.calls ((rdOf ByteArray.empty t243 0).size : Int) 1 7 true _ A17.out).mono ?_); rintro e w' ⟨rfl, ⟨nd, rfl⟩⟩))
       go_ret2
       exact ⟨_, sR, by (with_reducible repeat (first | apply Kd.qo | apply Kd.qr | apply Kd.qc)); exact HO_11.out, bl⟩
      ·replace c18 := Bool.eq_false_iff.mpr c18
       subst c18
       replace H := iF H
       simp only [Option.some.injEq, Prod.mk.injEq] at H
       obtain ⟨rfl, rfl⟩ := H
       go_wp2_with (first | ((with_reducible refine qJ (f := 49) rfl ?_); refine qZ (some 36) rfl rfl Tryd.func49 (by kernel_rfl) rfl #[.int .i64 (t243.length : Int), .int .i64 1, .int .i64 7] rfl gA ?_; (with_reducible refine (qaA.calls (t243.length : Int) 1 7 true _ A15.out).mono ?_); rintro e w' ⟨rfl, ⟨nd, rfl⟩⟩; refine ⟨_, rfl, ?_⟩) | (go_at_call 49; (with_reducible refine (qaA.calls ((rdOf ByteArray.empty t243 0).size : Int) 1 7 false _ A17.out).mono ?_); rintro e w' ⟨rfl, ⟨nd, rfl⟩⟩))
       go_ret2
       exact ⟨_, sR, by (with_reducible repeat (first | apply Kd.qo | apply Kd.qr | apply Kd.qc)); exact HO_11.out, bl⟩
     ·replace c16 := Bool.eq_false_iff.mpr c16
      subst c16
      replace H := iF H
      simp only [Option.some.injEq, Prod.mk.injEq] at H
      obtain ⟨rfl, rfl⟩ := H
      go_wp2_with (first | ((with_reducible refine qJ (f := 49) rfl ?_); refine qZ (some 36) rfl rfl Tryd.func49 (by kernel_rfl) rfl #[.int .i64 (t243.length : Int), .int .i64 1, .int .i64 7] rfl gA ?_; (with_reducible refine (qaA.calls (t243.length : Int) 1 7 false _ A15.out).mono ?_); rintro e w' ⟨rfl, ⟨nd, rfl⟩⟩; refine ⟨_, rfl, ?_⟩))
      go_ret2
      exact ⟨_, sR, by (with_reducible repeat (first | apply Kd.qo | apply Kd.qr | apply Kd.qc)); exact HO_11.out, bl⟩
 ·rw [if_neg c4] at H
  exact absurd H (by simp)
end Go.Proofs.YtdhbimankkpllaaDoor.P
namespace Go.Proofs.YtdhbimankkpllaaDoor
open Go.RowKit Go.Proofs.YtdhbimankkpllaaDoor.P Go.Proofs.YtdhbimankkpllaaDoorW.PrintWords Go.Proofs.YtdhbimankkpllaaDoorW.PrintLast
set_option linter.unusedVariables false
set_option linter.unusedSimpArgs false
theorem qJC (n a b : Int) : qaA.f n a b = some (decide (a ≤ n) && decide (n ≤ b)) := by
 unfold qaA.f
 by_cases h : a ≤ n
 case pos => rw [if_pos h, decide_eq_true h, Bool.true_and]
 rw [if_neg h, decide_eq_false h, Bool.false_and]
theorem qrC (l : List ByteArray) (i : Nat) (h : i < l.length) : rdOf ByteArray.empty l (i : Int) = l[i] := by
 unfold rdOf
 rw [Int.toNat_natCast, List.getD_eq_getElem?_getD, List.getElem?_eq_getElem h]; rfl
theorem qUB (s : ByteArray) : s.data.toList.length = s.size := by rw [Array.length_toList]; rfl
theorem gr_bt (s : ByteArray) (i : Nat) (h : i < s.data.toList.length) : bt s (i : Int) = ((s.data.toList[i]).toNat : Int) := by
 have h' : i < s.size := by rw [← qUB]; exact h
 unfold bt
 rw [dif_pos (by simpa using h')]
 simp only [Int.toNat_natCast, Array.getElem_toList]
 rfl
def fitR (C : List UInt8) (w : Nat) (r : List UInt8) : Bool := decide (r.length = w) && r.all (C.contains ·)
def szR (w h : Nat) : Bool := decide (1 ≤ h) && decide (h ≤ 7) && decide (1 ≤ w) && decide (w ≤ 7) && decide (w * h ≤ 36)
theorem rowsOf_loop (C : ByteArray) (hC : C.size < 100) (hA : (C.data.toList.all fun b => decide (b.toNat < 128)) = true) (w : Nat) (hw : w ≤ 4294967281) (L : List ByteArray) (hL : L.length ≤ 4294967281) (hs : ∀ x ∈ L, x.size ≤ 4294967281) (d : Nat) : ∀ i : Nat, i ≤ L.length → L.length - i = d →
  Ev (fun k => qFA.l0 k C (w : Int) L (L.length : Int) (i : Int)) (if (L.drop i).all (fun x => fitR C.data.toList w x.data.toList) then (L, szR w L.length) else ([], false)) := by
 induction d with
 | zero =>
  intro i hi hd
  refine Ev.step (f := fun k => _) (fun k => by rw [qFA.l0]) ?_
  refine Ev.neg (by omega) (Ev.bindc (qJC _ _ _) ?_)
  rw [List.drop_eq_nil_of_le (by omega), List.all_nil, if_pos rfl]
  by_cases h1 : 1 ≤ L.length ∧ L.length ≤ 7
  ·have e1 : (decide ((1 : Int) ≤ (L.length : Int)) && decide ((L.length : Int) ≤ 7)) = true := by rw [decide_eq_true (by omega), decide_eq_true (by omega)]; rfl
   refine Ev.pos e1 (Ev.bindc (qJC _ _ _) ?_)
   by_cases h2 : 1 ≤ w ∧ w ≤ 7
   ·have e2 : (decide ((1 : Int) ≤ (w : Int)) && decide ((w : Int) ≤ 7)) = true := by rw [decide_eq_true (by omega), decide_eq_true (by omega)]; rfl
    refine Ev.pos e2 (Ev.some_ ?_)
    have hm : w * L.length ≤ 7 * 7 := Nat.mul_le_mul h2.2 h1.2
    have hc : ((w : Int) * (L.length : Int)) = ((w * L.length : Nat) : Int) := by push_cast; rfl
    rw [hc]
    generalize hn : w * L.length = n at *
    have ew : wrap64 (n : Int) = (n : Int) := by unfold wrap64; omega
    rw [ew]
    have : szR w L.length = decide (n ≤ 36) := by
     unfold szR
     rw [hn, decide_eq_true h1.1, decide_eq_true h1.2, decide_eq_true h2.1, decide_eq_true h2.2]; rfl
    rw [this]
    congr 1
    exact decide_eq_decide.2 (by omega)
   ·refine Ev.neg (by simp only [Bool.and_eq_true, decide_eq_true_eq]; omega) (Ev.some_ ?_)
    have : szR w L.length = false := by
     unfold szR
     simp only [Bool.and_eq_false_iff, decide_eq_false_iff_not]; omega
    rw [this]
  ·refine Ev.neg (by simp only [Bool.and_eq_true, decide_eq_true_eq]; omega) (Ev.some_ ?_)
   have : szR w L.length = false := by
    unfold szR
    simp only [Bool.and_eq_false_iff, decide_eq_false_iff_not]; omega
   rw [this]
 | succ d ih =>
  intro i hi hd
  have h : i < L.length := by omega
  refine Ev.step (f := fun k => _) (fun k => by rw [qFA.l0]) ?_
  refine Ev.pos (by omega) (Ev.pos (by omega) (Ev.pos (by omega) ?_))
  rw [qrC L i h, List.drop_eq_getElem_cons h, List.all_cons, show wrap64 ((i : Int) + 1) = ((i + 1 : Nat) : Int) by unfold wrap64; omega]
  have hsz := hs _ (List.getElem_mem h)
  have ihh := ih (i + 1) (by omega) (by omega)
  generalize L[i] = x at *
  by_cases hx : x.size = w
  ·refine Ev.pos (by omega) (Ev.bindc (show qlA.f x C = some _ from by unfold qlA.f; rw [if_pos ⟨by omega, by omega, hA⟩]) ?_)
   have ht : (⟨(Lib.trimS x.data.toList C.data.toList).toArray⟩ : ByteArray).toList = Lib.trimS x.data.toList C.data.toList := by
    rw [Lib.toList_data]
   by_cases hal : x.data.toList.all (C.data.toList.contains ·) = true
   ·refine Ev.pos (by rw [ht]; exact (trimS_nil _ _).2 hal) ?_
    have : fitR C.data.toList w x.data.toList = true := by
     unfold fitR
     rw [hal, Bool.and_true, decide_eq_true (by rw [qUB]; exact hx)]
    rw [this, Bool.true_and]
    exact ihh
   ·refine Ev.neg (by rw [ht]; exact fun e => hal ((trimS_nil _ _).1 e)) (Ev.some_ ?_)
    have : fitR C.data.toList w x.data.toList = false := by
     unfold fitR
     rw [Bool.eq_false_iff.2 hal, Bool.and_false]
    rw [this]; rfl
  ·refine Ev.neg (by omega) (Ev.some_ ?_)
   have : fitR C.data.toList w x.data.toList = false := by
    unfold fitR
    rw [decide_eq_false (by rw [qUB]; exact hx), Bool.false_and]
   rw [this]; rfl
def rowsT (a : ByteArray) : List ByteArray := Lib.splitB ⟨#[47]⟩ 0 (Lib.countB a ⟨#[47]⟩) a
theorem qYB (a : ByteArray) : (rowsT a).map (·.data.toList) = (sp 47 a.data.toList).1 :: (sp 47 a.data.toList).2 := split_sp a 47
def wideT (a : ByteArray) : Nat := (sp 47 a.data.toList).1.length
def highT (a : ByteArray) : Nat := (sp 47 a.data.toList).2.length + 1
theorem qWB (a : ByteArray) : (rowsT a).length = highT a := by
 have := congrArg List.length (qYB a)
 simpa [highT] using this
def rowsFit (C : List UInt8) (a : ByteArray) : Bool := ((sp 47 a.data.toList).1 :: (sp 47 a.data.toList).2).all (fitR C (wideT a))
theorem sum_le_mem (l : List Nat) : ∀ x ∈ l, x ≤ l.sum := by
 induction l with
 | nil => intro x h; cases h
 | cons b l ih =>
  intro x h
  rw [List.sum_cons]
  rcases List.mem_cons.1 h with rfl | h
  ·omega
  ·have := ih x h; omega
theorem rowsT_size (a : ByteArray) : ∀ x ∈ rowsT a, x.size ≤ a.size := by
 intro x hx
 have h1 : x.data.toList ∈ (rowsT a).map (·.data.toList) := List.mem_map_of_mem hx
 rw [qYB] at h1
 have h2 := qNC 47 a.data.toList
 rw [qUB] at h2
 rw [← qUB x]
 rcases List.mem_cons.1 h1 with h | h
 ·rw [h]; omega
 ·have := sum_le_mem _ _ (List.mem_map_of_mem (f := List.length) h); omega
theorem rowsOf_ev (a C : ByteArray) (ha : a.size ≤ 1048576) (hC : C.size < 100) (hA : (C.data.toList.all fun b => decide (b.toNat < 128)) = true) :
  Ev (fun k => qFA.f k a C) (if rowsFit C.data.toList a then (rowsT a, szR (wideT a) (highT a)) else ([], false)) := by
 unfold qFA.f
 refine Ev.bindc (show strings_Split.f a ⟨#[47]⟩ = some (rowsT a) from by unfold strings_Split.f; rw [if_pos ⟨by omega, by decide⟩]; rfl) ?_
 have hlen := qWB a
 have hl2 := qNC 47 a.data.toList
 rw [qUB] at hl2
 have hh : highT a ≤ a.size + 1 := by unfold highT; omega
 have h0 : 0 < (rowsT a).length := by rw [hlen]; unfold highT; omega
 refine Ev.pos (by omega) ?_
 have e0 : rdOf ByteArray.empty (rowsT a) 0 = (rowsT a)[0] := qrC (rowsT a) 0 h0
 have e1 : ((rowsT a)[0]).size = wideT a := by
  have := qYB a
  have h2 : ((rowsT a).map (·.data.toList))[0]'(by simpa using h0) = (sp 47 a.data.toList).1 := by
   simp only [this, List.getElem_cons_zero]
  rw [List.getElem_map] at h2
  rw [← qUB, h2]; rfl
 rw [e0, e1]
 have hw : wideT a ≤ a.size := by rw [← e1]; exact rowsT_size a _ (List.getElem_mem h0)
 have := rowsOf_loop C hC hA (wideT a) (by omega) (rowsT a) (by omega) (fun x hx => by have := rowsT_size a x hx; omega) (rowsT a).length 0 (by omega) (by omega)
 rw [List.drop_zero] at this
 have e2 : (rowsT a).all (fun x => fitR C.data.toList (wideT a) x.data.toList) = rowsFit C.data.toList a := by
  unfold rowsFit
  rw [← qYB, List.all_map]; rfl
 rw [e2] at this
 rw [← hlen]
 exact this
end Go.Proofs.YtdhbimankkpllaaDoor
namespace Go.Proofs.YtdhbimankkpllaaDoor.P
open Go.RowKit Go.Proofs.YtdhbimankkpllaaDoorW.PrintWords Go.Proofs.YtdhbimankkpllaaDoorW.PrintLast Go.Proofs.YtdhbimankkpllaaDoorW.PrintMore
attribute [local go_sem] qg qe qq qp qX qW qf qd
set_option linter.unusedVariables false
set_option linter.unusedSimpArgs false
def qFB.f (k : Nat) (a0 : ByteArray) : Option (List ByteArray × Bool) := (qFA.f k a0 (⟨#[46, 35]⟩ : ByteArray)).bind fun bt251 => (some (bt251.1, bt251.2))
set_option maxHeartbeats 8000000 in
set_option maxRecDepth 100000 in
theorem qFB.calls (k : Nat) (a0 : ByteArray) (r1 : List ByteArray) (r2 : Bool) (w : World) (hL : Laid w) (h : qFB.f k a0 = some (r1, r2)) :
  Calls Tryd.prog 32 #[.string a0] w fun e w' => ∃ v0_ : Value, e = .returned (.tuple #[v0_, .bool r2]) ∧ Kd.R Kd.string 9 w' w.heap.size (fun _ => True) v0_ r1 ∧ Below w.heap.size w w' := by
 have HLD := aM hL
 clear hL
 have HB := aM (Below.refl w.heap.size w)
 have H : ((qFA.f k a0 (⟨#[46, 35]⟩ : ByteArray)).bind fun bt251 => (some (bt251.1, bt251.2))) = some (r1, r2) := h
 clear h
 replace H := bO H
 obtain ⟨⟨t251, t252⟩, A2, H⟩ := H
 dsimp only at H A2
 simp only [Option.some.injEq, Prod.mk.injEq] at H
 obtain ⟨rfl, rfl⟩ := H
 go_enter Tryd.func32, Tryd.ntmps32
 go_wp2_with (first | ((with_reducible refine qJ (f := 42) rfl ?_); refine qZ (some 5) rfl rfl Tryd.func42 (by kernel_rfl) rfl #[.string a0, .string (⟨#[46, 35]⟩ : ByteArray)] rfl gA ?_; (with_reducible refine (qFA.calls k a0 (⟨#[46, 35]⟩ : ByteArray) t251 t252 _ ?side1 A2.out).mono ?_); (case side1 => first | (with_reducible exact HLD.out) | exact Laid.below HLD.out bl); rintro e w3 ⟨v253, rfl, ho0, hb⟩; refine ⟨_, rfl, ?_⟩; have HO254 := aM (Kd.qSA ho0 (qk bl)); replace HB := aM (qB bl hb); (try clear hb); (try clear hb2); (try clear hk); (try clear hi); (try clear ho0)))
 go_ret2
 exact ⟨_, sR, by (with_reducible repeat (first | apply Kd.qo | apply Kd.qr | apply Kd.qc)); exact HO254.out, bl⟩
end Go.Proofs.YtdhbimankkpllaaDoor.P
namespace Go.Proofs.YtdhbimankkpllaaDoor
open Go.RowKit Go.Proofs.YtdhbimankkpllaaDoor.P Go.Proofs.YtdhbimankkpllaaDoorW.PrintWords Go.Proofs.YtdhbimankkpllaaDoorW.PrintLast
set_option linter.unusedVariables false
set_option linter.unusedSimpArgs false
abbrev RdG := Int × Int × List Int × Bool
def badG : RdG := (0, 0, [], false)
def finG (w h : Nat) (cs : List Int) : RdG := if 7 < w then badG else if 7 < h then badG else if 36 < cs.length then badG else ((w : Int), (h : Int), cs, true)
def runG : List UInt8 → Nat → Nat → Nat → List Int → RdG
 | [], x, w, h, cs => if (0 < h ∧ x ≠ w) ∨ x = 0 then badG else finG x (h + 1) cs
 | c :: r, x, w, h, cs =>
  if c = 47 then (if (0 < h ∧ x ≠ w) ∨ x = 0 then badG else runG r 0 x (h + 1) cs)
  else if c = 46 ∨ c = 35 then runG r (x + 1) w h (cs ++ [(c.toNat : Int)])
  else badG
theorem u8eq (c : UInt8) (n : Nat) (hn : n < 256) : ((c.toNat : Int) = (n : Int)) ↔ c = UInt8.ofNat n := by
 constructor
 ·intro h
  have : c.toNat = n := by omega
  rw [← this]; simp
 ·intro h
  subst h
  simp; omega
theorem bx_end (a : ByteArray) (ha : a.size ≤ 42) (w h : Nat) (cs : List Int) : Ev (fun k => qP.l0 k a 0 ((a.size : Int) + 1) (w : Int) (h : Int) cs) (finG w h cs) := by
 refine Ev.step (f := fun k => _) (fun k => by rw [qP.l0]) ?_
 refine Ev.neg (by omega) ?_
 unfold finG
 by_cases h1 : 7 < w
 ·rw [if_pos h1]; exact Ev.pos (by omega) (Ev.now _)
 rw [if_neg h1]; refine Ev.neg (by omega) ?_
 by_cases h2 : 7 < h
 ·rw [if_pos h2]; exact Ev.pos (by omega) (Ev.now _)
 rw [if_neg h2]; refine Ev.neg (by omega) ?_
 by_cases h3 : 36 < cs.length
 ·rw [if_pos h3]; exact Ev.pos (by omega) (Ev.now _)
 rw [if_neg h3]; exact Ev.neg (by omega) (Ev.now _)
theorem bx_sep (a : ByteArray) (i x w h : Nat) (cs : List Int) (hx : x ≤ 100) (hh : h ≤ 100) (hi : i ≤ 100) (R : RdG)
  (hR : Ev (fun k => qP.l0 k a 0 ((i : Int) + 1) (x : Int) ((h + 1 : Nat) : Int) cs) R) :
  Ev (fun k => qP.j1 k a (x : Int) (i : Int) false (w : Int) (h : Int) cs) (if (0 < h ∧ x ≠ w) ∨ x = 0 then badG else R) := by
 have w1 : wrap64 ((i : Int) + 1) = (i : Int) + 1 := by unfold wrap64; omega
 have w2 : wrap64 ((h : Int) + 1) = ((h + 1 : Nat) : Int) := by unfold wrap64; omega
 refine Ev.step (f := fun k => _) (fun k => by rw [qP.j1]) ?_
 refine Ev.neg (by decide) ?_
 rw [w1, w2]
 by_cases h1 : 0 < h
 ·refine Ev.pos (by omega) ?_
  by_cases h2 : x = w
  case neg => rw [if_pos (.inl ⟨h1, h2⟩)]; exact Ev.neg (by omega) (Ev.now _)
  refine Ev.pos (by omega) ?_
  by_cases h3 : x = 0
  case neg => rw [if_neg (by omega)]; exact Ev.neg (by omega) hR
  rw [if_pos (.inr h3)]; exact Ev.pos (by omega) (Ev.now _)
 ·refine Ev.neg (by omega) ?_
  by_cases h3 : x = 0
  case pos => rw [if_pos (.inr h3)]; exact Ev.pos (by omega) (Ev.now _)
  rw [if_neg (by omega)]; exact Ev.neg (by omega) hR
theorem bx_loop (a : ByteArray) (ha : a.size ≤ 42) (d : Nat) : ∀ (i x w h : Nat) (cs : List Int), i ≤ a.size → a.size - i = d → x ≤ i → h ≤ i → cs.length ≤ i →
  Ev (fun k => qP.l0 k a (x : Int) (i : Int) (w : Int) (h : Int) cs) (runG (a.data.toList.drop i) x w h cs) := by
 have hsz := qUB a
 induction d with
 | zero =>
  intro i x w h cs hi hd hx hh hc
  obtain rfl : i = a.size := by omega
  refine Ev.step (f := fun k => _) (fun k => by rw [qP.l0]) ?_
  refine Ev.pos (by omega) (Ev.neg (by omega) ?_)
  rw [List.drop_eq_nil_of_le (by omega), runG]
  exact bx_sep a a.size x w h cs (by omega) (by omega) (by omega) _ (bx_end a ha x (h + 1) cs)
 | succ d ih =>
  intro i x w h cs hi hd hx hh hc
  have hl : i < a.data.toList.length := by omega
  have e1 : ((i : Int) + 1) = ((i + 1 : Nat) : Int) := by omega
  have w1 : wrap64 ((i : Int) + 1) = ((i + 1 : Nat) : Int) := by unfold wrap64; omega
  have w2 : wrap64 ((x : Int) + 1) = ((x + 1 : Nat) : Int) := by unfold wrap64; omega
  have hdr := List.drop_eq_getElem_cons hl
  obtain ⟨c, hcc, hb⟩ : ∃ c, a.data.toList[i] = c ∧ bt a (i : Int) = (c.toNat : Int) := ⟨_, rfl, gr_bt a i hl⟩
  rw [hcc] at hdr
  clear hcc
  have HB := Lib.hid hb
  have HW1 := Lib.hid w1
  have HW2 := Lib.hid w2
  have HD := Lib.hid hdr
  clear hb w1 w2 hdr
  refine Ev.step (f := fun k => _) (fun k => by rw [qP.l0]) ?_
  refine Ev.pos (by omega) (Ev.pos (by omega) (Ev.pos (by omega) ?_))
  rw [HD.out, HB.out, runG]
  by_cases h47 : c = 47
  ·rw [show ((c.toNat : Int) != 47) = false by subst h47; rfl, if_pos h47]
   clear HB HD h47
   refine bx_sep a i x w h cs (by omega) (by omega) (by omega) _ ?_
   rw [e1]
   exact ih (i + 1) 0 x (h + 1) cs (by omega) (by omega) (by omega) (by omega) (by omega)
  ·rw [show ((c.toNat : Int) != 47) = true by
    rw [bne_iff_ne]; intro e; exact h47 ((u8eq c 47 (by decide)).1 e), if_neg h47]
   have go1 := ih (i + 1) (x + 1) w h (cs ++ [(c.toNat : Int)]) (by omega) (by omega) (by omega) (by omega) (by simp; omega)
   have step : ∀ R, Ev (fun k => qP.l0 k a ((x + 1 : Nat) : Int) ((i + 1 : Nat) : Int) (w : Int) (h : Int) (cs ++ [(c.toNat : Int)])) R →
     Ev (fun k => qP.j2 k a (x : Int) (i : Int) false (w : Int) (h : Int) cs) R := fun R hR => by
    refine Ev.step (f := fun k => _) (fun k => by rw [qP.j2]) ?_
    refine Ev.neg (by decide) (Ev.pos (by omega) (Ev.pos (by omega) (Ev.pos (by omega) ?_)))
    rw [HW1.out, HW2.out, HB.out]
    exact hR
   refine Ev.step (f := fun k => _) (fun k => by rw [qP.j1]) ?_
   refine Ev.pos rfl (Ev.pos (by omega) (Ev.pos (by omega) ?_))
   rw [HB.out]
   by_cases h46 : c = 46
   case pos => rw [if_pos (.inl h46)]; exact Ev.pos (by subst h46; rfl) (step _ go1)
   refine Ev.neg (fun e => h46 ((u8eq c 46 (by decide)).1 e)) ?_
   by_cases h35 : c = 35
   case pos => rw [if_pos (.inr h35), show ((c.toNat : Int) != 35) = false by subst h35; rfl]; exact step _ go1
   rw [if_neg (by simp [h46, h35]), show ((c.toNat : Int) != 35) = true by
     rw [bne_iff_ne]; intro e; exact h35 ((u8eq c 35 (by decide)).1 e)]
   refine Ev.step (f := fun k => _) (fun k => by rw [qP.j2]) ?_
   exact Ev.pos rfl (Ev.now _)
def cB : List UInt8 := [46, 35]
def numsOf (l : List UInt8) : List Int := l.map fun c => (c.toNat : Int)
def flatT (l : List UInt8) : List UInt8 := (sp 47 l).1 ++ (sp 47 l).2.flatten
theorem runG_eq (l : List UInt8) : ∀ (x w h : Nat) (cs : List Int), runG l x w h cs =
  if (l.all (fun b => b == 47 || cB.contains b)) = true ∧ x + (sp 47 l).1.length ≠ 0 ∧ (0 < h → x + (sp 47 l).1.length = w) ∧ (∀ r ∈ (sp 47 l).2, r.length = x + (sp 47 l).1.length)
  then finG (x + (sp 47 l).1.length) (h + ((sp 47 l).2.length + 1)) (cs ++ numsOf (flatT l)) else badG := by
 induction l with
 | nil =>
  intro x w h cs
  rw [runG]
  simp only [sp, List.all_nil, List.length_nil, Nat.add_zero, flatT, List.flatten_nil, List.append_nil, numsOf, List.map_nil, Nat.zero_add]
  by_cases hb : (0 < h ∧ x ≠ w) ∨ x = 0
  case neg => rw [if_neg hb, if_pos ⟨trivial, fun e => hb (.inr e), fun h3 => Classical.byContradiction fun h4 => hb (.inl ⟨h3, h4⟩), by simp⟩]
  rw [if_pos hb, if_neg (by rintro ⟨_, h1, h2, _⟩; exact hb.elim (fun h34 => h34.2 (h2 h34.1)) h1)]
 | cons c r ih =>
  intro x w h cs
  rw [runG]
  by_cases h47 : c = 47
  ·subst h47
   rw [if_pos rfl]
   simp only [sp, if_true, List.all_cons, beq_self_eq_true, Bool.true_or, Bool.true_and, List.length_nil, Nat.add_zero, flatT, List.nil_append, List.flatten_cons, List.length_cons]
   by_cases hb : (0 < h ∧ x ≠ w) ∨ x = 0
   case pos => rw [if_pos hb, if_neg (by rintro ⟨_, h1, h2, _⟩; exact hb.elim (fun h34 => h34.2 (h2 h34.1)) h1)]
   rw [if_neg hb, ih]
   have hx0 : x ≠ 0 := fun e => hb (.inr e)
   have hxw : 0 < h → x = w := fun h3 => Classical.byContradiction fun h4 => hb (.inl ⟨h3, h4⟩)
   by_cases hg : (r.all (fun b => b == 47 || cB.contains b)) = true ∧ ∀ q ∈ (sp 47 r).1 :: (sp 47 r).2, q.length = x
   ·have hf : (sp 47 r).1.length = x := hg.2 _ (List.mem_cons_self)
    rw [if_pos ⟨hg.1, by omega, fun _ => by omega, fun q hq => by have := hg.2 q (List.mem_cons_of_mem _ hq); omega⟩, if_pos ⟨hg.1, hx0, hxw, hg.2⟩]
    congr 1
    ·omega
    ·omega
   ·rw [if_neg, if_neg]
    ·rintro ⟨h1, _, _, h4⟩; exact hg ⟨h1, h4⟩
    ·rintro ⟨h1, _, h3, h4⟩
     have h5 := h3 (by omega)
     refine hg ⟨h1, fun q hq => ?_⟩
     rcases List.mem_cons.1 hq with rfl | hq
     ·omega
     ·have := h4 q hq; omega
  ·rw [if_neg h47]
   have e47 : (c == 47) = false := by simpa using h47
   simp only [sp, if_neg h47, List.all_cons, e47, Bool.false_or, List.length_cons]
   have hsh : x + ((sp 47 r).1.length + 1) = x + 1 + (sp 47 r).1.length := by omega
   by_cases h3 : c = 46 ∨ c = 35
   case pos => (have hc : cB.contains c = true := by rcases h3 with rfl | rfl <;> decide); rw [if_pos h3, ih, hc, Bool.true_and, hsh]; simp only [flatT, sp, if_neg h47, numsOf, List.cons_append, List.map_cons, List.append_assoc, List.nil_append]
   rw [if_neg h3, if_neg]
   rintro ⟨h1, _⟩
   have : cB.contains c = false := by
    simp only [cB, List.contains_cons, List.contains_nil, Bool.or_false, Bool.or_eq_false_iff, beq_eq_false_iff_ne]
    exact ⟨fun e => h3 (.inl e), fun e => h3 (.inr e)⟩
   rw [this] at h1; simp at h1
theorem qcC (f : Nat) : ∀ (L : List (List UInt8)), (∀ r ∈ L, r.length = f) → L.flatten.length = f * L.length ∧ (L.map List.length).sum = f * L.length
 | [], _ => by simp
 | a :: L, h => by
  obtain ⟨h1, h2⟩ := qcC f L (fun r hr => h r (List.mem_cons_of_mem _ hr))
  have h3 := h a List.mem_cons_self
  simp only [List.flatten_cons, List.length_append, List.map_cons, List.sum_cons, List.length_cons, h1, h2, h3, Nat.mul_add, Nat.mul_one]
  omega
def boardB (a : ByteArray) : Bool := rowsFit cB a && szR (wideT a) (highT a)
theorem qeB (a : ByteArray) : rowsFit cB a = true ↔ (a.data.toList.all (fun b => b == 47 || cB.contains b)) = true ∧ ∀ r ∈ (sp 47 a.data.toList).2, r.length = wideT a := by
 have hs := sp_all 47 (cB.contains ·) a.data.toList (by decide)
 unfold rowsFit
 rw [← hs, List.all_cons]
 unfold fitR wideT
 simp only [Bool.and_eq_true, decide_eq_true_eq, List.all_eq_true, true_and]
 constructor
 ·rintro ⟨h1, h2⟩
  exact ⟨⟨h1, fun r hr => (h2 r hr).2⟩, fun r hr => (h2 r hr).1⟩
 ·rintro ⟨⟨h1, h2⟩, h3⟩
  exact ⟨h1, fun r hr => ⟨h3 r hr, h2 r hr⟩⟩
theorem boRead_ev (a : ByteArray) : Ev (fun k => qP.f k a) (if boardB a then ((wideT a : Int), (highT a : Int), numsOf (flatT a.data.toList), true) else badG) := by
 have hl := qNC 47 a.data.toList
 rw [qUB] at hl
 unfold qP.f
 by_cases h42 : a.size ≤ 42
 ·refine Ev.neg (by omega) ?_
  have := bx_loop a h42 a.size 0 0 0 0 [] (by omega) (by omega) (by omega) (by omega) (by simp)
  rw [List.drop_zero, runG_eq] at this
  simp only [Nat.zero_add, List.nil_append, Nat.lt_irrefl, false_implies, true_and] at this
  have e : (if (a.data.toList.all (fun b => b == 47 || cB.contains b)) = true ∧ (sp 47 a.data.toList).1.length ≠ 0 ∧ (∀ r ∈ (sp 47 a.data.toList).2, r.length = (sp 47 a.data.toList).1.length) then finG (sp 47 a.data.toList).1.length ((sp 47 a.data.toList).2.length + 1) (numsOf (flatT a.data.toList)) else badG) = (if boardB a then ((wideT a : Int), (highT a : Int), numsOf (flatT a.data.toList), true) else badG) := by
   have hw : (sp 47 a.data.toList).1.length = wideT a := rfl
   have hh : (sp 47 a.data.toList).2.length + 1 = highT a := rfl
   rw [hw, hh]
   unfold boardB
   by_cases hr : rowsFit cB a = true
   case neg => rw [if_neg (fun h => hr ((qeB a).2 ⟨h.1, h.2.2⟩)), Bool.eq_false_iff.2 hr]; simp
   obtain ⟨h1, h2⟩ := (qeB a).1 hr
   obtain ⟨f1, f2⟩ := qcC (wideT a) (sp 47 a.data.toList).2 h2
   have hfl : (numsOf (flatT a.data.toList)).length = wideT a * highT a := by
    simp only [numsOf, List.length_map, flatT, List.length_append, f1, hw, ← hh, Nat.mul_add, Nat.mul_one]; omega
   rw [hr, Bool.true_and]
   by_cases h0 : wideT a ≠ 0
   ·rw [if_pos ⟨h1, h0, h2⟩]
    unfold finG szR
    rw [hfl]
    have hh1 : 1 ≤ highT a := by omega
    rw [decide_eq_true hh1, Bool.true_and, decide_eq_true (show 1 ≤ wideT a by omega)]
    by_cases a1 : 7 < wideT a
    ·rw [if_pos a1, decide_eq_false (show ¬ wideT a ≤ 7 by omega)]; simp
    rw [if_neg a1, decide_eq_true (show wideT a ≤ 7 by omega)]
    by_cases a2 : 7 < highT a
    ·rw [if_pos a2, decide_eq_false (show ¬ highT a ≤ 7 by omega)]; simp
    rw [if_neg a2, decide_eq_true (show highT a ≤ 7 by omega)]
    by_cases a3 : 36 < wideT a * highT a
    case neg => rw [if_neg a3, decide_eq_true (show wideT a * highT a ≤ 36 by omega)]; simp
    rw [if_pos a3, decide_eq_false (show ¬ wideT a * highT a ≤ 36 by omega)]; simp
   ·rw [if_neg (fun h => h0 h.2.1)]
    have : szR (wideT a) (highT a) = false := by
     unfold szR
     simp only [Bool.and_eq_false_iff, decide_eq_false_iff_not]; omega
    rw [this]; simp
  rw [e] at this
  exact this
 ·refine Ev.pos (by omega) (Ev.some_ ?_)
  have : boardB a = false := by
   cases hg : boardB a with
   | false => rfl
   | true =>
    unfold boardB szR at hg
    simp only [Bool.and_eq_true, decide_eq_true_eq] at hg
    obtain ⟨hr, ⟨⟨⟨g1, g2⟩, g3⟩, g4⟩, g5⟩ := hg
    obtain ⟨h1, h2⟩ := (qeB a).1 hr
    obtain ⟨f1, f2⟩ := qcC (wideT a) (sp 47 a.data.toList).2 h2
    rw [f2] at hl
    have hw : (sp 47 a.data.toList).1.length = wideT a := rfl
    have hh : (sp 47 a.data.toList).2.length + 1 = highT a := rfl
    have : wideT a * highT a = wideT a + wideT a * (sp 47 a.data.toList).2.length := by rw [← hh, Nat.mul_add, Nat.mul_one]; omega
    omega
  rw [this]; rfl
theorem board_ev (a : ByteArray) (ha : a.size ≤ 1048576) : ∃ rows : List ByteArray, Ev (fun k => qFB.f k a) (rows, boardB a) ∧ (boardB a = true → rows = rowsT a) := by
 have h := rowsOf_ev a ⟨#[46, 35]⟩ ha (by decide) (by decide)
 have hc : (⟨#[46, 35]⟩ : ByteArray).data.toList = cB := rfl
 rw [hc] at h
 unfold qFB.f
 unfold boardB
 cases hr : rowsFit cB a with
 | false =>
  rw [hr, if_neg (by decide)] at h
  exact ⟨[], Ev.bind h (Ev.now _), fun e => by cases e⟩
 | true =>
  rw [hr, if_pos rfl] at h
  rw [Bool.true_and]
  exact ⟨rowsT a, Ev.bind h (Ev.now _), fun _ => rfl⟩
end Go.Proofs.YtdhbimankkpllaaDoor
namespace Go.Proofs.YtdhbimankkpllaaDoor.P
open Go.RowKit Go.Proofs.YtdhbimankkpllaaDoorW.PrintWords Go.Proofs.YtdhbimankkpllaaDoorW.PrintLast Go.Proofs.YtdhbimankkpllaaDoorW.PrintMore
attribute [local go_sem] qg qe qq qp qX qW qf qd
set_option linter.unusedVariables false
set_option linter.unusedSimpArgs false
def qfA.f (l0 : List ByteArray) (a1 : Int) (a2 : Int) : Option (Bool) := (qaA.f a2 0 (wrap64 ((l0.length : Int) - 1))).bind fun t255 => (if t255 = true then (if 0 < (l0.length : Int) then ((qaA.f a1 0 (wrap64 (((rdOf ByteArray.empty l0 0).size : Int) - 1))).bind fun t257 => (some t257)) else (none)) else (some false))
set_option maxHeartbeats 8000000 in
set_option maxRecDepth 100000 in
theorem qfA.calls (A0 : Option Addr) (c0 : Nat) (l0 : List ByteArray) (a1 : Int) (a2 : Int) (r : Bool) (w : World) (hr0 : Kd.C Kd.string w A0 l0.length l0) (hc0 : l0.length ≤ c0) (h : qfA.f l0 a1 a2 = some r) :
  Calls Tryd.prog 44 #[.slice A0 l0.length c0, .int .i64 a1, .int .i64 a2] w fun e w' => e = .returned (.bool r) ∧ Drawn0 w w' := by
 have HR0 := aM hr0
 have HC0 := aM hc0
 clear hr0 hc0
 have H : ((qaA.f a2 0 (wrap64 ((l0.length : Int) - 1))).bind fun t255 => (if t255 = true then (if 0 < (l0.length : Int) then ((qaA.f a1 0 (wrap64 (((rdOf ByteArray.empty l0 0).size : Int) - 1))).bind fun t257 => (some t257)) else (none)) else (some false))) = some r := h
 clear h
 replace H := bO H
 obtain ⟨t255, A4, H⟩ := H
 by_cases c5 : t255 = true
 ·subst c5
  replace H := iT H
  by_cases c6 : 0 < (l0.length : Int)
  case neg => exact nN c6 H
  rw [if_pos c6] at H
  have c6b0 := decide_eq_true c6
  have c6b1 : decide (0 < l0.length) = true := decide_eq_true (by omega)
  clear c6
  replace H := bO H
  obtain ⟨t257, A7, H⟩ := H
  obtain rfl := Option.some.inj H
  go_enter Tryd.func44, Tryd.ntmps44
  go_wp2_with (first | ((with_reducible refine qJ (f := 49) rfl ?_); refine qZ (some 11) rfl rfl Tryd.func49 (by kernel_rfl) rfl #[.int .i64 a2, .int .i64 0, .int .i64 (wrap64 ((l0.length : Int) - 1))] rfl gA ?_; (with_reducible refine (qaA.calls a2 0 (wrap64 ((l0.length : Int) - 1)) true _ A4.out).mono ?_); rintro e w' ⟨rfl, ⟨nd, rfl⟩⟩; refine ⟨_, rfl, ?_⟩; have p256 : 0 ≤ (0 : Int) := (by omega); have q256 : 0 < (l0.length : Int) := of_decide_eq_true am; obtain ⟨ad256, e256, hx256_0⟩ := Kd.qbB HR0.out 0 p256 q256; cases e256; have qi256 : (0 < l0.length) = True := eq_true (by omega); (try rw [show ((0 : Int)).toNat = 0 from rfl] at hx256_0); (try rw [Addr.add_zero'] at hx256_0); replace p256 := eq_true p256; replace q256 := eq_true q256) | (go_at_call 49; (with_reducible refine (qaA.calls a1 0 (wrap64 (((rdOf ByteArray.empty l0 0).size : Int) - 1)) t257 _ A7.out).mono ?_); rintro e w' ⟨rfl, ⟨nd, rfl⟩⟩))
  go_ret
  exact ⟨by first | rfl | (simp; done) | (simp [*]; done), dR⟩
 ·replace c5 := Bool.eq_false_iff.mpr c5
  subst c5
  replace H := iF H
  obtain rfl := Option.some.inj H
  go_enter Tryd.func44, Tryd.ntmps44
  go_wp2_with (first | ((with_reducible refine qJ (f := 49) rfl ?_); refine qZ (some 11) rfl rfl Tryd.func49 (by kernel_rfl) rfl #[.int .i64 a2, .int .i64 0, .int .i64 (wrap64 ((l0.length : Int) - 1))] rfl gA ?_; (with_reducible refine (qaA.calls a2 0 (wrap64 ((l0.length : Int) - 1)) false _ A4.out).mono ?_); rintro e w' ⟨rfl, ⟨nd, rfl⟩⟩; refine ⟨_, rfl, ?_⟩))
  go_ret
  exact ⟨by first | rfl | (simp; done) | (simp [*]; done), dR⟩
def qIA.f (l0 : List ByteArray) (a1 : Int) (a2 : Int) : Option (Int) := (qfA.f l0 a1 a2).bind fun t258 => (if t258 = true then (if 0 ≤ a2 then (if a2 < (l0.length : Int) then (if 0 ≤ a1 then (if a1 < ((rdOf ByteArray.empty l0 a2).size : Int) then (some (bt (rdOf ByteArray.empty l0 a2) a1)) else (none)) else (none)) else (none)) else (none)) else (some 0))
set_option maxHeartbeats 8000000 in
set_option maxRecDepth 100000 in
theorem qIA.calls (A0 : Option Addr) (c0 : Nat) (l0 : List ByteArray) (a1 : Int) (a2 : Int) (r : Int) (w : World) (hr0 : Kd.C Kd.string w A0 l0.length l0) (hc0 : l0.length ≤ c0) (h : qIA.f l0 a1 a2 = some r) :
  Calls Tryd.prog 36 #[.slice A0 l0.length c0, .int .i64 a1, .int .i64 a2] w fun e w' => e = .returned (.int .u8 r) ∧ Drawn0 w w' := by
 have HR0 := aM hr0
 have HC0 := aM hc0
 clear hr0 hc0
 have H : ((qfA.f l0 a1 a2).bind fun t258 => (if t258 = true then (if 0 ≤ a2 then (if a2 < (l0.length : Int) then (if 0 ≤ a1 then (if a1 < ((rdOf ByteArray.empty l0 a2).size : Int) then (some (bt (rdOf ByteArray.empty l0 a2) a1)) else (none)) else (none)) else (none)) else (none)) else (some 0))) = some r := h
 clear h
 replace H := bO H
 obtain ⟨t258, A4, H⟩ := H
 by_cases c5 : t258 = true
 ·subst c5
  replace H := iT H
  by_cases c6 : 0 ≤ a2
  case neg => exact nN c6 H
  rw [if_pos c6] at H
  have c6b0 := decide_eq_true c6
  clear c6
  by_cases c7 : a2 < (l0.length : Int)
  case neg => exact nN c7 H
  rw [if_pos c7] at H
  have c7b0 := decide_eq_true c7
  clear c7
  by_cases c8 : 0 ≤ a1
  case neg => exact nN c8 H
  rw [if_pos c8] at H
  have c8b0 := decide_eq_true c8
  clear c8
  by_cases c9 : a1 < ((rdOf ByteArray.empty l0 a2).size : Int)
  case neg => exact nN c9 H
  rw [if_pos c9] at H
  have c9b0 := decide_eq_true c9
  clear c9
  obtain rfl := Option.some.inj H
  go_enter Tryd.func36, Tryd.ntmps36
  go_wp2_with (first | ((with_reducible refine qJ (f := 44) rfl ?_); refine qZ (some 10) rfl rfl Tryd.func44 (by kernel_rfl) rfl #[.slice A0 l0.length c0, .int .i64 a1, .int .i64 a2] rfl gA ?_; (with_reducible refine (qfA.calls _ _ l0 a1 a2 true _ ?side1 ?side2 A4.out).mono ?_); (case side1 => repeat (first | exact HR0.out | (with_reducible refine Kd.qPA ?_ _) | (with_reducible refine Kd.qOA ?_ _) | (with_reducible refine Kd.qkA ?_))); (case side2 => exact HC0.out); rintro e w' ⟨rfl, ⟨nd, rfl⟩⟩; refine ⟨_, rfl, ?_⟩; have p259 : 0 ≤ (a2 : Int) := of_decide_eq_true am; have q259 : a2 < (l0.length : Int) := of_decide_eq_true am; obtain ⟨ad259, e259, hx259_0⟩ := Kd.qbB HR0.out a2 p259 q259; cases e259; replace p259 := eq_true p259; replace q259 := eq_true q259; have p10 : 0 ≤ (a1 : Int) := of_decide_eq_true am; have q10 : a1 < ((rdOf ByteArray.empty l0 a2).size : Int) := of_decide_eq_true am; have hx10 := bt_at (rdOf ByteArray.empty l0 a2) a1; replace p10 := eq_true p10; replace q10 := eq_true q10))
  go_ret
  exact ⟨by first | rfl | (simp; done) | (simp [*]; done), dR⟩
 ·replace c5 := Bool.eq_false_iff.mpr c5
  subst c5
  replace H := iF H
  obtain rfl := Option.some.inj H
  go_enter Tryd.func36, Tryd.ntmps36
  go_wp2_with (first | ((with_reducible refine qJ (f := 44) rfl ?_); refine qZ (some 10) rfl rfl Tryd.func44 (by kernel_rfl) rfl #[.slice A0 l0.length c0, .int .i64 a1, .int .i64 a2] rfl gA ?_; (with_reducible refine (qfA.calls _ _ l0 a1 a2 false _ ?side1 ?side2 A4.out).mono ?_); (case side1 => repeat (first | exact HR0.out | (with_reducible refine Kd.qPA ?_ _) | (with_reducible refine Kd.qOA ?_ _) | (with_reducible refine Kd.qkA ?_))); (case side2 => exact HC0.out); rintro e w' ⟨rfl, ⟨nd, rfl⟩⟩; refine ⟨_, rfl, ?_⟩))
  go_ret
  exact ⟨by first | rfl | (simp; done) | (simp [*]; done), dR⟩
end Go.Proofs.YtdhbimankkpllaaDoor.P
namespace Go.Proofs.YtdhbimankkpllaaDoor
open Go.RowKit Go.Proofs.YtdhbimankkpllaaDoor.P Go.Proofs.YtdhbimankkpllaaDoorW.PrintWords Go.Proofs.YtdhbimankkpllaaDoorW.PrintLast
set_option linter.unusedVariables false
set_option linter.unusedSimpArgs false
theorem bx_specIn (n a b : Int) : qXA.f n a b = some (decide (a ≤ n) && decide (n ≤ b)) := by
 unfold qXA.f
 by_cases h : n ≥ a
 case pos => rw [if_pos h, decide_eq_true (show a ≤ n from h), Bool.true_and]
 rw [if_neg h, decide_eq_false (show ¬ a ≤ n from h), Bool.false_and]
def rowsL (a : ByteArray) : List (List UInt8) := (sp 47 a.data.toList).1 :: (sp 47 a.data.toList).2
theorem flat_get (w : Nat) : ∀ (L : List (List UInt8)) (i j : Nat), (∀ r ∈ L, r.length = w) → i < L.length → j < w → L.flatten[i * w + j]? = (L[i]?.bind fun r => r[j]?)
 | [], i, j, _, hi, _ => by simp at hi
 | r :: L, 0, j, h, _, hj => by
  have := h r List.mem_cons_self
  simp only [List.flatten_cons, Nat.zero_mul, Nat.zero_add, List.getElem?_cons_zero, Option.bind_some]
  rw [List.getElem?_append_left (by omega)]
 | r :: L, i + 1, j, h, hi, hj => by
  have h1 := h r List.mem_cons_self
  have ih := flat_get w L i j (fun q hq => h q (List.mem_cons_of_mem _ hq)) (by simpa using hi) hj
  simp only [List.flatten_cons, List.getElem?_cons_succ]
  have e : (i + 1) * w + j = r.length + (i * w + j) := by rw [Nat.add_mul, h1]; omega
  rw [e, List.getElem?_append_right (by omega), Nat.add_sub_cancel_left]
  exact ih
structure Gnd (a : ByteArray) : Prop where
 w1 : 1 ≤ wideT a
 w7 : wideT a ≤ 7
 h1 : 1 ≤ highT a
 h7 : highT a ≤ 7
 rows : ∀ r ∈ rowsL a, r.length = wideT a
theorem qhC {a : ByteArray} (h : boardB a = true) : Gnd a := by
 unfold boardB szR at h
 simp only [Bool.and_eq_true, decide_eq_true_eq] at h
 obtain ⟨hr, ⟨⟨⟨g1, g2⟩, g3⟩, g4⟩, g5⟩ := h
 obtain ⟨_, h2⟩ := (qeB a).1 hr
 exact ⟨g3, g4, g1, g2, fun r hr => by
  rcases List.mem_cons.1 hr with rfl | hr
  ·rfl
  ·exact h2 r hr⟩
theorem qjB (a : ByteArray) : (rowsL a).length = highT a := rfl
theorem rowsT_get (a : ByteArray) (i : Nat) (h : i < (rowsT a).length) (h' : i < (rowsL a).length) : ((rowsT a)[i]).data.toList = (rowsL a)[i] := by
 have := qYB a
 have e : ((rowsT a).map (·.data.toList))[i]'(by simpa using h) = (rowsL a)[i] := by
  simp only [this]; rfl
 rwa [List.getElem_map] at e
theorem flatT_eq (a : ByteArray) : flatT a.data.toList = (rowsL a).flatten := rfl
def hasB (a : ByteArray) (x y : Int) : Bool := decide (0 ≤ y) && decide (y ≤ (highT a : Int) - 1) && (decide (0 ≤ x) && decide (x ≤ (wideT a : Int) - 1))
def cellU (a : ByteArray) (x y : Int) : UInt8 := ((rowsL a).getD y.toNat []).getD x.toNat 0
def cellN (a : ByteArray) (x y : Int) : Int := ((cellU a x y).toNat : Int)
theorem qIC (a : ByteArray) (x y : Int) : hasB a x y = true ↔ (0 ≤ y ∧ y < (highT a : Int)) ∧ (0 ≤ x ∧ x < (wideT a : Int)) := by
 unfold hasB
 simp only [Bool.and_eq_true, decide_eq_true_eq]
 omega
theorem gr_size {a : ByteArray} (g : Gnd a) (i : Nat) (h : i < (rowsT a).length) : ((rowsT a)[i]).size = wideT a := by
 have h' : i < (rowsL a).length := by rw [qjB, ← qWB]; exact h
 rw [← qUB, rowsT_get a i h h']
 exact g.rows _ (List.getElem_mem h')
theorem has_eq {a : ByteArray} (g : Gnd a) (x y : Int) : qfA.f (rowsT a) x y = some (hasB a x y) := by
 have hl := qWB a
 have h0 : 0 < (rowsT a).length := by rw [hl]; exact g.h1
 have e0 : rdOf ByteArray.empty (rowsT a) 0 = (rowsT a)[0] := qrC (rowsT a) 0 h0
 have e1 := gr_size g 0 h0
 have g1 := g.h7
 have g2 := g.w7
 unfold qfA.f
 rw [qJC, hl, e0, e1]
 have w1 : wrap64 ((highT a : Int) - 1) = (highT a : Int) - 1 := by unfold wrap64; omega
 have w2 : wrap64 ((wideT a : Int) - 1) = (wideT a : Int) - 1 := by unfold wrap64; omega
 rw [w1, w2]
 simp only [Option.bind_some]
 have g0 := g.h1
 unfold hasB
 by_cases h : (decide (0 ≤ y) && decide (y ≤ (highT a : Int) - 1)) = true
 case pos => rw [if_pos h, if_pos (by omega), qJC, h, Bool.true_and]; rfl
 rw [if_neg h, Bool.eq_false_iff.2 h, Bool.false_and]
theorem at_eq {a : ByteArray} (g : Gnd a) (x y : Int) (h : hasB a x y = true) : qIA.f (rowsT a) x y = some (cellN a x y) := by
 obtain ⟨⟨h1, h2⟩, h3, h4⟩ := (qIC a x y).1 h
 obtain ⟨i, rfl⟩ := Int.eq_ofNat_of_zero_le h1
 obtain ⟨j, rfl⟩ := Int.eq_ofNat_of_zero_le h3
 have hl := qWB a
 have hi : i < (rowsT a).length := by omega
 have hi' : i < (rowsL a).length := by rw [qjB]; omega
 have hs := gr_size g i hi
 have hr := rowsT_get a i hi hi'
 have hw := g.rows _ (List.getElem_mem hi')
 unfold qIA.f
 rw [has_eq g, h, qrC (rowsT a) i hi]
 simp only [Option.bind_some, if_true]
 rw [if_pos (by omega), if_pos (by omega), if_pos (by omega), if_pos (by rw [hs]; omega)]
 have hj : j < ((rowsT a)[i]).data.toList.length := by rw [qUB, hs]; omega
 rw [gr_bt _ j hj]
 congr 1
 unfold cellN cellU
 have e : (rowsL a).getD i [] = (rowsL a)[i] := by rw [List.getD_eq_getElem?_getD, List.getElem?_eq_getElem hi']; rfl
 have e2 : ((rowsT a)[i]).data.toList[j] = ((rowsL a)[i])[j]'(by rw [← hr]; exact hj) := by simp only [hr]
 rw [e2, Int.toNat_natCast, Int.toNat_natCast, e, List.getD_eq_getElem?_getD, List.getElem?_eq_getElem (by rw [← hr]; exact hj)]
 rfl
theorem boCell_eq {a : ByteArray} (g : Gnd a) (cs : List Int) (x y : Int) : quA.f (wideT a : Int) (highT a : Int) cs x y = some (hasB a x y) := by
 have g1 := g.h7
 have g2 := g.w7
 unfold quA.f
 have w1 : wrap64 ((highT a : Int) - 1) = (highT a : Int) - 1 := by unfold wrap64; omega
 have w2 : wrap64 ((wideT a : Int) - 1) = (wideT a : Int) - 1 := by unfold wrap64; omega
 rw [w1, w2, bx_specIn, bx_specIn]
 simp only [Option.bind_some]
 unfold hasB
 by_cases h : (decide (0 ≤ x) && decide (x ≤ (wideT a : Int) - 1)) = true
 case pos => rw [if_pos h, h, Bool.and_true]
 rw [if_neg h, Bool.eq_false_iff.2 h, Bool.and_false]
theorem spec_at {a : ByteArray} (g : Gnd a) (x y : Int) (h : hasB a x y = true) :
  0 ≤ wrap64 (wrap64 (y * (wideT a : Int)) + x) ∧ wrap64 (wrap64 (y * (wideT a : Int)) + x) < ((numsOf (flatT a.data.toList)).length : Int) ∧ rd (numsOf (flatT a.data.toList)) (wrap64 (wrap64 (y * (wideT a : Int)) + x)) = cellN a x y := by
 obtain ⟨⟨h1, h2⟩, h3, h4⟩ := (qIC a x y).1 h
 obtain ⟨i, rfl⟩ := Int.eq_ofNat_of_zero_le h1
 obtain ⟨j, rfl⟩ := Int.eq_ofNat_of_zero_le h3
 have g1 := g.h7
 have g2 := g.w7
 have hi' : i < (rowsL a).length := by rw [qjB]; omega
 have hf := flat_get (wideT a) (rowsL a) i j g.rows hi' (by omega)
 have hw := g.rows _ (List.getElem_mem hi')
 have hj : j < ((rowsL a)[i]).length := by omega
 rw [List.getElem?_eq_getElem hi', Option.bind_some, List.getElem?_eq_getElem hj] at hf
 have hm : i * wideT a ≤ 7 * 7 := Nat.mul_le_mul (by omega) g2
 have ec : ((i : Int) * (wideT a : Int)) = ((i * wideT a : Nat) : Int) := by push_cast; rfl
 rw [ec]
 have e : wrap64 (wrap64 ((i * wideT a : Nat) : Int) + (j : Int)) = ((i * wideT a + j : Nat) : Int) := by
  generalize i * wideT a = m at *
  unfold wrap64; omega
 rw [e, flatT_eq]
 obtain ⟨hlt, hv⟩ := List.getElem?_eq_some_iff.1 hf
 refine ⟨by omega, ?_, ?_⟩
 ·unfold numsOf
  rw [List.length_map]; omega
 ·unfold rd numsOf cellN cellU
  rw [Int.toNat_natCast, List.getD_eq_getElem?_getD, List.getElem?_map, hf, Int.toNat_natCast, Int.toNat_natCast, List.getD_eq_getElem?_getD (l := rowsL a), List.getElem?_eq_getElem hi']
  simp only [Option.map_some, Option.getD_some]
  rw [List.getD_eq_getElem?_getD, List.getElem?_eq_getElem hj]
  rfl
theorem at_all {a : ByteArray} (g : Gnd a) (x y : Int) : qIA.f (rowsT a) x y = some (if hasB a x y = true then cellN a x y else 0) := by
 cases h : hasB a x y with
 | true => rw [at_eq g x y h]; rfl
 | false =>
  unfold qIA.f
  rw [has_eq g, h]; rfl
def floorB (a : ByteArray) (x y : Int) : Bool := hasB a x y && (cellN a x y == 46)
theorem at_floor {a : ByteArray} (g : Gnd a) (x y : Int) : ∃ c, qIA.f (rowsT a) x y = some c ∧ decide (c = 46) = floorB a x y := by
 refine ⟨_, at_all g x y, ?_⟩
 unfold floorB
 cases h : hasB a x y with
 | true => rw [if_pos rfl, Bool.true_and]; rfl
 | false => rw [if_neg (by decide)]; rfl
end Go.Proofs.YtdhbimankkpllaaDoor
namespace Go.Proofs.YtdhbimankkpllaaDoor.P
open Go.RowKit Go.Proofs.YtdhbimankkpllaaDoorW.PrintWords Go.Proofs.YtdhbimankkpllaaDoorW.PrintLast Go.Proofs.YtdhbimankkpllaaDoorW.PrintMore
attribute [local go_sem] qg qe qq qp qX qW qf qd
set_option linter.unusedVariables false
set_option linter.unusedSimpArgs false
def qBA.f (a0_0 : Int) (a0_1 : Int) (a0_2 : Int) (a0_3 : Int) (a0_4 : Int) (a0_5 : Int) : Option (List Int) := some (([a0_0, a0_1, a0_2, a0_3, a0_4, a0_5] : List Int))
set_option maxHeartbeats 8000000 in
set_option maxRecDepth 100000 in
theorem qBA.calls (a0_0 : Int) (a0_1 : Int) (a0_2 : Int) (a0_3 : Int) (a0_4 : Int) (a0_5 : Int) (r : List Int) (w : World) (h : qBA.f a0_0 a0_1 a0_2 a0_3 a0_4 a0_5 = some r) :
  Calls Tryd.prog 39 #[.agg #[.int .i64 a0_0, .int .i64 a0_1, .int .i64 a0_2, .int .i64 a0_3, .int .i64 a0_4, .int .i64 a0_5]] w fun e w' => ∃ v0_ : Value, e = .returned (v0_) ∧ Kd.R (Kd.int .i64) 3 w' w.heap.size (fun _ => True) v0_ r ∧ Below w.heap.size w w' := by
 have hu26 := Tryd.underlying26
 have HB := aM (Below.refl w.heap.size w)
 have H : (some (([a0_0, a0_1, a0_2, a0_3, a0_4, a0_5] : List Int))) = some r := h
 clear h
 obtain ⟨y261, hy261⟩ : ∃ y_ : List Int, y_ = (([a0_0, a0_1, a0_2, a0_3, a0_4, a0_5] : List Int)) := ⟨_, rfl⟩
 replace H : (some y261) = some r := by first | (rw [hy261]; with_reducible exact H) | (have H2_ := (Option.bind_some _ _).symm.trans H; rw [hy261]; with_reducible exact H2_) | (have H2_ := (Option.bind_some _ _).symm.trans H; with_reducible exact H2_) | with_reducible exact H | (rw [hy261]; exact H) | exact H
 have Ny261 := aM hy261
 clear hy261
 obtain rfl := Option.some.inj H
 go_enter Tryd.func39, Tryd.ntmps39
 go_wp2_with (first | ((with_reducible refine qH (N := 1) rfl ?_); refine bE (N := 1) (cs := #[.int .i64 a0_0, .int .i64 a0_1, .int .i64 a0_2, .int .i64 a0_3, .int .i64 a0_4, .int .i64 a0_5]) (t := 26) ?_; intro gb260 hg w2 hbox hb; have BK260 := aM (hbox); have GW260 := aM ((gg hg)); have GE260 := aM ((gg hg)); replace HB := aM (qB bl hb); clear hb hbox hg; (refine cb6 BK260 ?_; intro _ _ _ _ _ _); (refine cz6 BK260 ?_; intro _ _ _ _ _ _)) | ((with_reducible refine qH (N := 15) rfl ?_); refine Kd.R_lit (Kd.int .i64) _ 3 ?hg (N := 15) ?hd (xs := ([a0_0, a0_1, a0_2, a0_3, a0_4, a0_5] : List Int)) (inner := [.int .i64 a0_0, .int .i64 a0_1, .int .i64 a0_2, .int .i64 a0_3, .int .i64 a0_4, .int .i64 a0_5]) (ok := fun _ => True) (okp := fun _ => True) ?hr ?hp (fun _ hk => hk) trivial (Below.refl _ _) (Nat.le_refl _) (by simp) ?_; (case hd => rfl); (case hg => rfl); (case hr => exact gS); (case hp => exact (Reps.one (show Kd.M (Kd.int .i64) _ _ _ a0_0 [.int .i64 a0_0] from rfl) (Reps.one (show Kd.M (Kd.int .i64) _ _ _ a0_1 [.int .i64 a0_1] from rfl) (Reps.one (show Kd.M (Kd.int .i64) _ _ _ a0_2 [.int .i64 a0_2] from rfl) (Reps.one (show Kd.M (Kd.int .i64) _ _ _ a0_3 [.int .i64 a0_3] from rfl) (Reps.one (show Kd.M (Kd.int .i64) _ _ _ a0_4 [.int .i64 a0_4] from rfl) (Reps.one (show Kd.M (Kd.int .i64) _ _ _ a0_5 [.int .i64 a0_5] from rfl) (Reps.none _ _)))))))); intro v262 w4 ho5 hb hg_ hnew_; clear hg_ hnew_; (first | rw [← Ny261.out] at ho5 | (simp only [Int.reduceToNat] at ho5; rw [← Ny261.out] at ho5)); have HO263 := aM (Kd.qSA ho5 (qk bl)); replace BK260 := aM (bb BK260 hb); replace HB := aM (qB bl hb); clear hb ho5))
 go_ret
 exact ⟨_, sR, by (with_reducible repeat (first | apply Kd.qo | apply Kd.qr | apply Kd.qc)); exact HO263.out, bl⟩
def qwA.f (a0 : Int) : Option (Bool) := (qaA.f a0 0 9).bind fun t264 => (some (!t264))
set_option maxHeartbeats 8000000 in
set_option maxRecDepth 100000 in
theorem qwA.calls (a0 : Int) (r : Bool) (w : World) (h : qwA.f a0 = some r) :
  Calls Tryd.prog 51 #[.int .i64 a0] w fun e w' => e = .returned (.bool r) ∧ Drawn0 w w' := by
 have H : ((qaA.f a0 0 9).bind fun t264 => (some (!t264))) = some r := h
 clear h
 replace H := bO H
 obtain ⟨t264, A2, H⟩ := H
 obtain rfl := Option.some.inj H
 go_enter Tryd.func51, Tryd.ntmps51
 go_wp2_with (first | ((with_reducible refine qJ (f := 49) rfl ?_); refine qZ (some 4) rfl rfl Tryd.func49 (by kernel_rfl) rfl #[.int .i64 a0, .int .i64 0, .int .i64 9] rfl gA ?_; (with_reducible refine (qaA.calls a0 0 9 t264 _ A2.out).mono ?_); rintro e w' ⟨rfl, ⟨nd, rfl⟩⟩; refine ⟨_, rfl, ?_⟩))
 go_ret
 exact ⟨by first | rfl | (simp; done) | (simp [*]; done), dR⟩
def qI.l0 : Nat → List Int → Int → Int → Option (Int)
 | 0, _, _, _ => none
 | k + 1, x0, x7, x8 => if x8 < x7 then (if 0 ≤ x8 then (if x8 < (x0.length : Int) then ((qwA.f (rd x0 x8)).bind fun t266 => (if t266 = true then (some x8) else (qI.l0 k x0 x7 (wrap64 (x8 + 1))))) else (none)) else (none)) else (some (-1))
def qI.f (k : Nat) (l0 : List Int)  : Option (Int) := qI.l0 k l0 (l0.length : Int) 0
set_option maxHeartbeats 8000000 in
set_option maxRecDepth 100000 in
theorem qI.calls (k : Nat) (A0 : Option Addr) (c0 : Nat) (l0 : List Int)  (r : Int) (w : World) (hr0 : Kd.C (Kd.int .i64) w A0 l0.length l0) (hc0 : l0.length ≤ c0) (h : qI.f k l0 = some r) :
  Calls Tryd.prog 60 #[.slice A0 l0.length c0, .func (.func 51) #[] #[]] w fun e w' => e = .returned (.int .i64 r) ∧ Drawn0 w w' := by
 have HR0 := aM hr0
 have HC0 := aM hc0
 clear hr0 hc0
 have H : (qI.l0 k l0 (l0.length : Int) 0) = some r := h
 clear h
 have H' := aM H
 clear H
 go_enter Tryd.func60, Tryd.ntmps60
 go_wp2
 go_loopg [8] k (fun kq v8 w' => ∃ (x8_1 : Int), v8 = .int .i64 x8_1 ∧ Aside0 (qI.l0 kq l0 (l0.length : Int) x8_1 = some r) ∧ Aside0 (kq ≤ k) ∧ Drawn0 w w')
 case atStart => exact ⟨(0), sD, H', ⟨Nat.le_refl _⟩, dR⟩
 case round =>
  clear H'; (try clear p2)
  obtain ⟨x8_1, rfl, HA, HK1, ⟨m1, rfl⟩⟩ := hrel
  cases gk with
  | zero => exact absurd HA.out (by simp [qI.l0])
  | succ k1 =>
   have H := HA.out
   clear HA
   simp only [qI.l0] at H
   by_cases c3 : x8_1 < (l0.length : Int)
   ·rw [if_pos c3] at H
    have c3b0 := decide_eq_true c3
    clear c3
    by_cases c4 : 0 ≤ x8_1
    case neg => exact nN c4 H
    rw [if_pos c4] at H
    have c4b0 := decide_eq_true c4
    clear c4
    by_cases c5 : x8_1 < (l0.length : Int)
    case neg => exact nN c5 H
    rw [if_pos c5] at H
    have c5b0 := decide_eq_true c5
    clear c5
    replace H := bO H
    obtain ⟨t266, A6, H⟩ := H
    by_cases c7 : t266 = true
    ·subst c7
     replace H := iT H
     obtain rfl := Option.some.inj H
     have p265 : 0 ≤ (x8_1 : Int) := of_decide_eq_true am
     have q265 : x8_1 < (l0.length : Int) := of_decide_eq_true am
     obtain ⟨ad265, e265, hx265_0⟩ := Kd.qqA HR0.out x8_1 p265 q265
     cases e265
     replace p265 := eq_true p265
     replace q265 := eq_true q265
     go_wp2_with (first | ((with_reducible refine gate_value (s := 11) rfl ?_); refine goesLV_ (some 16) 11 rfl rfl Tryd.func51 (by kernel_rfl) rfl #[.int .i64 (rd l0 x8_1)] rfl rfl gA ?_; (with_reducible refine (qwA.calls (rd l0 x8_1) true _ A6.out).mono ?_); rintro e w' ⟨rfl, ⟨nd, rfl⟩⟩; refine ⟨_, rfl, ?_⟩))
     go_ret
     exact ⟨by first | rfl | (simp; done) | (simp [*]; done), dR⟩
    ·replace c7 := Bool.eq_false_iff.mpr c7
     subst c7
     replace H := iF H
     have H' := aM H
     clear H
     have p265 : 0 ≤ (x8_1 : Int) := of_decide_eq_true am
     have q265 : x8_1 < (l0.length : Int) := of_decide_eq_true am
     obtain ⟨ad265, e265, hx265_0⟩ := Kd.qqA HR0.out x8_1 p265 q265
     cases e265
     replace p265 := eq_true p265
     replace q265 := eq_true q265
     go_wp2_with (first | ((with_reducible refine gate_value (s := 11) rfl ?_); refine goesLV_ (some 16) 11 rfl rfl Tryd.func51 (by kernel_rfl) rfl #[.int .i64 (rd l0 x8_1)] rfl rfl gA ?_; (with_reducible refine (qwA.calls (rd l0 x8_1) false _ A6.out).mono ?_); rintro e w' ⟨rfl, ⟨nd, rfl⟩⟩; refine ⟨_, rfl, ?_⟩))
     go_roundg k1
     case measure => have := HK1.out; omega
     case rel => exact ⟨(wrap64 (x8_1 + 1)), sD, H', ⟨by have := HK1.out; omega⟩, dR⟩
   ·rw [if_neg c3] at H
    have c3b0 := decide_eq_false c3
    clear c3
    obtain rfl := Option.some.inj H
    go_wp2
    go_ret
    exact ⟨by first | rfl | (simp; done) | (simp [*]; done), dR⟩
def qV.f (k : Nat) (l0 : List Int)  : Option (Bool) := (qI.f k l0).bind fun t267 => (some (decide (t267 ≥ 0)))
set_option maxHeartbeats 8000000 in
set_option maxRecDepth 100000 in
theorem qV.calls (k : Nat) (A0 : Option Addr) (c0 : Nat) (l0 : List Int)  (r : Bool) (w : World) (hr0 : Kd.C (Kd.int .i64) w A0 l0.length l0) (hc0 : l0.length ≤ c0) (h : qV.f k l0 = some r) :
  Calls Tryd.prog 50 #[.slice A0 l0.length c0, .func (.func 51) #[] #[]] w fun e w' => e = .returned (.bool r) ∧ Drawn0 w w' := by
 have HR0 := aM hr0
 have HC0 := aM hc0
 clear hr0 hc0
 have H : ((qI.f k l0).bind fun t267 => (some (decide (t267 ≥ 0)))) = some r := h
 clear h
 replace H := bO H
 obtain ⟨t267, A3, H⟩ := H
 obtain rfl := Option.some.inj H
 go_enter Tryd.func50, Tryd.ntmps50
 go_wp2_with (first | ((with_reducible refine qJ (f := 60) rfl ?_); refine qZ (some 7) rfl rfl Tryd.func60 (by kernel_rfl) rfl #[.slice A0 l0.length c0, .func (.func 51) #[] #[]] rfl gA ?_; (with_reducible refine (qI.calls k _ _ l0  t267 _ ?side1 ?side2 A3.out).mono ?_); (case side1 => repeat (first | exact HR0.out | (with_reducible refine Kd.qPA ?_ _) | (with_reducible refine Kd.qOA ?_ _) | (with_reducible refine Kd.qkA ?_))); (case side2 => exact HC0.out); rintro e w' ⟨rfl, ⟨nd, rfl⟩⟩; refine ⟨_, rfl, ?_⟩))
 go_ret
 exact ⟨by first | rfl | (simp; done) | (simp [*]; done), dR⟩
def qGB.f (k : Nat) (a0_0 : Int) (a0_1 : Int) (a0_2 : Int) (a0_3 : Int) (a0_4 : Int) (a0_5 : Int) : Option (Bool) := (qBA.f a0_0 a0_1 a0_2 a0_3 a0_4 a0_5).bind fun t269 => ((qV.f k t269).bind fun t272 => (some (!t272)))
set_option maxHeartbeats 8000000 in
set_option maxRecDepth 100000 in
theorem qGB.calls (k : Nat) (a0_0 : Int) (a0_1 : Int) (a0_2 : Int) (a0_3 : Int) (a0_4 : Int) (a0_5 : Int) (r : Bool) (w : World) (h : qGB.f k a0_0 a0_1 a0_2 a0_3 a0_4 a0_5 = some r) :
  Calls Tryd.prog 43 #[.agg #[.int .i64 a0_0, .int .i64 a0_1, .int .i64 a0_2, .int .i64 a0_3, .int .i64 a0_4, .int .i64 a0_5]] w fun e w' => e = .returned (.bool r) ∧ Below w.heap.size w w' := by
 have hu26 := Tryd.underlying26
 have HB := aM (Below.refl w.heap.size w)
 have H : ((qBA.f a0_0 a0_1 a0_2 a0_3 a0_4 a0_5).bind fun t269 => ((qV.f k t269).bind fun t272 => (some (!t272)))) = some r := h
 clear h
 replace H := bO H
 obtain ⟨t269, A2, H⟩ := H
 replace H := bO H
 obtain ⟨t272, A3, H⟩ := H
 obtain rfl := Option.some.inj H
 go_enter Tryd.func43, Tryd.ntmps43
 go_wp2_with (first | ((with_reducible refine qH (N := 1) rfl ?_); refine bE (N := 1) (cs := #[.int .i64 a0_0, .int .i64 a0_1, .int .i64 a0_2, .int .i64 a0_3, .int .i64 a0_4, .int .i64 a0_5]) (t := 26) ?_; intro gb268 hg w4 hbox hb; have BK268 := aM (hbox); have GW268 := aM ((gg hg)); have GE268 := aM ((gg hg)); replace HB := aM (qB bl hb); clear hb hbox hg; (refine cb6 BK268 ?_; intro _ _ _ _ _ _); (refine cz6 BK268 ?_; intro _ _ _ _ _ _)) | ((with_reducible refine qJ (f := 39) rfl ?_); refine qZ (some 4) rfl rfl Tryd.func39 (by kernel_rfl) rfl #[.agg #[.int .i64 a0_0, .int .i64 a0_1, .int .i64 a0_2, .int .i64 a0_3, .int .i64 a0_4, .int .i64 a0_5]] rfl gA ?_; (with_reducible refine (qBA.calls a0_0 a0_1 a0_2 a0_3 a0_4 a0_5 t269 _ A2.out).mono ?_); rintro e w6 ⟨v270, rfl, ho0, hb⟩; refine ⟨_, rfl, ?_⟩; have HO271 := aM (Kd.qSA ho0 (qk bl)); replace BK268 := aM (bb BK268 hb); replace HB := aM (qB bl hb); (try clear hb); (try clear hb2); (try clear hk); (try clear hi); (try clear ho0); obtain ⟨Ao7, co7, eo7⟩ := Kd.qx HO271.out; subst eo7) | ((with_reducible refine qJ (f := 50) rfl ?_); refine qZ (some 5) rfl rfl Tryd.func50 (by kernel_rfl) rfl #[.slice Ao7 t269.length co7, .func (.func 51) #[] #[]] rfl gA ?_; (with_reducible refine (qV.calls k _ _ t269  t272 _ ?side1 ?side2 A3.out).mono ?_); (case side1 => repeat (first | exact (Kd.qT HO271.out).2.2 | (with_reducible refine Kd.qPA ?_ _) | (with_reducible refine Kd.qOA ?_ _) | (with_reducible refine Kd.qkA ?_))); (case side2 => exact (Kd.qT HO271.out).2.1); rintro e w' ⟨rfl, ⟨nd, rfl⟩⟩; refine ⟨_, rfl, ?_⟩))
 go_ret
 exact ⟨sR, bl⟩
end Go.Proofs.YtdhbimankkpllaaDoor.P
namespace Go.Proofs.YtdhbimankkpllaaDoor
open Go.RowKit Go.Proofs.YtdhbimankkpllaaDoor.P Go.Proofs.YtdhbimankkpllaaDoorW.PrintWords Go.Proofs.YtdhbimankkpllaaDoorW.PrintLast
set_option linter.unusedVariables false
set_option linter.unusedSimpArgs false
def inFace (n : Int) : Bool := decide (0 ≤ n) && decide (n ≤ 9)
def dieB (a b c d e f : Int) : Bool := [a, b, c, d, e, f].all inFace
theorem rdn (l : List Int) (i : Nat) (h : i < l.length) : rd l (i : Int) = l[i] := by
 unfold rd
 rw [Int.toNat_natCast, List.getD_eq_getElem?_getD, List.getElem?_eq_getElem h]; rfl
theorem spec_l1In_eq (n a b : Int) : qXA.f n a b = some (decide (a ≤ n) && decide (n ≤ b)) := by
 unfold qXA.f
 by_cases h : n ≥ a
 case pos => rw [if_pos h, decide_eq_true (show a ≤ n from h), Bool.true_and]
 rw [if_neg h, decide_eq_false (show ¬ a ≤ n from h), Bool.false_and]
theorem impl_in_eq (n a b : Int) : qaA.f n a b = some (decide (a ≤ n) && decide (n ≤ b)) := by
 unfold qaA.f
 by_cases h : a ≤ n
 case pos => rw [if_pos h, decide_eq_true h, Bool.true_and]
 rw [if_neg h, decide_eq_false h, Bool.false_and]
theorem l1All_loop (l : List Int) (a b : Int) (hl : l.length ≤ 140737488355328) (d : Nat) : ∀ i : Nat, i ≤ l.length → l.length - i = d →
  Ev (fun k => qLA.l0 k a b l (l.length : Int) (i : Int)) ((l.drop i).all fun n => decide (a ≤ n) && decide (n ≤ b)) := by
 induction d with
 | zero =>
  intro i hi hd
  refine Ev.step (f := fun k => _) (fun k => by rw [qLA.l0]) (Ev.neg (by omega) (Ev.some_ ?_))
  rw [List.drop_eq_nil_of_le (by omega)]; rfl
 | succ d ih =>
  intro i hi hd
  have h : i < l.length := by omega
  refine Ev.step (f := fun k => _) (fun k => by rw [qLA.l0]) (Ev.pos (by omega) (Ev.pos (by omega) (Ev.pos (by omega) (Ev.bindc (spec_l1In_eq _ _ _) ?_))))
  rw [rdn l i h, List.drop_eq_getElem_cons h, List.all_cons, show wrap64 ((i : Int) + 1) = ((i + 1 : Nat) : Int) by unfold wrap64; omega]
  cases hb : (decide (a ≤ l[i]) && decide (l[i] ≤ b)) with
  | true => exact Ev.pos rfl (ih (i + 1) (by omega) (by omega))
  | false => exact Ev.neg (by decide) (Ev.some_ rfl)
theorem spec_l1All_ev (l : List Int) (a b : Int) (hl : l.length ≤ 140737488355328) : Ev (fun k => qLA.f k l a b) (l.all fun n => decide (a ≤ n) && decide (n ≤ b)) := by
 have := l1All_loop l a b hl l.length 0 (by omega) (by omega)
 simpa [qLA.f] using this
theorem spec_diGood_ev (a b c d e f : Int) : Ev (fun k => qCB.f k a b c d e f) (dieB a b c d e f) := by
 unfold qCB.f
 exact Ev.bindc rfl (Ev.bind (spec_l1All_ev [a, b, c, d, e, f] 0 9 (by simp)) (Ev.some_ rfl))
theorem isDie1_eq (n : Int) : qwA.f n = some (!inFace n) := by
 unfold qwA.f
 rw [impl_in_eq]; rfl
theorem idxDie_loop (l : List Int) (hl : l.length ≤ 140737488355328) (d : Nat) : ∀ i : Nat, i ≤ l.length → l.length - i = d →
  ∃ r : Int, Ev (fun k => qI.l0 k l (l.length : Int) (i : Int)) r ∧ decide (r ≥ 0) = !((l.drop i).all inFace) := by
 induction d with
 | zero =>
  intro i hi hd
  refine ⟨-1, Ev.step (f := fun k => _) (fun k => by rw [qI.l0]) (Ev.neg (by omega) (Ev.some_ rfl)), ?_⟩
  rw [List.drop_eq_nil_of_le (by omega)]; rfl
 | succ d ih =>
  intro i hi hd
  have h : i < l.length := by omega
  rw [List.drop_eq_getElem_cons h, List.all_cons]
  cases hb : inFace l[i] with
  | true =>
   obtain ⟨r, h1, h2⟩ := ih (i + 1) (by omega) (by omega)
   refine ⟨r, Ev.step (f := fun k => _) (fun k => by rw [qI.l0]) (Ev.pos (by omega) (Ev.pos (by omega) (Ev.pos (by omega) (Ev.bindc (isDie1_eq _) ?_)))), by rw [Bool.true_and]; exact h2⟩
   rw [rdn l i h, hb, show wrap64 ((i : Int) + 1) = ((i + 1 : Nat) : Int) by unfold wrap64; omega]
   exact Ev.neg (by decide) h1
  | false =>
   refine ⟨(i : Int), Ev.step (f := fun k => _) (fun k => by rw [qI.l0]) (Ev.pos (by omega) (Ev.pos (by omega) (Ev.pos (by omega) (Ev.bindc (isDie1_eq _) ?_)))), ?_⟩
   ·rw [rdn l i h, hb]
    exact Ev.pos rfl (Ev.now _)
   ·rw [Bool.false_and]; exact decide_eq_true (by omega)
theorem impl_IsDie_ev (a b c d e f : Int) : Ev (fun k => qGB.f k a b c d e f) (dieB a b c d e f) := by
 obtain ⟨r, h1, h2⟩ := idxDie_loop [a, b, c, d, e, f] (by simp) 6 0 (by simp) (by simp)
 unfold qGB.f qV.f qI.f
 refine Ev.bindc rfl (Ev.bind (a := decide (r ≥ 0)) (Ev.bind h1 (Ev.now _)) (Ev.some_ ?_))
 rw [h2]
 simp [dieB]
theorem dieB_face {a b c d e f : Int} (h : dieB a b c d e f = true) : ∀ n ∈ [a, b, c, d, e, f], 0 ≤ n ∧ n ≤ 9 := by
 intro n hn
 have := List.all_eq_true.1 h n hn
 simpa [inFace] using this
end Go.Proofs.YtdhbimankkpllaaDoor
namespace Go.Proofs.YtdhbimankkpllaaDoor.P
open Go.RowKit Go.Proofs.YtdhbimankkpllaaDoorW.PrintWords Go.Proofs.YtdhbimankkpllaaDoorW.PrintLast Go.Proofs.YtdhbimankkpllaaDoorW.PrintMore
attribute [local go_sem] qg qe qq qp qX qW qf qd
set_option linter.unusedVariables false
set_option linter.unusedSimpArgs false
def qNA.f (k : Nat) (l0 : List ByteArray) (a1_0 : Int) (a1_1 : Int) (a1_2 : Int) (a1_3 : Int) (a1_4 : Int) (a1_5 : Int) (a1_6 : Int) (a1_7 : Int) : Option (Bool) := (qGB.f k a1_2 a1_3 a1_4 a1_5 a1_6 a1_7).bind fun t274 => (if t274 = true then ((qIA.f l0 a1_0 a1_1).bind fun t275 => (some (t275 == 46))) else (some false))
set_option maxHeartbeats 8000000 in
set_option maxRecDepth 100000 in
theorem qNA.calls (k : Nat) (A0 : Option Addr) (c0 : Nat) (l0 : List ByteArray) (a1_0 : Int) (a1_1 : Int) (a1_2 : Int) (a1_3 : Int) (a1_4 : Int) (a1_5 : Int) (a1_6 : Int) (a1_7 : Int) (r : Bool) (w : World) (hr0 : Kd.C Kd.string w A0 l0.length l0) (hc0 : l0.length ≤ c0) (h : qNA.f k l0 a1_0 a1_1 a1_2 a1_3 a1_4 a1_5 a1_6 a1_7 = some r) :
  Calls Tryd.prog 33 #[.slice A0 l0.length c0, .agg #[.int .i64 a1_0, .int .i64 a1_1, .int .i64 a1_2, .int .i64 a1_3, .int .i64 a1_4, .int .i64 a1_5, .int .i64 a1_6, .int .i64 a1_7]] w fun e w' => e = .returned (.bool r) ∧ Below w.heap.size w w' := by
 have hu28 := Tryd.underlying28
 have hu26 := Tryd.underlying26
 have HR0 := aM hr0
 have HC0 := aM hc0
 clear hr0 hc0
 have HB := aM (Below.refl w.heap.size w)
 have H : ((qGB.f k a1_2 a1_3 a1_4 a1_5 a1_6 a1_7).bind fun t274 => (if t274 = true then ((qIA.f l0 a1_0 a1_1).bind fun t275 => (some (t275 == 46))) else (some false))) = some r := h
 clear h
 replace H := bO H
 obtain ⟨t274, A3, H⟩ := H
 by_cases c4 : t274 = true
 ·subst c4
  replace H := iT H
  replace H := bO H
  obtain ⟨t275, A5, H⟩ := H
  obtain rfl := Option.some.inj H
  go_enter Tryd.func33, Tryd.ntmps33
  go_wp2_with (first | ((with_reducible refine qH (N := 3) rfl ?_); refine bE (N := 3) (cs := #[.int .i64 a1_0, .int .i64 a1_1, .int .i64 a1_2, .int .i64 a1_3, .int .i64 a1_4, .int .i64 a1_5, .int .i64 a1_6, .int .i64 a1_7]) (t := 28) ?_; intro gb273 hg w6 hbox hb; have BK273 := aM (hbox); have GW273 := aM ((gg hg)); have GE273 := aM ((gg hg)); replace HB := aM (qB bl hb); clear hb hbox hg; (refine cb8 BK273 ?_; intro _ _ _ _ _ _ _ _); (refine cz8 BK273 ?_; intro _ _ _ _ _ _ _ _)) | ((with_reducible refine qJ (f := 43) rfl ?_); refine qZ (some 7) rfl rfl Tryd.func43 (by kernel_rfl) rfl #[.agg #[.int .i64 a1_2, .int .i64 a1_3, .int .i64 a1_4, .int .i64 a1_5, .int .i64 a1_6, .int .i64 a1_7]] rfl gA ?_; (with_reducible refine (qGB.calls k a1_2 a1_3 a1_4 a1_5 a1_6 a1_7 true _ A3.out).mono ?_); rintro e w8 ⟨rfl, hb⟩; refine ⟨_, rfl, ?_⟩; replace BK273 := aM (bb BK273 hb); replace HB := aM (qB bl hb); (try clear hb); (try clear hb2); (try clear hk); (try clear hi); (refine cb8 BK273 ?_; intro _ _ _ _ _ _ _ _); (refine cz8 BK273 ?_; intro _ _ _ _ _ _ _ _)) | (go_at_call 36; (with_reducible refine (qIA.calls _ _ l0 a1_0 a1_1 t275 _ ?side1 ?side2 A5.out).mono ?_); (case side1 => repeat (first | exact (Kd.qdA HR0.out HB.out) | (with_reducible refine Kd.qPA ?_ _) | (with_reducible refine Kd.qOA ?_ _) | (with_reducible refine Kd.qkA ?_))); (case side2 => exact HC0.out); rintro e w' ⟨rfl, ⟨nd, rfl⟩⟩))
  go_ret
  exact ⟨sR, bl⟩
 ·replace c4 := Bool.eq_false_iff.mpr c4
  subst c4
  replace H := iF H
  obtain rfl := Option.some.inj H
  go_enter Tryd.func33, Tryd.ntmps33
  go_wp2_with (first | ((with_reducible refine qH (N := 3) rfl ?_); refine bE (N := 3) (cs := #[.int .i64 a1_0, .int .i64 a1_1, .int .i64 a1_2, .int .i64 a1_3, .int .i64 a1_4, .int .i64 a1_5, .int .i64 a1_6, .int .i64 a1_7]) (t := 28) ?_; intro gb273 hg w10 hbox hb; have BK273 := aM (hbox); have GW273 := aM ((gg hg)); have GE273 := aM ((gg hg)); replace HB := aM (qB bl hb); clear hb hbox hg; (refine cb8 BK273 ?_; intro _ _ _ _ _ _ _ _); (refine cz8 BK273 ?_; intro _ _ _ _ _ _ _ _)) | ((with_reducible refine qJ (f := 43) rfl ?_); refine qZ (some 7) rfl rfl Tryd.func43 (by kernel_rfl) rfl #[.agg #[.int .i64 a1_2, .int .i64 a1_3, .int .i64 a1_4, .int .i64 a1_5, .int .i64 a1_6, .int .i64 a1_7]] rfl gA ?_; (with_reducible refine (qGB.calls k a1_2 a1_3 a1_4 a1_5 a1_6 a1_7 false _ A3.out).mono ?_); rintro e w12 ⟨rfl, hb⟩; refine ⟨_, rfl, ?_⟩; replace BK273 := aM (bb BK273 hb); replace HB := aM (qB bl hb); (try clear hb); (try clear hb2); (try clear hk); (try clear hi)))
  go_ret
  exact ⟨sR, bl⟩
def qTB.f (a0 : Int) (a1 : Int) (a2 : Int) : Option (Int × Int) := if a2 = 110 then (some (a0, wrap64 (a1 - 1))) else (if a2 = 101 then (some (wrap64 (a0 + 1), a1)) else (if a2 = 115 then (some (a0, wrap64 (a1 + 1))) else (some (wrap64 (a0 - 1), a1))))
set_option maxHeartbeats 8000000 in
set_option maxRecDepth 100000 in
theorem qTB.calls (a0 : Int) (a1 : Int) (a2 : Int) (r1 : Int) (r2 : Int) (w : World) (h : qTB.f a0 a1 a2 = some (r1, r2)) :
  Calls Tryd.prog 34 #[.int .i64 a0, .int .i64 a1, .int .u8 a2] w fun e w' => e = .returned (.tuple #[.int .i64 r1, .int .i64 r2]) ∧ Drawn0 w w' := by
 have H : (if a2 = 110 then (some (a0, wrap64 (a1 - 1))) else (if a2 = 101 then (some (wrap64 (a0 + 1), a1)) else (if a2 = 115 then (some (a0, wrap64 (a1 + 1))) else (some (wrap64 (a0 - 1), a1))))) = some (r1, r2) := h
 clear h
 by_cases c4 : a2 = 110
 ·rw [if_pos c4] at H
  have c4b0 := beq_iff_eq.mpr c4
  have c4b1 := bne_eq_false_iff_eq.mpr c4
  clear c4
  simp only [Option.some.injEq, Prod.mk.injEq] at H
  obtain ⟨rfl, rfl⟩ := H
  go_enter Tryd.func34, Tryd.ntmps34
  go_wp2
  go_ret2
  exact ⟨by first | rfl | (simp; done) | (simp [*]; done), dR⟩
 ·rw [if_neg c4] at H
  have c4b0 := beq_eq_false_iff_ne.mpr c4
  have c4b1 := bne_iff_ne.mpr c4
  by_cases c5 : a2 = 101
  ·rw [if_pos c5] at H
   have c5b0 := beq_iff_eq.mpr c5
   have c5b1 := bne_eq_false_iff_eq.mpr c5
   clear c5
   simp only [Option.some.injEq, Prod.mk.injEq] at H
   obtain ⟨rfl, rfl⟩ := H
   go_enter Tryd.func34, Tryd.ntmps34
   go_wp2
   go_ret2
   exact ⟨by first | rfl | (simp; done) | (simp [*]; done), dR⟩
  ·rw [if_neg c5] at H
   have c5b0 := beq_eq_false_iff_ne.mpr c5
   have c5b1 := bne_iff_ne.mpr c5
   by_cases c6 : a2 = 115
   ·rw [if_pos c6] at H
    have c6b0 := beq_iff_eq.mpr c6
    have c6b1 := bne_eq_false_iff_eq.mpr c6
    clear c6
    simp only [Option.some.injEq, Prod.mk.injEq] at H
    obtain ⟨rfl, rfl⟩ := H
    go_enter Tryd.func34, Tryd.ntmps34
    go_wp2
    go_ret2
    exact ⟨by first | rfl | (simp; done) | (simp [*]; done), dR⟩
   ·rw [if_neg c6] at H
    have c6b0 := beq_eq_false_iff_ne.mpr c6
    have c6b1 := bne_iff_ne.mpr c6
    simp only [Option.some.injEq, Prod.mk.injEq] at H
    obtain ⟨rfl, rfl⟩ := H
    go_enter Tryd.func34, Tryd.ntmps34
    go_wp2
    go_ret2
    exact ⟨by first | rfl | (simp; done) | (simp [*]; done), dR⟩
def qnA.f (a0_0 : Int) (a0_1 : Int) (a0_2 : Int) (a0_3 : Int) (a0_4 : Int) (a0_5 : Int) (a1 : Int) : Option (Int × Int × Int × Int × Int × Int) := if a1 = 110 then (some (a0_3, a0_0, a0_2, a0_5, a0_4, a0_1)) else (if a1 = 101 then (some (a0_4, a0_1, a0_0, a0_3, a0_5, a0_2)) else (if a1 = 115 then (some (a0_1, a0_5, a0_2, a0_0, a0_4, a0_3)) else (some (a0_2, a0_1, a0_5, a0_3, a0_0, a0_4))))
set_option maxHeartbeats 8000000 in
set_option maxRecDepth 100000 in
theorem qnA.calls (a0_0 : Int) (a0_1 : Int) (a0_2 : Int) (a0_3 : Int) (a0_4 : Int) (a0_5 : Int) (a1 : Int) (r1 : Int) (r2 : Int) (r3 : Int) (r4 : Int) (r5 : Int) (r6 : Int) (w : World) (h : qnA.f a0_0 a0_1 a0_2 a0_3 a0_4 a0_5 a1 = some (r1, r2, r3, r4, r5, r6)) :
  Calls Tryd.prog 35 #[.agg #[.int .i64 a0_0, .int .i64 a0_1, .int .i64 a0_2, .int .i64 a0_3, .int .i64 a0_4, .int .i64 a0_5], .int .u8 a1] w fun e w' => e = .returned (.agg #[.int .i64 r1, .int .i64 r2, .int .i64 r3, .int .i64 r4, .int .i64 r5, .int .i64 r6]) ∧ Below w.heap.size w w' := by
 have hu26 := Tryd.underlying26
 have HB := aM (Below.refl w.heap.size w)
 have H : (if a1 = 110 then (some (a0_3, a0_0, a0_2, a0_5, a0_4, a0_1)) else (if a1 = 101 then (some (a0_4, a0_1, a0_0, a0_3, a0_5, a0_2)) else (if a1 = 115 then (some (a0_1, a0_5, a0_2, a0_0, a0_4, a0_3)) else (some (a0_2, a0_1, a0_5, a0_3, a0_0, a0_4))))) = some (r1, r2, r3, r4, r5, r6) := h
 clear h
 by_cases c3 : a1 = 110
 ·rw [if_pos c3] at H
  have c3b0 := beq_iff_eq.mpr c3
  have c3b1 := bne_eq_false_iff_eq.mpr c3
  clear c3
  simp only [Option.some.injEq, Prod.mk.injEq] at H
  obtain ⟨rfl, rfl, rfl, rfl, rfl, rfl⟩ := H
  go_enter Tryd.func35, Tryd.ntmps35
  go_wp2_with (first | ((with_reducible refine qH (N := 2) rfl ?_); refine bE (N := 2) (cs := #[.int .i64 a0_0, .int .i64 a0_1, .int .i64 a0_2, .int .i64 a0_3, .int .i64 a0_4, .int .i64 a0_5]) (t := 26) ?_; intro gb357 hg w4 hbox hb; have BK357 := aM (hbox); have GW357 := aM ((gg hg)); have GE357 := aM ((gg hg)); replace HB := aM (qB bl hb); clear hb hbox hg) | ((with_reducible refine qH (N := 4) rfl ?_); refine bE (N := 4) (cs := #[.int .i64 0, .int .i64 0, .int .i64 0, .int .i64 0, .int .i64 0, .int .i64 0]) (t := 26) ?_; intro gb358 hg w5 hbox hb; have BK358 := aM (hbox); have GW358 := aM ((gg hg)); have GE358 := aM ((gg hg)); have NB357_358 := aM ((nl BK357 hg)); have NB358_357 := aM ((nr BK357 hg)); replace BK357 := aM (bb BK357 hb); replace HB := aM (qB bl hb); clear hb hbox hg; have hnb6 := NB357_358.out; have hnc6 := NB358_357.out; (refine cb6 BK357 ?_; intro _ _ _ _ _ _); (refine cz6 BK357 ?_; intro _ _ _ _ _ _); (refine cb6 BK358 ?_; intro _ _ _ _ _ _); (refine cz6 BK358 ?_; intro _ _ _ _ _ _)))
  refine bodyPost_ret (results_cell_row rfl _ _ gb358 26 #[.int .i64 a0_3, .int .i64 a0_0, .int .i64 a0_2, .int .i64 a0_5, .int .i64 a0_4, .int .i64 a0_1] (0, 0) _ rfl (by (with_reducible repeat (first | refine qG ?_ _ | refine qE ?_ | refine qF ?_ _)); exact bP6 BK358) Tryd.underlying26 rfl (by kernel_rfl)) rfl ?_
  exact ⟨sR, bl⟩
 ·rw [if_neg c3] at H
  have c3b0 := beq_eq_false_iff_ne.mpr c3
  have c3b1 := bne_iff_ne.mpr c3
  by_cases c9 : a1 = 101
  ·rw [if_pos c9] at H
   have c9b0 := beq_iff_eq.mpr c9
   have c9b1 := bne_eq_false_iff_eq.mpr c9
   clear c9
   simp only [Option.some.injEq, Prod.mk.injEq] at H
   obtain ⟨rfl, rfl, rfl, rfl, rfl, rfl⟩ := H
   go_enter Tryd.func35, Tryd.ntmps35
   go_wp2_with (first | ((with_reducible refine qH (N := 2) rfl ?_); refine bE (N := 2) (cs := #[.int .i64 a0_0, .int .i64 a0_1, .int .i64 a0_2, .int .i64 a0_3, .int .i64 a0_4, .int .i64 a0_5]) (t := 26) ?_; intro gb357 hg w10 hbox hb; have BK357 := aM (hbox); have GW357 := aM ((gg hg)); have GE357 := aM ((gg hg)); replace HB := aM (qB bl hb); clear hb hbox hg) | ((with_reducible refine qH (N := 4) rfl ?_); refine bE (N := 4) (cs := #[.int .i64 0, .int .i64 0, .int .i64 0, .int .i64 0, .int .i64 0, .int .i64 0]) (t := 26) ?_; intro gb358 hg w11 hbox hb; have BK358 := aM (hbox); have GW358 := aM ((gg hg)); have GE358 := aM ((gg hg)); have NB357_358 := aM ((nl BK357 hg)); have NB358_357 := aM ((nr BK357 hg)); replace BK357 := aM (bb BK357 hb); replace HB := aM (qB bl hb); clear hb hbox hg; have hnb12 := NB357_358.out; have hnc12 := NB358_357.out; (refine cb6 BK357 ?_; intro _ _ _ _ _ _); (refine cz6 BK357 ?_; intro _ _ _ _ _ _); (refine cb6 BK358 ?_; intro _ _ _ _ _ _); (refine cz6 BK358 ?_; intro _ _ _ _ _ _)))
   refine bodyPost_ret (results_cell_row rfl _ _ gb358 26 #[.int .i64 a0_4, .int .i64 a0_1, .int .i64 a0_0, .int .i64 a0_3, .int .i64 a0_5, .int .i64 a0_2] (0, 0) _ rfl (by (with_reducible repeat (first | refine qG ?_ _ | refine qE ?_ | refine qF ?_ _)); exact bP6 BK358) Tryd.underlying26 rfl (by kernel_rfl)) rfl ?_
   exact ⟨sR, bl⟩
  ·rw [if_neg c9] at H
   have c9b0 := beq_eq_false_iff_ne.mpr c9
   have c9b1 := bne_iff_ne.mpr c9
   by_cases c15 : a1 = 115
   ·rw [if_pos c15] at H
    have c15b0 := beq_iff_eq.mpr c15
    have c15b1 := bne_eq_false_iff_eq.mpr c15
    clear c15
    simp only [Option.some.injEq, Prod.mk.injEq] at H
    obtain ⟨rfl, rfl, rfl, rfl, rfl, rfl⟩ := H
    go_enter Tryd.func35, Tryd.ntmps35
    go_wp2_with (first | ((with_reducible refine qH (N := 2) rfl ?_); refine bE (N := 2) (cs := #[.int .i64 a0_0, .int .i64 a0_1, .int .i64 a0_2, .int .i64 a0_3, .int .i64 a0_4, .int .i64 a0_5]) (t := 26) ?_; intro gb357 hg w16 hbox hb; have BK357 := aM (hbox); have GW357 := aM ((gg hg)); have GE357 := aM ((gg hg)); replace HB := aM (qB bl hb); clear hb hbox hg) | ((with_reducible refine qH (N := 4) rfl ?_); refine bE (N := 4) (cs := #[.int .i64 0, .int .i64 0, .int .i64 0, .int .i64 0, .int .i64 0, .int .i64 0]) (t := 26) ?_; intro gb358 hg w17 hbox hb; have BK358 := aM (hbox); have GW358 := aM ((gg hg)); have GE358 := aM ((gg hg)); have NB357_358 := aM ((nl BK357 hg)); have NB358_357 := aM ((nr BK357 hg)); replace BK357 := aM (bb BK357 hb); replace HB := aM (qB bl hb); clear hb hbox hg; have hnb18 := NB357_358.out; have hnc18 := NB358_357.out; (refine cb6 BK357 ?_; intro _ _ _ _ _ _); (refine cz6 BK357 ?_; intro _ _ _ _ _ _); (refine cb6 BK358 ?_; intro _ _ _ _ _ _); (refine cz6 BK358 ?_; intro _ _ _ _ _ _)))
    refine bodyPost_ret (results_cell_row rfl _ _ gb358 26 #[.int .i64 a0_1, .int .i64 a0_5, .int .i64 a0_2, .int .i64 a0_0, .int .i64 a0_4, .int .i64 a0_3] (0, 0) _ rfl (by (with_reducible repeat (first | refine qG ?_ _ | refine qE ?_ | refine qF ?_ _)); exact bP6 BK358) Tryd.underlying26 rfl (by kernel_rfl)) rfl ?_
    exact ⟨sR, bl⟩
   ·rw [if_neg c15] at H
    have c15b0 := beq_eq_false_iff_ne.mpr c15
    have c15b1 := bne_iff_ne.mpr c15
    simp only [Option.some.injEq, Prod.mk.injEq] at H
    obtain ⟨rfl, rfl, rfl, rfl, rfl, rfl⟩ := H
    go_enter Tryd.func35, Tryd.ntmps35
    go_wp2_with (first | ((with_reducible refine qH (N := 2) rfl ?_); refine bE (N := 2) (cs := #[.int .i64 a0_0, .int .i64 a0_1, .int .i64 a0_2, .int .i64 a0_3, .int .i64 a0_4, .int .i64 a0_5]) (t := 26) ?_; intro gb357 hg w21 hbox hb; have BK357 := aM (hbox); have GW357 := aM ((gg hg)); have GE357 := aM ((gg hg)); replace HB := aM (qB bl hb); clear hb hbox hg) | ((with_reducible refine qH (N := 4) rfl ?_); refine bE (N := 4) (cs := #[.int .i64 0, .int .i64 0, .int .i64 0, .int .i64 0, .int .i64 0, .int .i64 0]) (t := 26) ?_; intro gb358 hg w22 hbox hb; have BK358 := aM (hbox); have GW358 := aM ((gg hg)); have GE358 := aM ((gg hg)); have NB357_358 := aM ((nl BK357 hg)); have NB358_357 := aM ((nr BK357 hg)); replace BK357 := aM (bb BK357 hb); replace HB := aM (qB bl hb); clear hb hbox hg; have hnb23 := NB357_358.out; have hnc23 := NB358_357.out; (refine cb6 BK357 ?_; intro _ _ _ _ _ _); (refine cz6 BK357 ?_; intro _ _ _ _ _ _); (refine cb6 BK358 ?_; intro _ _ _ _ _ _); (refine cz6 BK358 ?_; intro _ _ _ _ _ _)))
    refine bodyPost_ret (results_cell_row rfl _ _ gb358 26 #[.int .i64 a0_2, .int .i64 a0_1, .int .i64 a0_5, .int .i64 a0_3, .int .i64 a0_0, .int .i64 a0_4] (0, 0) _ rfl (by (with_reducible repeat (first | refine qG ?_ _ | refine qE ?_ | refine qF ?_ _)); exact bP6 BK358) Tryd.underlying26 rfl (by kernel_rfl)) rfl ?_
    exact ⟨sR, bl⟩
def qzA.f (l0 : List ByteArray) (a1_0 : Int) (a1_1 : Int) (a1_2 : Int) (a1_3 : Int) (a1_4 : Int) (a1_5 : Int) (a1_6 : Int) (a1_7 : Int) (a2 : Int) : Option (Int × Int × Int × Int × Int × Int × Int × Int × Bool) := (qTB.f a1_0 a1_1 a2).bind fun bt361 => ((qnA.f a1_2 a1_3 a1_4 a1_5 a1_6 a1_7 a2).bind fun bt363 => ((qIA.f l0 bt361.1 bt361.2).bind fun t369 => (some (bt361.1, bt361.2, bt363.1, bt363.2.1, bt363.2.2.1, bt363.2.2.2.1, bt363.2.2.2.2.1, bt363.2.2.2.2.2, (t369 == 46)))))
set_option maxHeartbeats 8000000 in
set_option maxRecDepth 100000 in
theorem qzA.calls (A0 : Option Addr) (c0 : Nat) (l0 : List ByteArray) (a1_0 : Int) (a1_1 : Int) (a1_2 : Int) (a1_3 : Int) (a1_4 : Int) (a1_5 : Int) (a1_6 : Int) (a1_7 : Int) (a2 : Int) (r1 : Int) (r2 : Int) (r3 : Int) (r4 : Int) (r5 : Int) (r6 : Int) (r7 : Int) (r8 : Int) (r9 : Bool) (w : World) (hr0 : Kd.C Kd.string w A0 l0.length l0) (hc0 : l0.length ≤ c0) (h : qzA.f l0 a1_0 a1_1 a1_2 a1_3 a1_4 a1_5 a1_6 a1_7 a2 = some (r1, r2, r3, r4, r5, r6, r7, r8, r9)) :
  Calls Tryd.prog 23 #[.slice A0 l0.length c0, .agg #[.int .i64 a1_0, .int .i64 a1_1, .int .i64 a1_2, .int .i64 a1_3, .int .i64 a1_4, .int .i64 a1_5, .int .i64 a1_6, .int .i64 a1_7], .int .u8 a2] w fun e w' => e = .returned (.tuple #[.agg #[.int .i64 r1, .int .i64 r2, .int .i64 r3, .int .i64 r4, .int .i64 r5, .int .i64 r6, .int .i64 r7, .int .i64 r8], .bool r9]) ∧ Below w.heap.size w w' := by
 have hu28 := Tryd.underlying28
 have hu26 := Tryd.underlying26
 have HR0 := aM hr0
 have HC0 := aM hc0
 clear hr0 hc0
 have HB := aM (Below.refl w.heap.size w)
 have H : ((qTB.f a1_0 a1_1 a2).bind fun bt361 => ((qnA.f a1_2 a1_3 a1_4 a1_5 a1_6 a1_7 a2).bind fun bt363 => ((qIA.f l0 bt361.1 bt361.2).bind fun t369 => (some (bt361.1, bt361.2, bt363.1, bt363.2.1, bt363.2.2.1, bt363.2.2.2.1, bt363.2.2.2.2.1, bt363.2.2.2.2.2, (t369 == 46)))))) = some (r1, r2, r3, r4, r5, r6, r7, r8, r9) := h
 clear h
 replace H := bO H
 obtain ⟨⟨t361, t362⟩, A4, H⟩ := H
 dsimp only at H A4
 replace H := bO H
 obtain ⟨⟨t363, t364, t365, t366, t367, t368⟩, A5, H⟩ := H
 dsimp only at H A5
 replace H := bO H
 obtain ⟨t369, A6, H⟩ := H
 simp only [Option.some.injEq, Prod.mk.injEq] at H
 obtain ⟨rfl, rfl, rfl, rfl, rfl, rfl, rfl, rfl, rfl⟩ := H
 go_enter Tryd.func23, Tryd.ntmps23
 go_wp2_with (first | ((with_reducible refine qH (N := 4) rfl ?_); refine bE (N := 4) (cs := #[.int .i64 a1_0, .int .i64 a1_1, .int .i64 a1_2, .int .i64 a1_3, .int .i64 a1_4, .int .i64 a1_5, .int .i64 a1_6, .int .i64 a1_7]) (t := 28) ?_; intro gb359 hg w7 hbox hb; have BK359 := aM (hbox); have GW359 := aM ((gg hg)); have GE359 := aM ((gg hg)); replace HB := aM (qB bl hb); clear hb hbox hg) | ((with_reducible refine qH (N := 6) rfl ?_); refine bE (N := 6) (cs := #[.int .i64 0, .int .i64 0, .int .i64 0, .int .i64 0, .int .i64 0, .int .i64 0, .int .i64 0, .int .i64 0]) (t := 28) ?_; intro gb360 hg w8 hbox hb; have BK360 := aM (hbox); have GW360 := aM ((gg hg)); have GE360 := aM ((gg hg)); have NB359_360 := aM ((nl BK359 hg)); have NB360_359 := aM ((nr BK359 hg)); replace BK359 := aM (bb BK359 hb); replace HB := aM (qB bl hb); clear hb hbox hg; have hnb9 := NB359_360.out; have hnc9 := NB360_359.out; (refine cb8 BK359 ?_; intro _ _ _ _ _ _ _ _); (refine cz8 BK359 ?_; intro _ _ _ _ _ _ _ _)) | ((with_reducible refine qJ (f := 34) rfl ?_); refine qZ (some 16) rfl rfl Tryd.func34 (by kernel_rfl) rfl #[.int .i64 a1_0, .int .i64 a1_1, .int .u8 a2] rfl gA ?_; (with_reducible refine (qTB.calls a1_0 a1_1 a2 t361 t362 _ A4.out).mono ?_); rintro e w' ⟨rfl, ⟨nd, rfl⟩⟩; refine ⟨_, rfl, ?_⟩; (try (rw [qsB w8]; generalize hq_ : World.drewN w8 _ = w8; have n0_ : Aside0 (w8.heap[gb359]? = some (.cells #[.int .i64 a1_0, .int .i64 a1_1, .int .i64 a1_2, .int .i64 a1_3, .int .i64 a1_4, .int .i64 a1_5, .int .i64 a1_6, .int .i64 a1_7] 28 (0, 0))) := ⟨by rw [← hq_]; exact (rB BK359)⟩; have n1_ : Aside0 (w8.heap[gb360]? = some (.cells #[.int .i64 0, .int .i64 0, .int .i64 0, .int .i64 0, .int .i64 0, .int .i64 0, .int .i64 0, .int .i64 0] 28 (0, 0))) := ⟨by rw [← hq_]; exact (rB BK360)⟩; have n2_ : Aside0 (Below w.heap.size w w8) := ⟨by rw [← hq_]; exact bl⟩; clear BK359 BK360 HB hq_; have BK359 := n0_; have BK360 := n1_; have HB := n2_; clear n0_ n1_ n2_)); (refine cb8 BK359 ?_; intro _ _ _ _ _ _ _ _); (refine cz8 BK359 ?_; intro _ _ _ _ _ _ _ _)) | ((with_reducible refine qJ (f := 35) rfl ?_); refine qZ (some 24) rfl rfl Tryd.func35 (by kernel_rfl) rfl #[.agg #[.int .i64 a1_2, .int .i64 a1_3, .int .i64 a1_4, .int .i64 a1_5, .int .i64 a1_6, .int .i64 a1_7], .int .u8 a2] rfl gA ?_; (with_reducible refine (qnA.calls a1_2 a1_3 a1_4 a1_5 a1_6 a1_7 a2 t363 t364 t365 t366 t367 t368 _ A5.out).mono ?_); rintro e w12 ⟨rfl, hb⟩; refine ⟨_, rfl, ?_⟩; replace BK359 := aM (bb BK359 hb); replace BK360 := aM (bb BK360 hb); replace HB := aM (qB bl hb); (try clear hb); (try clear hb2); (try clear hk); (try clear hi)) | ((with_reducible refine qJ (f := 36) rfl ?_); refine qZ (some 29) rfl rfl Tryd.func36 (by kernel_rfl) rfl #[.slice A0 l0.length c0, .int .i64 t361, .int .i64 t362] rfl gA ?_; (with_reducible refine (qIA.calls _ _ l0 t361 t362 t369 _ ?side1 ?side2 A6.out).mono ?_); (case side1 => repeat (first | exact (Kd.qdA HR0.out HB.out) | (with_reducible refine Kd.qPA ?_ _) | (with_reducible refine Kd.qOA ?_ _) | (with_reducible refine Kd.qkA ?_))); (case side2 => exact HC0.out); rintro e w' ⟨rfl, ⟨nd, rfl⟩⟩; refine ⟨_, rfl, ?_⟩; (try (rw [qsB w12]; generalize hq_ : World.drewN w12 _ = w12; have n0_ : Aside0 (w12.heap[gb359]? = some (.cells #[.int .i64 a1_0, .int .i64 a1_1, .int .i64 a1_2, .int .i64 a1_3, .int .i64 a1_4, .int .i64 a1_5, .int .i64 a1_6, .int .i64 a1_7] 28 (0, 0))) := ⟨by rw [← hq_]; exact (rB BK359)⟩; have n1_ : Aside0 (w12.heap[gb360]? = some (.cells #[.int .i64 0, .int .i64 0, .int .i64 0, .int .i64 0, .int .i64 0, .int .i64 0, .int .i64 0, .int .i64 0] 28 (0, 0))) := ⟨by rw [← hq_]; exact (rB BK360)⟩; have n2_ : Aside0 (Below w.heap.size w w12) := ⟨by rw [← hq_]; exact bl⟩; clear BK359 BK360 HB hq_; have BK359 := n0_; have BK360 := n1_; have HB := n2_; clear n0_ n1_ n2_)); (refine cb8 BK360 ?_; intro _ _ _ _ _ _ _ _); (refine cz8 BK360 ?_; intro _ _ _ _ _ _ _ _)))
 refine bodyPost_ret (qTA rfl _ _ gb360 28 #[.int .i64 t361, .int .i64 t362, .int .i64 t363, .int .i64 t364, .int .i64 t365, .int .i64 t366, .int .i64 t367, .int .i64 t368] (0, 0) _ rfl (by (with_reducible repeat (first | refine qG ?_ _ | refine qE ?_ | refine qF ?_ _)); exact bP8 BK360) Tryd.underlying28 rfl (by kernel_rfl)) rfl ?_
 exact ⟨sR, bl⟩
end Go.Proofs.YtdhbimankkpllaaDoor.P
namespace Go.Proofs.YtdhbimankkpllaaDoor
open Go.RowKit Go.Proofs.YtdhbimankkpllaaDoor.P Go.Proofs.YtdhbimankkpllaaDoorW.PrintWords Go.Proofs.YtdhbimankkpllaaDoorW.PrintLast
set_option linter.unusedVariables false
set_option linter.unusedSimpArgs false
abbrev XS := S28
def stateB (a : ByteArray) (s : XS) : Bool := floorB a s.f0 s.f1 && dieB s.f2.f0 s.f2.f1 s.f2.f2 s.f2.f3 s.f2.f4 s.f2.f5
abbrev csOf (a : ByteArray) : List Int := numsOf (flatT a.data.toList)
theorem boFloor_eq {a : ByteArray} (g : Gnd a) (x y : Int) : qMA.f (wideT a : Int) (highT a : Int) (csOf a) x y = some (floorB a x y) := by
 unfold qMA.f floorB
 rw [boCell_eq g, Option.bind_some]
 cases h : hasB a x y with
 | false => rw [if_neg (by decide)]; rfl
 | true =>
  obtain ⟨h1, h2, h3⟩ := spec_at g x y h
  rw [if_pos rfl, if_pos h1, if_pos h2, h3]; rfl
theorem isState_ev {a : ByteArray} (g : Gnd a) (s : XS) : Ev (fun k => qNA.f k (rowsT a) s.f0 s.f1 s.f2.f0 s.f2.f1 s.f2.f2 s.f2.f3 s.f2.f4 s.f2.f5) (stateB a s) := by
 unfold qNA.f stateB
 refine Ev.bind (impl_IsDie_ev _ _ _ _ _ _) ?_
 obtain ⟨c, h1, h2⟩ := at_floor g s.f0 s.f1
 cases hd : dieB s.f2.f0 s.f2.f1 s.f2.f2 s.f2.f3 s.f2.f4 s.f2.f5 with
 | false =>
  rw [Bool.and_false]
  exact Ev.neg (by decide) (Ev.now _)
 | true =>
  rw [Bool.and_true, ← h2]
  exact Ev.pos rfl (Ev.bindc h1 (Ev.some_ rfl))
theorem boState_ev {a : ByteArray} (g : Gnd a) (s : XS) : Ev (fun k => qsA.f k (wideT a : Int) (highT a : Int) (csOf a) s.f0 s.f1 s.f2.f0 s.f2.f1 s.f2.f2 s.f2.f3 s.f2.f4 s.f2.f5) (stateB a s) := by
 unfold qsA.f stateB
 refine Ev.bindc (boFloor_eq g _ _) ?_
 cases hd : floorB a s.f0 s.f1 with
 | false => exact Ev.neg (by decide) (Ev.now _)
 | true => exact Ev.pos rfl (Ev.bind (spec_diGood_ev _ _ _ _ _ _) (Ev.now _))
def dOf (c : Int) : Int := if c = 110 then 0 else if c = 101 then 1 else if c = 115 then 2 else 3
def nextC (x y d : Int) : Int × Int := if d = 0 then (x, wrap64 (y - 1)) else if d = 1 then (wrap64 (x + 1), y) else if d = 2 then (x, wrap64 (y + 1)) else (wrap64 (x - 1), y)
abbrev XD := S26
def rollD (x : XD) (d : Int) : XD := if d = 0 then ⟨x.f3, x.f0, x.f2, x.f5, x.f4, x.f1⟩ else if d = 1 then ⟨x.f4, x.f1, x.f0, x.f3, x.f5, x.f2⟩ else if d = 2 then ⟨x.f1, x.f5, x.f2, x.f0, x.f4, x.f3⟩ else ⟨x.f2, x.f1, x.f5, x.f3, x.f0, x.f4⟩
def tupD (x : XD) : Int × Int × Int × Int × Int × Int := (x.f0, x.f1, x.f2, x.f3, x.f4, x.f5)
def rollS (s : XS) (d : Int) : XS := ⟨(nextC s.f0 s.f1 d).1, (nextC s.f0 s.f1 d).2, rollD s.f2 d⟩
theorem implNext_eq (x y c : Int) : qTB.f x y c = some (nextC x y (dOf c)) := by
 unfold qTB.f nextC dOf
 by_cases h1 : c = 110
 ·simp [h1]
 by_cases h2 : c = 101
 ·simp [h1, h2]
 by_cases h3 : c = 115
 ·simp [h1, h2, h3]
 simp [h1, h2, h3]
theorem specNext_eq (x y d : Int) : qtA.f x y d = some (nextC x y d) := by
 unfold qtA.f nextC
 by_cases h1 : d = 0
 ·simp [h1]
 by_cases h2 : d = 1
 ·simp [h1, h2]
 by_cases h3 : d = 2
 ·simp [h1, h2, h3]
 simp [h1, h2, h3]
theorem implDie_eq (x : XD) (c : Int) : qnA.f x.f0 x.f1 x.f2 x.f3 x.f4 x.f5 c = some (tupD (rollD x (dOf c))) := by
 unfold qnA.f rollD dOf
 by_cases h1 : c = 110
 ·simp [tupD, h1]
 by_cases h2 : c = 101
 ·simp [tupD, h1, h2]
 by_cases h3 : c = 115
 ·simp [tupD, h1, h2, h3]
 simp [tupD, h1, h2, h3]
theorem specDie_eq (x : XD) (d : Int) : qBB.f x.f0 x.f1 x.f2 x.f3 x.f4 x.f5 d = some (tupD (rollD x d)) := by
 unfold qBB.f rollD
 by_cases h1 : d = 0
 ·simp [tupD, h1]
 by_cases h2 : d = 1
 ·simp [tupD, h1, h2]
 by_cases h3 : d = 2
 ·simp [tupD, h1, h2, h3]
 simp [tupD, h1, h2, h3]
theorem implRoll_eq {a : ByteArray} (g : Gnd a) (s : XS) (c : Int) : qzA.f (rowsT a) s.f0 s.f1 s.f2.f0 s.f2.f1 s.f2.f2 s.f2.f3 s.f2.f4 s.f2.f5 c = some ((rollS s (dOf c)).f0, (rollS s (dOf c)).f1, (rollS s (dOf c)).f2.f0, (rollS s (dOf c)).f2.f1, (rollS s (dOf c)).f2.f2, (rollS s (dOf c)).f2.f3, (rollS s (dOf c)).f2.f4, (rollS s (dOf c)).f2.f5, floorB a (rollS s (dOf c)).f0 (rollS s (dOf c)).f1) := by
 unfold qzA.f
 obtain ⟨q, h1, h2⟩ := at_floor g (rollS s (dOf c)).f0 (rollS s (dOf c)).f1
 rw [implNext_eq, Option.bind_some, implDie_eq, Option.bind_some]
 rw [show qIA.f (rowsT a) (nextC s.f0 s.f1 (dOf c)).1 (nextC s.f0 s.f1 (dOf c)).2 = some q from h1, Option.bind_some, ← h2]
 rfl
theorem specRoll_eq {a : ByteArray} (g : Gnd a) (s : XS) (d : Int) : qhA.f (wideT a : Int) (highT a : Int) (csOf a) s.f0 s.f1 s.f2.f0 s.f2.f1 s.f2.f2 s.f2.f3 s.f2.f4 s.f2.f5 d = some (if floorB a (rollS s d).f0 (rollS s d).f1 = true then ((rollS s d).f0, (rollS s d).f1, (rollS s d).f2.f0, (rollS s d).f2.f1, (rollS s d).f2.f2, (rollS s d).f2.f3, (rollS s d).f2.f4, (rollS s d).f2.f5, true) else (0, 0, 0, 0, 0, 0, 0, 0, false)) := by
 unfold qhA.f
 rw [specNext_eq, Option.bind_some, show qMA.f (wideT a : Int) (highT a : Int) (csOf a) (nextC s.f0 s.f1 d).1 (nextC s.f0 s.f1 d).2 = some (floorB a (rollS s d).f0 (rollS s d).f1) from boFloor_eq g _ _, Option.bind_some]
 cases h : floorB a (rollS s d).f0 (rollS s d).f1 with
 | true =>
  rw [if_pos rfl, specDie_eq, Option.bind_some, if_pos rfl]; rfl
 | false => rw [if_neg (by decide), if_neg (by decide)]
abbrev DD := S26
theorem qyC {a b : DD} (h0 : a.f0 = b.f0) (h1 : a.f1 = b.f1) (h2 : a.f2 = b.f2) (h3 : a.f3 = b.f3) (h4 : a.f4 = b.f4) (h5 : a.f5 = b.f5) : a = b := by
 cases a; cases b; simp only at h0 h1 h2 h3 h4 h5; subst h0; subst h1; subst h2; subst h3; subst h4; subst h5; rfl
instance ddDec : DecidableEq DD := fun a b =>
 if h : a.f0 = b.f0 ∧ a.f1 = b.f1 ∧ a.f2 = b.f2 ∧ a.f3 = b.f3 ∧ a.f4 = b.f4 ∧ a.f5 = b.f5 then isTrue (qyC h.1 h.2.1 h.2.2.1 h.2.2.2.1 h.2.2.2.2.1 h.2.2.2.2.2) else isFalse (fun e => h (by subst e; exact ⟨rfl, rfl, rfl, rfl, rfl, rfl⟩))
def rolD (x : DD) (d : Nat) : DD := if d = 0 then ⟨x.f3, x.f0, x.f2, x.f5, x.f4, x.f1⟩ else if d = 1 then ⟨x.f4, x.f1, x.f0, x.f3, x.f5, x.f2⟩ else if d = 2 then ⟨x.f1, x.f5, x.f2, x.f0, x.f4, x.f3⟩ else ⟨x.f2, x.f1, x.f5, x.f3, x.f0, x.f4⟩
def dirsW : ByteArray := ⟨#[110, 101, 115, 119]⟩
def dirW (d : Nat) : ByteArray := dirsW.extract d (d + 1)
def stepsD (x : DD) (w : ByteArray) : Nat → Nat → List (Option DD × ByteArray)
 | 0, _ => []
 | n + 1, d => (some (rolD x d), w ++ dirW d) :: stepsD x w n (d + 1)
def nextD (_ : Nat) (x : DD) (w : ByteArray) : List (Option DD × ByteArray) := stepsD x w 4 0
def faceD (x : DD) (n : Int) : Int := if n = 0 then x.f0 else if n = 1 then x.f1 else if n = 2 then x.f2 else if n = 3 then x.f3 else if n = 4 then x.f4 else x.f5
def putD (x p : DD) : DD := ⟨faceD x p.f0, faceD x p.f1, faceD x p.f2, faceD x p.f3, faceD x p.f4, faceD x p.f5⟩
theorem putD_rol (x p : DD) (d : Nat) : rolD (putD x p) d = putD x (rolD p d) := by
 unfold rolD
 by_cases h0 : d = 0
 ·simp only [if_pos h0]; rfl
 by_cases h1 : d = 1
 ·simp only [if_neg h0, if_pos h1]; rfl
 by_cases h2 : d = 2
 case pos => simp only [if_neg h0, if_neg h1, if_pos h2]; rfl
 simp only [if_neg h0, if_neg h1, if_neg h2]; rfl
def plainD : DD := ⟨0, 1, 2, 3, 4, 5⟩
def runD (x : DD) : List (DD × ByteArray) := Bfs.run nextD 24 0 [(x, ⟨#[]⟩)]
def rots : List DD := (runD plainD).map Prod.fst
theorem rots_len : rots.length = 24 := by decide +kernel
theorem rots_closed : ∀ p ∈ rots, rolD p 0 ∈ rots ∧ rolD p 1 ∈ rots ∧ rolD p 2 ∈ rots ∧ rolD p 3 ∈ rots := by decide +kernel
def imgs (x : DD) : List DD := rots.map (putD x)
theorem imgs_len (x : DD) : (imgs x).length = 24 := by unfold imgs; rw [List.length_map, rots_len]
theorem imgs_rol {x y : DD} (h : y ∈ imgs x) (d : Nat) (hd : d < 4) : rolD y d ∈ imgs x := by
 obtain ⟨p, hp, rfl⟩ := List.mem_map.1 h
 rw [putD_rol]
 refine List.mem_map_of_mem ?_
 have hc := rots_closed p hp
 have : d = 0 ∨ d = 1 ∨ d = 2 ∨ d = 3 := by omega
 rcases this with rfl | rfl | rfl | rfl
 ·exact hc.1
 ·exact hc.2.1
 ·exact hc.2.2.1
 ·exact hc.2.2.2
theorem steps_mem (x : DD) (w : ByteArray) : ∀ (n d : Nat), d + n = 4 → ∀ s ∈ stepsD x w n d, ∃ e, e < 4 ∧ s = (some (rolD x e), w ++ dirW e)
 | 0, _, _, s, hs => by cases hs
 | n + 1, d, hd, s, hs => by
  rcases List.mem_cons.1 hs with rfl | hs
  ·exact ⟨d, by omega, rfl⟩
  ·exact steps_mem x w n (d + 1) (by omega) s hs
structure FoundD (x : DD) (L : List (DD × ByteArray)) : Prop where
 nodup : (L.map Prod.fst).Nodup
 img : ∀ z ∈ L, z.1 ∈ imgs x
theorem FoundD.len {x : DD} {L : List (DD × ByteArray)} (h : FoundD x L) : L.length ≤ 24 := by
 have := Bfs.nodup_len (U := imgs x) h.nodup (fun y hy => by
  obtain ⟨z, hz, rfl⟩ := List.mem_map.1 hy
  exact h.img z hz)
 rwa [imgs_len, List.length_map] at this
theorem FoundD.put {x : DD} {L : List (DD × ByteArray)} (h : FoundD x L) (y : Option DD) (p : ByteArray) (hy : ∀ z, y = some z → z ∈ imgs x) : FoundD x (Bfs.put L y p) :=
 ⟨Bfs.qSC h.nodup y p, Bfs.qjC (Q := fun z => z.1 ∈ imgs x) h.img y p hy⟩
theorem nextD_img {x : DD} (i : Nat) (y : DD) (p : ByteArray) (h : y ∈ imgs x) : ∀ s ∈ nextD i y p, ∀ z, s.1 = some z → z ∈ imgs x := by
 intro s hs z hz
 obtain ⟨e, he, rfl⟩ := steps_mem y p 4 0 rfl s hs
 cases hz
 exact imgs_rol h e he
theorem FoundD.round {x : DD} {L : List (DD × ByteArray)} (h : FoundD x L) (i : Nat) : FoundD x (Bfs.round nextD i L) :=
 ⟨Bfs.qwB _ h.nodup i, Bfs.qQC nextD (Q := fun z => z.1 ∈ imgs x) (fun i y p hy => nextD_img i y p hy) i h.img⟩
theorem FoundD.run {x : DD} {L : List (DD × ByteArray)} (h : FoundD x L) (n i : Nat) : FoundD x (Bfs.run nextD n i L) :=
 ⟨Bfs.qPC _ n i h.nodup, Bfs.qXC nextD (Q := fun z => z.1 ∈ imgs x) (fun i y p hy => nextD_img i y p hy) n i h.img⟩
end Go.Proofs.YtdhbimankkpllaaDoor
namespace Go.Proofs.YtdhbimankkpllaaDoor
set_option linter.unusedVariables false
set_option linter.unusedSimpArgs false
def cmpI (a b : Int) : Int := if a < b then -1 else if a > b then 1 else 0
def lexI : List Int → List Int → Int
 | [], [] => 0
 | [], _ :: _ => -1
 | _ :: _, [] => 1
 | a :: l, b :: m => if cmpI a b = 0 then lexI l m else cmpI a b
theorem cmpI_neg (a b : Int) : cmpI a b < 0 ↔ a < b := by
 unfold cmpI
 split
 ·omega
 ·split <;> omega
theorem cmpI_zero (a b : Int) : cmpI a b = 0 ↔ a = b := by
 unfold cmpI
 split
 ·omega
 ·split <;> omega
theorem lexI_self : ∀ l : List Int, lexI l l = 0
 | [] => rfl
 | a :: l => by
  have h := (cmpI_zero a a).2 rfl
  rw [lexI, if_pos h]
  exact lexI_self l
theorem qIB (a b : Int) (l m : List Int) : lexI (a :: l) (b :: m) < 0 ↔ a < b ∨ (a = b ∧ lexI l m < 0) := by
 have h1 := cmpI_neg a b
 have h2 := cmpI_zero a b
 rw [lexI]
 split <;> omega
theorem lexI_trans : ∀ l m k : List Int, l.length = m.length → m.length = k.length → lexI l m < 0 → lexI m k < 0 → lexI l k < 0
 | [], [], [], _, _, h, _ => h
 | a :: l, b :: m, c :: k, h1, h2, h3, h4 => by
  rw [qIB] at *
  have ih := lexI_trans l m k (by simpa using h1) (by simpa using h2)
  by_cases e1 : lexI l m < 0
  ·by_cases e2 : lexI m k < 0
   ·have := ih e1 e2; omega
   ·omega
  ·omega
theorem lexI_tot : ∀ l m : List Int, l.length = m.length → ¬ lexI l m < 0 → ¬ lexI m l < 0 → l = m
 | [], [], _, _, _ => rfl
 | a :: l, b :: m, h, h1, h2 => by
  rw [qIB] at h1 h2
  have e : a = b := by omega
  subst e
  rw [lexI_tot l m (by simpa using h) (by omega) (by omega)]
end Go.Proofs.YtdhbimankkpllaaDoor
namespace Go.Proofs.YtdhbimankkpllaaDoor.Sorts
section
variable {α : Type}
variable {lt : α → α → Bool}
theorem one {l l' : List α} (h : l.Pairwise (fun a b => lt b a = false)) (h' : l'.Pairwise (fun a b => lt b a = false)) (hp : l.Perm l') (ha : ∀ a ∈ l, ∀ b ∈ l, lt a b = false → lt b a = false → a = b) : l = l' :=
 List.Perm.eq_of_pairwise (le := fun a b => lt b a = false) (fun a b h1 h2 h3 h4 => ha a h1 b (hp.mem_iff.2 h2) h4 h3) h h' hp
end
theorem qHB {α : Type} {L : List α} {i : Nat} {c : α} {cs : List α} (h : L.drop i = c :: cs) : ∃ hi : i < L.length, L[i] = c ∧ L.drop (i + 1) = cs := by
 have hi : i < L.length := by
  rcases Nat.lt_or_ge i L.length with h1 | h1
  ·exact h1
  ·rw [List.drop_eq_nil_of_le h1] at h; cases h
 rw [List.drop_eq_getElem_cons hi] at h
 injection h with h1 h2
 exact ⟨hi, h1, h2⟩
theorem qOB {α : Type} {L : List α} {i : Nat} (h : L.drop i = []) : L.length ≤ i := by
 rcases Nat.lt_or_ge i L.length with h1 | h1
 ·rw [List.drop_eq_getElem_cons h1] at h; cases h
 ·exact h1
end Go.Proofs.YtdhbimankkpllaaDoor.Sorts
namespace Go.Proofs.YtdhbimankkpllaaDoor
open Go.RowKit Go.Proofs.YtdhbimankkpllaaDoor.P Go.Proofs.YtdhbimankkpllaaDoorW.PrintWords Go.Proofs.YtdhbimankkpllaaDoorW.PrintLast
set_option linter.unusedVariables false
set_option linter.unusedSimpArgs false
def facesD (x : DD) : List Int := [x.f0, x.f1, x.f2, x.f3, x.f4, x.f5]
theorem facesD_inj {x y : DD} (h : facesD x = facesD y) : x = y := by
 unfold facesD at h
 injection h with h0 h
 injection h with h1 h
 injection h with h2 h
 injection h with h3 h
 injection h with h4 h
 injection h with h5 h
 exact qyC h0 h1 h2 h3 h4 h5
def ltD (x y : DD) : Bool := decide (lexI (facesD x) (facesD y) < 0)
def codeF (o : Int) (l : List Int) : Int := l.foldl (fun o f => 10 * o + f) o
theorem codeF_inj : ∀ (l m : List Int) (o p : Int), l.length = m.length → (∀ n ∈ l, 0 ≤ n ∧ n ≤ 9) → (∀ n ∈ m, 0 ≤ n ∧ n ≤ 9) → codeF o l = codeF p m → o = p ∧ l = m
 | [], [], o, p, _, _, _, h => ⟨h, rfl⟩
 | [], _ :: _, _, _, h, _, _, _ => by simp at h
 | _ :: _, [], _, _, h, _, _, _ => by simp at h
 | a :: l, b :: m, o, p, hl, h1, h2, h => by
  obtain ⟨h3, h4⟩ := codeF_inj l m (10 * o + a) (10 * p + b) (by simpa using hl) (fun n hn => h1 n (List.mem_cons_of_mem _ hn)) (fun n hn => h2 n (List.mem_cons_of_mem _ hn)) h
  have ha := h1 a List.mem_cons_self
  have hb := h2 b List.mem_cons_self
  have : o = p := by omega
  refine ⟨this, ?_⟩
  rw [h4, show a = b by omega]
def goodD (x : DD) : Prop := ∀ n ∈ facesD x, 0 ≤ n ∧ n ≤ 9
theorem goodD_of {x : DD} (h : dieB x.f0 x.f1 x.f2 x.f3 x.f4 x.f5 = true) : goodD x := dieB_face h
theorem rdI (l : List Int) (i : Nat) (h : i < l.length) : rd l (i : Int) = l[i] := by
 unfold rd
 rw [Int.toNat_natCast, List.getD_eq_getElem?_getD, List.getElem?_eq_getElem h]; rfl
theorem wyCode_loop (F : List Int) (hF : F.length ≤ 6) : ∀ (u : List Int) (i : Nat) (o : Int), F.drop i = u → i ≤ F.length → (∀ n ∈ u, 0 ≤ n ∧ n ≤ 9) → 0 ≤ o → o < 100 * 10 ^ i →
  Ev (fun k => qj.l0 k o F (F.length : Int) (i : Int)) (codeF o u)
 | [], i, o, hd, hi, _, _, _ => by
  have := Sorts.qOB hd
  refine Ev.step (f := fun k => _) (fun k => by rw [qj.l0]) ?_
  exact Ev.neg (by omega) (Ev.now _)
 | a :: u, i, o, hd, hi, hu, h0, h1 => by
  obtain ⟨hlt, hc, hd'⟩ := Sorts.qHB hd
  have ha := hu a List.mem_cons_self
  have hp : (10 : Int) ^ (i + 1) = 10 ^ i * 10 := Int.pow_succ _ _
  have hb : (10 : Int) ^ i ≤ 1000000 := by
   have : i < 6 := by omega
   have : i = 0 ∨ i = 1 ∨ i = 2 ∨ i = 3 ∨ i = 4 ∨ i = 5 := by omega
   rcases this with rfl | rfl | rfl | rfl | rfl | rfl <;> decide
  have ih := wyCode_loop F hF u (i + 1) (10 * o + a) hd' (by omega) (fun n hn => hu n (List.mem_cons_of_mem _ hn)) (by omega) (by rw [hp]; omega)
  have w : wrap64 ((i : Int) + 1) = ((i + 1 : Nat) : Int) := by unfold wrap64; omega
  have w1 : wrap64 (10 * o) = 10 * o := by unfold wrap64; omega
  have w2 : wrap64 (10 * o + a) = 10 * o + a := by unfold wrap64; omega
  refine Ev.step (f := fun k => _) (fun k => by rw [qj.l0]) ?_
  rw [rdI F i hlt, hc, w, w1, w2]
  clear hd hd' hc
  exact Ev.pos (by omega) (Ev.pos (by omega) (Ev.pos (by omega) ih))
theorem wyCode_ev (W H : Int) (cs : List Int) (x y : Int) (d : DD) (hd : goodD d) (h0 : 0 ≤ y * W + x) (h1 : y * W + x < 100) (hw : wrap64 (y * W) = y * W) :
  Ev (fun k => qj.f k W H cs x y d.f0 d.f1 d.f2 d.f3 d.f4 d.f5) (codeF (y * W + x) (facesD d)) := by
 unfold qj.f
 refine Ev.bindc (show qz.f d.f0 d.f1 d.f2 d.f3 d.f4 d.f5 = some (facesD d) from rfl) ?_
 rw [hw, show wrap64 (y * W + x) = y * W + x by unfold wrap64; omega]
 exact wyCode_loop (facesD d) (by show 6 ≤ 6; omega) (facesD d) 0 _ rfl (by omega) hd h0 (by simpa using h1)
def plc (n : Int) : List Int → Nat → Int
 | [], _ => -1
 | x :: l, i => if x = n then (i : Int) else plc n l (i + 1)
theorem plc_mem (n : Int) : ∀ (l : List Int) (i : Nat), n ∈ l → ∃ j, j < l.length ∧ plc n l i = ((i + j : Nat) : Int) ∧ l[j]? = some n
 | [], _, h => by cases h
 | x :: l, i, h => by
  unfold plc
  by_cases e : x = n
  case pos => rw [if_pos e]; exact ⟨0, by simp, by simp, by simp [e]⟩
  rw [if_neg e]
  rcases List.mem_cons.1 h with h | h
  ·exact absurd h.symm e
  obtain ⟨j, h1, h2, h3⟩ := plc_mem n l (i + 1) h
  refine ⟨j + 1, by simp only [List.length_cons]; omega, by rw [h2]; congr 1; omega, by simpa using h3⟩
theorem wyPlace_loop (L : List Int) (hL : L.length ≤ 100000000) (n : Int) : ∀ (u : List Int) (i : Nat), L.drop i = u → i ≤ L.length → Ev (fun k => qCA.l0 k n L (L.length : Int) (i : Int)) (plc n u i)
 | [], i, hd, hi => by
  have := Sorts.qOB hd
  refine Ev.step (f := fun k => _) (fun k => by rw [qCA.l0]) ?_
  exact Ev.neg (by omega) (Ev.now _)
 | x :: u, i, hd, hi => by
  obtain ⟨hlt, hc, hd'⟩ := Sorts.qHB hd
  have ih := wyPlace_loop L hL n u (i + 1) hd' (by omega)
  have w : wrap64 ((i : Int) + 1) = ((i + 1 : Nat) : Int) := by unfold wrap64; omega
  refine Ev.step (f := fun k => _) (fun k => by rw [qCA.l0]) ?_
  rw [rdI L i hlt, hc, w]
  clear hd hd' hc
  unfold plc
  refine Ev.pos (by omega) (Ev.pos (by omega) (Ev.pos (by omega) ?_))
  by_cases e : x = n
  case pos => rw [if_pos e]; exact Ev.pos e (Ev.now _)
  rw [if_neg e]; exact Ev.neg e ih
theorem wyPlace_ev (L : List Int) (hL : L.length ≤ 100000000) (n : Int) : Ev (fun k => qCA.f k L n) (plc n L 0) := wyPlace_loop L hL n L 0 rfl (by omega)
theorem qoC {a b : XS} (h0 : a.f0 = b.f0) (h1 : a.f1 = b.f1) (h2 : a.f2 = b.f2) : a = b := by
 cases a; cases b; simp only at h0 h1 h2; subst h0; subst h1; subst h2; rfl
instance xsDec : DecidableEq XS := fun a b =>
 if h : a.f0 = b.f0 ∧ a.f1 = b.f1 ∧ a.f2 = b.f2 then isTrue (qoC h.1 h.2.1 h.2.2) else isFalse (fun e => h (by subst e; exact ⟨rfl, rfl, rfl⟩))
abbrev WB := Int × (Int × Int)
def rollO (a : ByteArray) (x : XS) (d : Int) : Option XS := if floorB a (rollS x d).f0 (rollS x d).f1 = true then some (rollS x d) else none
def stepsW (a : ByteArray) (i : Nat) (x : XS) (p : WB) : Nat → Nat → List (Option XS × WB)
 | 0, _ => []
 | n + 1, d => (rollO a x (d : Int), ((p.1.toNat : Int) + 1, ((i : Int), (d : Int)))) :: stepsW a i x p n (d + 1)
def nextW (a : ByteArray) (i : Nat) (x : XS) (p : WB) : List (Option XS × WB) := stepsW a i x p 4 0
theorem rollD_good {x : XD} {d : Int} (h : dieB x.f0 x.f1 x.f2 x.f3 x.f4 x.f5 = true) : dieB (rollD x d).f0 (rollD x d).f1 (rollD x d).f2 (rollD x d).f3 (rollD x d).f4 (rollD x d).f5 = true := by
 unfold rollD
 unfold dieB at h ⊢
 rw [List.all_eq_true] at h ⊢
 intro n hn
 refine h n ?_
 split at hn
 ·simp only [List.mem_cons, List.not_mem_nil, or_false] at hn ⊢
  omega
 split at hn
 ·simp only [List.mem_cons, List.not_mem_nil, or_false] at hn ⊢
  omega
 split at hn
 ·simp only [List.mem_cons, List.not_mem_nil, or_false] at hn ⊢
  omega
 ·simp only [List.mem_cons, List.not_mem_nil, or_false] at hn ⊢
  omega
theorem qpB {a : ByteArray} {x : XS} (h : stateB a x = true) {d : Int} {z : XS} (hz : rollO a x d = some z) : stateB a z = true := by
 unfold rollO at hz
 split at hz
 case isFalse => cases hz
 rename_i hf
 injection hz with hz
 subst hz
 unfold stateB at h ⊢
 rw [Bool.and_eq_true] at h ⊢
 exact ⟨hf, rollD_good h.2⟩
theorem qvB (a : ByteArray) (i : Nat) {x : XS} (h : stateB a x = true) (p : WB) : ∀ (n d : Nat), ∀ s ∈ stepsW a i x p n d, ∀ z, s.1 = some z → stateB a z = true
 | 0, _, s, hs, _, _ => by cases hs
 | n + 1, d, s, hs, z, hz => by
  rcases List.mem_cons.1 hs with rfl | hs
  ·exact qpB h hz
  ·exact qvB a i h p n (d + 1) s hs z hz
structure FoundW (a : ByteArray) (L : List (XS × WB)) : Prop where
 nd : (L.map Prod.fst).Nodup
 ok : ∀ z ∈ L, stateB a z.1 = true
theorem FoundW.start {a : ByteArray} {x : XS} (h : stateB a x = true) (p : WB) : FoundW a [(x, p)] := ⟨by simp, fun z hz => by rw [List.mem_singleton] at hz; subst hz; exact h⟩
theorem FoundW.put {a : ByteArray} {L : List (XS × WB)} (h : FoundW a L) (y : Option XS) (p : WB) (hy : ∀ z, y = some z → stateB a z = true) : FoundW a (Bfs.put L y p) :=
 ⟨Bfs.qSC h.nd y p, Bfs.qjC h.ok y p hy⟩
theorem FoundW.puts {a : ByteArray} {L : List (XS × WB)} (h : FoundW a L) (l : List (Option XS × WB)) (hl : ∀ s ∈ l, ∀ z, s.1 = some z → stateB a z = true) : FoundW a (Bfs.puts L l) :=
 ⟨Bfs.puts_nodup l h.nd, Bfs.qHC l h.ok hl⟩
theorem FoundW.round {a : ByteArray} {L : List (XS × WB)} (h : FoundW a L) (i : Nat) : FoundW a (Bfs.round (nextW a) i L) :=
 ⟨Bfs.qwB _ h.nd i, Bfs.qQC _ (Q := fun z => stateB a z.1 = true) (fun i x p hx s hs z hz => qvB a i hx p 4 0 s hs z hz) i h.ok⟩
theorem FoundW.run {a : ByteArray} {L : List (XS × WB)} (h : FoundW a L) (n i : Nat) : FoundW a (Bfs.run (nextW a) n i L) :=
 ⟨Bfs.qPC _ n i h.nd, Bfs.qXC _ (Q := fun z => stateB a z.1 = true) (fun i x p hx s hs z hz => qvB a i hx p 4 0 s hs z hz) n i h.ok⟩
def cellsN (a : ByteArray) : Int := (wideT a : Int) * (highT a : Int)
theorem cell_lin {x y W H : Int} (y0 : 0 ≤ y) (y1 : y < H) (x0 : 0 ≤ x) (x1 : x < W) : 0 ≤ y * W + x ∧ y * W + x < W * H := by
 have hp : (y + 1) * W ≤ H * W := Int.mul_le_mul_of_nonneg_right (by omega) (by omega)
 have hq : 0 ≤ y * W := Int.mul_nonneg y0 (by omega)
 rw [Int.add_mul, Int.one_mul] at hp
 rw [Int.mul_comm W H]
 generalize y * W = m at *
 generalize H * W = M at *
 omega
theorem qaB {a : ByteArray} (g : Gnd a) {t : XS} (h : stateB a t = true) : 0 ≤ t.f1 * (wideT a : Int) + t.f0 ∧ t.f1 * (wideT a : Int) + t.f0 < cellsN a ∧ 0 ≤ t.f0 ∧ t.f0 < (wideT a : Int) ∧ 0 ≤ t.f1 ∧ t.f1 < (highT a : Int) := by
 unfold stateB floorB at h
 simp only [Bool.and_eq_true] at h
 obtain ⟨⟨h1, _⟩, _⟩ := h
 obtain ⟨⟨y0, y1⟩, x0, x1⟩ := (qIC a t.f0 t.f1).1 h1
 obtain ⟨z0, z1⟩ := cell_lin y0 y1 x0 x1
 exact ⟨z0, z1, x0, x1, y0, y1⟩
theorem cellsN_le {a : ByteArray} (g : Gnd a) : 1 ≤ cellsN a ∧ cellsN a ≤ 49 := by
 have h1 := g.w1
 have h2 := g.h1
 have h3 := g.w7
 have h4 := g.h7
 unfold cellsN
 have e : (wideT a : Int) * (highT a : Int) = ((wideT a * highT a : Nat) : Int) := by rw [Int.natCast_mul]
 rw [e]
 have h5 : 1 * 1 ≤ wideT a * highT a := Nat.mul_le_mul h1 h2
 have h6 : wideT a * highT a ≤ 7 * 7 := Nat.mul_le_mul h3 h4
 omega
def codeY (a : ByteArray) (t : XS) : Int := codeF (t.f1 * (wideT a : Int) + t.f0) (facesD t.f2)
theorem qoB {a : ByteArray} {t : XS} (h : stateB a t = true) : goodD t.f2 := by
 unfold stateB at h
 rw [Bool.and_eq_true] at h
 exact goodD_of h.2
theorem codeY_bound {a : ByteArray} (g : Gnd a) {t : XS} (h : stateB a t = true) : 0 ≤ codeY a t ∧ codeY a t < 49000000 := by
 obtain ⟨h0, h1, _⟩ := qaB g h
 have h2 := (cellsN_le g).2
 have hd := qoB h
 unfold codeY codeF facesD
 unfold goodD facesD at hd
 generalize t.f1 * (wideT a : Int) + t.f0 = o at h0 h1 ⊢
 have q0 := hd t.f2.f0 (by simp)
 have q1 := hd t.f2.f1 (by simp)
 have q2 := hd t.f2.f2 (by simp)
 have q3 := hd t.f2.f3 (by simp)
 have q4 := hd t.f2.f4 (by simp)
 have q5 := hd t.f2.f5 (by simp)
 simp only [List.foldl]
 omega
theorem codeY_inj {a : ByteArray} (g : Gnd a) {t u : XS} (ht : stateB a t = true) (hu : stateB a u = true) (h : codeY a t = codeY a u) : t = u := by
 obtain ⟨h1, h2⟩ := codeF_inj (facesD t.f2) (facesD u.f2) _ _ rfl (qoB ht) (qoB hu) h
 obtain ⟨_, _, x0, x1, y0, y1⟩ := qaB g ht
 obtain ⟨_, _, x2, x3, y2, y3⟩ := qaB g hu
 have hy : t.f1 = u.f1 := by
  rcases Int.lt_trichotomy t.f1 u.f1 with q | q | q
  ·have : (t.f1 + 1) * (wideT a : Int) ≤ u.f1 * (wideT a : Int) := Int.mul_le_mul_of_nonneg_right (by omega) (by omega)
   rw [Int.add_mul, Int.one_mul] at this
   generalize t.f1 * (wideT a : Int) = m at *
   generalize u.f1 * (wideT a : Int) = n at *
   omega
  ·exact q
  ·have : (u.f1 + 1) * (wideT a : Int) ≤ t.f1 * (wideT a : Int) := Int.mul_le_mul_of_nonneg_right (by omega) (by omega)
   rw [Int.add_mul, Int.one_mul] at this
   generalize t.f1 * (wideT a : Int) = m at *
   generalize u.f1 * (wideT a : Int) = n at *
   omega
 rw [hy] at h1
 exact qoC (by omega) hy (facesD_inj h2)
theorem FoundW.len {a : ByteArray} (g : Gnd a) {L : List (XS × WB)} (h : FoundW a L) : L.length ≤ 49000000 := by
 have hs : ∀ x ∈ L.map Prod.fst, stateB a x = true := by
  intro x hx
  obtain ⟨y, hy, rfl⟩ := List.mem_map.1 hx
  exact h.ok y hy
 have h1 : ((L.map Prod.fst).map (codeY a)).Nodup := by
  rw [List.Nodup, List.pairwise_map]
  exact List.Pairwise.imp_of_mem (fun hx hy hne e => hne (codeY_inj g (hs _ hx) (hs _ hy) e)) h.nd
 have h2 := Bfs.nodup_len (U := (List.range 49000000).map fun n : Nat => (n : Int)) h1 (fun x hx => by
  obtain ⟨y, hy, rfl⟩ := List.mem_map.1 hx
  obtain ⟨b0, b1⟩ := codeY_bound g (hs y hy)
  exact List.mem_map.2 ⟨(codeY a y).toNat, List.mem_range.2 (by omega), by omega⟩)
 rw [List.length_map, List.length_map, List.length_map, List.length_range] at h2
 exact h2
theorem wyCodeY_ev {a : ByteArray} (g : Gnd a) {t : XS} (h : stateB a t = true) : Ev (fun k => qj.f k (wideT a : Int) (highT a : Int) (csOf a) t.f0 t.f1 t.f2.f0 t.f2.f1 t.f2.f2 t.f2.f3 t.f2.f4 t.f2.f5) (codeY a t) := by
 obtain ⟨h0, h1, x0, x1, y0, y1⟩ := qaB g h
 have h2 := (cellsN_le g).2
 exact wyCode_ev _ _ _ t.f0 t.f1 t.f2 (qoB h) h0 (by omega) (by
  have hq : 0 ≤ t.f1 * (wideT a : Int) := Int.mul_nonneg y0 (by omega)
  generalize t.f1 * (wideT a : Int) = m at *
  unfold wrap64; omega)
theorem putW_get {L : List (XS × WB)} {i : Nat} {x : XS × WB} (h : L[i]? = some x) (y : Option XS) (p : WB) : (Bfs.put L y p)[i]? = some x := by
 obtain ⟨t, ht⟩ := Bfs.put_prefix L y p
 rw [← ht, List.getElem?_append_left (List.getElem?_eq_some_iff.1 h).1]
 exact h
def FarOk (L : List (XS × WB)) (i : Nat) : Prop := ∀ z ∈ L, 0 ≤ z.2.1 ∧ z.2.1 ≤ (i : Int)
theorem qnB (a : ByteArray) (i : Nat) (x : XS) (p : WB) : ∀ (n d : Nat), ∀ s ∈ stepsW a i x p n d, s.2.1 = (p.1.toNat : Int) + 1
 | 0, _, s, hs => by cases hs
 | n + 1, d, s, hs => by
  rcases List.mem_cons.1 hs with rfl | hs
  ·rfl
  ·exact qnB a i x p n (d + 1) s hs
theorem FarOk.puts {a : ByteArray} {L : List (XS × WB)} {i : Nat} (h : FarOk L i) {x : XS} {p : WB} (hx : L[i]? = some (x, p)) : FarOk (Bfs.puts L (stepsW a i x p 4 0)) (i + 1) :=
 Bfs.qHC (Q := fun z : XS × WB => 0 ≤ z.2.1 ∧ z.2.1 ≤ ((i + 1 : Nat) : Int)) (stepsW a i x p 4 0) (fun z hz => by have := h z hz; omega) (fun s hs z _ => by
  have h1 := qnB a i x p 4 0 s hs
  have h2 := h (x, p) (List.mem_of_getElem? hx)
  show 0 ≤ s.2.1 ∧ s.2.1 ≤ ((i + 1 : Nat) : Int)
  simp only at h2
  omega)
def reachW (a : ByteArray) (s : XS) : List (XS × WB) := Bfs.run (nextW a) 49000000 0 [(s, (0, (-1, 0)))]
def askS (a : ByteArray) (s : XS) : Bool := boardB a && stateB a s
theorem qxB (a : ByteArray) (s : XS) : ∃ t, reachW a s = (s, (0, (-1, 0))) :: t := by
 obtain ⟨t, ht⟩ := Bfs.run_prefix (nextW a) 49000000 0 [(s, ((0 : Int), ((-1 : Int), (0 : Int))))]
 exact ⟨t, ht.symm⟩
structure RlO (a : ByteArray) (L : List (XS × WB)) (i : Nat) (R : List (XS × WB)) : Prop where
 ok : FoundW a L
 far : FarOk L i
 le : i ≤ L.length
 fin : Bfs.run (nextW a) (49000000 - i) i L = R
structure RlN (a : ByteArray) (L : List (XS × WB)) (i d : Nat) (x : XS) (p : WB) (R : List (XS × WB)) : Prop where
 ok : FoundW a L
 far : FarOk L (i + 1)
 px : 0 ≤ p.1 ∧ p.1 ≤ (i : Int)
 at_ : L[i]? = some (x, p)
 fin : Bfs.run (nextW a) (49000000 - (i + 1)) (i + 1) (Bfs.puts L (stepsW a i x p (4 - d) d)) = R
section
variable {a : ByteArray} {L R : List (XS × WB)} {i d : Nat} {x : XS} {p : WB}
theorem RlO.start {s : XS} (h : stateB a s = true) : RlO a [(s, (0, (-1, 0)))] 0 (reachW a s) :=
 ⟨FoundW.start h _, fun z hz => by rw [List.mem_singleton] at hz; subst hz; exact ⟨Int.le_refl _, Int.le_refl _⟩, Nat.zero_le _, rfl⟩
theorem RlO.inner (g : Gnd a) (h : RlO a L i R) (hx : L[i]? = some (x, p)) : RlN a L i 0 x p R := by
 have hi := (List.getElem?_eq_some_iff.1 hx).1
 have hl := h.ok.len g
 have hf := h.fin
 have hp := h.far (x, p) (List.mem_of_getElem? hx)
 refine ⟨h.ok, fun z hz => ?_, hp, hx, ?_⟩
 ·have := h.far z hz
  omega
 ·rw [show 49000000 - i = (49000000 - (i + 1)) + 1 by omega, Bfs.run, if_pos hi] at hf
  rw [← hf]
  unfold Bfs.round
  rw [hx]
  rfl
theorem RlO.done (h : RlO a L i R) (hi : ¬ i < L.length) : R = L := by
 have hf := h.fin
 cases hn : 49000000 - i with
 | zero => rw [hn, Bfs.run] at hf; exact hf.symm
 | succ n => rw [hn, Bfs.run, if_neg hi] at hf; exact hf.symm
theorem RlN.outer (h : RlN a L i 4 x p R) : RlO a L (i + 1) R :=
 ⟨h.ok, h.far, (List.getElem?_eq_some_iff.1 h.at_).1, h.fin⟩
theorem RlN.steps (hd : d < 4) : stepsW a i x p (4 - d) d = (rollO a x (d : Int), ((p.1.toNat : Int) + 1, ((i : Int), (d : Int)))) :: stepsW a i x p (4 - (d + 1)) (d + 1) := by
 rw [show 4 - d = (4 - (d + 1)) + 1 by omega]
 rfl
theorem RlN.none (h : RlN a L i d x p R) (hd : d < 4) (hr : rollO a x (d : Int) = none) : RlN a L i (d + 1) x p R := by
 refine ⟨h.ok, h.far, h.px, h.at_, ?_⟩
 have hf := h.fin
 rw [RlN.steps hd, hr] at hf
 exact hf
theorem RlN.met (h : RlN a L i d x p R) (hd : d < 4) {y : XS} (hr : rollO a x (d : Int) = some y) (hm : y ∈ L.map Prod.fst) : RlN a L i (d + 1) x p R := by
 refine ⟨h.ok, h.far, h.px, h.at_, ?_⟩
 have hf := h.fin
 rw [RlN.steps hd, hr, Bfs.puts, Bfs.put_met hm] at hf
 exact hf
theorem RlN.good (h : RlN a L i d x p R) {y : XS} (hr : rollO a x (d : Int) = some y) : stateB a y = true :=
 qpB (h.ok.ok (x, p) (List.mem_of_getElem? h.at_)) hr
theorem RlN.new (h : RlN a L i d x p R) (hd : d < 4) {y : XS} (hr : rollO a x (d : Int) = some y) (hm : ¬ y ∈ L.map Prod.fst) : RlN a (L ++ [(y, (p.1 + 1, ((i : Int), (d : Int))))]) i (d + 1) x p R := by
 have hp := h.px
 have e : (p.1.toNat : Int) + 1 = p.1 + 1 := by omega
 have hok := h.ok.put (some y) (p.1 + 1, ((i : Int), (d : Int))) (fun z hz => by injection hz with hz; subst hz; exact h.good hr)
 rw [Bfs.qiC hm] at hok
 refine ⟨hok, fun z hz => ?_, hp, ?_, ?_⟩
 ·rcases List.mem_append.1 hz with hz | hz
  ·exact h.far z hz
  ·rw [List.mem_singleton] at hz
   subst hz
   show 0 ≤ p.1 + 1 ∧ p.1 + 1 ≤ ((i + 1 : Nat) : Int)
   omega
 ·rw [List.getElem?_append_left (List.getElem?_eq_some_iff.1 h.at_).1]
  exact h.at_
 ·have hf := h.fin
  rw [RlN.steps hd, hr, Bfs.puts, e, Bfs.qiC hm] at hf
  exact hf
end
end Go.Proofs.YtdhbimankkpllaaDoor
namespace Go.Proofs.YtdhbimankkpllaaDoor
open Go Go.ChangeMaps Go.RowKit Go.Proofs.YtdhbimankkpllaaDoor.P Go.Proofs.YtdhbimankkpllaaDoorW.PrintWords Go.Proofs.YtdhbimankkpllaaDoorW.PrintLast
set_option linter.unusedVariables false
set_option linter.unusedSimpArgs false
def numsQ (x : XS) : List Int := [x.f0, x.f1, x.f2.f0, x.f2.f1, x.f2.f2, x.f2.f3, x.f2.f4, x.f2.f5]
def wfS (x : XS) : Prop := ∀ n ∈ numsQ x, (Lit.int .i64 n).wf = true
def encS (x : XS) : Value := .agg #[.int .i64 x.f0, .int .i64 x.f1, .int .i64 x.f2.f0, .int .i64 x.f2.f1, .int .i64 x.f2.f2, .int .i64 x.f2.f3, .int .i64 x.f2.f4, .int .i64 x.f2.f5]
def litS (x : XS) : Lit := .string (keyBytes [.int .i64 x.f0, .int .i64 x.f1, .int .i64 x.f2.f0, .int .i64 x.f2.f1, .int .i64 x.f2.f2, .int .i64 x.f2.f3, .int .i64 x.f2.f4, .int .i64 x.f2.f5])
theorem encS_inj (x y : XS) (h : encS x = encS y) : x = y := by
 unfold encS at h
 simp only [Value.agg.injEq, Array.mk.injEq, List.cons.injEq, Value.int.injEq, true_and, and_true] at h
 exact qoC h.1 h.2.1 (qyC h.2.2.1 h.2.2.2.1 h.2.2.2.2.1 h.2.2.2.2.2.1 h.2.2.2.2.2.2.1 h.2.2.2.2.2.2.2)
theorem laidOutS : laidOutB Tryd.prog = true := by kernel_rfl
theorem keyedS : Go.Maps.Keyed Tryd.prog 28 := Go.Maps.Keyed.of_law (deep_law_laid laidOutS (m := 4) (by decide) (of_decide_eq_true (by kernel_rfl)) (by kernel_rfl) (by kernel_rfl))
theorem qNB (d : Nat) (n : Int) (h : (Lit.int .i64 n).wf = true) : Tryd.prog.keyLits (d + 1) 3 [.int .i64 n] = some [.int .i64 n] := by
 unfold Program.keyLits
 rw [Tryd.underlying3]
 simp only [h, and_self, if_true]
theorem litsS_die (d : Nat) (x0 x1 x2 x3 x4 x5 : Int) (h0 : (Lit.int .i64 x0).wf = true) (h1 : (Lit.int .i64 x1).wf = true) (h2 : (Lit.int .i64 x2).wf = true) (h3 : (Lit.int .i64 x3).wf = true) (h4 : (Lit.int .i64 x4).wf = true) (h5 : (Lit.int .i64 x5).wf = true) :
  Tryd.prog.keyLits (d + 2) 26 [.int .i64 x0, .int .i64 x1, .int .i64 x2, .int .i64 x3, .int .i64 x4, .int .i64 x5] = some [.int .i64 x0, .int .i64 x1, .int .i64 x2, .int .i64 x3, .int .i64 x4, .int .i64 x5] := by
 have hc : Tryd.prog.cellsOf 26 = 6 := by kernel_rfl
 have hc3 : Tryd.prog.cellsOf 3 = 1 := by kernel_rfl
 unfold Program.keyLits
 rw [Tryd.underlying26]
 simp [hc, hc3, List.mapM_cons, List.mapM_nil, qNB d x0 h0, qNB d x1 h1, qNB d x2 h2, qNB d x3 h3, qNB d x4 h4, qNB d x5 h5]
theorem keyS (x : XS) (h : wfS x) : keyOf Tryd.prog 28 (encS x) = some (litS x) := by
 unfold wfS numsQ at h
 have g0 := h x.f0 (by simp)
 have g1 := h x.f1 (by simp)
 have h0 := h x.f2.f0 (by simp)
 have h1 := h x.f2.f1 (by simp)
 have h2 := h x.f2.f2 (by simp)
 have h3 := h x.f2.f3 (by simp)
 have h4 := h x.f2.f4 (by simp)
 have h5 := h x.f2.f5 (by simp)
 clear h
 have hc : Tryd.prog.cellsOf 26 = 6 := by kernel_rfl
 have hc8 : Tryd.prog.cellsOf 28 = 8 := by kernel_rfl
 have hc3 : Tryd.prog.cellsOf 3 = 1 := by kernel_rfl
 have hk : Tryd.prog.keyType 28 = true := by kernel_rfl
 have hf : (encS x).formed Tryd.prog 28 = true := by
  unfold encS Value.formed
  rw [Tryd.underlying28]
  simp only [hc8]
  rfl
 obtain ⟨m, hm⟩ : ∃ m, Tryd.prog.types.size = m + 2 := ⟨Tryd.prog.types.size - 2, by have : 2 ≤ Tryd.prog.types.size := of_decide_eq_true (by kernel_rfl); omega⟩
 have hl : Tryd.prog.keyLits (Tryd.prog.types.size + 1) 28 [.int .i64 x.f0, .int .i64 x.f1, .int .i64 x.f2.f0, .int .i64 x.f2.f1, .int .i64 x.f2.f2, .int .i64 x.f2.f3, .int .i64 x.f2.f4, .int .i64 x.f2.f5] = some [.int .i64 x.f0, .int .i64 x.f1, .int .i64 x.f2.f0, .int .i64 x.f2.f1, .int .i64 x.f2.f2, .int .i64 x.f2.f3, .int .i64 x.f2.f4, .int .i64 x.f2.f5] := by
  have hd := litsS_die m x.f2.f0 x.f2.f1 x.f2.f2 x.f2.f3 x.f2.f4 x.f2.f5 h0 h1 h2 h3 h4 h5
  unfold Program.keyLits
  rw [Tryd.underlying28, hm]
  simp [hc, hc3, hc8, List.mapM_cons, List.mapM_nil, qNB (m + 1) x.f0 g0, qNB (m + 1) x.f1 g1, hd]
 unfold keyOf
 rw [Tryd.underlying28]
 simp only [hk, hf, Bool.and_self, if_true]
 show (Tryd.prog.keyLits (Tryd.prog.types.size + 1) 28 [.int .i64 x.f0, .int .i64 x.f1, .int .i64 x.f2.f0, .int .i64 x.f2.f1, .int .i64 x.f2.f2, .int .i64 x.f2.f3, .int .i64 x.f2.f4, .int .i64 x.f2.f5]).map _ = _
 rw [hl]
 rfl
noncomputable def mapW : MapKit Tryd.prog XS Int where
 t := 50
 k := 28
 e := 3
 law := keyedS
 ht := Tryd.underlying50
 okK := wfS
 key := encS
 lit := litS
 hkey := keyS
 inj := encS_inj
 okV := fun n => (Lit.int .i64 n).wf = true
 val := .int .i64
 dat := fun n => .lit (.int .i64 n)
 R := plainElem Tryd.prog 3
 hval := (elem_int Tryd.underlying3).1
 hdat := (elem_int Tryd.underlying3).2
 zero := 0
 okz := by decide
 hz := Tryd.zeroValue3
def metW : List (XS × WB) → Nat → List (XS × Int)
 | [], _ => []
 | x :: L, i => metW L (i + 1) ++ [(x.1, (i : Int))]
theorem metW_append : ∀ (L : List (XS × WB)) (x : XS × WB) (i : Nat), metW (L ++ [x]) i = (x.1, ((i + L.length : Nat) : Int)) :: metW L i
 | [], x, i => rfl
 | y :: L, x, i => by
  show metW (L ++ [x]) (i + 1) ++ _ = _ :: (metW L (i + 1) ++ _)
  rw [metW_append L x (i + 1), List.cons_append, List.length_cons]
  congr 3
  omega
theorem metW_len : ∀ (L : List (XS × WB)) (i : Nat), (metW L i).length = L.length
 | [], _ => rfl
 | x :: L, i => by
  show (metW L (i + 1) ++ _).length = _
  rw [List.length_append, metW_len L (i + 1)]; rfl
theorem metW_any : ∀ (L : List (XS × WB)) (y : XS) (i : Nat), MapKit.met (metW L i) y = decide (y ∈ L.map Prod.fst)
 | [], y, i => by simp [metW, MapKit.met]
 | x :: L, y, i => by
  have ih := metW_any L y (i + 1)
  unfold MapKit.met at ih ⊢
  show (metW L (i + 1) ++ [(x.1, (i : Int))]).any _ = _
  rw [List.any_append, ih]
  by_cases h : x.1 = y
  case pos => simp [h]
  have h' : ¬ y = x.1 := fun e => h e.symm
  simp [h, h']
theorem qiB {n : Int} (h0 : -1000 ≤ n) (h1 : n ≤ 1000) : (Lit.int .i64 n).wf = true := by
 unfold Lit.wf
 simp only [Bool.and_eq_true, decide_eq_true_eq]
 exact ⟨by show (-9223372036854775808 : Int) ≤ n; omega, by show n ≤ (9223372036854775807 : Int); omega⟩
theorem wf_of_place {n : Nat} (h : n ≤ 49000000) : (Lit.int .i64 (n : Int)).wf = true := by
 unfold Lit.wf
 simp only [Bool.and_eq_true, decide_eq_true_eq]
 exact ⟨by show (-9223372036854775808 : Int) ≤ (n : Int); omega, by show (n : Int) ≤ (9223372036854775807 : Int); omega⟩
theorem wfS_of {a : ByteArray} (g : Gnd a) {s : XS} (h : floorB a s.f0 s.f1 = true ∨ -500 ≤ s.f0 ∧ s.f0 ≤ 500 ∧ -500 ≤ s.f1 ∧ s.f1 ≤ 500) (hd : dieB s.f2.f0 s.f2.f1 s.f2.f2 s.f2.f3 s.f2.f4 s.f2.f5 = true) : wfS s := by
 have hw7 := g.w7
 have hh7 := g.h7
 have hxy : -1000 ≤ s.f0 ∧ s.f0 ≤ 1000 ∧ -1000 ≤ s.f1 ∧ s.f1 ≤ 1000 := by
  rcases h with h | h
  ·unfold floorB at h
   rw [Bool.and_eq_true] at h
   have hh := (qIC a s.f0 s.f1).1 h.1
   omega
  ·omega
 have hf := dieB_face hd
 intro n hn
 unfold numsQ at hn
 simp only [List.mem_cons, List.not_mem_nil, or_false] at hn
 rcases hn with rfl | rfl | hn
 ·exact qiB hxy.1 hxy.2.1
 ·exact qiB hxy.2.2.1 hxy.2.2.2
 ·have := hf n (by simp only [List.mem_cons, List.not_mem_nil, or_false]; exact hn)
  exact qiB (by omega) (by omega)
theorem wfS_roll {a : ByteArray} (g : Gnd a) {s : XS} (h : stateB a s = true) (d : Int) : wfS (rollS s d) := by
 obtain ⟨_, _, x0, x1, y0, y1⟩ := qaB g h
 have hw7 := g.w7
 have hh7 := g.h7
 unfold stateB at h
 rw [Bool.and_eq_true] at h
 refine wfS_of g (.inr ?_) (rollD_good h.2)
 show -500 ≤ (nextC s.f0 s.f1 d).1 ∧ (nextC s.f0 s.f1 d).1 ≤ 500 ∧ -500 ≤ (nextC s.f0 s.f1 d).2 ∧ (nextC s.f0 s.f1 d).2 ≤ 500
 unfold nextC
 split
 ·simp only [wrap64]; omega
 split
 ·simp only [wrap64]; omega
 split
 ·simp only [wrap64]; omega
 ·simp only [wrap64]; omega
theorem wfS_state {a : ByteArray} (g : Gnd a) {s : XS} (h : stateB a s = true) : wfS s := by
 unfold stateB at h
 rw [Bool.and_eq_true] at h
 exact wfS_of g (.inl h.1) h.2
def dirC (d : Int) : Int := if d = 0 then 110 else if d = 1 then 101 else if d = 2 then 115 else 119
def sgW (p : WB) : Int := if p.2.1 < 0 then 0 else dirC p.2.2
abbrev fromW (L : List (XS × WB)) : List Int := L.map fun z => z.2.2.1
abbrev signW (L : List (XS × WB)) : List Int := L.map fun z => sgW z.2
abbrev farW (L : List (XS × WB)) : List Int := L.map fun z => z.2.1
abbrev stW (L : List (XS × WB)) : List XS := L.map Prod.fst
def ReachAt (w : World) (v : Value) (L : List (XS × WB)) : Prop := ∃ (g gm : Nat) (A0 A1 A2 A3 : Option Addr) (c0 c1 c2 c3 : Nat), v = .pointer (some ⟨g, 0, none⟩) ∧
 w.heap[g]? = some (.cells #[.slice A0 L.length c0, .slice A1 L.length c1, .slice A2 L.length c2, .slice A3 L.length c3, .map (some gm)] 52 (0, 0)) ∧
 Kd.C k28 w A0 L.length (stW L) ∧ Kd.C (Kd.int .i64) w A1 L.length (fromW L) ∧ Kd.C (Kd.int .u8) w A2 L.length (signW L) ∧ Kd.C (Kd.int .i64) w A3 L.length (farW L) ∧ mapW.Is w gm (metW L 0)
end Go.Proofs.YtdhbimankkpllaaDoor
