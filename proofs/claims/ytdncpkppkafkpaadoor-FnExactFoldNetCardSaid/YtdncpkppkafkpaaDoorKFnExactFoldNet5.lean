/- The program's FoldNet returns what the reference's returns, for all texts (the law lets longer texts by). No further condition. -/
import Derived.Test.YtdncpkppkafkpaaDoorKFnExactFoldNet4

namespace Go.Proofs.YtdncpkppkafkpaaDoor
open Go.RowKit Go.Proofs.YtdncpkppkafkpaaDoor.P Go.Proofs.YtdncpkppkafkpaaDoorW.PrintWords Go.Proofs.YtdncpkppkafkpaaDoorW.PrintLast
set_option linter.unusedVariables false
set_option linter.unusedSimpArgs false
abbrev Fnd := DD × Nat
def look (L : List (Nat × Fnd)) (i : Nat) : Option Fnd := (L.find? fun e => decide (e.1 = i)).map Prod.snd
theorem qAC {L : List (Nat × Fnd)} {i : Nat} (h : ¬ i ∈ L.map Prod.fst) : look L i = none := by
 unfold look
 rw [List.find?_eq_none.2]
 ·rfl
 ·intro e he hd
  exact h (List.mem_map.2 ⟨e, he, of_decide_eq_true hd⟩)
theorem look_add (L : List (Nat × Fnd)) (i : Nat) (v : Fnd) (h : ¬ i ∈ L.map Prod.fst) (q : Nat) : look (L ++ [(i, v)]) q = if q = i then some v else look L q := by
 unfold look
 rw [List.find?_append]
 by_cases hq : q = i
 ·subst hq
  have := qAC h
  unfold look at this
  rw [if_pos rfl]
  cases hf : L.find? (fun e => decide (e.1 = q)) with
  | some y => rw [hf] at this; cases this
  | none => simp
 ·rw [if_neg hq]
  cases hf : L.find? (fun e => decide (e.1 = q)) with
  | some y => rfl
  | none => simp [Ne.symm hq]
theorem qhC {L : List (Nat × Fnd)} (hn : (L.map Prod.fst).Nodup) {j : Nat} {e : Nat × Fnd} (h : L[j]? = some e) : look L e.1 = some e.2 := by
 induction L generalizing j with
 | nil => simp at h
 | cons y L ih =>
  rw [List.map_cons, List.nodup_cons] at hn
  cases j with
  | zero =>
   simp only [List.getElem?_cons_zero, Option.some.injEq] at h
   subst h
   unfold look
   rw [List.find?_cons_of_pos (by simp)]; rfl
  | succ j =>
   rw [List.getElem?_cons_succ] at h
   have hm : e.1 ∈ L.map Prod.fst := List.mem_map.2 ⟨e, List.mem_of_getElem? h, rfl⟩
   have hne : ¬ y.1 = e.1 := fun q => hn.1 (q ▸ hm)
   have := ih hn.2 h
   unfold look at this ⊢
   rw [List.find?_cons_of_neg (by simpa using hne)]
   exact this
theorem qWC {L : List (Nat × Fnd)} {i : Nat} (h : i ∈ L.map Prod.fst) : ∃ v, look L i = some v ∧ (i, v) ∈ L := by
 unfold look
 cases hf : L.find? (fun e => decide (e.1 = i)) with
 | none =>
  obtain ⟨e, he, q⟩ := List.mem_map.1 h
  exact absurd (decide_eq_true q) (List.find?_eq_none.1 hf e he)
 | some y =>
  have h1 := List.find?_some hf
  have h2 := List.mem_of_find?_eq_some hf
  have : y.1 = i := of_decide_eq_true h1
  subst this
  exact ⟨y.2, rfl, h2⟩
section
variable {γ : Type} (g : Option Fnd → γ)
def tabU (U : List Nat) (L : List (Nat × Fnd)) : List γ := U.map fun i => g (look L i)
theorem qiA (U : List Nat) (L : List (Nat × Fnd)) : (tabU g U L).length = U.length := List.length_map _
theorem qOC (U : List Nat) (L : List (Nat × Fnd)) (k : Nat) (h : k < U.length) : (tabU g U L)[k]? = some (g (look L U[k])) := by
 unfold tabU
 rw [List.getElem?_map, List.getElem?_eq_getElem h]; rfl
theorem qOB (U : List Nat) (hU : U.Nodup) (L : List (Nat × Fnd)) (k : Nat) (h : k < U.length) (v : Fnd) (hn : ¬ U[k] ∈ L.map Prod.fst) : (tabU g U L).set k (g (some v)) = tabU g U (L ++ [(U[k], v)]) := by
 refine List.ext_getElem? fun q => ?_
 rw [List.getElem?_set]
 by_cases hq : q < U.length
 ·rw [qOC g U L q hq, qOC g U (L ++ [(U[k], v)]) q hq, look_add L _ v hn]
  by_cases e : k = q
  ·subst e
   rw [if_pos rfl, if_pos (by rw [qiA]; exact h), if_pos rfl]
  ·rw [if_neg e, if_neg]
   intro e2
   exact e ((List.getElem_inj hU).1 e2.symm)
 ·rw [List.getElem?_eq_none (by rw [qiA]; omega)]
  by_cases e : k = q
  ·omega
  ·rw [if_neg e, List.getElem?_eq_none (by rw [qiA]; omega)]
end
def farG : Option Fnd → Int
 | some v => (v.2 : Int)
 | none => -1
def botG : Option Fnd → Int
 | some v => v.1.f5
 | none => -1
def botI : Option Fnd → Int
 | some v => v.1.f5
 | none => 0
def dieG : Option Fnd → DD
 | some v => v.1
 | none => z31
def nextC (c : CC) (d : Nat) : CC := if d = 0 then ⟨c.f0, c.f1 - 1⟩ else if d = 1 then ⟨c.f0 + 1, c.f1⟩ else if d = 2 then ⟨c.f0, c.f1 + 1⟩ else ⟨c.f0 - 1, c.f1⟩
def stepG (w h : Nat) (F : List UInt8) (d i : Nat) : Option Nat :=
 if 0 ≤ (nextC (cellAt w i) d).f0 ∧ (nextC (cellAt w i) d).f0 < (w : Int) ∧ 0 ≤ (nextC (cellAt w i) d).f1 ∧ (nextC (cellAt w i) d).f1 < (h : Int) then
  (if F[(nextC (cellAt w i) d).f1.toNat * w + (nextC (cellAt w i) d).f0.toNat]? = some 46 then none else some ((nextC (cellAt w i) d).f1.toNat * w + (nextC (cellAt w i) d).f0.toNat)) else none
def stepsN (w h : Nat) (F : List UInt8) (i : Nat) (v : Fnd) : Nat → Nat → List (Option Nat × Fnd)
 | 0, _ => []
 | n + 1, d => (stepG w h F d i, (rolD v.1 d, v.2 + 1)) :: stepsN w h F i v n (d + 1)
def nextN (w h : Nat) (F : List UInt8) (_ : Nat) (i : Nat) (v : Fnd) : List (Option Nat × Fnd) := stepsN w h F i v 4 0
theorem qSB {w h : Nat} {F : List UInt8} (hF : F.length = w * h) (hw : 0 < w) {d i j : Nat} (e : stepG w h F d i = some j) : j ∈ idxFrom 0 F ∧ cellAt w j = nextC (cellAt w i) d := by
 unfold stepG at e
 generalize nextC (cellAt w i) d = c at e
 split at e
 ·rename_i hc
  obtain ⟨h0, h1, h2, h3⟩ := hc
  obtain ⟨x, hx⟩ : ∃ x : Nat, c.f0 = (x : Int) := ⟨c.f0.toNat, by omega⟩
  obtain ⟨y, hy⟩ : ∃ y : Nat, c.f1 = (y : Int) := ⟨c.f1.toNat, by omega⟩
  rw [hx, hy, Int.toNat_natCast, Int.toNat_natCast] at e
  split at e
  ·cases e
  ·rename_i h46
   obtain rfl := Option.some.inj e
   have hxl : x < w := by omega
   have hyl : y < h := by omega
   have hlt : y * w + x < F.length := by
    rw [hF]
    have : (y + 1) * w ≤ h * w := Nat.mul_le_mul_right w hyl
    rw [Nat.add_mul, Nat.one_mul, Nat.mul_comm h w] at this
    omega
   refine ⟨(qUA F 0 _).2 ⟨Nat.zero_le _, F[y * w + x], by rw [Nat.sub_zero]; exact List.getElem?_eq_getElem hlt, fun e2 => h46 (by rw [List.getElem?_eq_getElem hlt, e2])⟩, ?_⟩
   rw [cellAt_row w y x hxl, ← hx, ← hy]
 ·cases e
theorem stepG_none {w h : Nat} {F : List UInt8} (hF : F.length = w * h) (hw : 0 < w) {d i : Nat} (e : stepG w h F d i = none) : ∀ j ∈ idxFrom 0 F, cellAt w j ≠ nextC (cellAt w i) d := by
 intro j hj he
 obtain ⟨_, c, hc, hne⟩ := (qUA F 0 j).1 hj
 rw [Nat.sub_zero] at hc
 have hjl := (List.getElem?_eq_some_iff.1 hc).1
 rw [hF] at hjl
 unfold stepG at e
 rw [← he] at e
 have hd := Nat.div_add_mod j w
 have hm := Nat.mod_lt j hw
 have hdl : j / w < h := by rw [Nat.div_lt_iff_lt_mul hw, Nat.mul_comm]; exact hjl
 unfold cellAt at e
 simp only [Int.toNat_natCast] at e
 rw [if_pos ⟨Int.natCast_nonneg _, Int.ofNat_lt.2 hm, Int.natCast_nonneg _, Int.ofNat_lt.2 hdl⟩, show j / w * w + j % w = j by rw [Nat.mul_comm]; exact hd, hc, if_neg (fun e2 => hne (Option.some.inj e2))] at e
 cases e
theorem cellAt_inj {w : Nat} (hw : 0 < w) {i j : Nat} (h : cellAt w i = cellAt w j) : i = j := by
 unfold cellAt at h
 injection h with h1 h2
 have e1 : i % w = j % w := Int.ofNat.inj h1
 have e2 : i / w = j / w := Int.ofNat.inj h2
 rw [← Nat.div_add_mod i w, ← Nat.div_add_mod j w, e1, e2]
theorem boNext_is (c : CC) (d : Nat) (hd : d < 4) (h0 : -100 ≤ c.f0 ∧ c.f0 ≤ 100) (h1 : -100 ≤ c.f1 ∧ c.f1 ≤ 100) : qFA.f c.f0 c.f1 (d : Int) = some ((nextC c d).f0, (nextC c d).f1) := by
 have w1 : wrap64 (c.f0 + 1) = c.f0 + 1 := by unfold wrap64; omega
 have w2 : wrap64 (c.f0 - 1) = c.f0 - 1 := by unfold wrap64; omega
 have w3 : wrap64 (c.f1 + 1) = c.f1 + 1 := by unfold wrap64; omega
 have w4 : wrap64 (c.f1 - 1) = c.f1 - 1 := by unfold wrap64; omega
 unfold qFA.f
 rw [w1, w2, w3, w4]
 obtain rfl | rfl | rfl | rfl : d = 0 ∨ d = 1 ∨ d = 2 ∨ d = 3 := by omega
 all_goals simp [nextC]
theorem next_is (c : CC) (d : Nat) (hd : d < 4) (h0 : -100 ≤ c.f0 ∧ c.f0 ≤ 100) (h1 : -100 ≤ c.f1 ∧ c.f1 ≤ 100) : qEB.f c.f0 c.f1 (bt (⟨#[110, 101, 115, 119]⟩ : ByteArray) (d : Int)) = some ((nextC c d).f0, (nextC c d).f1) := by
 have w1 : wrap64 (c.f0 + 1) = c.f0 + 1 := by unfold wrap64; omega
 have w2 : wrap64 (c.f0 - 1) = c.f0 - 1 := by unfold wrap64; omega
 have w3 : wrap64 (c.f1 + 1) = c.f1 + 1 := by unfold wrap64; omega
 have w4 : wrap64 (c.f1 - 1) = c.f1 - 1 := by unfold wrap64; omega
 unfold qEB.f
 rw [w1, w2, w3, w4]
 obtain rfl | rfl | rfl | rfl : d = 0 ∨ d = 1 ∨ d = 2 ∨ d = 3 := by omega
 ·have : bt (⟨#[110, 101, 115, 119]⟩ : ByteArray) ((0 : Nat) : Int) = 110 := by decide +kernel
  rw [this]; simp [nextC]
 ·have : bt (⟨#[110, 101, 115, 119]⟩ : ByteArray) ((1 : Nat) : Int) = 101 := by decide +kernel
  rw [this]; simp [nextC]
 ·have : bt (⟨#[110, 101, 115, 119]⟩ : ByteArray) ((2 : Nat) : Int) = 115 := by decide +kernel
  rw [this]; simp [nextC]
 ·have : bt (⟨#[110, 101, 115, 119]⟩ : ByteArray) ((3 : Nat) : Int) = 119 := by decide +kernel
  rw [this]; simp [nextC]
theorem roll_is (v : DD) (d : Nat) (hd : d < 4) : qQA.f v.f0 v.f1 v.f2 v.f3 v.f4 v.f5 (bt (⟨#[110, 101, 115, 119]⟩ : ByteArray) (d : Int)) = some ((rolD v d).f0, (rolD v d).f1, (rolD v d).f2, (rolD v d).f3, (rolD v d).f4, (rolD v d).f5) := by
 obtain rfl | rfl | rfl | rfl : d = 0 ∨ d = 1 ∨ d = 2 ∨ d = 3 := by omega
 ·have : bt (⟨#[110, 101, 115, 119]⟩ : ByteArray) ((0 : Nat) : Int) = 110 := by decide +kernel
  rw [this]; simp [qQA.f, rolD]
 ·have : bt (⟨#[110, 101, 115, 119]⟩ : ByteArray) ((1 : Nat) : Int) = 101 := by decide +kernel
  rw [this]; simp [qQA.f, rolD]
 ·have : bt (⟨#[110, 101, 115, 119]⟩ : ByteArray) ((2 : Nat) : Int) = 115 := by decide +kernel
  rw [this]; simp [qQA.f, rolD]
 ·have : bt (⟨#[110, 101, 115, 119]⟩ : ByteArray) ((3 : Nat) : Int) = 119 := by decide +kernel
  rw [this]; simp [qQA.f, rolD]
theorem specRoll_is (v : DD) (d : Nat) (hd : d < 4) : qyA.f v.f0 v.f1 v.f2 v.f3 v.f4 v.f5 (d : Int) = some ((rolD v d).f0, (rolD v d).f1, (rolD v d).f2, (rolD v d).f3, (rolD v d).f4, (rolD v d).f5) := by
 obtain rfl | rfl | rfl | rfl : d = 0 ∨ d = 1 ∨ d = 2 ∨ d = 3 := by omega
 all_goals simp [qyA.f, rolD]
theorem l1In_is (n a b : Int) : qp.f n a b = some (decide (a ≤ n) && decide (n ≤ b)) := by
 unfold qp.f
 by_cases h : a ≤ n
 ·rw [if_pos (show n ≥ a from h), decide_eq_true h, Bool.true_and]
 ·rw [if_neg (show ¬ n ≥ a from h), decide_eq_false h, Bool.false_and]
def optI (f : Nat → Int) : Option Nat → Int
 | some j => f j
 | none => -1
theorem cell_ix : ∀ w : Nat, w < 7 → ∀ u : Nat, u < w → ∀ t : Nat, t < 6 → (t * w + u < 100 ∧ wrap64 (wrap64 ((t : Int) * (w : Int)) + (u : Int)) = ((t * w + u : Nat) : Int)) := by decide +kernel
theorem neStep_is (w h : Nat) (hw0 : 0 < w) (hw : w ≤ 6) (hh : h ≤ 6) (F : List UInt8) (hF : F.length = w * h) (i d : Nat) (hi : i < w * h) (hd : d < 4) :
  qVA.f (w : Int) (h : Int) (nums F) (i : Int) (d : Int) = some (optI (fun j => (j : Int)) (stepG w h F d i)) := by
 have hm := Nat.mod_lt i hw0
 have hq : i / w < h := by rw [Nat.div_lt_iff_lt_mul hw0, Nat.mul_comm]; exact hi
 have hc : cellAt w i = ⟨((i % w : Nat) : Int), ((i / w : Nat) : Int)⟩ := rfl
 unfold qVA.f
 rw [if_neg (nz_of hw0), tmodN, tdivN, w64_small _ (Nat.lt_of_lt_of_le hq (Nat.le_trans hh (by decide)))]
 unfold stepG
 rw [hc]
 clear hi hc
 generalize i % w = x at hm ⊢
 generalize i / w = y at hq ⊢
 have hb := boNext_is ⟨(x : Int), (y : Int)⟩ d hd ⟨by show -100 ≤ (x : Int); omega, by show (x : Int) ≤ 100; omega⟩ ⟨by show -100 ≤ (y : Int); omega, by show (y : Int) ≤ 100; omega⟩
 have hn : -1 ≤ (nextC ⟨(x : Int), (y : Int)⟩ d).f0 ∧ (nextC ⟨(x : Int), (y : Int)⟩ d).f0 ≤ 7 ∧ -1 ≤ (nextC ⟨(x : Int), (y : Int)⟩ d).f1 ∧ (nextC ⟨(x : Int), (y : Int)⟩ d).f1 ≤ 7 := by
  obtain rfl | rfl | rfl | rfl : d = 0 ∨ d = 1 ∨ d = 2 ∨ d = 3 := by omega
  all_goals simp [nextC]; omega
 generalize nextC ⟨(x : Int), (y : Int)⟩ d = c at hb hn ⊢
 have hb2 : qFA.f (x : Int) (y : Int) (d : Int) = some (c.f0, c.f1) := hb
 rw [hb2]
 clear hb hb2 hm hq
 have w1 : wrap64 ((w : Int) - 1) = (w : Int) - 1 := by clear hF; unfold wrap64; omega
 have w2 : wrap64 ((h : Int) - 1) = (h : Int) - 1 := by clear hF; unfold wrap64; omega
 simp only [Option.bind_some, l1In_is, w1, w2]
 by_cases c1 : 0 ≤ c.f0 ∧ c.f0 < (w : Int)
 ·rw [if_pos (show (decide (0 ≤ c.f0) && decide (c.f0 ≤ (w : Int) - 1)) = true by rw [decide_eq_true c1.1, decide_eq_true (by omega)]; rfl)]
  by_cases c2 : 0 ≤ c.f1 ∧ c.f1 < (h : Int)
  ·rw [if_pos (show (decide (0 ≤ c.f1) && decide (c.f1 ≤ (h : Int) - 1)) = true by rw [decide_eq_true c2.1, decide_eq_true (by omega)]; rfl), if_pos (show 0 ≤ c.f0 ∧ c.f0 < (w : Int) ∧ 0 ≤ c.f1 ∧ c.f1 < (h : Int) from ⟨c1.1, c1.2, c2.1, c2.2⟩)]
   obtain ⟨u, hu⟩ : ∃ u : Nat, c.f0 = (u : Int) := ⟨c.f0.toNat, by omega⟩
   obtain ⟨t, ht⟩ : ∃ t : Nat, c.f1 = (t : Int) := ⟨c.f1.toNat, by omega⟩
   rw [hu, ht, Int.toNat_natCast, Int.toNat_natCast]
   have hul : u < w := by omega
   have htl : t < h := by omega
   obtain ⟨x2, x3⟩ := cell_ix w (Nat.lt_succ_of_le hw) u hul t (Nat.lt_of_lt_of_le htl hh)
   have x1 : t * w + u < w * h := by
    have h1 : (t + 1) * w ≤ h * w := Nat.mul_le_mul_right w htl
    rw [Nat.add_mul, Nat.one_mul, Nat.mul_comm h w] at h1
    exact Nat.lt_of_lt_of_le (Nat.add_lt_add_left hul _) h1
   have hlt : t * w + u < F.length := hF ▸ x1
   rw [x3]
   clear x1 x2 x3 hF
   generalize t * w + u = p at hlt ⊢
   rw [if_pos (Int.natCast_nonneg _), if_pos (show (p : Int) < ((nums F).length : Int) by unfold nums; rw [List.length_map]; exact Int.ofNat_lt.2 hlt), rdNums F p hlt]
   rw [List.getElem?_eq_getElem hlt]
   by_cases h46 : F[p] = 46
   ·rw [if_pos (by rw [h46]; rfl), if_pos (by rw [h46])]
    rfl
   ·rw [if_neg (show ¬ ((F[p].toNat : Int) = 46) from fun e => h46 ((nr_u8 _ 46 (by decide)).1 e)), if_neg (fun e => h46 (Option.some.inj e))]
    rfl
  ·rw [if_neg (show ¬ (decide (0 ≤ c.f1) && decide (c.f1 ≤ (h : Int) - 1)) = true by simp only [Bool.and_eq_true, decide_eq_true_eq]; omega), if_neg (show ¬ (0 ≤ c.f0 ∧ c.f0 < (w : Int) ∧ 0 ≤ c.f1 ∧ c.f1 < (h : Int)) from fun q => c2 ⟨q.2.2.1, q.2.2.2⟩)]
   rfl
 ·rw [if_neg (show ¬ (decide (0 ≤ c.f0) && decide (c.f0 ≤ (w : Int) - 1)) = true by simp only [Bool.and_eq_true, decide_eq_true_eq]; omega), if_neg (show ¬ (0 ≤ c.f0 ∧ c.f0 < (w : Int) ∧ 0 ≤ c.f1 ∧ c.f1 < (h : Int)) from fun q => c1 ⟨q.1, q.2.1⟩)]
  rfl
abbrev keysN (L : List (Nat × Fnd)) : List Nat := L.map Prod.fst
structure OkN (D : List Nat) (L : List (Nat × Fnd)) : Prop where
 nodup : (keysN L).Nodup
 mem : ∀ e ∈ L, e.1 ∈ D
 far : ∀ (j : Nat) (e : Nat × Fnd), L[j]? = some e → e.2.2 ≤ j
theorem OkN.len {D : List Nat} {L : List (Nat × Fnd)} (h : OkN D L) : L.length ≤ D.length := by
 have := Bfs.qTB (U := D) h.nodup (fun i hi => by
  obtain ⟨e, he, rfl⟩ := List.mem_map.1 hi
  exact h.mem e he)
 rwa [List.length_map] at this
theorem OkN.new {D : List Nat} {L : List (Nat × Fnd)} (h : OkN D L) {i j at_ : Nat} {v : Fnd} (hat : L[at_]? = some (i, v)) (hj : j ∈ D) (hn : ¬ j ∈ keysN L) (x : DD) : OkN D (L ++ [(j, (x, v.2 + 1))]) := by
 have hal := (List.getElem?_eq_some_iff.1 hat).1
 have hv := h.far at_ _ hat
 have e := Bfs.qGC hn (x, v.2 + 1)
 refine ⟨?_, ?_, ?_⟩
 ·rw [← e]; exact Bfs.qTC h.nodup _ _
 ·intro y hy
  rcases List.mem_append.1 hy with hy | hy
  ·exact h.mem y hy
  ·rw [List.mem_singleton] at hy; subst hy; exact hj
 ·intro q y hy
  by_cases hq : q < L.length
  ·rw [List.getElem?_append_left hq] at hy
   exact h.far q y hy
  ·rw [List.getElem?_append_right (by omega)] at hy
   have hq2 : q - L.length = 0 := by
    rcases Nat.eq_zero_or_pos (q - L.length) with h0 | h0
    ·exact h0
    ·rw [List.getElem?_eq_none (by simp; omega)] at hy; cases hy
   rw [hq2] at hy
   simp at hy
   subst hy
   show v.2 + 1 ≤ q
   have hv2 : v.2 ≤ at_ := hv
   omega
theorem OkN.start {D : List Nat} {i : Nat} (h : i ∈ D) (x : DD) : OkN D [(i, (x, 0))] :=
 ⟨by simp, fun e he => by rw [List.mem_singleton] at he; subst he; exact h, fun j e he => by
  cases j with
  | zero => simp at he; subst he; exact Nat.le_refl _
  | succ j => simp at he⟩
theorem rdTab {γ : Type} (g : Option Fnd → Int) (U : List Nat) (L : List (Nat × Fnd)) (k : Nat) (h : k < U.length) : rd (tabU g U L) (k : Int) = g (look L U[k]) := by
 unfold rd
 rw [Int.toNat_natCast, List.getD_eq_getElem?_getD, qOC g U L k h]; rfl
theorem qkB {L : List (Nat × Fnd)} {i : Nat} : farG (look L i) < 0 ↔ ¬ i ∈ keysN L := by
 constructor
 ·intro h hm
  obtain ⟨v, hv, _⟩ := qWC hm
  rw [hv] at h
  have h2 : (v.2 : Int) < 0 := h
  omega
 ·intro h
  rw [qAC h]; decide
theorem qqB (l : List Nat) (i : Nat) : ints l ++ [(i : Int)] = ints (l ++ [i]) := by unfold ints; rw [List.map_append]; rfl
theorem keys_append (L : List (Nat × Fnd)) (i : Nat) (v : Fnd) : keysN (L ++ [(i, v)]) = keysN L ++ [i] := by simp [keysN]
theorem keys_get {L : List (Nat × Fnd)} {j : Nat} {i : Nat} {v : Fnd} (h : L[j]? = some (i, v)) (hl : j < (keysN L).length) : (keysN L)[j] = i := by
 have : (keysN L)[j]? = some i := by rw [List.getElem?_map, h]; rfl
 rw [List.getElem?_eq_getElem hl] at this
 exact Option.some.inj this
section
variable (w h : Nat) (F : List UInt8)
theorem far_steps (hw0 : 0 < w) (hw : w ≤ 6) (hh : h ≤ 6) (hF : F.length = w * h) (R : List Int) (at_ : Nat) (i : Nat) (v : Fnd) : ∀ (n d : Nat) (L : List (Nat × Fnd)), d + n = 4 → L[at_]? = some (i, v) → OkN (idxFrom 0 F) L →
  Ev (fun k => qS.l1 k (ints (keysN (Bfs.puts L (stepsN w h F i v n d)))) ((at_ + 1 : Nat) : Int) (tabU farG (List.range F.length) (Bfs.puts L (stepsN w h F i v n d))) (w : Int) (h : Int) (nums F)) R →
  Ev (fun k => qS.l2 k (ints (keysN L)) (at_ : Int) (d : Int) (tabU farG (List.range F.length) L) (w : Int) (h : Int) (nums F)) R := by
 have h36 : F.length ≤ 36 := hF ▸ (Nat.mul_le_mul hw hh : w * h ≤ 6 * 6)
 have hDl := qwA F 0
 intro n
 induction n with
 | zero =>
  intro d L hd hat hok hR
  have hal := (List.getElem?_eq_some_iff.1 hat).1
  have hlen := hok.len
  have w1 := qdA at_ (by omega)
  have a1 : ¬ (d : Int) < 4 := by omega
  refine Ev.step (f := fun k => _) (fun k => by rw [qS.l2]) ?_
  rw [w1]
  exact Ev.neg a1 hR
 | succ n ih =>
  intro d L hd hat hok hR
  have hal := (List.getElem?_eq_some_iff.1 hat).1
  have hlen := hok.len
  have w1 := qdA d (by omega)
  have a1 : (d : Int) < 4 := by omega
  have hkl : at_ < (keysN L).length := by rw [List.length_map]; exact hal
  have a3 : (at_ : Int) < ((ints (keysN L)).length : Int) := by rw [qeA]; exact Int.ofNat_lt.2 hkl
  have hr : rd (ints (keysN L)) (at_ : Int) = (i : Int) := by rw [rdInts _ _ hkl, keys_get hat hkl]
  have hiD : i ∈ idxFrom 0 F := hok.mem _ (List.mem_of_getElem? hat)
  have hiF : i < F.length := by
   obtain ⟨_, c, hc, _⟩ := (qUA F 0 i).1 hiD
   have := (List.getElem?_eq_some_iff.1 hc).1
   omega
  have hstep := neStep_is w h hw0 hw hh F hF i d (hF ▸ hiF) (by omega)
  have htl : (tabU farG (List.range F.length) L).length = F.length := by rw [qiA, List.length_range]
  have hlk := qhC hok.nodup hat
  have hv : v.2 ≤ at_ := hok.far at_ _ hat
  have hq : (ints (keysN L)).length < 17592186044416 := by rw [qeA, List.length_map]; omega
  rw [stepsN, Bfs.puts] at hR
  refine Ev.step (f := fun k => _) (fun k => by rw [qS.l2]) ?_
  rw [w1]
  refine Ev.pos a1 (Ev.pos (Int.natCast_nonneg _) (Ev.pos a3 ?_))
  rw [hr]
  refine Ev.bindc hstep ?_
  cases hs : stepG w h F d i with
  | none =>
   rw [hs] at hR
   exact Ev.neg (by decide) (ih (d + 1) L (by omega) hat hok hR)
  | some j =>
   obtain ⟨hjD, _⟩ := qSB hF hw0 hs
   have hjF : j < F.length := by
    obtain ⟨_, c, hc, _⟩ := (qUA F 0 j).1 hjD
    have := (List.getElem?_eq_some_iff.1 hc).1
    omega
   have hjr : j < (List.range F.length).length := by rw [List.length_range]; exact hjF
   have hir : i < (List.range F.length).length := by rw [List.length_range]; exact hiF
   have hrj : rd (tabU farG (List.range F.length) L) (j : Int) = farG (look L j) := by rw [rdTab (γ := Unit) farG _ L j hjr, List.getElem_range]
   have hri : rd (tabU farG (List.range F.length) L) (i : Int) = (v.2 : Int) := by rw [rdTab (γ := Unit) farG _ L i hir, List.getElem_range, hlk]; rfl
   have b1 : (j : Int) < ((tabU farG (List.range F.length) L).length : Int) := by rw [htl]; exact Int.ofNat_lt.2 hjF
   have b2 : (i : Int) < ((tabU farG (List.range F.length) L).length : Int) := by rw [htl]; exact Int.ofNat_lt.2 hiF
   refine Ev.pos (show (optI (fun j => (j : Int)) (some j)) ≥ 0 from Int.natCast_nonneg _) (Ev.pos (Int.natCast_nonneg _) (Ev.pos b1 ?_))
   show Ev (fun k => if rd (tabU farG (List.range F.length) L) (j : Int) < 0 then _ else _) R
   rw [hrj]
   rw [hs] at hR
   by_cases hm : j ∈ keysN L
   ·rw [Bfs.qUC hm] at hR
    exact Ev.neg (fun hn => (qkB.1 hn) hm) (ih (d + 1) L (by omega) hat hok hR)
   ·rw [Bfs.qGC hm] at hR
    refine Ev.pos (qkB.2 hm) (Ev.pos (Int.natCast_nonneg _) (Ev.pos b2 (Ev.pos hq ?_)))
    show Ev (fun k => qS.l2 k (ints (keysN L) ++ [(j : Int)]) (at_ : Int) ((d + 1 : Nat) : Int) ((tabU farG (List.range F.length) L).set ((j : Int)).toNat (wrap64 (rd (tabU farG (List.range F.length) L) (i : Int) + 1))) (w : Int) (h : Int) (nums F)) R
    have w3 := qdA v.2 (by omega)
    have hset := qOB farG (List.range F.length) List.nodup_range L j hjr (rolD v.1 d, v.2 + 1) (by rw [List.getElem_range]; exact hm)
    rw [List.getElem_range] at hset
    rw [hri, w3, Int.toNat_natCast, show ((v.2 + 1 : Nat) : Int) = farG (some (rolD v.1 d, v.2 + 1)) from rfl, hset, qqB, ← keys_append L j (rolD v.1 d, v.2 + 1)]
    exact ih (d + 1) _ (by omega) (by rw [List.getElem?_append_left hal]; exact hat) (hok.new hat hjD hm _) hR
theorem okN_puts (hw0 : 0 < w) (hF : F.length = w * h) (at_ i : Nat) (v : Fnd) : ∀ (n d : Nat) (L : List (Nat × Fnd)), L[at_]? = some (i, v) → OkN (idxFrom 0 F) L → OkN (idxFrom 0 F) (Bfs.puts L (stepsN w h F i v n d)) := by
 intro n
 induction n with
 | zero => intro d L _ hok; exact hok
 | succ n ih =>
  intro d L hat hok
  rw [stepsN, Bfs.puts]
  cases hs : stepG w h F d i with
  | none => exact ih (d + 1) L hat hok
  | some j =>
   by_cases hm : j ∈ keysN L
   ·rw [Bfs.qUC hm]; exact ih (d + 1) L hat hok
   ·rw [Bfs.qGC hm]
    exact ih (d + 1) _ (by rw [List.getElem?_append_left (List.getElem?_eq_some_iff.1 hat).1]; exact hat) (hok.new hat (qSB hF hw0 hs).1 hm _)
theorem qVC (hw0 : 0 < w) (hF : F.length = w * h) {at_ : Nat} {L : List (Nat × Fnd)} (hok : OkN (idxFrom 0 F) L) : OkN (idxFrom 0 F) (Bfs.round (nextN w h F) at_ L) := by
 unfold Bfs.round
 cases hx : L[at_]? with
 | none => exact hok
 | some x => exact okN_puts w h F hw0 hF at_ x.1 x.2 4 0 L hx hok
theorem far_run (hw0 : 0 < w) (hw : w ≤ 6) (hh : h ≤ 6) (hF : F.length = w * h) : ∀ (n at_ : Nat) (L : List (Nat × Fnd)), OkN (idxFrom 0 F) L → (idxFrom 0 F).length ≤ at_ + n →
  Ev (fun k => qS.l1 k (ints (keysN L)) (at_ : Int) (tabU farG (List.range F.length) L) (w : Int) (h : Int) (nums F)) (tabU farG (List.range F.length) (Bfs.run (nextN w h F) n at_ L)) := by
 intro n
 induction n with
 | zero =>
  intro at_ L hok hn
  have hl := hok.len
  refine Ev.step (f := fun k => _) (fun k => by rw [qS.l1]) ?_
  refine Ev.neg (by rw [qeA, List.length_map]; omega) (Ev.now _)
 | succ n ih =>
  intro at_ L hok hn
  have hl := hok.len
  refine Ev.step (f := fun k => _) (fun k => by rw [qS.l1]) ?_
  by_cases hat : at_ < L.length
  ·have hx : L[at_]? = some L[at_] := List.getElem?_eq_getElem hat
   rw [Bfs.run, if_pos hat]
   have hro : Bfs.round (nextN w h F) at_ L = Bfs.puts L (stepsN w h F L[at_].1 L[at_].2 4 0) := by unfold Bfs.round; rw [hx]; rfl
   have := ih (at_ + 1) (Bfs.round (nextN w h F) at_ L) (qVC w h F hw0 hF hok) (by omega)
   refine Ev.pos (by rw [qeA, List.length_map]; omega) ?_
   refine far_steps w h F hw0 hw hh hF _ at_ L[at_].1 L[at_].2 4 0 L rfl hx hok ?_
   rw [← hro]
   exact this
  ·rw [Bfs.run, if_neg hat]
   exact Ev.neg (by rw [qeA, List.length_map]; omega) (Ev.now _)
def runN_ (i0 : Nat) : List (Nat × Fnd) := Bfs.run (nextN w h F) 36 0 [(i0, (plainD, 0))]
theorem far_fill (N : Nat) (hN : N ≤ 36) (R : List Int) : ∀ (d i : Nat), i + d = N →
  (Ev (fun k => qS.l0 k (List.replicate N (-1)) (N : Int) (N : Int) (w : Int) (h : Int) (nums F)) R) →
  Ev (fun k => qS.l0 k (List.replicate i (-1) ++ List.replicate d 0) (N : Int) (i : Int) (w : Int) (h : Int) (nums F)) R
 | 0, i, hd, hR => by
  obtain rfl : i = N := by omega
  rw [List.replicate_zero, List.append_nil]; exact hR
 | d + 1, i, hd, hR => by
  have ih := far_fill N hN R d (i + 1) (by omega) hR
  have w1 := qdA i (by omega)
  have e : (List.replicate i (-1 : Int) ++ List.replicate (d + 1) (0 : Int)).set i (-1) = List.replicate (i + 1) (-1 : Int) ++ List.replicate d (0 : Int) := by
   rw [List.set_append_right _ _ (by rw [List.length_replicate]; exact Nat.le_refl _), List.length_replicate, Nat.sub_self, List.replicate_succ, List.set_cons_zero, List.replicate_succ', List.append_assoc]; rfl
  refine Ev.step (f := fun k => _) (fun k => by rw [qS.l0]) ?_
  refine Ev.pos (by omega) (Ev.pos (by omega) (Ev.pos (by simp; omega) ?_))
  rw [w1, Int.toNat_natCast, e]
  exact ih
theorem qtB (g : Option Fnd → Int) (z : Int) (hz : g none = z) (U : List Nat) (hU : U.Nodup) (k : Nat) (hk : k < U.length) (v : Fnd) : (List.replicate U.length z).set k (g (some v)) = tabU g U [(U[k], v)] := by
 have h0 : List.replicate U.length z = tabU g U [] := by
  unfold tabU
  have : (fun i => g (look [] i)) = fun _ => z := by funext i; exact hz
  rw [this, List.map_const']
 rw [h0, qOB g U hU [] k hk v (by simp), List.nil_append]
theorem neFar_ev (hw0 : 0 < w) (hw : w ≤ 6) (hh : h ≤ 6) (hF : F.length = w * h) (i0 : Nat) (D' : List Nat) (hD : idxFrom 0 F = i0 :: D') :
  Ev (fun k => qS.f k (w : Int) (h : Int) (nums F)) (tabU farG (List.range F.length) (runN_ w h F i0)) := by
 have h36 : F.length ≤ 36 := hF ▸ (Nat.mul_le_mul hw hh : w * h ≤ 6 * 6)
 have hn : (nums F).length = F.length := List.length_map _
 have hi0 : i0 ∈ idxFrom 0 F := by rw [hD]; exact List.mem_cons_self
 have hiF : i0 < F.length := by
  obtain ⟨_, c, hc, _⟩ := (qUA F 0 i0).1 hi0
  have := (List.getElem?_eq_some_iff.1 hc).1
  omega
 have hDl := qwA F 0
 unfold qS.f
 rw [hn]
 refine Ev.pos (Int.natCast_nonneg _) (Ev.pos (by rw [Int.toNat_natCast]; omega) (Ev.bindc rfl ?_))
 rw [Int.toNat_natCast, List.length_replicate]
 have hfill := far_fill w h F F.length h36 (tabU farG (List.range F.length) (runN_ w h F i0)) F.length 0 (by omega)
 rw [List.replicate_zero, List.nil_append] at hfill
 refine hfill ?_
 refine Ev.step (f := fun k => _) (fun k => by rw [qS.l0]) ?_
 refine Ev.neg (by omega) (Ev.bind (qcB _ _ F (by omega)) ?_)
 have e0 : rd (ints (idxFrom 0 F)) 0 = (i0 : Int) := by rw [hD]; rfl
 have e1 : (ints (idxFrom 0 F)).length = D'.length + 1 := by rw [qeA, hD, List.length_cons]
 rw [e0]
 refine Ev.neg (by rw [e1]; omega) (Ev.pos (by rw [e1]; omega) (Ev.pos (Int.natCast_nonneg _) (Ev.pos (by rw [List.length_replicate]; exact Int.ofNat_lt.2 hiF) ?_)))
 have hst := qtB farG (-1) rfl (List.range F.length) List.nodup_range i0 (by rw [List.length_range]; exact hiF) (plainD, 0)
 simp only [List.length_range, List.getElem_range] at hst
 rw [Int.toNat_natCast, show (0 : Int) = farG (some (plainD, 0)) from rfl, hst]
 exact far_run w h F hw0 hw hh hF 36 0 _ (OkN.start hi0 plainD) (by omega)
end
theorem rdCC (P : List CC) (s : Nat) (h : s < P.length) : qGA P (s : Int) = P[s] := by
 unfold qGA
 rw [Int.toNat_natCast, List.getD_eq_getElem?_getD, List.getElem?_eq_getElem h]; rfl
theorem cc_eq (c e : CC) : ((c.f0 == e.f0 && (c.f1 == e.f1)) = true) ↔ e = c := by
 obtain ⟨a, b⟩ := c
 obtain ⟨a', b'⟩ := e
 simp only [Bool.and_eq_true, beq_iff_eq]
 constructor
 ·rintro ⟨h1, h2⟩
  have h1' : a = a' := h1
  have h2' : b = b' := h2
  rw [h1', h2']
 ·intro h
  injection h with h1 h2
  exact ⟨h1.symm, h2.symm⟩
theorem small_of {x : Nat} (h : x < 6) : -100 ≤ (x : Int) ∧ (x : Int) ≤ 100 := ⟨by omega, by omega⟩
theorem place_miss (P : List CC) (hP : P.length ≤ 100) (c : CC) : ∀ (d q : Nat), q + d = P.length → (∀ (s : Nat) (hs : s < P.length), q ≤ s → P[s] ≠ c) → Ev (fun k => qP.l0 k P (P.length : Int) (q : Int) c.f0 c.f1) (-1) := by
 intro d
 induction d with
 | zero =>
  intro q hq hn
  have a1 : ¬ (q : Int) < (P.length : Int) := by omega
  refine Ev.step (f := fun k => _) (fun k => by rw [qP.l0]) ?_
  exact Ev.neg a1 (Ev.now _)
 | succ d ih =>
  intro q hq hn
  have hl : q < P.length := by omega
  have a1 : (q : Int) < (P.length : Int) := by omega
  have w1 := qdA q (by omega)
  refine Ev.step (f := fun k => _) (fun k => by rw [qP.l0]) ?_
  rw [w1, rdCC P q hl]
  refine Ev.pos a1 (Ev.pos (Int.natCast_nonneg _) (Ev.pos a1 (Ev.neg (fun e => hn q hl (Nat.le_refl _) ((cc_eq _ _).1 e)) ?_)))
  exact ih (q + 1) (by omega) (fun s hs h => hn s hs (by omega))
theorem place_hit (P : List CC) (hP : P.length ≤ 100) (c : CC) (t : Nat) (ht : t < P.length) (hc : P[t] = c) : ∀ (d q : Nat), q + d = t → (∀ (s : Nat) (hs : s < P.length), q ≤ s → s < t → P[s] ≠ c) → Ev (fun k => qP.l0 k P (P.length : Int) (q : Int) c.f0 c.f1) (t : Int) := by
 intro d
 induction d with
 | zero =>
  intro q hq hn
  obtain rfl : q = t := by omega
  have a1 : (q : Int) < (P.length : Int) := by omega
  refine Ev.step (f := fun k => _) (fun k => by rw [qP.l0]) ?_
  rw [rdCC P q ht]
  exact Ev.pos a1 (Ev.pos (Int.natCast_nonneg _) (Ev.pos a1 (Ev.pos ((cc_eq _ _).2 hc) (Ev.now _))))
 | succ d ih =>
  intro q hq hn
  have hl : q < P.length := by omega
  have a1 : (q : Int) < (P.length : Int) := by omega
  have w1 := qdA q (by omega)
  refine Ev.step (f := fun k => _) (fun k => by rw [qP.l0]) ?_
  rw [w1, rdCC P q hl]
  refine Ev.pos a1 (Ev.pos (Int.natCast_nonneg _) (Ev.pos a1 (Ev.neg (fun e => hn q hl (Nat.le_refl _) (by omega) ((cc_eq _ _).1 e)) ?_)))
  exact ih (q + 1) (by omega) (fun s hs h1 h2 => hn s hs (by omega) h2)
section
variable (w h : Nat) (F : List UInt8)
abbrev dgs : List Nat := idxFrom 0 F
def pcs : List CC := (dgs F).map (cellAt w)
def posN (i : Nat) : Nat := (dgs F).idxOf i
theorem qcC {i : Nat} (hi : i ∈ dgs F) : posN F i < (dgs F).length := List.idxOf_lt_length_of_mem hi
theorem qUB {i : Nat} (hi : i ∈ dgs F) : (dgs F)[posN F i]'(qcC F hi) = i := List.getElem_idxOf _
theorem place_is (hw0 : 0 < w) (hw : w ≤ 6) (hh : h ≤ 6) (hF : F.length = w * h) (i d : Nat) : Ev (fun k => qLA.f k (pcs w F) (nextC (cellAt w i) d).f0 (nextC (cellAt w i) d).f1) (optI (fun j => (posN F j : Int)) (stepG w h F d i)) := by
 have h36 : F.length ≤ 36 := hF ▸ (Nat.mul_le_mul hw hh : w * h ≤ 6 * 6)
 have hDl : (dgs F).length ≤ F.length := qwA F 0
 have hPl : (pcs w F).length = (dgs F).length := List.length_map _
 unfold qLA.f qP.f
 have hget : ∀ (s : Nat) (hs : s < (pcs w F).length), (pcs w F)[s] = cellAt w ((dgs F)[s]'(by rw [← hPl]; exact hs)) := fun s hs => List.getElem_map _
 refine Ev.bind (r := optI (fun j => (posN F j : Int)) (stepG w h F d i)) (a := optI (fun j => (posN F j : Int)) (stepG w h F d i)) ?_ (Ev.now _)
 cases hs : stepG w h F d i with
 | none =>
  have hn := stepG_none hF hw0 hs
  exact place_miss (pcs w F) (by omega) _ (pcs w F).length 0 (by omega) (fun s hs _ => by rw [hget s hs]; exact hn _ (List.getElem_mem _))
 | some j =>
  obtain ⟨hj, hc⟩ := qSB hF hw0 hs
  have ht := qcC F hj
  refine place_hit (pcs w F) (by omega) _ (posN F j) (by rw [hPl]; exact ht) (by rw [hget, qUB F hj]; exact hc) (posN F j) 0 (by omega) (fun s hs _ hst => ?_)
  rw [hget s hs, ← hc]
  intro e
  have e2 := cellAt_inj hw0 e
  have e3 := qUB F hj
  have := (List.getElem_inj (qdB F 0)).1 (e2.trans e3.symm)
  omega
def poss (L : List (Nat × Fnd)) : List Nat := (keysN L).map (posN F)
theorem poss_append (L : List (Nat × Fnd)) (j : Nat) (v : Fnd) : poss F (L ++ [(j, v)]) = poss F L ++ [posN F j] := by simp [poss, keysN]
theorem rdTabD (U : List Nat) (L : List (Nat × Fnd)) (k : Nat) (h : k < U.length) : qZ (tabU dieG U L) (k : Int) = dieG (look L U[k]) := by
 unfold qZ
 rw [Int.toNat_natCast, List.getD_eq_getElem?_getD, qOC dieG U L k h]; rfl
theorem fold_steps (hw0 : 0 < w) (hw : w ≤ 6) (hh : h ≤ 6) (hF : F.length = w * h) (R : List Int × List Int) (at_ : Nat) (i : Nat) (v : Fnd) : ∀ (n d : Nat) (L : List (Nat × Fnd)), d + n = 4 → L[at_]? = some (i, v) → OkN (dgs F) L →
  Ev (fun k => qF.l1 k (pcs w F) (ints (poss F (Bfs.puts L (stepsN w h F i v n d)))) ((at_ + 1 : Nat) : Int) (tabU botI (dgs F) (Bfs.puts L (stepsN w h F i v n d))) (tabU farG (dgs F) (Bfs.puts L (stepsN w h F i v n d))) (tabU dieG (dgs F) (Bfs.puts L (stepsN w h F i v n d)))) R →
  Ev (fun k => qF.l2 k (pcs w F) (ints (poss F L)) (at_ : Int) (posN F i : Int) (tabU botI (dgs F) L) (tabU farG (dgs F) L) (tabU dieG (dgs F) L) (d : Int)) R := by
 have h36 : F.length ≤ 36 := hF ▸ (Nat.mul_le_mul hw hh : w * h ≤ 6 * 6)
 have hDl : (dgs F).length ≤ F.length := qwA F 0
 have hPl : (pcs w F).length = (dgs F).length := List.length_map _
 have hU := qdB F 0
 intro n
 induction n with
 | zero =>
  intro d L hd hat hok hR
  have hal := (List.getElem?_eq_some_iff.1 hat).1
  have hlen := hok.len
  have w1 := qdA at_ (by omega)
  have a1 : ¬ (d : Int) < 4 := by omega
  refine Ev.step (f := fun k => _) (fun k => by rw [qF.l2]) ?_
  rw [w1]
  exact Ev.neg a1 hR
 | succ n ih =>
  intro d L hd hat hok hR
  have hal := (List.getElem?_eq_some_iff.1 hat).1
  have hlen := hok.len
  have hd4 : d < 4 := by clear hPl hDl h36 hF hlen; omega
  have hd5 : d + 1 + n = 4 := by clear hPl hDl h36 hF hlen; omega
  have hLs : L.length ≤ 36 := Nat.le_trans hlen (Nat.le_trans hDl h36)
  have hat36 : at_ < 36 := Nat.lt_of_lt_of_le hal hLs
  have w1 := qdA d (Nat.lt_trans hd4 (by decide))
  have a1 : (d : Int) < 4 := Int.ofNat_lt.2 hd4
  have hiD : i ∈ dgs F := hok.mem _ (List.mem_of_getElem? hat)
  have hil := qcC F hiD
  have a2 : (posN F i : Int) < ((pcs w F).length : Int) := by rw [hPl]; exact Int.ofNat_lt.2 hil
  have hlk := qhC hok.nodup hat
  have hv : v.2 ≤ at_ := hok.far at_ _ hat
  have w3 := qdA v.2 (Nat.lt_of_le_of_lt hv (Nat.lt_trans hat36 (by decide)))
  have hq : (ints (poss F L)).length < 17592186044416 := by
   have e : (ints (poss F L)).length = L.length := by rw [qeA]; unfold poss; rw [List.length_map, List.length_map]
   rw [e]; exact Nat.lt_of_le_of_lt hLs (by decide)
  have hcell : qGA (pcs w F) (posN F i : Int) = cellAt w i := by
   have hg : (pcs w F)[posN F i]? = some (cellAt w i) := by unfold pcs; rw [List.getElem?_map, List.getElem?_eq_getElem hil, qUB F hiD]; rfl
   have hil2 : posN F i < (pcs w F).length := by rw [hPl]; exact hil
   rw [List.getElem?_eq_getElem hil2] at hg
   rw [rdCC _ _ hil2]
   exact Option.some.inj hg
  have hiF : i < w * h := by
   obtain ⟨_, c, hc, _⟩ := (qUA F 0 i).1 hiD
   have := (List.getElem?_eq_some_iff.1 hc).1
   rw [← hF]; rwa [Nat.sub_zero] at this
  have hm := Nat.mod_lt i hw0
  have hqh : i / w < h := by rw [Nat.div_lt_iff_lt_mul hw0, Nat.mul_comm]; exact hiF
  have hnx : qEB.f (cellAt w i).f0 (cellAt w i).f1 (bt (⟨#[110, 101, 115, 119]⟩ : ByteArray) (d : Int)) = some ((nextC (cellAt w i) d).f0, (nextC (cellAt w i) d).f1) := by
   refine next_is (cellAt w i) d hd4 ?_ ?_
   ·exact small_of (Nat.lt_of_lt_of_le hm hw)
   ·exact small_of (Nat.lt_of_lt_of_le hqh hh)
  clear hm hqh hiF
  have hpl := place_is w h F hw0 hw hh hF i d
  have t1 : (tabU botI (dgs F) L).length = (dgs F).length := qiA _ _ _
  have t2 : (tabU farG (dgs F) L).length = (dgs F).length := qiA _ _ _
  have t3 : (tabU dieG (dgs F) L).length = (dgs F).length := qiA _ _ _
  have hri : rd (tabU farG (dgs F) L) (posN F i : Int) = (v.2 : Int) := by rw [rdTab (γ := Unit) farG _ L _ hil, qUB F hiD, hlk]; rfl
  have hrd : qZ (tabU dieG (dgs F) L) (posN F i : Int) = v.1 := by rw [rdTabD _ L _ hil, qUB F hiD, hlk]; rfl
  have hro := roll_is v.1 d hd4
  rw [stepsN, Bfs.puts] at hR
  refine Ev.step (f := fun k => _) (fun k => by rw [qF.l2]) ?_
  rw [w1, hcell]
  refine Ev.pos a1 (Ev.pos (Int.natCast_nonneg _) (Ev.pos a2 (Ev.pos (Int.natCast_nonneg _) (Ev.bindc hnx (Ev.bind hpl ?_)))))
  cases hs : stepG w h F d i with
  | none =>
   rw [hs] at hR
   exact Ev.pos (show (-1 : Int) < 0 by decide) (ih (d + 1) L hd5 hat hok hR)
  | some j =>
   obtain ⟨hjD, _⟩ := qSB hF hw0 hs
   have hjl := qcC F hjD
   have hrj : rd (tabU farG (dgs F) L) (posN F j : Int) = farG (look L j) := by rw [rdTab (γ := Unit) farG _ L _ hjl, qUB F hjD]
   have b1 : (posN F j : Int) < ((tabU botI (dgs F) L).length : Int) := by rw [t1]; exact Int.ofNat_lt.2 hjl
   have b2 : (posN F j : Int) < ((tabU farG (dgs F) L).length : Int) := by rw [t2]; exact Int.ofNat_lt.2 hjl
   have b3 : (posN F j : Int) < ((tabU dieG (dgs F) L).length : Int) := by rw [t3]; exact Int.ofNat_lt.2 hjl
   have c2 : (posN F i : Int) < ((tabU farG (dgs F) L).length : Int) := by rw [t2]; exact Int.ofNat_lt.2 hil
   have c3 : (posN F i : Int) < ((tabU dieG (dgs F) L).length : Int) := by rw [t3]; exact Int.ofNat_lt.2 hil
   have n0 : ¬ (posN F j : Int) < 0 := Int.not_lt.2 (Int.natCast_nonneg _)
   rw [hs] at hR
   refine Ev.neg n0 (Ev.pos (Int.natCast_nonneg _) (Ev.pos b2 ?_))
   show Ev (fun k => if rd (tabU farG (dgs F) L) (posN F j : Int) ≥ 0 then _ else _) R
   rw [hrj]
   by_cases hm : j ∈ keysN L
   ·rw [Bfs.qUC hm] at hR
    exact Ev.pos (Int.not_lt.1 (fun hn => (qkB.1 hn) hm)) (ih (d + 1) L hd5 hat hok hR)
   ·rw [Bfs.qGC hm] at hR
    have hmn : ¬ (dgs F)[posN F j] ∈ keysN L := by rw [qUB F hjD]; exact hm
    refine Ev.neg (Int.not_le.2 (qkB.2 hm)) (Ev.pos c3 ?_)
    rw [hrd]
    refine Ev.bindc hro (Ev.pos c2 (Ev.pos b3 (Ev.pos b1 (Ev.pos hq ?_))))
    have s1 := qOB botI (dgs F) hU L (posN F j) hjl (rolD v.1 d, v.2 + 1) hmn
    have s2 := qOB farG (dgs F) hU L (posN F j) hjl (rolD v.1 d, v.2 + 1) hmn
    have s3 := qOB dieG (dgs F) hU L (posN F j) hjl (rolD v.1 d, v.2 + 1) hmn
    rw [qUB F hjD] at s1 s2 s3
    show Ev (fun k => qF.l2 k (pcs w F) (ints (poss F L) ++ [(posN F j : Int)]) (at_ : Int) (posN F i : Int) ((tabU botI (dgs F) L).set ((posN F j : Int)).toNat (botI (some (rolD v.1 d, v.2 + 1)))) ((tabU farG (dgs F) L).set ((posN F j : Int)).toNat (wrap64 (rd (tabU farG (dgs F) L) (posN F i : Int) + 1))) ((tabU dieG (dgs F) L).set ((posN F j : Int)).toNat (dieG (some (rolD v.1 d, v.2 + 1)))) ((d + 1 : Nat) : Int)) R
    rw [hri, w3, Int.toNat_natCast, show ((v.2 + 1 : Nat) : Int) = farG (some (rolD v.1 d, v.2 + 1)) from rfl, s1, s2, s3, qqB, ← poss_append F L j (rolD v.1 d, v.2 + 1)]
    exact ih (d + 1) _ hd5 (by rw [List.getElem?_append_left hal]; exact hat) (hok.new hat hjD hm _) hR
theorem fold_run (hw0 : 0 < w) (hw : w ≤ 6) (hh : h ≤ 6) (hF : F.length = w * h) : ∀ (n at_ : Nat) (L : List (Nat × Fnd)), OkN (dgs F) L → (dgs F).length ≤ at_ + n →
  Ev (fun k => qF.l1 k (pcs w F) (ints (poss F L)) (at_ : Int) (tabU botI (dgs F) L) (tabU farG (dgs F) L) (tabU dieG (dgs F) L)) (tabU botI (dgs F) (Bfs.run (nextN w h F) n at_ L), tabU farG (dgs F) (Bfs.run (nextN w h F) n at_ L)) := by
 have hpl : ∀ L : List (Nat × Fnd), (ints (poss F L)).length = L.length := fun L => by rw [qeA]; unfold poss; rw [List.length_map, List.length_map]
 intro n
 induction n with
 | zero =>
  intro at_ L hok hn
  have hl := hok.len
  have a1 : ¬ (at_ : Int) < ((ints (poss F L)).length : Int) := by rw [hpl]; omega
  refine Ev.step (f := fun k => _) (fun k => by rw [qF.l1]) ?_
  exact Ev.neg a1 (Ev.now _)
 | succ n ih =>
  intro at_ L hok hn
  have hl := hok.len
  refine Ev.step (f := fun k => _) (fun k => by rw [qF.l1]) ?_
  by_cases hat : at_ < L.length
  ·have hx : L[at_]? = some L[at_] := List.getElem?_eq_getElem hat
   rw [Bfs.run, if_pos hat]
   have hro : Bfs.round (nextN w h F) at_ L = Bfs.puts L (stepsN w h F L[at_].1 L[at_].2 4 0) := by unfold Bfs.round; rw [hx]; rfl
   have := ih (at_ + 1) (Bfs.round (nextN w h F) at_ L) (qVC w h F hw0 hF hok) (by omega)
   have a1 : (at_ : Int) < ((ints (poss F L)).length : Int) := by rw [hpl]; omega
   have hr : rd (ints (poss F L)) (at_ : Int) = (posN F L[at_].1 : Int) := by
    have hp : at_ < (poss F L).length := by unfold poss; rw [List.length_map, List.length_map]; exact hat
    have hg : (poss F L)[at_]? = some (posN F L[at_].1) := by unfold poss keysN; rw [List.getElem?_map, List.getElem?_map, hx]; rfl
    rw [List.getElem?_eq_getElem hp] at hg
    rw [rdInts _ _ hp, Option.some.inj hg]
   rw [hr]
   refine Ev.pos a1 (Ev.pos (Int.natCast_nonneg _) ?_)
   refine fold_steps w h F hw0 hw hh hF _ at_ L[at_].1 L[at_].2 4 0 L rfl hx hok ?_
   rw [← hro]
   exact this
  ·have a1 : ¬ (at_ : Int) < ((ints (poss F L)).length : Int) := by rw [hpl]; omega
   rw [Bfs.run, if_neg hat]
   exact Ev.neg a1 (Ev.now _)
theorem fold_fill (P : List CC) (N : Nat) (hN : N ≤ 36) (X : List Int) (R : List Int × List Int) : ∀ (d i : Nat), i + d = N →
  (Ev (fun k => qF.l0 k P X (List.replicate N (-1)) (N : Int) (N : Int)) R) →
  Ev (fun k => qF.l0 k P X (List.replicate i (-1) ++ List.replicate d 0) (N : Int) (i : Int)) R
 | 0, i, hd, hR => by
  obtain rfl : i = N := by omega
  rw [List.replicate_zero, List.append_nil]; exact hR
 | d + 1, i, hd, hR => by
  have ih := fold_fill P N hN X R d (i + 1) (by omega) hR
  have w1 := qdA i (by omega)
  have e : (List.replicate i (-1 : Int) ++ List.replicate (d + 1) (0 : Int)).set i (-1) = List.replicate (i + 1) (-1 : Int) ++ List.replicate d (0 : Int) := by
   rw [List.set_append_right _ _ (by rw [List.length_replicate]; exact Nat.le_refl _), List.length_replicate, Nat.sub_self, List.replicate_succ, List.set_cons_zero, List.replicate_succ', List.append_assoc]; rfl
  refine Ev.step (f := fun k => _) (fun k => by rw [qF.l0]) ?_
  refine Ev.pos (by omega) (Ev.pos (by omega) (Ev.pos (by simp; omega) ?_))
  rw [w1, Int.toNat_natCast, e]
  exact ih
theorem fold_ev (hw0 : 0 < w) (hw : w ≤ 6) (hh : h ≤ 6) (hF : F.length = w * h) (i0 : Nat) (D' : List Nat) (hD : dgs F = i0 :: D') :
  Ev (fun k => qF.f k (pcs w F)) (tabU botI (dgs F) (runN_ w h F i0), tabU farG (dgs F) (runN_ w h F i0)) := by
 have h36 : F.length ≤ 36 := hF ▸ (Nat.mul_le_mul hw hh : w * h ≤ 6 * 6)
 have hDl : (dgs F).length ≤ F.length := qwA F 0
 have hPl : (pcs w F).length = (dgs F).length := List.length_map _
 have hU := qdB F 0
 have hi0 : i0 ∈ dgs F := by rw [hD]; exact List.mem_cons_self
 have hl1 : 0 < (dgs F).length := by rw [hD]; exact Nat.succ_pos _
 have h00 : (dgs F)[0] = i0 := by
  have : (dgs F)[0]? = some i0 := by rw [hD]; rfl
  rw [List.getElem?_eq_getElem hl1] at this
  exact Option.some.inj this
 have hp0 : posN F i0 = 0 := by unfold posN; rw [hD, List.idxOf_cons_self]
 unfold qF.f
 rw [hPl]
 refine Ev.pos (Int.natCast_nonneg _) (Ev.pos (by rw [Int.toNat_natCast]; omega) (Ev.bindc rfl ?_))
 rw [Int.toNat_natCast, List.length_replicate]
 have hfill := fold_fill (pcs w F) (dgs F).length (by omega) (List.replicate (dgs F).length 0) (tabU botI (dgs F) (runN_ w h F i0), tabU farG (dgs F) (runN_ w h F i0)) (dgs F).length 0 (by omega)
 rw [List.replicate_zero, List.nil_append] at hfill
 refine hfill ?_
 refine Ev.step (f := fun k => _) (fun k => by rw [qF.l0]) ?_
 rw [hPl, Int.toNat_natCast]
 have l0 : (0 : Int) < ((dgs F).length : Int) := Int.ofNat_lt.2 hl1
 have n1 : ¬ ((dgs F).length : Int) < ((dgs F).length : Int) := Int.lt_irrefl _
 refine Ev.neg n1 (Ev.pos (Int.natCast_nonneg _) (Ev.pos (by omega) (Ev.bindc rfl (Ev.bindc rfl (Ev.pos (by rw [List.length_replicate]; exact l0) (Ev.pos (by rw [List.length_replicate]; exact l0) (Ev.pos (by rw [List.length_replicate]; exact l0) ?_)))))))
 have s1 := qtB botI 0 rfl (dgs F) hU 0 hl1 (plainD, 0)
 have s2 := qtB farG (-1) rfl (dgs F) hU 0 hl1 (plainD, 0)
 have s3 : (List.replicate (dgs F).length z31).set 0 (dieG (some (plainD, 0))) = tabU dieG (dgs F) [((dgs F)[0], (plainD, 0))] := by
  have h0 : List.replicate (dgs F).length z31 = tabU dieG (dgs F) [] := by
   unfold tabU
   have : (fun i => dieG (look [] i)) = fun _ => z31 := by funext i; rfl
   rw [this, List.map_const']
  rw [h0, qOB dieG (dgs F) hU [] 0 hl1 (plainD, 0) (by simp), List.nil_append]
 rw [h00] at s1 s2 s3
 have hrun := fold_run w h F hw0 hw hh hF 36 0 _ (OkN.start hi0 plainD) (by omega)
 have e1 : ints (poss F [(i0, (plainD, 0))]) = [0] := by
  show [Int.ofNat (posN F i0)] = _
  rw [hp0]; rfl
 rw [e1] at hrun
 show Ev (fun k => qF.l1 k (pcs w F) [0] 0 ((List.replicate (dgs F).length 0).set 0 (botI (some (plainD, 0)))) ((List.replicate (dgs F).length (-1)).set 0 (farG (some (plainD, 0)))) ((List.replicate (dgs F).length z31).set 0 (dieG (some (plainD, 0))))) _
 rw [s1, s2, s3]
 exact hrun
end
theorem nsRd (l : List Int) (i : Nat) (h : i < l.length) : rd l (i : Int) = l[i] := by
 unfold rd
 rw [Int.toNat_natCast, List.getD_eq_getElem?_getD, List.getElem?_eq_getElem h]; rfl
theorem idxI_loop (l : List Int) (hl : l.length ≤ 100) (x : Int) : ∀ (d q : Nat), q + d = l.length → ∃ r : Int, (0 ≤ r ↔ x ∈ l.drop q) ∧ Ev (fun k => qY.l0 k l x (l.length : Int) (q : Int)) r := by
 intro d
 induction d with
 | zero =>
  intro q hq
  refine ⟨-1, by rw [List.drop_eq_nil_of_le (by omega)]; simp, ?_⟩
  have a1 : ¬ (q : Int) < (l.length : Int) := by omega
  refine Ev.step (f := fun k => _) (fun k => by rw [qY.l0]) ?_
  exact Ev.neg a1 (Ev.now _)
 | succ d ih =>
  intro q hq
  have hql : q < l.length := by omega
  have a1 : (q : Int) < (l.length : Int) := by omega
  have w1 := qdA q (by omega)
  obtain ⟨r, hr, he⟩ := ih (q + 1) (by omega)
  by_cases e : x = l[q]
  ·refine ⟨(q : Int), ⟨fun _ => by rw [List.drop_eq_getElem_cons hql, e]; exact List.mem_cons_self, fun _ => Int.natCast_nonneg _⟩, ?_⟩
   refine Ev.step (f := fun k => _) (fun k => by rw [qY.l0]) ?_
   rw [nsRd l q hql]
   exact Ev.pos a1 (Ev.pos (Int.natCast_nonneg _) (Ev.pos a1 (Ev.pos e (Ev.now _))))
  ·refine ⟨r, by rw [List.drop_eq_getElem_cons hql, List.mem_cons, hr]; simp [e], ?_⟩
   refine Ev.step (f := fun k => _) (fun k => by rw [qY.l0]) ?_
   rw [nsRd l q hql, w1]
   exact Ev.pos a1 (Ev.pos (Int.natCast_nonneg _) (Ev.pos a1 (Ev.neg e he)))
theorem contI_ev (l : List Int) (hl : l.length ≤ 100) (x : Int) : Ev (fun k => qe.f k l x) (decide (x ∈ l)) := by
 obtain ⟨r, hr, he⟩ := idxI_loop l hl x l.length 0 (by omega)
 rw [List.drop_zero] at hr
 unfold qe.f qY.f
 refine Ev.bind he (Ev.some_ ?_)
 exact decide_eq_decide.2 hr
def runOf (a : ByteArray) : List (Nat × Fnd) := runN_ (wideN a) (highN a) (flatN a) ((placesN a).headD 0)
def hangB (a : ByteArray) : Bool := decide (∀ i ∈ placesN a, i ∈ keysN (runOf a))
def sixB (a : ByteArray) : Bool := decide (a.size ≤ 41 ∧ fitN a) && (decide ((placesN a).length = 6) && (decide (wideN a ≤ 6) && (decide (highN a ≤ 6) && (hangB a && (decide (colsFull a) && decide (linesFull a))))))
def farOf (a : ByteArray) : List Int := tabU farG (List.range (flatN a).length) (runOf a)
theorem qpB {a : ByteArray} (h6 : (placesN a).length = 6) : placesN a = (placesN a).headD 0 :: (placesN a).tail := by
 cases h : placesN a with
 | nil => rw [h] at h6; cases h6
 | cons i l => rfl
theorem farOf_neg {a : ByteArray} (hf : fitN a) {i : Nat} (hi : i ∈ placesN a) : rd (farOf a) (i : Int) < 0 ↔ ¬ i ∈ keysN (runOf a) := by
 have hlt : i < (flatN a).length := by rw [qxA hf]; exact qJB hf i hi
 unfold farOf
 rw [rdTab (γ := Unit) farG _ _ i (by rw [List.length_range]; exact hlt), List.getElem_range]
 exact qkB
theorem specFar_ev {a : ByteArray} (hf : fitN a) (h6 : (placesN a).length = 6) (hw : wideN a ≤ 6) (hh : highN a ≤ 6) : Ev (fun k => qS.f k (wideN a : Int) (highN a : Int) (nums (flatN a))) (farOf a) :=
 neFar_ev (wideN a) (highN a) (flatN a) (Nat.pos_of_ne_zero hf.1) hw hh (qxA hf) _ _ (qpB h6)
theorem sixN_is {a : ByteArray} (hf : fitN a) (h41 : a.size ≤ 41) : sixN a (farOf a) = sixB a := by
 have e : decide (∀ i ∈ placesN a, ¬ rd (farOf a) (i : Int) < 0) = hangB a := by
  unfold hangB
  refine decide_eq_decide.2 ⟨fun h i hi => Classical.byContradiction fun hn => h i hi ((farOf_neg hf hi).2 hn), fun h i hi hn => (farOf_neg hf hi).1 hn (h i hi)⟩
 unfold sixN sixB
 rw [e, decide_eq_true (show a.size ≤ 41 ∧ fitN a from ⟨h41, hf⟩), Bool.true_and]
theorem neSix_same {a : ByteArray} (hf : fitN a) (h41 : a.size ≤ 41) : Ev (fun k => qc.f k (wideN a : Int) (highN a : Int) (nums (flatN a))) (sixB a) := by
 rw [← sixN_is hf h41]
 exact neSix_ev a hf h41 (farOf a) (by unfold farOf; rw [qiA, List.length_range]) (fun h6 hw hh => specFar_ev hf h6 hw hh)
def botsOf (a : ByteArray) : List Int := tabU botI (placesN a) (runOf a)
def farsOf (a : ByteArray) : List Int := tabU farG (placesN a) (runOf a)
theorem qYC {a : ByteArray} (hf : fitN a) (h6 : (placesN a).length = 6) (hw : wideN a ≤ 6) (hh : highN a ≤ 6) : Ev (fun k => qF.f k ((placesN a).map (cellAt (wideN a)))) (botsOf a, farsOf a) :=
 fold_ev (wideN a) (highN a) (flatN a) (Nat.pos_of_ne_zero hf.1) hw hh (qxA hf) _ _ (qpB h6)
theorem qKC (a : ByteArray) : (-1 : Int) ∈ farsOf a ↔ ¬ ∀ i ∈ placesN a, i ∈ keysN (runOf a) := by
 unfold farsOf tabU
 rw [List.mem_map]
 constructor
 ·rintro ⟨i, hi, e⟩ h
  have := h i hi
  exact qkB.1 (show farG (look (runOf a) i) < 0 by rw [e]; decide) this
 ·intro h
  refine Classical.byContradiction fun hn => h fun i hi => Classical.byContradiction fun hm => hn ⟨i, hi, ?_⟩
  rw [qAC hm]; rfl
theorem hangs_ev {a : ByteArray} (hf : fitN a) (h6 : (placesN a).length = 6) (hw : wideN a ≤ 6) (hh : highN a ≤ 6) : Ev (fun k => qRA.f k ((placesN a).map (cellAt (wideN a)))) (hangB a) := by
 unfold qRA.f
 refine Ev.bind (qYC hf h6 hw hh) (Ev.bind (contI_ev (farsOf a) (by unfold farsOf; rw [qiA]; omega) (-1)) (Ev.some_ ?_))
 unfold hangB
 by_cases h : ∀ i ∈ placesN a, i ∈ keysN (runOf a)
 ·rw [decide_eq_true h, decide_eq_false (fun hn => (qKC a).1 hn h)]; rfl
 ·rw [decide_eq_false h, decide_eq_true ((qKC a).2 h)]; rfl
theorem implSix_ev (a : ByteArray) (ha : a.size ≤ 1048576) : Ev (fun k => qLB.f k a) (if sixB a = true then ((placesN a).map (cellAt (wideN a)), (placesN a).map (digAt (flatN a)), true) else ([], [], false)) := by
 suffices hs : Ev (fun k => if goodN a ∧ (placesN a).length = 6 ∧ colsFull a then (qRA.f k ((placesN a).map (cellAt (wideN a)))).bind fun t => some (if t = true then ((placesN a).map (cellAt (wideN a)), (placesN a).map (digAt (flatN a)), true) else ([], [], false)) else some ([], [], false)) (if sixB a = true then ((placesN a).map (cellAt (wideN a)), (placesN a).map (digAt (flatN a)), true) else ([], [], false)) from hs.congr (fun k => six_f k a ha)
 by_cases h : goodN a ∧ (placesN a).length = 6 ∧ colsFull a
 ·obtain ⟨hg, h6, hc⟩ := h
  obtain ⟨h41, hf, hw, hh, _, hl⟩ := (good_six a h6).1 ⟨hg, hc⟩
  refine Ev.pos ⟨hg, h6, hc⟩ (Ev.bind (hangs_ev hf h6 hw hh) (Ev.some_ ?_))
  have : sixB a = hangB a := by
   unfold sixB
   rw [decide_eq_true (show a.size ≤ 41 ∧ fitN a from ⟨h41, hf⟩), decide_eq_true h6, decide_eq_true hw, decide_eq_true hh, decide_eq_true hc, decide_eq_true hl]
   simp
  rw [this]
 ·refine Ev.neg h (Ev.some_ ?_)
  have : ¬ sixB a = true := by
   intro hs
   unfold sixB at hs
   simp only [Bool.and_eq_true, decide_eq_true_eq] at hs
   obtain ⟨⟨h41, hf⟩, h6, hw, hh, _, hc, hl⟩ := hs
   obtain ⟨hg, _⟩ := (good_six a h6).2 ⟨h41, hf, hw, hh, hc, hl⟩
   exact h ⟨hg, h6, hc⟩
  rw [if_neg this]
theorem rots_f5 : ∀ p ∈ rots, 0 ≤ p.f5 ∧ p.f5 < 6 := by decide +kernel
theorem rots_rol {p : DD} (h : p ∈ rots) (d : Nat) (hd : d < 4) : rolD p d ∈ rots := by
 have hc := rots_closed p h
 obtain rfl | rfl | rfl | rfl : d = 0 ∨ d = 1 ∨ d = 2 ∨ d = 3 := by omega
 ·exact hc.1
 ·exact hc.2.1
 ·exact hc.2.2.1
 ·exact hc.2.2.2
def DieN (L : List (Nat × Fnd)) : Prop := ∀ e ∈ L, e.2.1 ∈ rots
theorem DieN.new {L : List (Nat × Fnd)} (h : DieN L) {i j at_ : Nat} {v : Fnd} (hat : L[at_]? = some (i, v)) (d : Nat) (hd : d < 4) (q : Nat) : DieN (L ++ [(j, (rolD v.1 d, q))]) := by
 intro e he
 rcases List.mem_append.1 he with he | he
 ·exact h e he
 ·rw [List.mem_singleton] at he
  subst he
  exact rots_rol (h _ (List.mem_of_getElem? hat)) d hd
theorem botG_neg {L : List (Nat × Fnd)} (hD : DieN L) {i : Nat} : botG (look L i) < 0 ↔ ¬ i ∈ keysN L := by
 constructor
 ·intro h hm
  obtain ⟨v, hv, hmem⟩ := qWC hm
  rw [hv] at h
  have h2 : v.1.f5 < 0 := h
  have h3 : 0 ≤ v.1.f5 := (rots_f5 _ (hD _ hmem)).1
  omega
 ·intro h
  rw [qAC h]; decide
section
variable (w h : Nat) (F : List UInt8)
theorem dieN_puts (at_ i : Nat) (v : Fnd) : ∀ (n d : Nat) (L : List (Nat × Fnd)), d + n = 4 → L[at_]? = some (i, v) → DieN L → DieN (Bfs.puts L (stepsN w h F i v n d)) := by
 intro n
 induction n with
 | zero => intro d L _ _ hD; exact hD
 | succ n ih =>
  intro d L hd hat hD
  rw [stepsN, Bfs.puts]
  cases hs : stepG w h F d i with
  | none => exact ih (d + 1) L (by omega) hat hD
  | some j =>
   by_cases hm : j ∈ keysN L
   ·rw [Bfs.qUC hm]; exact ih (d + 1) L (by omega) hat hD
   ·rw [Bfs.qGC hm]
    exact ih (d + 1) _ (by omega) (by rw [List.getElem?_append_left (List.getElem?_eq_some_iff.1 hat).1]; exact hat) (hD.new hat d (by omega) _)
theorem dieN_round {at_ : Nat} {L : List (Nat × Fnd)} (hD : DieN L) : DieN (Bfs.round (nextN w h F) at_ L) := by
 unfold Bfs.round
 cases hx : L[at_]? with
 | none => exact hD
 | some x => exact dieN_puts w h F at_ x.1 x.2 4 0 L rfl hx hD
theorem dieN_run : ∀ (n at_ : Nat) (L : List (Nat × Fnd)), DieN L → DieN (Bfs.run (nextN w h F) n at_ L)
 | 0, _, L, hD => hD
 | n + 1, at_, L, hD => by
  rw [Bfs.run]
  split
  ·exact dieN_run n (at_ + 1) _ (dieN_round w h F hD)
  ·exact hD
theorem dieN_runN (i0 : Nat) : DieN (runN_ w h F i0) := dieN_run w h F 36 0 _ (fun e he => by rw [List.mem_singleton] at he; subst he; exact rots_plain)
theorem bot_steps (hw0 : 0 < w) (hw : w ≤ 6) (hh : h ≤ 6) (hF : F.length = w * h) (X33 : List Int) (R : List Int × Bool) (at_ : Nat) (i : Nat) (v : Fnd) : ∀ (n d : Nat) (L : List (Nat × Fnd)), d + n = 4 → L[at_]? = some (i, v) → OkN (idxFrom 0 F) L → DieN L →
  Ev (fun k => qK.l1 k (ints (keysN (Bfs.puts L (stepsN w h F i v n d)))) ((at_ + 1 : Nat) : Int) (tabU botG (List.range F.length) (Bfs.puts L (stepsN w h F i v n d))) (tabU dieG (List.range F.length) (Bfs.puts L (stepsN w h F i v n d))) X33 (w : Int) (h : Int) (nums F)) R →
  Ev (fun k => qK.l2 k (ints (keysN L)) (at_ : Int) (d : Int) (tabU botG (List.range F.length) L) (tabU dieG (List.range F.length) L) X33 (w : Int) (h : Int) (nums F)) R := by
 have h36 : F.length ≤ 36 := hF ▸ (Nat.mul_le_mul hw hh : w * h ≤ 6 * 6)
 have hDl := qwA F 0
 intro n
 induction n with
 | zero =>
  intro d L hd hat hok hdn hR
  have hal := (List.getElem?_eq_some_iff.1 hat).1
  have hlen := hok.len
  have w1 := qdA at_ (by omega)
  have a1 : ¬ (d : Int) < 4 := by omega
  refine Ev.step (f := fun k => _) (fun k => by rw [qK.l2]) ?_
  rw [w1]
  exact Ev.neg a1 hR
 | succ n ih =>
  intro d L hd hat hok hdn hR
  have hal := (List.getElem?_eq_some_iff.1 hat).1
  have hlen := hok.len
  have hd4 : d < 4 := by omega
  have hd5 : d + 1 + n = 4 := by omega
  have hLs : L.length ≤ 36 := Nat.le_trans hlen (Nat.le_trans hDl h36)
  have w1 := qdA d (Nat.lt_trans hd4 (by decide))
  have a1 : (d : Int) < 4 := Int.ofNat_lt.2 hd4
  have hkl : at_ < (keysN L).length := by rw [List.length_map]; exact hal
  have a3 : (at_ : Int) < ((ints (keysN L)).length : Int) := by rw [qeA]; exact Int.ofNat_lt.2 hkl
  have hr : rd (ints (keysN L)) (at_ : Int) = (i : Int) := by rw [rdInts _ _ hkl, keys_get hat hkl]
  have hiD : i ∈ idxFrom 0 F := hok.mem _ (List.mem_of_getElem? hat)
  have hiF : i < F.length := by
   obtain ⟨_, c, hc, _⟩ := (qUA F 0 i).1 hiD
   have := (List.getElem?_eq_some_iff.1 hc).1
   rwa [Nat.sub_zero] at this
  have hstep := neStep_is w h hw0 hw hh F hF i d (hF ▸ hiF) hd4
  have hro := specRoll_is v.1 d hd4
  have t1 : (tabU botG (List.range F.length) L).length = F.length := by rw [qiA, List.length_range]
  have t2 : (tabU dieG (List.range F.length) L).length = F.length := by rw [qiA, List.length_range]
  have hlk := qhC hok.nodup hat
  have hq : (ints (keysN L)).length < 17592186044416 := by rw [qeA, List.length_map]; exact Nat.lt_of_le_of_lt hLs (by decide)
  rw [stepsN, Bfs.puts] at hR
  refine Ev.step (f := fun k => _) (fun k => by rw [qK.l2]) ?_
  rw [w1]
  refine Ev.pos a1 (Ev.pos (Int.natCast_nonneg _) (Ev.pos a3 ?_))
  rw [hr]
  refine Ev.bindc hstep ?_
  cases hs : stepG w h F d i with
  | none =>
   rw [hs] at hR
   exact Ev.neg (by decide) (ih (d + 1) L hd5 hat hok hdn hR)
  | some j =>
   obtain ⟨hjD, _⟩ := qSB hF hw0 hs
   have hjF : j < F.length := by
    obtain ⟨_, c, hc, _⟩ := (qUA F 0 j).1 hjD
    have := (List.getElem?_eq_some_iff.1 hc).1
    rwa [Nat.sub_zero] at this
   have hjr : j < (List.range F.length).length := by rw [List.length_range]; exact hjF
   have hir : i < (List.range F.length).length := by rw [List.length_range]; exact hiF
   have hrj : rd (tabU botG (List.range F.length) L) (j : Int) = botG (look L j) := by rw [rdTab (γ := Unit) botG _ L j hjr, List.getElem_range]
   have hrd : qZ (tabU dieG (List.range F.length) L) (i : Int) = v.1 := by rw [rdTabD _ L i hir, List.getElem_range, hlk]; rfl
   have b1 : (j : Int) < ((tabU botG (List.range F.length) L).length : Int) := by rw [t1]; exact Int.ofNat_lt.2 hjF
   have b2 : (i : Int) < ((tabU dieG (List.range F.length) L).length : Int) := by rw [t2]; exact Int.ofNat_lt.2 hiF
   have b3 : (j : Int) < ((tabU dieG (List.range F.length) L).length : Int) := by rw [t2]; exact Int.ofNat_lt.2 hjF
   refine Ev.pos (show (optI (fun j => (j : Int)) (some j)) ≥ 0 from Int.natCast_nonneg _) (Ev.pos (Int.natCast_nonneg _) (Ev.pos b1 ?_))
   show Ev (fun k => if rd (tabU botG (List.range F.length) L) (j : Int) < 0 then _ else _) R
   rw [hrj]
   rw [hs] at hR
   by_cases hm : j ∈ keysN L
   ·rw [Bfs.qUC hm] at hR
    exact Ev.neg (fun hn => ((botG_neg hdn).1 hn) hm) (ih (d + 1) L hd5 hat hok hdn hR)
   ·rw [Bfs.qGC hm] at hR
    have hmn : ¬ (List.range F.length)[j] ∈ keysN L := by rw [List.getElem_range]; exact hm
    have s1 := qOB botG (List.range F.length) List.nodup_range L j hjr (rolD v.1 d, v.2 + 1) hmn
    have s2 := qOB dieG (List.range F.length) List.nodup_range L j hjr (rolD v.1 d, v.2 + 1) hmn
    rw [List.getElem_range] at s1 s2
    refine Ev.pos ((botG_neg hdn).2 hm) (Ev.pos (Int.natCast_nonneg _) (Ev.pos b2 ?_))
    rw [hrd]
    refine Ev.bindc hro (Ev.pos b3 ?_)
    show Ev (fun k => (some ((tabU dieG (List.range F.length) L).set ((j : Int)).toNat (dieG (some (rolD v.1 d, v.2 + 1)))) : Option (List DD)).bind _) R
    rw [Int.toNat_natCast, s2]
    refine Ev.bindc rfl (Ev.pos hq ?_)
    have hrb : qZ (tabU dieG (List.range F.length) (L ++ [(j, (rolD v.1 d, v.2 + 1))])) (j : Int) = rolD v.1 d := by rw [rdTabD _ _ j hjr, List.getElem_range, look_add L j _ hm, if_pos rfl]; rfl
    show Ev (fun k => qK.l2 k (ints (keysN L) ++ [(j : Int)]) (at_ : Int) ((d + 1 : Nat) : Int) ((tabU botG (List.range F.length) L).set j ((qZ (tabU dieG (List.range F.length) (L ++ [(j, (rolD v.1 d, v.2 + 1))])) (j : Int)).f5)) (tabU dieG (List.range F.length) (L ++ [(j, (rolD v.1 d, v.2 + 1))])) X33 (w : Int) (h : Int) (nums F)) R
    rw [hrb, show (rolD v.1 d).f5 = botG (some (rolD v.1 d, v.2 + 1)) from rfl, s1, qqB, ← keys_append L j (rolD v.1 d, v.2 + 1)]
    exact ih (d + 1) _ hd5 (by rw [List.getElem?_append_left hal]; exact hat) (hok.new hat hjD hm _) (hdn.new hat d hd4 _) hR
end
theorem bit_of : ∀ m : Nat, m < 64 → ∀ b : Nat, b < 6 → (Int.tmod (shr .i64 (m : Int) (b : Int)) 2 = 1 ↔ m.testBit b = true) := by decide +kernel
def botOk (bn : Nat → Nat) : Nat → List Nat → Bool
 | _, [] => true
 | m, i :: l => if m.testBit (bn i) = true then false else botOk bn (mkM m (bn i)) l
theorem botOk_iff (bn : Nat → Nat) : ∀ (l : List Nat) (m : Nat), m < 64 → (∀ i ∈ l, bn i < 6) → (botOk bn m l = true ↔ (l.map bn).Nodup ∧ ∀ i ∈ l, m.testBit (bn i) = false)
 | [], m, _, _ => by simp [botOk]
 | i :: l, m, hm, hl => by
  have h1 := hl i List.mem_cons_self
  have hl' := fun q hq => hl q (List.mem_cons_of_mem _ hq)
  have ih := botOk_iff bn l (mkM m (bn i)) (qgB m hm _ h1).2 hl'
  rw [botOk]
  by_cases hb : m.testBit (bn i) = true
  ·rw [if_pos hb]
   constructor
   ·intro h; cases h
   ·rintro ⟨_, h⟩
    rw [h i List.mem_cons_self] at hb; cases hb
  ·rw [if_neg hb, ih, List.map_cons, List.nodup_cons]
   constructor
   ·rintro ⟨h2, h3⟩
    refine ⟨⟨fun hmem => ?_, h2⟩, fun q hq => ?_⟩
    ·obtain ⟨q, hq, e⟩ := List.mem_map.1 hmem
     have := h3 q hq
     rw [qdC m hm _ h1 _ (hl' q hq), e] at this
     simp at this
    ·rcases List.mem_cons.1 hq with rfl | hq
     ·exact Bool.eq_false_iff.2 hb
     ·have := h3 q hq
      rw [qdC m hm _ h1 _ (hl' q hq)] at this
      exact (Bool.or_eq_false_iff.1 this).1
   ·rintro ⟨⟨h2, h3⟩, h4⟩
    refine ⟨h3, fun q hq => ?_⟩
    rw [qdC m hm _ h1 _ (hl' q hq), h4 q (List.mem_cons_of_mem _ hq), Bool.false_or, decide_eq_false_iff_not]
    intro e
    exact h2 (List.mem_map.2 ⟨q, hq, e.symm⟩)
theorem bot_l3 (X : List Int) (bn : Nat → Nat) (D : List Nat) (hDl : D.length ≤ 100) (hX : ∀ i ∈ D, i < X.length ∧ rd X (i : Int) = (bn i : Int) ∧ bn i < 6) : ∀ (l : List Nat) (j m : Nat), D.drop j = l → m < 64 →
  Ev (fun k => qK.l3 k (m : Int) X (ints D) (D.length : Int) (j : Int)) (X, botOk bn m l) := by
 intro l
 induction l with
 | nil =>
  intro j m hd hm
  have hn : D.length ≤ j := by
   rcases Nat.lt_or_ge j D.length with h | h
   ·rw [List.drop_eq_getElem_cons h] at hd; cases hd
   ·exact h
  refine Ev.step (f := fun k => _) (fun k => by rw [qK.l3]) ?_
  exact Ev.neg (qzB hn) (Ev.now _)
 | cons i l ih =>
  intro j m hd hm
  have hlt : j < D.length := by
   rcases Nat.lt_or_ge j D.length with h | h
   ·exact h
   ·rw [List.drop_eq_nil_of_le h] at hd; cases hd
  rw [List.drop_eq_getElem_cons hlt] at hd
  obtain ⟨hi, hd'⟩ := List.cons.inj hd
  obtain ⟨x1, x2, x3⟩ := hX i (hi ▸ List.getElem_mem hlt)
  have hr : rd (ints D) (j : Int) = (i : Int) := by rw [rdInts D j hlt, hi]
  have w1 := qdA j (Nat.lt_of_lt_of_le hlt (Nat.le_trans hDl (by decide)))
  have a1 : (j : Int) < (D.length : Int) := Int.ofNat_lt.2 hlt
  have a3 : (j : Int) < ((ints D).length : Int) := by rw [qeA]; exact a1
  have a5 : (i : Int) < (X.length : Int) := Int.ofNat_lt.2 x1
  have hb := bit_of m hm (bn i) x3
  have ho := qgB m hm (bn i) x3
  refine Ev.step (f := fun k => _) (fun k => by rw [qK.l3]) ?_
  refine Ev.pos a1 (Ev.pos (Int.natCast_nonneg _) (Ev.pos a3 ?_))
  rw [hr]
  refine Ev.pos (Int.natCast_nonneg _) (Ev.pos a5 ?_)
  rw [x2, botOk]
  refine Ev.pos (Int.natCast_nonneg _) ?_
  by_cases ht : m.testBit (bn i) = true
  ·rw [if_pos ht]
   exact Ev.pos (hb.2 ht) (Ev.now _)
  ·rw [if_neg ht, ho.1, w1]
   exact Ev.neg (fun e => ht (hb.1 e)) (ih (j + 1) _ hd' ho.2)
end Go.Proofs.YtdncpkppkafkpaaDoor
namespace Go.Proofs.YtdncpkppkafkpaaDoor
open Go.RowKit Go.Proofs.YtdncpkppkafkpaaDoor.P Go.Proofs.YtdncpkppkafkpaaDoorW.PrintWords Go.Proofs.YtdncpkppkafkpaaDoorW.PrintLast
open Go.Lib (keeps compactUpTo)
set_option linter.unusedVariables false
set_option linter.unusedSimpArgs false
theorem kinds_nodup (l : List Int) : kinds l = l.length ↔ l.Nodup := by
 unfold kinds
 have hp := List.mergeSort_perm l (fun x y => decide (x ≤ y))
 have hs : (l.mergeSort fun x y => decide (x ≤ y)).Pairwise (fun a b => a ≤ b) := by
  have := List.pairwise_mergeSort (le := fun x y : Int => decide (x ≤ y)) (fun a b c h1 h2 => by simp only [decide_eq_true_eq] at *; omega) (fun a b => by simp only [Bool.or_eq_true, decide_eq_true_eq]; omega) l
  exact this.imp (fun h => of_decide_eq_true h)
 rw [← hp.nodup_iff, ← hp.length_eq]
 generalize (l.mergeSort fun x y => decide (x ≤ y)) = s at hs
 clear hp
 have hl : (Lib.compact s).length = ((List.range s.length).filter (keeps s.toArray)).length := by unfold Lib.compact compactUpTo; rw [List.length_map]
 have hr : (List.range s.length).length = s.length := List.length_range
 rw [hl]
 have hk : ∀ (j : Nat) (hj : j + 1 < s.length), keeps s.toArray (j + 1) = true ↔ s[j + 1] ≠ s[j] := by
  intro j hj
  unfold keeps
  have h1 : s.toArray[j + 1]! = s[j + 1] := by simp [hj]
  have h2 : s.toArray[j + 1 - 1]! = s[j] := by simp [show j < s.length by omega]
  rw [h1, h2]
  simp
 constructor
 ·intro h
  have hall : ∀ j ∈ List.range s.length, keeps s.toArray j = true := List.length_filter_eq_length_iff.1 (h.trans hr.symm)
  rw [List.nodup_iff_pairwise_ne]
  rw [List.pairwise_iff_getElem]
  intro i j hi hj hij
  have hj1 : j - 1 + 1 < s.length := by omega
  have hne := (hk (j - 1) hj1).1 (hall _ (List.mem_range.2 hj1))
  have e : j - 1 + 1 = j := by omega
  have hle : s[i] ≤ s[j - 1] := by
   rcases Nat.lt_or_ge i (j - 1) with h3 | h3
   ·exact (List.pairwise_iff_getElem.1 hs) i (j - 1) hi (by omega) h3
   ·have : i = j - 1 := by omega
    subst this; exact Int.le_refl _
  have hle2 : s[j - 1] ≤ s[j] := (List.pairwise_iff_getElem.1 hs) (j - 1) j (by omega) hj (by omega)
  have hne2 : s[j] ≠ s[j - 1] := by
   have : s[j - 1 + 1] = s[j] := by congr 1
   rw [this] at hne; exact hne
  omega
 ·intro h
  rw [List.nodup_iff_pairwise_ne, List.pairwise_iff_getElem] at h
  have this : ((List.range s.length).filter (keeps s.toArray)).length = (List.range s.length).length := List.length_filter_eq_length_iff.2 (fun j hj => by
   have hj2 := List.mem_range.1 hj
   cases j with
   | zero => simp [keeps]
   | succ j => exact (hk j hj2).2 (fun e => h j (j + 1) (by omega) hj2 (by omega) e.symm))
  rw [this, hr]
theorem bot_run (w h : Nat) (F : List UInt8) (hw0 : 0 < w) (hw : w ≤ 6) (hh : h ≤ 6) (hF : F.length = w * h) (X33 : List Int) (R : List Int × Bool) (hend : ∀ L : List (Nat × Fnd), L = Bfs.run (nextN w h F) 36 0 [((idxFrom 0 F).headD 0, (plainD, 0))] → Ev (fun k => qK.l3 k 0 (tabU botG (List.range F.length) L) X33 (X33.length : Int) 0) R) :
  ∀ (n at_ : Nat) (L : List (Nat × Fnd)), OkN (idxFrom 0 F) L → DieN L → (idxFrom 0 F).length ≤ at_ + n → Bfs.run (nextN w h F) n at_ L = Bfs.run (nextN w h F) 36 0 [((idxFrom 0 F).headD 0, (plainD, 0))] →
  Ev (fun k => qK.l1 k (ints (keysN L)) (at_ : Int) (tabU botG (List.range F.length) L) (tabU dieG (List.range F.length) L) X33 (w : Int) (h : Int) (nums F)) R := by
 have hkl : ∀ L : List (Nat × Fnd), (ints (keysN L)).length = L.length := fun L => by rw [qeA, List.length_map]
 intro n
 induction n with
 | zero =>
  intro at_ L hok hdn hn he
  have hl := hok.len
  have a1 : ¬ (at_ : Int) < ((ints (keysN L)).length : Int) := by rw [hkl]; omega
  refine Ev.step (f := fun k => _) (fun k => by rw [qK.l1]) ?_
  exact Ev.neg a1 (hend L he)
 | succ n ih =>
  intro at_ L hok hdn hn he
  have hl := hok.len
  refine Ev.step (f := fun k => _) (fun k => by rw [qK.l1]) ?_
  by_cases hat : at_ < L.length
  ·have hx : L[at_]? = some L[at_] := List.getElem?_eq_getElem hat
   rw [Bfs.run, if_pos hat] at he
   have hro : Bfs.round (nextN w h F) at_ L = Bfs.puts L (stepsN w h F L[at_].1 L[at_].2 4 0) := by unfold Bfs.round; rw [hx]; rfl
   have := ih (at_ + 1) (Bfs.round (nextN w h F) at_ L) (qVC w h F hw0 hF hok) (dieN_round w h F hdn) (by omega) he
   have a1 : (at_ : Int) < ((ints (keysN L)).length : Int) := by rw [hkl]; omega
   refine Ev.pos a1 ?_
   refine bot_steps w h F hw0 hw hh hF X33 _ at_ L[at_].1 L[at_].2 4 0 L rfl hx hok hdn ?_
   rw [← hro]
   exact this
  ·have a1 : ¬ (at_ : Int) < ((ints (keysN L)).length : Int) := by rw [hkl]; omega
   rw [Bfs.run, if_neg hat] at he
   exact Ev.neg a1 (hend L he)
theorem bot_fill (w h : Nat) (F : List UInt8) (N : Nat) (hN : N ≤ 36) (Y : List DD) (R : List Int × Bool) : ∀ (d i : Nat), i + d = N →
  (Ev (fun k => qK.l0 k (List.replicate N (-1)) Y (N : Int) (N : Int) (w : Int) (h : Int) (nums F)) R) →
  Ev (fun k => qK.l0 k (List.replicate i (-1) ++ List.replicate d 0) Y (N : Int) (i : Int) (w : Int) (h : Int) (nums F)) R
 | 0, i, hd, hR => by
  obtain rfl : i = N := by omega
  rw [List.replicate_zero, List.append_nil]; exact hR
 | d + 1, i, hd, hR => by
  have ih := bot_fill w h F N hN Y R d (i + 1) (by omega) hR
  have w1 := qdA i (by omega)
  have e : (List.replicate i (-1 : Int) ++ List.replicate (d + 1) (0 : Int)).set i (-1) = List.replicate (i + 1) (-1 : Int) ++ List.replicate d (0 : Int) := by
   rw [List.set_append_right _ _ (by rw [List.length_replicate]; exact Nat.le_refl _), List.length_replicate, Nat.sub_self, List.replicate_succ, List.set_cons_zero, List.replicate_succ', List.append_assoc]; rfl
  refine Ev.step (f := fun k => _) (fun k => by rw [qK.l0]) ?_
  refine Ev.pos (by omega) (Ev.pos (by omega) (Ev.pos (by simp; omega) ?_))
  rw [w1, Int.toNat_natCast, e]
  exact ih
def botAt (a : ByteArray) (i : Nat) : Nat := (botI (look (runOf a) i)).toNat
def specBots (a : ByteArray) : List Int := tabU botG (List.range (flatN a).length) (runOf a)
theorem qPC {a : ByteArray} (hang : hangB a = true) {i : Nat} (hi : i ∈ placesN a) : ∃ v, look (runOf a) i = some v ∧ v.1.f5 = (botAt a i : Int) ∧ botAt a i < 6 := by
 have hm := of_decide_eq_true hang i hi
 obtain ⟨v, hv, hmem⟩ := qWC hm
 have hd : 0 ≤ v.1.f5 ∧ v.1.f5 < 6 := rots_f5 _ (dieN_runN _ _ _ _ _ hmem)
 refine ⟨v, hv, ?_, ?_⟩
 ·unfold botAt; rw [hv]; show v.1.f5 = ((v.1.f5).toNat : Int); omega
 ·unfold botAt; rw [hv]; show (v.1.f5).toNat < 6; omega
def netB (a : ByteArray) : Bool := sixB a && decide ((placesN a).map (botAt a)).Nodup
theorem neBottoms_ev {a : ByteArray} (hf : fitN a) (h6 : (placesN a).length = 6) (hw : wideN a ≤ 6) (hh : highN a ≤ 6) (hang : hangB a = true) :
  Ev (fun k => qK.f k (wideN a : Int) (highN a : Int) (nums (flatN a))) (specBots a, decide ((placesN a).map (botAt a)).Nodup) := by
 have hw0 := Nat.pos_of_ne_zero hf.1
 have hF := qxA hf
 have h36 : (flatN a).length ≤ 36 := hF ▸ (Nat.mul_le_mul hw hh : wideN a * highN a ≤ 6 * 6)
 have hDl : (placesN a).length ≤ (flatN a).length := qwA _ 0
 have hDl2 : (idxFrom 0 (flatN a)).length ≤ (flatN a).length := qwA _ 0
 have hn : (nums (flatN a)).length = (flatN a).length := List.length_map _
 have hcons := qpB h6
 obtain ⟨i0, hi0⟩ : ∃ i0, (placesN a).headD 0 = i0 := ⟨_, rfl⟩
 rw [hi0] at hcons
 have hi0m : i0 ∈ placesN a := by rw [hcons]; exact List.mem_cons_self
 have hiF : i0 < (flatN a).length := by rw [hF]; exact qJB hf i0 hi0m
 have hrun : runOf a = Bfs.run (nextN (wideN a) (highN a) (flatN a)) 36 0 [((idxFrom 0 (flatN a)).headD 0, (plainD, 0))] := rfl
 unfold qK.f
 rw [hn]
 refine Ev.pos (Int.natCast_nonneg _) (Ev.pos (by rw [Int.toNat_natCast]; omega) (Ev.bindc rfl (Ev.pos (by rw [Int.toNat_natCast]; omega) ?_)))
 rw [Int.toNat_natCast, List.length_replicate]
 have hfill := bot_fill (wideN a) (highN a) (flatN a) (flatN a).length h36 (List.replicate (flatN a).length z31) (specBots a, decide ((placesN a).map (botAt a)).Nodup) (flatN a).length 0 (by omega)
 rw [List.replicate_zero, List.nil_append] at hfill
 refine hfill ?_
 refine Ev.step (f := fun k => _) (fun k => by rw [qK.l0]) ?_
 have n1 : ¬ ((flatN a).length : Int) < ((flatN a).length : Int) := Int.lt_irrefl _
 refine Ev.neg n1 (Ev.bind (qcB _ _ (flatN a) (by omega)) ?_)
 have e0 : rd (ints (idxFrom 0 (flatN a))) 0 = (i0 : Int) := by
  show rd (ints (placesN a)) 0 = _
  rw [hcons]; rfl
 have e1 : (ints (idxFrom 0 (flatN a))).length = 6 := by rw [qeA]; exact h6
 rw [e0]
 have b1 : (i0 : Int) < ((List.replicate (flatN a).length z31).length : Int) := by rw [List.length_replicate]; exact Int.ofNat_lt.2 hiF
 have b2 : (i0 : Int) < ((List.replicate (flatN a).length (-1 : Int)).length : Int) := by rw [List.length_replicate]; exact Int.ofNat_lt.2 hiF
 refine Ev.pos (by rw [e1]; decide) (Ev.bindc (show qIB.f = some (0, 1, 2, 3, 4, 5) by decide +kernel) (Ev.pos (Int.natCast_nonneg _) (Ev.pos b1 (Ev.pos b2 ?_))))
 have s1 := qtB botG (-1) rfl (List.range (flatN a).length) List.nodup_range i0 (by rw [List.length_range]; exact hiF) (plainD, 0)
 have s2 : (List.replicate (flatN a).length z31).set i0 (dieG (some (plainD, 0))) = tabU dieG (List.range (flatN a).length) [(i0, (plainD, 0))] := by
  have h0 : List.replicate (flatN a).length z31 = tabU dieG (List.range (flatN a).length) [] := by
   unfold tabU
   have : (fun i => dieG (look [] i)) = fun _ => z31 := by funext i; rfl
   rw [this, List.map_const', List.length_range]
  have hs := qOB dieG (List.range (flatN a).length) List.nodup_range [] i0 (by rw [List.length_range]; exact hiF) (plainD, 0) (by simp)
  simp only [List.getElem_range] at hs
  rw [h0, hs, List.nil_append]
 simp only [List.length_range, List.getElem_range] at s1
 show Ev (fun k => qK.l1 k [(i0 : Int)] 0 ((List.replicate (flatN a).length (-1)).set ((i0 : Int)).toNat (botG (some (plainD, 0)))) ((List.replicate (flatN a).length z31).set ((i0 : Int)).toNat (dieG (some (plainD, 0)))) (ints (idxFrom 0 (flatN a))) (wideN a : Int) (highN a : Int) (nums (flatN a))) _
 rw [Int.toNat_natCast, s1, s2]
 have hst : [(i0, (plainD, 0))] = [((idxFrom 0 (flatN a)).headD 0, ((plainD, 0) : Fnd))] := by
  have : (idxFrom 0 (flatN a)).headD 0 = i0 := hi0
  rw [this]
 refine bot_run (wideN a) (highN a) (flatN a) hw0 hw hh hF _ _ (fun L hL => ?_) 36 0 [(i0, (plainD, 0))] (OkN.start hi0m plainD) (fun e he => by rw [List.mem_singleton] at he; subst he; exact rots_plain) (by omega) (by rw [hst])
 rw [← hrun] at hL
 subst hL
 have hX : ∀ i ∈ placesN a, i < (specBots a).length ∧ rd (specBots a) (i : Int) = (botAt a i : Int) ∧ botAt a i < 6 := by
  intro i hi
  have hil : i < (flatN a).length := by rw [hF]; exact qJB hf i hi
  obtain ⟨v, hv, e, hlt⟩ := qPC hang hi
  refine ⟨by unfold specBots; rw [qiA, List.length_range]; exact hil, ?_, hlt⟩
  unfold specBots
  rw [rdTab (γ := Unit) botG _ _ i (by rw [List.length_range]; exact hil), List.getElem_range, hv]
  exact e
 have hl3 := bot_l3 (specBots a) (botAt a) (placesN a) (by omega) hX (placesN a) 0 0 List.drop_zero (by decide)
 have hok : botOk (botAt a) 0 (placesN a) = decide ((placesN a).map (botAt a)).Nodup := by
  have := botOk_iff (botAt a) (placesN a) 0 (by decide) (fun i hi => (hX i hi).2.2)
  by_cases hnd : ((placesN a).map (botAt a)).Nodup
  ·rw [decide_eq_true hnd]; exact this.2 ⟨hnd, fun i _ => Nat.zero_testBit _⟩
  ·rw [decide_eq_false hnd, Bool.eq_false_iff]; exact fun h => hnd (this.1 h).1
 rw [hok] at hl3
 have e2 : ((ints (idxFrom 0 (flatN a))).length : Int) = ((placesN a).length : Int) := by rw [qeA]; rfl
 rw [e2]
 exact hl3
theorem neNet_ev (a : ByteArray) : ∃ r : Int × Int × List Int × List Int × Bool, Ev (fun k => qCB.f k a) r ∧ r.2.2.2.2 = netB a ∧ (netB a = true → r = ((wideN a : Int), (highN a : Int), nums (flatN a), specBots a, true)) := by
 unfold qCB.f
 by_cases h : a.size ≤ 41 ∧ fitN a
 ·have h1 := neRead_ev a
  rw [if_pos h] at h1
  have h2 := neSix_same h.2 h.1
  cases hs : sixB a with
  | true =>
   rw [hs] at h2
   have hs' := hs
   unfold sixB at hs'
   simp only [Bool.and_eq_true, decide_eq_true_eq] at hs'
   obtain ⟨_, h6, hw, hh, hang, _, _⟩ := hs'
   have h3 := neBottoms_ev h.2 h6 hw hh hang
   refine ⟨_, Ev.bind h1 (Ev.pos rfl (Ev.bind h2 (Ev.pos rfl (Ev.bind h3 (Ev.now _))))), ?_, ?_⟩
   ·unfold netB; rw [hs, Bool.true_and]
   ·intro hn
    unfold netB at hn
    rw [hs, Bool.true_and] at hn
    rw [hn]
  | false =>
   rw [hs] at h2
   refine ⟨_, Ev.bind h1 (Ev.pos rfl (Ev.bind h2 (Ev.neg (by decide) (Ev.now _)))), ?_, ?_⟩
   ·unfold netB; rw [hs]; rfl
   ·intro hn; unfold netB at hn; rw [hs] at hn; cases hn
 ·have h1 := neRead_ev a
  rw [if_neg h] at h1
  have hs : sixB a = false := by unfold sixB; rw [decide_eq_false h, Bool.false_and]
  refine ⟨_, Ev.bind h1 (Ev.neg (by decide) (Ev.now _)), ?_, ?_⟩
  ·unfold netB; rw [hs]; rfl
  ·intro hn; unfold netB at hn; rw [hs] at hn; cases hn
structure IsNetN (a : ByteArray) : Prop where
 size : a.size ≤ 41
 fit : fitN a
 six : (placesN a).length = 6
 wide : wideN a ≤ 6
 high : highN a ≤ 6
 hang : hangB a = true
 cols : colsFull a
 lines : linesFull a
 nodup : ((placesN a).map (botAt a)).Nodup
theorem netB_is {a : ByteArray} (h : netB a = true) : IsNetN a := by
 unfold netB sixB at h
 simp only [Bool.and_eq_true, decide_eq_true_eq] at h
 obtain ⟨⟨⟨h1, h2⟩, h3, h4, h5, h6, h7, h8⟩, h9⟩ := h
 exact ⟨h1, h2, h3, h4, h5, h6, h7, h8, h9⟩
theorem implNet_ev (a : ByteArray) (ha : a.size ≤ 1048576) : ∃ r : List CC × List Int × Bool, Ev (fun k => qVB.f k a) r ∧ r.2.2 = netB a ∧ (netB a = true → r = ((placesN a).map (cellAt (wideN a)), (placesN a).map (digAt (flatN a)), true)) := by
 have h1 := implSix_ev a ha
 unfold qVB.f
 cases hs : sixB a with
 | true =>
  rw [hs, if_pos rfl] at h1
  have hs' := hs
  unfold sixB at hs'
  simp only [Bool.and_eq_true, decide_eq_true_eq] at hs'
  obtain ⟨⟨_, hf⟩, h6, hw, hh, hang, _, _⟩ := hs'
  have hfo := qYC hf h6 hw hh
  have hbl : (botsOf a).length = 6 := by unfold botsOf; rw [qiA]; exact h6
  have hfold : Ev (fun k => qKA.f k ((placesN a).map (cellAt (wideN a)))) (decide ((placesN a).map (botAt a)).Nodup) := by
   unfold qKA.f
   refine Ev.bind hfo (Ev.bind (contI_ev (farsOf a) (by unfold farsOf; rw [qiA]; omega) (-1)) ?_)
   rw [decide_eq_false (fun hn => (qKC a).1 hn (of_decide_eq_true hang))]
   refine Ev.neg (by decide) (Ev.pos (by rw [hbl]; decide) (Ev.some_ ?_))
   refine decide_eq_decide.2 ?_
   have hk := kinds_nodup (botsOf a)
   rw [hbl] at hk
   rw [hk]
   have e : botsOf a = ((placesN a).map (botAt a)).map (fun (n : Nat) => (n : Int)) := by
    unfold botsOf tabU
    rw [List.map_map]
    refine List.map_congr_left fun i hi => ?_
    obtain ⟨v, hv, e, _⟩ := qPC hang hi
    rw [hv]
    exact e
   rw [e]
   constructor
   ·intro h; exact (List.nodup_iff_pairwise_ne.2 ((List.pairwise_map.1 (List.nodup_iff_pairwise_ne.1 h)).imp (fun h e => h (by rw [e]))))
   ·intro h; exact (List.nodup_iff_pairwise_ne.2 (List.pairwise_map.2 ((List.nodup_iff_pairwise_ne.1 h).imp (fun h e => h (Int.ofNat.inj e)))))
  refine ⟨_, Ev.bind h1 (Ev.pos rfl (Ev.bind hfold (Ev.now _))), ?_, ?_⟩
  ·unfold netB; rw [hs, Bool.true_and]
  ·intro hn
   unfold netB at hn
   rw [hs, Bool.true_and] at hn
   rw [hn]
 | false =>
  rw [hs, if_neg (by decide)] at h1
  refine ⟨_, Ev.bind h1 (Ev.neg (by decide) (Ev.now _)), ?_, ?_⟩
  ·unfold netB; rw [hs]; rfl
  ·intro hn; unfold netB at hn; rw [hs] at hn; cases hn
theorem specBots_is {a : ByteArray} (hn : IsNetN a) : ∀ i ∈ placesN a, i < (specBots a).length ∧ rd (specBots a) (i : Int) = (botAt a i : Int) ∧ botAt a i < 6 := by
 intro i hi
 have hil : i < (flatN a).length := by rw [qxA hn.fit]; exact qJB hn.fit i hi
 obtain ⟨v, hv, e, hlt⟩ := qPC hn.hang hi
 refine ⟨by unfold specBots; rw [qiA, List.length_range]; exact hil, ?_, hlt⟩
 unfold specBots
 rw [rdTab (γ := Unit) botG _ _ i (by rw [List.length_range]; exact hil), List.getElem_range, hv]
 exact e
theorem botsOf_is {a : ByteArray} (hn : IsNetN a) : botsOf a = (placesN a).map fun i => (botAt a i : Int) := by
 unfold botsOf tabU
 refine List.map_congr_left fun i hi => ?_
 obtain ⟨v, hv, e, _⟩ := qPC hn.hang hi
 rw [hv]
 exact e
end Go.Proofs.YtdncpkppkafkpaaDoor
namespace Go.Proofs.YtdncpkppkafkpaaDoor
open Go.RowKit Go.Proofs.YtdncpkppkafkpaaDoor.P Go.Proofs.YtdncpkppkafkpaaDoorW.PrintWords Go.Proofs.YtdncpkppkafkpaaDoorW.PrintLast
set_option linter.unusedVariables false
set_option linter.unusedSimpArgs false
def facesN (bn : Nat → Nat) (dg : Nat → Int) (l : List Nat) (acc : List Int) : List Int := l.foldl (fun acc i => acc.set (bn i) (dg i)) acc
def dieL (l : List Int) : DD := ⟨rd l 0, rd l 1, rd l 2, rd l 3, rd l 4, rd l 5⟩
theorem specDieOf (l : List Int) (h : l.length = 6) : qPA.f l = some ((dieL l).f0, (dieL l).f1, (dieL l).f2, (dieL l).f3, (dieL l).f4, (dieL l).f5) := by
 unfold qPA.f
 rw [if_pos (by omega), if_pos (by omega), if_pos (by omega), if_pos (by omega), if_pos (by omega), if_pos (by omega)]
 rfl
theorem implDieOf (l : List Int) (h : l.length = 6) : qTA.f l = some ((dieL l).f0, (dieL l).f1, (dieL l).f2, (dieL l).f3, (dieL l).f4, (dieL l).f5) := by
 unfold qTA.f
 rw [if_pos (by omega), if_pos (by omega), if_pos (by omega), if_pos (by omega), if_pos (by omega), if_pos (by omega)]
 rfl
theorem specFold_loop (X : List Int) (F : List UInt8) (bn : Nat → Nat) (dg : Nat → Int) (W H : Int) (D : List Nat) (hDl : D.length ≤ 100) (hX : ∀ i ∈ D, i < X.length ∧ rd X (i : Int) = (bn i : Int) ∧ bn i < 6) (hF : ∀ i ∈ D, i < F.length ∧ (rd (nums F) (i : Int) - 48) % 256 = dg i) :
  ∀ (l : List Nat) (j : Nat) (acc : List Int), D.drop j = l → acc.length = 6 →
  Ev (fun k => qh.l0 k X acc (ints D) (D.length : Int) (j : Int) W H (nums F)) ((dieL (facesN bn dg l acc)).f0, (dieL (facesN bn dg l acc)).f1, (dieL (facesN bn dg l acc)).f2, (dieL (facesN bn dg l acc)).f3, (dieL (facesN bn dg l acc)).f4, (dieL (facesN bn dg l acc)).f5) := by
 intro l
 induction l with
 | nil =>
  intro j acc hd ha
  have hn : D.length ≤ j := by
   rcases Nat.lt_or_ge j D.length with h | h
   ·rw [List.drop_eq_getElem_cons h] at hd; cases hd
   ·exact h
  refine Ev.step (f := fun k => _) (fun k => by rw [qh.l0]) ?_
  exact Ev.neg (qzB hn) (Ev.bindc (specDieOf acc ha) (Ev.now _))
 | cons i l ih =>
  intro j acc hd ha
  have hlt : j < D.length := by
   rcases Nat.lt_or_ge j D.length with h | h
   ·exact h
   ·rw [List.drop_eq_nil_of_le h] at hd; cases hd
  rw [List.drop_eq_getElem_cons hlt] at hd
  obtain ⟨hi, hd'⟩ := List.cons.inj hd
  have hiD : i ∈ D := hi ▸ List.getElem_mem hlt
  obtain ⟨x1, x2, x3⟩ := hX i hiD
  obtain ⟨y1, y2⟩ := hF i hiD
  have hr : rd (ints D) (j : Int) = (i : Int) := by rw [rdInts D j hlt, hi]
  have w1 := qdA j (Nat.lt_of_lt_of_le hlt (Nat.le_trans hDl (by decide)))
  have a1 : (j : Int) < (D.length : Int) := Int.ofNat_lt.2 hlt
  have a3 : (j : Int) < ((ints D).length : Int) := by rw [qeA]; exact a1
  have a5 : (i : Int) < (X.length : Int) := Int.ofNat_lt.2 x1
  have a6 : (i : Int) < ((nums F).length : Int) := by unfold nums; rw [List.length_map]; exact Int.ofNat_lt.2 y1
  have a7 : (bn i : Int) < (acc.length : Int) := by rw [ha]; exact Int.ofNat_lt.2 x3
  have := ih (j + 1) (acc.set (bn i) (dg i)) hd' (by rw [List.length_set]; exact ha)
  refine Ev.step (f := fun k => _) (fun k => by rw [qh.l0]) ?_
  refine Ev.pos a1 (Ev.pos (Int.natCast_nonneg _) (Ev.pos a3 ?_))
  rw [hr]
  refine Ev.pos (Int.natCast_nonneg _) (Ev.pos a5 (Ev.pos a6 ?_))
  rw [x2]
  refine Ev.pos (Int.natCast_nonneg _) (Ev.pos a7 ?_)
  rw [w1, y2, Int.toNat_natCast]
  exact this
theorem implFold_loop (G B : List Int) (bn : Nat → Nat) (dg : Nat → Int) (D : List Nat) (hDl : D.length ≤ 100) (hB : B = D.map fun i => (bn i : Int)) (hG : G = D.map dg) (hbn : ∀ i ∈ D, bn i < 6) :
  ∀ (l : List Nat) (j : Nat) (acc : List Int), D.drop j = l → acc.length = 6 →
  Ev (fun k => qk.l0 k G B acc (D.length : Int) (j : Int)) ((dieL (facesN bn dg l acc)).f0, (dieL (facesN bn dg l acc)).f1, (dieL (facesN bn dg l acc)).f2, (dieL (facesN bn dg l acc)).f3, (dieL (facesN bn dg l acc)).f4, (dieL (facesN bn dg l acc)).f5, true) := by
 intro l
 induction l with
 | nil =>
  intro j acc hd ha
  have hn : D.length ≤ j := by
   rcases Nat.lt_or_ge j D.length with h | h
   ·rw [List.drop_eq_getElem_cons h] at hd; cases hd
   ·exact h
  refine Ev.step (f := fun k => _) (fun k => by rw [qk.l0]) ?_
  exact Ev.neg (qzB hn) (Ev.bindc (implDieOf acc ha) (Ev.now _))
 | cons i l ih =>
  intro j acc hd ha
  have hlt : j < D.length := by
   rcases Nat.lt_or_ge j D.length with h | h
   ·exact h
   ·rw [List.drop_eq_nil_of_le h] at hd; cases hd
  rw [List.drop_eq_getElem_cons hlt] at hd
  obtain ⟨hi, hd'⟩ := List.cons.inj hd
  have x3 : bn i < 6 := hbn i (hi ▸ List.getElem_mem hlt)
  have hBl : B.length = D.length := by rw [hB, List.length_map]
  have hGl : G.length = D.length := by rw [hG, List.length_map]
  have hr : rd B (j : Int) = (bn i : Int) := by
   have hj : j < B.length := hBl ▸ hlt
   rw [nsRd B j hj]
   have : B[j]? = some ((bn i : Int)) := by rw [hB, List.getElem?_map, List.getElem?_eq_getElem hlt, hi]; rfl
   rw [List.getElem?_eq_getElem hj] at this
   exact Option.some.inj this
  have hg : rd G (j : Int) = dg i := by
   have hj : j < G.length := hGl ▸ hlt
   rw [nsRd G j hj]
   have : G[j]? = some (dg i) := by rw [hG, List.getElem?_map, List.getElem?_eq_getElem hlt, hi]; rfl
   rw [List.getElem?_eq_getElem hj] at this
   exact Option.some.inj this
  have w1 := qdA j (Nat.lt_of_lt_of_le hlt (Nat.le_trans hDl (by decide)))
  have a1 : (j : Int) < (D.length : Int) := Int.ofNat_lt.2 hlt
  have a3 : (j : Int) < (B.length : Int) := by rw [hBl]; exact a1
  have a4 : (j : Int) < (G.length : Int) := by rw [hGl]; exact a1
  have a7 : (bn i : Int) < (acc.length : Int) := by rw [ha]; exact Int.ofNat_lt.2 x3
  have := ih (j + 1) (acc.set (bn i) (dg i)) hd' (by rw [List.length_set]; exact ha)
  refine Ev.step (f := fun k => _) (fun k => by rw [qk.l0]) ?_
  refine Ev.pos a1 (Ev.pos (Int.natCast_nonneg _) (Ev.pos a3 (Ev.pos a4 ?_)))
  rw [hr, hg]
  refine Ev.pos (Int.natCast_nonneg _) (Ev.pos a7 ?_)
  rw [w1, Int.toNat_natCast]
  exact this
def dieOfN (a : ByteArray) : DD := dieL (facesN (botAt a) (digAt (flatN a)) (placesN a) (List.replicate 6 0))
theorem digAt_is {a : ByteArray} (hn : IsNetN a) : ∀ i ∈ placesN a, i < (flatN a).length ∧ (rd (nums (flatN a)) (i : Int) - 48) % 256 = digAt (flatN a) i := by
 intro i hi
 have hil : i < (flatN a).length := by rw [qxA hn.fit]; exact qJB hn.fit i hi
 refine ⟨hil, ?_⟩
 obtain ⟨_, c, hc, hne⟩ := (qUA (flatN a) 0 i).1 hi
 rw [Nat.sub_zero] at hc
 have hok : okN c = true := by
  have hm := List.mem_of_getElem? hc
  unfold flatN at hm
  obtain ⟨r, hr, hcr⟩ := List.mem_flatten.1 hm
  exact List.all_eq_true.1 (hn.fit.2 r hr).2 c hcr
 unfold okN isDg at hok
 rw [decide_eq_false hne, Bool.false_or, Bool.and_eq_true, decide_eq_true_eq, decide_eq_true_eq] at hok
 have e : (flatN a)[i] = c := by rw [List.getElem?_eq_getElem hil] at hc; exact Option.some.inj hc
 rw [rdNums _ i hil, e]
 unfold digAt
 rw [List.getD_eq_getElem?_getD, hc]
 show ((c.toNat : Int) - 48) % 256 = (c.toNat : Int) - 48
 omega
theorem neFold_ev {a : ByteArray} (hn : IsNetN a) : Ev (fun k => qh.f k (wideN a : Int) (highN a : Int) (nums (flatN a)) (specBots a)) ((dieOfN a).f0, (dieOfN a).f1, (dieOfN a).f2, (dieOfN a).f3, (dieOfN a).f4, (dieOfN a).f5) := by
 have hsz : (flatN a).length ≤ 100 := by
  rw [qxA hn.fit]
  exact Nat.le_trans (Nat.mul_le_mul hn.wide hn.high) (by decide)
 have hD6 : (placesN a).length ≤ 100 := by rw [hn.six]; decide
 have hlo := specFold_loop (specBots a) (flatN a) (botAt a) (digAt (flatN a)) (wideN a : Int) (highN a : Int) (placesN a) hD6 (specBots_is hn) (digAt_is hn) (placesN a) 0 (List.replicate 6 0) List.drop_zero (by simp)
 unfold qh.f
 refine Ev.pos (by decide) (Ev.bind (qcB _ _ (flatN a) hsz) ?_)
 have e2 : ((ints (idxFrom 0 (flatN a))).length : Int) = ((placesN a).length : Int) := by rw [qeA]; rfl
 rw [e2]
 exact hlo
theorem foldNet_ev (a : ByteArray) (ha : a.size ≤ 1048576) : Ev (fun k => qk.f k a) (if netB a = true then ((dieOfN a).f0, (dieOfN a).f1, (dieOfN a).f2, (dieOfN a).f3, (dieOfN a).f4, (dieOfN a).f5, true) else (0, 0, 0, 0, 0, 0, false)) := by
 obtain ⟨q, h2, e2, n2⟩ := implNet_ev a ha
 unfold qk.f
 cases hb : netB a with
 | false =>
  rw [hb] at e2
  rw [if_neg (by decide)]
  exact Ev.bind h2 (Ev.neg (by rw [e2]; decide) (Ev.now _))
 | true =>
  have hn := netB_is hb
  have eq := n2 hb
  subst eq
  have hD6 : (placesN a).length ≤ 100 := by rw [hn.six]; decide
  have hli := implFold_loop _ (botsOf a) (botAt a) (digAt (flatN a)) (placesN a) hD6 (botsOf_is hn) rfl (fun i hi => (specBots_is hn i hi).2.2) (placesN a) 0 (List.replicate 6 0) List.drop_zero (by simp)
  rw [if_pos rfl]
  refine Ev.bind h2 (Ev.pos rfl (Ev.bind (qYC hn.fit hn.six hn.wide hn.high) (Ev.pos (by decide) ?_)))
  have e3 : ((botsOf a).length : Int) = ((placesN a).length : Int) := by unfold botsOf; rw [qiA]
  show Ev (fun k => qk.l0 k _ (botsOf a) (List.replicate 6 0) ((botsOf a).length : Int) 0) _
  rw [e3]
  exact hli
end Go.Proofs.YtdncpkppkafkpaaDoor
namespace Go.Proofs.YtdncpkppkafkpaaDoor.Pure
open Go.RowKit Go.Proofs.YtdncpkppkafkpaaDoor Go.Proofs.YtdncpkppkafkpaaDoor.P Go.Proofs.YtdncpkppkafkpaaDoorW.PrintWords Go.Proofs.YtdncpkppkafkpaaDoorW.PrintLast
set_option linter.unusedVariables false
set_option linter.unusedSimpArgs false
theorem eqDie_refl (a b c d e f : Int) : qlA.f a b c d e f a b c d e f = some true := by simp [qlA.f]
theorem both (a : ByteArray) (ha : a.size ≤ 1048576) : ∃ r : Int × Int × Int × Int × Int × Int × Bool, Ev (fun k => qfA.f k a) r ∧ Ev (fun k => qgA.f k a) r := by
 obtain ⟨p, h1, e1, n1⟩ := neNet_ev a
 have h2 := foldNet_ev a ha
 unfold qfA.f
 cases hb : netB a with
 | false =>
  rw [hb] at e1 h2
  rw [if_neg (by decide)] at h2
  exact ⟨(0, 0, 0, 0, 0, 0, false), Ev.bind h1 (Ev.neg (by rw [e1]; decide) (Ev.now _)), Ev.bind h2 (Ev.now _)⟩
 | true =>
  have ep := n1 hb
  subst ep
  rw [hb, if_pos rfl] at h2
  exact ⟨((dieOfN a).f0, (dieOfN a).f1, (dieOfN a).f2, (dieOfN a).f3, (dieOfN a).f4, (dieOfN a).f5, true), Ev.bind h1 (Ev.pos rfl (Ev.bind (neFold_ev (netB_is hb)) (Ev.now _))), Ev.bind h2 (Ev.now _)⟩
theorem FnExactFoldNet : qMA.Pure := by
 intro a _
 refine Ev.rounds (r := true) ?_
 unfold qMA.f
 by_cases ha : a.size ≤ 1048576
 ·obtain ⟨r, hs, hi⟩ := both a ha
  exact Ev.neg (by omega) (Ev.bind hs (Ev.bind hi (Ev.bindc (eqDie_refl _ _ _ _ _ _) (Ev.pos rfl (Ev.neg (by simp) (Ev.now _))))))
 ·exact Ev.pos (by omega) (Ev.now _)
end Go.Proofs.YtdncpkppkafkpaaDoor.Pure
