/- The program's MirrorNet returns what the reference's returns, for all texts (the law lets longer texts by). No further condition. -/
import Derived.Test.YtdncpkppkafkpaaGreatDoorKFnExactMirrorNet4

namespace Go.Proofs.YtdncpkppkafkpaaGreatDoor.Pure
open Go.RowKit Go.Proofs.YtdncpkppkafkpaaGreatDoor Go.Proofs.YtdncpkppkafkpaaGreatDoor.P Go.Proofs.YtdncpkppkafkpaaGreatDoorW.PrintWords Go.Proofs.YtdncpkppkafkpaaGreatDoorW.PrintLast
set_option linter.unusedVariables false
set_option linter.unusedSimpArgs false
theorem qjC (c : UInt8) (y : List UInt8) (r : List (List UInt8)) : Lib.joinTail [c] (y :: r) = c :: (y ++ Lib.joinTail [c] r) := by
 unfold Lib.joinTail
 rw [List.map_cons, List.flatten_cons]; rfl
theorem jt_snoc (c : UInt8) (y : List UInt8) (r : List (List UInt8)) : Lib.joinTail [c] (r ++ [y]) = Lib.joinTail [c] r ++ c :: y := by
 unfold Lib.joinTail
 rw [List.map_append, List.flatten_append]; simp
theorem join_snoc (c : UInt8) (y : List UInt8) : ∀ R : List (List UInt8), R ≠ [] → Lib.join (R ++ [y]) [c] = Lib.join R [c] ++ c :: y
 | [], h => absurd rfl h
 | x :: r, _ => by rw [List.cons_append, Lib.join_cons, Lib.join_cons, jt_snoc, List.append_assoc]
theorem join_sp (c : UInt8) : ∀ l : List UInt8, (sp c l).1 ++ Lib.joinTail [c] (sp c l).2 = l
 | [] => rfl
 | b :: l => by
  have ih := join_sp c l
  by_cases h : b = c
  ·subst h
   simp only [sp, if_true, List.nil_append, qjC, ih]
  ·simp only [sp, if_neg h, List.cons_append, ih]
theorem qpC (c : UInt8) (m : List UInt8) : ∀ x : List UInt8, (∀ e ∈ x, e ≠ c) → sp c (x ++ m) = (x ++ (sp c m).1, (sp c m).2)
 | [], _ => rfl
 | b :: x, h => by
  have ih := qpC c m x fun e he => h e (List.mem_cons_of_mem _ he)
  rw [List.cons_append, sp, if_neg (h b List.mem_cons_self), ih, List.cons_append]
theorem sp_join (c : UInt8) : ∀ (r : List (List UInt8)) (x : List UInt8), (∀ e ∈ x, e ≠ c) → (∀ y ∈ r, ∀ e ∈ y, e ≠ c) → sp c (x ++ Lib.joinTail [c] r) = (x, r)
 | [], x, hx, _ => by
  have := qpC c [] x hx
  rw [show Lib.joinTail [c] [] = [] from rfl, this]
  simp [sp]
 | y :: r, x, hx, hr => by
  have ih := sp_join c r y (hr y List.mem_cons_self) fun z hz => hr z (List.mem_cons_of_mem _ hz)
  rw [qjC, qpC c _ x hx]
  simp only [sp, if_true, ih, List.append_nil]
theorem sp_no (c : UInt8) : ∀ l : List UInt8, (∀ e ∈ (sp c l).1, e ≠ c) ∧ ∀ y ∈ (sp c l).2, ∀ e ∈ y, e ≠ c
 | [] => ⟨fun e he => absurd he List.not_mem_nil, fun y hy => absurd hy List.not_mem_nil⟩
 | b :: l => by
  obtain ⟨h1, h2⟩ := sp_no c l
  by_cases h : b = c
  ·simp only [sp, if_pos h]
   refine ⟨fun e he => absurd he List.not_mem_nil, fun y hy => ?_⟩
   rcases List.mem_cons.1 hy with rfl | hy
   ·exact h1
   ·exact h2 y hy
  ·simp only [sp, if_neg h]
   refine ⟨fun e he => ?_, h2⟩
   rcases List.mem_cons.1 he with rfl | he
   ·exact h
   ·exact h1 e he
theorem join_rev (c : UInt8) : ∀ (r : List (List UInt8)) (x : List UInt8), (x ++ Lib.joinTail [c] r).reverse = Lib.join ((x :: r).map List.reverse).reverse [c]
 | [], x => by
  rw [show Lib.joinTail [c] [] = [] from rfl, List.append_nil]
  simp [Lib.join_one]
 | y :: r, x => by
  have ih := join_rev c r y
  rw [qjC, List.map_cons, List.reverse_cons, join_snoc c x.reverse _ (by simp), ← ih]
  simp
theorem sp_rev (l : List UInt8) : (sp 47 l.reverse).1 :: (sp 47 l.reverse).2 = (((sp 47 l).1 :: (sp 47 l).2).map List.reverse).reverse := by
 obtain ⟨h1, h2⟩ := sp_no 47 l
 have hj := join_sp 47 l
 generalize (sp 47 l).1 = x at h1 hj ⊢
 generalize (sp 47 l).2 = r at h2 hj ⊢
 have hr := join_rev 47 r x
 rw [hj] at hr
 rw [hr]
 have hM : ∀ y ∈ ((x :: r).map List.reverse).reverse, ∀ e ∈ y, e ≠ (47 : UInt8) := by
  intro y hy e he
  rw [List.mem_reverse, List.mem_map] at hy
  obtain ⟨z, hz, rfl⟩ := hy
  rw [List.mem_reverse] at he
  rcases List.mem_cons.1 hz with rfl | hz
  ·exact h1 e he
  ·exact h2 z hz e he
 have hne : ((x :: r).map List.reverse).reverse ≠ [] := by simp
 generalize ((x :: r).map List.reverse).reverse = M at hM hne ⊢
 cases M with
 | nil => exact absurd rfl hne
 | cons m ms =>
  rw [Lib.join_cons, sp_join 47 ms m (hM m List.mem_cons_self) fun y hy => hM y (List.mem_cons_of_mem _ hy)]
def backRows (a : ByteArray) : List (List UInt8) := (rowsN a).map List.reverse
theorem mirW_is (a : ByteArray) : mirW a = ⟨(Lib.join (backRows a) [47]).toArray⟩ := by
 unfold mirW mirRows
 have h1 : ((rowsOf6 (rvB a)).reverse.map (·.data.toList)) = backRows a := by
  rw [List.map_reverse]
  have h2 := qiB (rvB a)
  unfold datas at h2
  rw [h2]
  unfold rowsN rvB
  rw [sp_rev a.data.toList, List.reverse_reverse]
  rfl
 rw [h1]
theorem flat_get (w : Nat) : ∀ (R : List (List UInt8)) (y x : Nat), (∀ r ∈ R, r.length = w) → x < w → (R.flatten)[y * w + x]? = (R[y]?).bind fun r => r[x]?
 | [], y, x, _, _ => by simp
 | r :: R, 0, x, h, hx => by
  have hr := h r List.mem_cons_self
  rw [List.flatten_cons, Nat.zero_mul, Nat.zero_add, List.getElem?_append_left (by omega)]
  rfl
 | r :: R, y + 1, x, h, hx => by
  have hr := h r List.mem_cons_self
  have ih := flat_get w R y x (fun z hz => h z (List.mem_cons_of_mem _ hz)) hx
  rw [List.flatten_cons, Nat.add_mul, Nat.one_mul, List.getElem?_append_right (by omega), show y * w + w + x - r.length = y * w + x by omega, ih]
  rfl
theorem flat_row (w : Nat) : ∀ (R : List (List UInt8)) (y : Nat) (r : List UInt8), (∀ r ∈ R, r.length = w) → R[y]? = some r → (R.flatten.take ((y + 1) * w)).drop (y * w) = r
 | [], y, r, _, h => by simp at h
 | r :: R, 0, s, h, hs => by
  have hr := h r List.mem_cons_self
  obtain rfl : r = s := by simpa using hs
  rw [List.flatten_cons, Nat.zero_mul, List.drop_zero, Nat.zero_add, Nat.one_mul, ← hr, List.take_left']
  rfl
 | r :: R, y + 1, s, h, hs => by
  have hr := h r List.mem_cons_self
  have ih := flat_row w R y s (fun z hz => h z (List.mem_cons_of_mem _ hz)) (by simpa using hs)
  have e1 : (y + 1 + 1) * w = r.length + (y + 1) * w := by rw [Nat.add_mul (y + 1) 1 w, Nat.one_mul, hr]; omega
  have e2 : (y + 1) * w = r.length + y * w := by rw [Nat.add_mul y 1 w, Nat.one_mul, hr]; omega
  rw [List.flatten_cons, e1, List.take_append, show r.length + (y + 1) * w - r.length = (y + 1) * w by omega, List.take_of_length_le (by omega)]
  rw [e2, List.drop_append, List.drop_of_length_le (by omega), List.nil_append, show r.length + y * w - r.length = y * w by omega, ← e2]
  exact ih
theorem nums_append (l m : List UInt8) : nums (l ++ m) = nums l ++ nums m := List.map_append
theorem qcC (r : List UInt8) : strOfNums (nums r) = ⟨r.toArray⟩ := by
 unfold strOfNums nums
 rw [List.map_map]
 congr 2
 conv => rhs; rw [← List.map_id r]
 refine List.map_congr_left fun c _ => ?_
 simp
theorem mr2 {q n : Nat} (hq : q < 100) (hn : n < 100) : wrap64 ((q : Int) + (n : Int)) = ((q + n : Nat) : Int) := by unfold wrap64; omega
theorem mr3 {n : Nat} (hn : n < 100) : wrap64 (((n + 1 : Nat) : Int) - 1 - 1) = (n : Int) - 1 := by unfold wrap64; omega
theorem mr4 (n : Nat) : ((n + 1 : Nat) : Int) - 1 = (n : Int) := by omega
theorem qfC : ∀ w : Nat, w < 7 → ∀ t : Nat, t < 7 → wrap64 ((t : Int) * (w : Int)) = ((t * w : Nat) : Int) ∧ t * w < 100 := by decide +kernel
section
variable (w : Nat) (R : List (List UInt8)) (hw : w ≤ 6) (hh : R.length ≤ 6) (hR : ∀ r ∈ R, r.length = w)
include hw hh hR
theorem mirror_row (y : Nat) (r : List UInt8) (hy : R[y]? = some r) (X : Int × Int × List Int) : ∀ (n : Nat) (acc : List UInt8), n ≤ w → acc.length + n ≤ 1000 →
  Ev (fun k => qT.l0 k ((y + 1 : Nat) : Int) (w : Int) (R.length : Int) (nums R.flatten) (w : Int) (R.length : Int) (nums (acc ++ (r.take n).reverse))) X →
  Ev (fun k => qT.l1 k (y : Int) ((n : Int) - 1) (w : Int) (R.length : Int) (nums R.flatten) (w : Int) (R.length : Int) (nums acc)) X
 | 0, acc, hn, ha, hk => by
  have hyl := (List.getElem?_eq_some_iff.1 hy).1
  have w1 := qdA y (Nat.lt_of_lt_of_le hyl (Nat.le_trans hh (by decide)))
  refine Ev.step (f := fun k => _) (fun k => by rw [qT.l1]) ?_
  rw [w1]
  rw [List.take_zero, List.reverse_nil, List.append_nil] at hk
  exact Ev.neg (by decide) hk
 | n + 1, acc, hn, ha, hk => by
  have hyl := (List.getElem?_eq_some_iff.1 hy).1
  have hr := hR r (List.mem_of_getElem? hy)
  obtain ⟨e1, e2⟩ := qfC w (Nat.lt_succ_of_le hw) y (Nat.lt_trans (Nat.lt_of_lt_of_le hyl hh) (by decide))
  have hnl : n < r.length := by rw [hr]; exact hn
  have hrn : r[n]? = some r[n] := List.getElem?_eq_getElem hnl
  have hf := flat_get w R y n hR hn
  rw [hy] at hf
  simp only [Option.bind_some] at hf
  rw [hrn] at hf
  have hlt := (List.getElem?_eq_some_iff.1 hf).1
  have hrd : rd (nums R.flatten) ((y * w + n : Nat) : Int) = ((r[n]).toNat : Int) := by
   rw [rdNums _ _ hlt]
   rw [(List.getElem?_eq_some_iff.1 hf).2]
  have hn100 : n < 100 := Nat.lt_of_lt_of_le hn (Nat.le_trans hw (by decide))
  have w2 := mr2 e2 hn100
  have w3 := mr3 hn100
  have w4 := mr4 n
  have hnl2 : (nums R.flatten).length = R.flatten.length := List.length_map _
  have hna : (nums acc).length = acc.length := List.length_map _
  have htk : (r.take (n + 1)).reverse = r[n] :: (r.take n).reverse := by
   rw [List.take_succ_eq_append_getElem hnl, List.reverse_append]; rfl
  have ih := mirror_row y r hy X n (acc ++ [r[n]]) (Nat.le_of_succ_le hn) (by rw [List.length_append, List.length_singleton, Nat.add_assoc, Nat.add_comm 1 n]; exact ha) (by rw [List.append_assoc, List.singleton_append, ← htk]; exact hk)
  rw [nums_append] at ih
  refine Ev.step (f := fun k => _) (fun k => by rw [qT.l1]) ?_
  rw [w3, w4, e1, w2, hrd]
  have g1 : (0 : Int) ≤ ((y * w + n : Nat) : Int) := Int.natCast_nonneg _
  have g2 : ((y * w + n : Nat) : Int) < ((nums R.flatten).length : Int) := by rw [hnl2]; exact Int.ofNat_lt.2 hlt
  have g3 : (nums acc).length < 140737488355328 := by rw [hna]; exact Nat.lt_of_le_of_lt (Nat.le_trans (Nat.le_add_right _ _) ha) (by decide)
  exact Ev.pos (Int.natCast_nonneg _) (Ev.pos g1 (Ev.pos g2 (Ev.pos g3 ih)))
theorem mirror_all : ∀ (l : List (List UInt8)) (y : Nat) (acc : List UInt8), R.drop y = l → acc.length + 6 * l.length ≤ 900 →
  Ev (fun k => qT.l0 k (y : Int) (w : Int) (R.length : Int) (nums R.flatten) (w : Int) (R.length : Int) (nums acc)) ((w : Int), (R.length : Int), nums (acc ++ (l.map List.reverse).flatten))
 | [], y, acc, hd, ha => by
  have hn := Sorts.drop_nil' hd
  refine Ev.step (f := fun k => _) (fun k => by rw [qT.l0]) ?_
  rw [List.map_nil, List.flatten_nil, List.append_nil]
  exact Ev.neg (by omega) (Ev.now _)
 | r :: l, y, acc, hd, ha => by
  obtain ⟨hl, hc, hd'⟩ := Sorts.drop_cons' hd
  have hy : R[y]? = some r := by rw [← hc]; exact List.getElem?_eq_getElem hl
  have hr := hR r (List.mem_of_getElem? hy)
  have w1 : wrap64 ((w : Int) - 1) = (w : Int) - 1 := by unfold wrap64; omega
  rw [List.length_cons] at ha
  have ih := mirror_all l (y + 1) (acc ++ r.reverse) hd' (by rw [List.length_append, List.length_reverse]; omega)
  have hm := mirror_row w R hw hh hR y r hy _ w acc (Nat.le_refl _) (Nat.le_trans (Nat.add_le_add_left hw _) (Nat.le_trans (Nat.add_le_add_left (Nat.le_trans (Nat.le_refl 6) (by omega : 6 ≤ 6 * (l.length + 1))) _) (Nat.le_trans ha (by decide)))) (by rw [List.take_of_length_le (by omega)]; exact ih)
  clear hd hd' hc
  refine Ev.step (f := fun k => _) (fun k => by rw [qT.l0]) ?_
  rw [w1, List.map_cons, List.flatten_cons, ← List.append_assoc]
  exact Ev.pos (by omega) hm
theorem text_all : ∀ (l : List (List UInt8)) (y : Nat), R.drop y = l →
  Ev (fun k => qy.l0 k ⟨(Lib.join (R.take y) [47]).toArray⟩ (y : Int) (w : Int) (R.length : Int) (nums R.flatten)) ⟨(Lib.join R [47]).toArray⟩
 | [], y, hd => by
  have hn := Sorts.drop_nil' hd
  refine Ev.step (f := fun k => _) (fun k => by rw [qy.l0]) ?_
  rw [List.take_of_length_le hn]
  exact Ev.neg (by omega) (Ev.now _)
 | r :: l, y, hd => by
  obtain ⟨hl, hc, hd'⟩ := Sorts.drop_cons' hd
  have hy : R[y]? = some r := by rw [← hc]; exact List.getElem?_eq_getElem hl
  have hr := hR r (List.mem_of_getElem? hy)
  have ih := text_all l (y + 1) hd'
  clear hd hd' hc
  obtain ⟨e1, e2⟩ := qfC w (by omega) y (by omega)
  obtain ⟨e3, e4⟩ := qfC w (by omega) (y + 1) (by omega)
  have w1 := qdA y (by omega)
  have hrow := flat_row w R y r hR hy
  have hcut : ((nums R.flatten).take ((y + 1) * w)).drop (y * w) = nums r := by
   unfold nums
   rw [← List.map_take, ← List.map_drop, hrow]
  have hfl : R.flatten.length = R.length * w := by
   rw [List.length_flatten]
   have : R.map List.length = List.replicate R.length w := by
    apply List.eq_replicate_iff.2
    refine ⟨List.length_map _, fun b hb => ?_⟩
    obtain ⟨z, hz, rfl⟩ := List.mem_map.1 hb
    exact hR z hz
   rw [this, List.sum_replicate_nat]
  have g1 : (0 : Int) ≤ ((y * w : Nat) : Int) := Int.natCast_nonneg _
  have g2 : ((y * w : Nat) : Int) ≤ (((y + 1) * w : Nat) : Int) := Int.ofNat_le.2 (Nat.mul_le_mul_right w (Nat.le_succ y))
  have g3 : (((y + 1) * w : Nat) : Int) ≤ ((nums R.flatten).length : Int) := by
   unfold nums
   rw [List.length_map, hfl]
   exact Int.ofNat_le.2 (Nat.mul_le_mul_right w hl)
  have hjb := join_bound (R.take y) 6 6 (fun x hx => by rw [hR x (List.mem_of_mem_take hx)]; exact hw) (by rw [List.length_take]; omega)
  have hsz : (⟨(Lib.join (R.take y) [47]).toArray⟩ : ByteArray).size ≤ 42 := by
   show (Lib.join (R.take y) [47]).toArray.size ≤ 42
   rw [List.size_toArray]; exact hjb
  have hrz : (strOfNums (nums r)).size ≤ 6 := by
   rw [qcC]
   show r.toArray.size ≤ 6
   rw [List.size_toArray, hr]; exact hw
  have htk : R.take (y + 1) = R.take y ++ [r] := by rw [List.take_add_one, hy]; rfl
  refine Ev.step (f := fun k => _) (fun k => by rw [qy.l0]) ?_
  rw [w1, e1, e3, Int.toNat_natCast, Int.toNat_natCast, hcut]
  refine Ev.pos (by omega) ?_
  rcases Nat.eq_zero_or_pos y with h0 | h0
  ·subst h0
   refine Ev.neg (by decide) (Ev.pos g1 (Ev.pos g2 (Ev.pos g3 (Ev.pos (by omega) ?_))))
   have he : (⟨(Lib.join (R.take 0) [47]).toArray⟩ : ByteArray) ++ strOfNums (nums r) = ⟨(Lib.join (R.take (0 + 1)) [47]).toArray⟩ := by
    rw [htk, List.take_zero, List.nil_append, Lib.join_one, Lib.join_nil, qcC]
    apply ByteArray.ext
    simp [ByteArray.data_append]
   rw [he]
   exact ih
  ·have hs2 : ((⟨(Lib.join (R.take y) [47]).toArray⟩ : ByteArray) ++ ⟨#[47]⟩).size ≤ 43 := by
    rw [ByteArray.size_append]
    exact Nat.add_le_add hsz (Nat.le_refl 1)
   refine Ev.pos (by omega) (Ev.pos (by omega) (Ev.pos g1 (Ev.pos g2 (Ev.pos g3 (Ev.pos (by omega) ?_)))))
   have hne : R.take y ≠ [] := by
    intro hn
    have := congrArg List.length hn
    rw [List.length_take, List.length_nil] at this
    omega
   have he : ((⟨(Lib.join (R.take y) [47]).toArray⟩ : ByteArray) ++ ⟨#[47]⟩) ++ strOfNums (nums r) = ⟨(Lib.join (R.take (y + 1)) [47]).toArray⟩ := by
    rw [htk, join_snoc 47 r _ hne, qcC]
    apply ByteArray.ext
    simp [ByteArray.data_append]
   rw [he]
   exact ih
end
theorem both (a : ByteArray) (ha : a.size ≤ 1048576) : ∃ r : ByteArray × Bool, Ev (fun k => qTA.f k a) r ∧ Ev (fun k => qOA.f k a) r := by
 obtain ⟨p, h1, e1, n1⟩ := neNet_ev a
 obtain ⟨q, h2, e2, n2⟩ := implNet_ev a ha
 have hi : Ev (fun k => qAB.f k a) (netB a) := by
  unfold qAB.f
  exact Ev.bind h2 (Ev.some_ e2)
 unfold qTA.f qOA.f
 cases hb : netB a with
 | false =>
  rw [hb] at e1 hi
  exact ⟨(⟨#[]⟩, false), Ev.bind h1 (Ev.neg (by rw [e1]; decide) (Ev.now _)), Ev.bind hi (Ev.neg (by decide) (Ev.now _))⟩
 | true =>
  have hn := netB_is hb
  have ep := n1 hb
  subst ep
  rw [hb] at hi
  have hR : ∀ r ∈ rowsN a, r.length = wideN a := fun r hr => (hn.fit.2 r hr).1
  have hh : (rowsN a).length ≤ 6 := hn.high
  have hm := mirror_all (wideN a) (rowsN a) hn.wide hh hR (rowsN a) 0 [] rfl (by rw [List.length_nil]; omega)
  have hR2 : ∀ r ∈ backRows a, r.length = wideN a := by
   intro r hr
   obtain ⟨z, hz, rfl⟩ := List.mem_map.1 hr
   rw [List.length_reverse]; exact hR z hz
  have hl2 : (backRows a).length = (rowsN a).length := List.length_map _
  have ht := text_all (wideN a) (backRows a) hn.wide (by rw [hl2]; exact hh) hR2 (backRows a) 0 rfl
  rw [hl2] at ht
  refine ⟨(⟨(Lib.join (backRows a) [47]).toArray⟩, true), ?_, ?_⟩
  ·refine Ev.bind h1 (Ev.pos rfl (Ev.bind (f := fun k r => _) (show Ev (fun k => qT.f k (wideN a : Int) (highN a : Int) (nums (flatN a))) ((wideN a : Int), (highN a : Int), nums (backRows a).flatten) from hm) (Ev.bind (show Ev (fun k => qmA.f k (wideN a : Int) (highN a : Int) (nums (backRows a).flatten)) (⟨(Lib.join (backRows a) [47]).toArray⟩ : ByteArray) from Ev.bind (show Ev (fun k => qy.f k (wideN a : Int) (highN a : Int) (nums (backRows a).flatten)) (⟨(Lib.join (backRows a) [47]).toArray⟩ : ByteArray) from ht) (Ev.now _)) (Ev.now _))))
  ·have hz : a.size ≤ 1000000 := Nat.le_trans hn.size (by decide)
   have hmt : qJA.f a = some ⟨(Lib.join (backRows a) [47]).toArray⟩ := by
    unfold qJA.f
    rw [if_pos hz, mirW_is]
   exact Ev.bind hi (Ev.pos rfl (Ev.bindc hmt (Ev.now _)))
theorem FnExactMirrorNet : qDA.Pure := by
 intro a _
 refine Ev.rounds (r := true) ?_
 unfold qDA.f
 by_cases ha : a.size ≤ 1048576
 ·obtain ⟨r, hs, hi⟩ := both a ha
  exact Ev.neg (by omega) (Ev.bind hs (Ev.bind hi (Ev.pos rfl (Ev.neg (by simp) (Ev.now _)))))
 ·exact Ev.pos (by omega) (Ev.now _)
end Go.Proofs.YtdncpkppkafkpaaGreatDoor.Pure
