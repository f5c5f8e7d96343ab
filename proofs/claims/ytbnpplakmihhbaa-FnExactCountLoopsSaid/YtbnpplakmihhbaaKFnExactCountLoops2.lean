/- The program's CountLoops returns what the reference's returns, for all lists of dice (the law lets longer lists by). No further condition. -/
import Derived.Test.YtbnpplakmihhbaaKFnExactCountLoops1

namespace Go.Proofs.Ytbnpplakmihhbaa
open Go.RowKit Go.Proofs.Ytbnpplakmihhbaa.P Go.Proofs.YtbnpplakmihhbaaW.PrintWords Go.Proofs.YtbnpplakmihhbaaW.PrintLast
set_option linter.unusedVariables false
set_option linter.unusedSimpArgs false
def spAdd (n : Nat) (st : Bool × List Int) (x : Int) : Bool × List Int := if inN n x = true then (st.1, lpAdd st.2 x) else (false, st.2)
theorem qsA (n : Nat) : ∀ (E : List Int) (st : Bool × List Int), (E.foldl (spAdd n) st).2.length = st.2.length
 | [], st => rfl
 | x :: E, st => by
  rw [List.foldl_cons, qsA n E]
  unfold spAdd
  split
  ·exact qwA _ _
  ·rfl
theorem rdn2 (l : List Int) (i : Nat) (h : i < l.length) : rd l (i : Int) = l[i] := by
 unfold rd
 rw [Int.toNat_natCast, List.getD_eq_getElem?_getD, List.getElem?_eq_getElem h]; rfl
theorem clPair_eq (a b : Int) : qk.f a b = some (pr2 a b) := by
 unfold qk.f pr2
 split
 ·rw [Int.min_eq_right (by omega), Int.max_eq_left (by omega)]
 ·rw [Int.min_eq_left (by omega), Int.max_eq_right (by omega)]
theorem clPairs_eq (x : DP) : qj.f x.f0 x.f1 x.f2 x.f3 x.f4 x.f5 = some (pairsL x) := by
 unfold qj.f
 simp only [clPair_eq, Option.bind_some]
 rfl
section
variable {l x44 : List DP} {n : Nat} {x4 : List (List Int)} {x5 x45 : Int} {ch : List Int} {r : List (List Int)}
theorem sp_l3 (hn : n ≤ 4) (row : List Int) (hrow : row.length ≤ 10) (i46 : Nat) (h46 : i46 ≤ 10) (d : Nat) : ∀ (i : Nat) (g : Bool) (m : List Int), m.length = n + 1 → i ≤ row.length → row.length - i = d →
  Ev (fun k => qD.l2 k l (n : Int) x4 x5 ((row.drop i).foldl (spAdd n) (g, m)).1 ch ((row.drop i).foldl (spAdd n) (g, m)).2 x44 x45 ((i46 + 1 : Nat) : Int)) r →
  Ev (fun k => qD.l3 k l (n : Int) x4 x5 g ch m x44 x45 (i46 : Int) row (row.length : Int) (i : Int)) r := by
 induction d with
 | zero =>
  intro i g m hm hi hd h
  refine Ev.step (f := fun k => _) (fun k => by rw [qD.l3]) (Ev.neg (by omega) ?_)
  rw [List.drop_eq_nil_of_le (by omega)] at h
  rw [show wrap64 ((i46 : Int) + 1) = ((i46 + 1 : Nat) : Int) by unfold wrap64; omega]
  exact h
 | succ d ih =>
  intro i g m hm hi hd h
  have hlt : i < row.length := by omega
  refine Ev.step (f := fun k => _) (fun k => by rw [qD.l3]) (Ev.pos (by omega) (Ev.pos (by omega) (Ev.pos (by omega) (Ev.bindc (qfA _ _ _) ?_))))
  rw [rdn2 row i hlt, show wrap64 ((i : Int) + 1) = ((i + 1 : Nat) : Int) by unfold wrap64; omega]
  rw [List.drop_eq_getElem_cons hlt, List.foldl_cons] at h
  show Ev (fun k => if inN n row[i] = true then _ else _) r
  by_cases hb : inN n row[i] = true
  ·have hb2 := hb
   simp only [inN, Bool.and_eq_true, decide_eq_true_eq] at hb2
   rw [show spAdd n (g, m) row[i] = (g, lpAdd m row[i]) from by unfold spAdd; rw [if_pos hb]] at h
   refine Ev.pos hb (Ev.pos (by omega) (Ev.pos (by omega) ?_))
   exact ih (i + 1) g (lpAdd m row[i]) (by rw [qwA]; exact hm) (by omega) (by omega) h
  ·rw [show spAdd n (g, m) row[i] = (false, m) from by unfold spAdd; rw [if_neg hb]] at h
   exact Ev.neg hb (ih (i + 1) false m hm (by omega) (by omega) h)
def rowsE (l : List DP) (f : Nat → Int) : Nat → Nat → List Int
 | 0, _ => []
 | d + 1, i => lpRow (rdD9 l i) (f i) ++ rowsE l f d (i + 1)
theorem rowsE_asc (l : List DP) (f : Nat → Int) : ∀ d i, ascE l f (i + d) = ascE l f i ++ rowsE l f d i
 | 0, i => by rw [rowsE, List.append_nil]; rfl
 | d + 1, i => by rw [show i + (d + 1) = (i + 1) + d by omega, rowsE_asc l f d (i + 1), ascE, rowsE, List.append_assoc]
theorem sp_l2 (hn : n ≤ 4) (hl : l.length = n) (f : Nat → Int) (hf : ∀ i, 0 ≤ f i ∧ f i < 3) (hch : ch.length = n) (hcf : ∀ i, i < n → ch.getD i 0 = f i) (d : Nat) : ∀ (i : Nat) (g : Bool) (m : List Int), m.length = n + 1 → i ≤ n → n - i = d →
  Ev (fun k => qD.l4 k l (n : Int) x4 x5 ((rowsE l f d i).foldl (spAdd n) (g, m)).1 ch (((rowsE l f d i).foldl (spAdd n) (g, m)).2.drop 1) (n : Int) 0) r →
  Ev (fun k => qD.l2 k l (n : Int) x4 x5 g ch m l (n : Int) (i : Int)) r := by
 induction d with
 | zero =>
  intro i g m hm hi hd h
  refine Ev.step (f := fun k => _) (fun k => by rw [qD.l2]) (Ev.neg (by omega) (Ev.pos (by omega) (Ev.bindc rfl ?_)))
  rw [show ((m.drop 1).length : Int) = (n : Int) from by rw [List.length_drop]; omega]
  exact h
 | succ d ih =>
  intro i g m hm hi hd h
  have hlt : i < n := by omega
  have hfi := hf i
  have hr2 := qFB (rdD9 l i) hfi.1 hfi.2
  refine Ev.step (f := fun k => _) (fun k => by rw [qD.l2]) (Ev.pos (by omega) (Ev.pos (by omega) (Ev.pos (by omega) (Ev.bindc (clPairs_eq (rdD9 l i)) ?_))))
  refine Ev.pos (show (i : Int) < (ch.length : Int) by omega) ?_
  rw [show rd ch (i : Int) = f i from by unfold rd; rw [Int.toNat_natCast]; exact hcf i hlt]
  refine Ev.pos hfi.1 (Ev.pos (by show f i < (3 : Int); exact hfi.2) ?_)
  have e : rd_L1 (pairsL (rdD9 l i)) (f i) = lpRow (rdD9 l i) (f i) := rfl
  rw [e]
  refine sp_l3 (x45 := (n : Int)) hn (lpRow (rdD9 l i) (f i)) (by omega) i (by omega) _ 0 g m hm (by omega) rfl ?_
  rw [List.drop_zero]
  rw [rowsE, List.foldl_append] at h
  exact ih (i + 1) _ _ (by rw [qsA]; exact hm) (by omega) (by omega) h
theorem sp_l4 (hn : n ≤ 4) (m : List Int) (hm : m.length = n) (hx4 : x4.length < 5864062014805) (c : Nat) (hc : c ≤ 1000) (b : Bool) (d : Nat) : ∀ (i : Nat) (g : Bool), i ≤ n → n - i = d → (g && (m.drop i).all fun y => y == 2) = b →
  Ev (fun k => qD.l0 k l (n : Int) (if b = true then x4 ++ [ch] else x4) ((c + 1 : Nat) : Int)) r →
  Ev (fun k => qD.l4 k l (n : Int) x4 (c : Int) g ch m (n : Int) (i : Int)) r := by
 induction d with
 | zero =>
  intro i g hi hd hb h
  rw [List.drop_eq_nil_of_le (by omega), List.all_nil, Bool.and_true] at hb
  subst hb
  refine Ev.step (f := fun k => _) (fun k => by rw [qD.l4]) (Ev.neg (by omega) ?_)
  rw [show wrap64 ((c : Int) + 1) = ((c + 1 : Nat) : Int) by unfold wrap64; omega]
  cases g with
  | true => rw [if_pos rfl] at h; exact Ev.pos rfl (Ev.pos hx4 h)
  | false => rw [if_neg (by decide)] at h; exact Ev.neg (by decide) h
 | succ d ih =>
  intro i g hi hd hb h
  have hlt : i < m.length := by omega
  rw [List.drop_eq_getElem_cons hlt, List.all_cons] at hb
  refine Ev.step (f := fun k => _) (fun k => by rw [qD.l4]) (Ev.pos (by omega) (Ev.pos (by omega) (Ev.pos (by omega) ?_)))
  rw [rdn2 m i hlt, show wrap64 ((i : Int) + 1) = ((i + 1 : Nat) : Int) by unfold wrap64; omega]
  cases g with
  | true => exact Ev.pos rfl (ih (i + 1) _ (by omega) (by omega) (by rw [Bool.true_and] at hb; exact hb) h)
  | false => exact Ev.neg (by decide) (ih (i + 1) false (by omega) (by omega) (by rw [Bool.false_and] at hb ⊢; exact hb) h)
end
def lpDig : Nat → Int → List Int → List Int
 | 0, _, cs => cs
 | t + 1, rest, cs => lpDig t (rest / 3) (cs.set t (rest % 3))
theorem lpDig_len : ∀ (t : Nat) (rest : Int) (cs : List Int), (lpDig t rest cs).length = cs.length
 | 0, _, _ => rfl
 | t + 1, rest, cs => by rw [lpDig, lpDig_len t, List.length_set]
theorem lpDig_at : ∀ (t : Nat) (rest : Int) (cs : List Int) (i : Nat), i < cs.length → t ≤ cs.length → (lpDig t rest cs).getD i 0 = if i < t then dgE t rest i else cs.getD i 0
 | 0, _, cs, i, hi, _ => by rw [lpDig, if_neg (by omega)]
 | t + 1, rest, cs, i, hi, ht => by
  rw [lpDig, lpDig_at t (rest / 3) (cs.set t (rest % 3)) i (by rw [List.length_set]; exact hi) (by rw [List.length_set]; omega), dgE]
  by_cases h1 : i < t
  ·rw [if_pos h1, if_pos (by omega), if_neg (by omega)]
  ·rw [if_neg h1]
   by_cases h2 : i = t
   ·subst h2
    rw [if_pos (by omega), if_pos rfl, List.getD_eq_getElem?_getD, List.getElem?_set_self (by omega)]
    rfl
   ·rw [if_neg (by omega), List.getD_eq_getElem?_getD, List.getElem?_set_ne (by omega), List.getD_eq_getElem?_getD]
theorem sp_l1 {l : List DP} {n : Nat} {x4 : List (List Int)} {x5 : Int} {r : List (List Int)} (hn : n ≤ 4) (hl : l.length = n) : ∀ (t : Nat) (rest : Int) (cs : List Int), t ≤ n → 0 ≤ rest → rest ≤ 1000 → cs.length = n →
  Ev (fun k => qD.l2 k l (n : Int) x4 x5 true (lpDig t rest cs) (List.replicate (n + 1) 0) l (n : Int) 0) r →
  Ev (fun k => qD.l1 k l (n : Int) x4 x5 rest ((t : Int) - 1) cs) r
 | 0, rest, cs, ht, h0, h9, hc, h => by
  have hw : wrap64 ((n : Int) + 1) = ((n + 1 : Nat) : Int) := by unfold wrap64; omega
  refine Ev.step (f := fun k => _) (fun k => by rw [qD.l1]) (Ev.neg (by omega) ?_)
  rw [hw, Int.toNat_natCast, hl]
  exact Ev.pos (by omega) (Ev.pos (by omega) h)
 | t + 1, rest, cs, ht, h0, h9, hc, h => by
  refine Ev.step (f := fun k => _) (fun k => by rw [qD.l1]) (Ev.pos (by omega) ?_)
  rw [show (((t + 1 : Nat) : Int) - 1) = (t : Int) by omega, Int.toNat_natCast, show wrap64 ((t : Int) - 1) = (t : Int) - 1 by unfold wrap64; omega]
  rw [show Int.tmod rest 3 = rest % 3 from Int.tmod_eq_emod_of_nonneg h0, show wrap64 (Int.tdiv rest 3) = rest / 3 from by rw [Int.tdiv_eq_ediv_of_nonneg h0]; unfold wrap64; omega]
  refine Ev.pos (by omega) (Ev.pos (by omega) ?_)
  exact sp_l1 hn hl t (rest / 3) (cs.set t (rest % 3)) (by omega) (by omega) (by omega) (by rw [List.length_set]; exact hc) h
theorem qDB (n : Nat) : ∀ (E : List Int) (g : Bool) (m : List Int), (E.foldl (spAdd n) (g, m)).1 = (g && E.all (inN n))
 | [], g, m => by simp
 | x :: E, g, m => by
  rw [List.foldl_cons, List.all_cons]
  unfold spAdd
  by_cases h : inN n x = true
  ·rw [if_pos h]; show (E.foldl (spAdd n) (g, lpAdd m x)).1 = _; rw [qDB n E, h, Bool.true_and]
  ·rw [if_neg h]; show (E.foldl (spAdd n) (false, m)).1 = _; rw [qDB n E, show inN n x = false from Bool.eq_false_iff.2 h]; simp
theorem spAdd_snd (n : Nat) : ∀ (E : List Int) (g : Bool) (m : List Int), (∀ x ∈ E, inN n x = true) → (E.foldl (spAdd n) (g, m)).2 = E.foldl lpAdd m
 | [], g, m, _ => rfl
 | x :: E, g, m, h => by
  rw [List.foldl_cons, List.foldl_cons]
  rw [show spAdd n (g, m) x = (g, lpAdd m x) from by unfold spAdd; rw [if_pos (h x (by simp))]]
  exact spAdd_snd n E g _ (fun y hy => h y (by simp [hy]))
theorem drop_all (m : List Int) (n : Nat) (hm : m.length = n + 1) : ((m.drop 1).all fun y => y == 2) = lpGood m n := by
 rw [Bool.eq_iff_iff]
 unfold lpGood
 rw [List.all_eq_true, List.all_eq_true]
 constructor
 ·intro h j hj
  rw [List.mem_range] at hj
  refine h _ ?_
  rw [List.getD_eq_getElem?_getD, List.getElem?_eq_getElem (by omega)]
  exact List.mem_of_getElem? (i := j) (by rw [List.getElem?_drop, Nat.add_comm, List.getElem?_eq_getElem (by omega)]; rfl)
 ·intro h y hy
  obtain ⟨j, hj, rfl⟩ := List.mem_iff_getElem.1 hy
  rw [List.length_drop] at hj
  have := h j (List.mem_range.2 (by omega))
  rw [List.getD_eq_getElem?_getD, List.getElem?_eq_getElem (by omega)] at this
  rw [List.getElem_drop]
  simpa [Nat.add_comm] using this
def okE (E : List Int) (n : Nat) : Bool := (List.range n).all fun j => ctE E (j + 1) == 2
theorem good_ok (E m : List Int) (n : Nat) (hm : n < m.length) (hE : ∀ x ∈ E, 0 ≤ x ∧ x < (m.length : Int)) (h0 : ∀ i, m.getD i 0 = 0) (hl : E.length ≤ 1000) : lpGood (E.foldl lpAdd m) n = okE E n := by
 rw [Bool.eq_iff_iff]
 unfold lpGood okE
 rw [List.all_eq_true, List.all_eq_true]
 have hj : ∀ j, j ∈ List.range n → (E.foldl lpAdd m).getD (j + 1) 0 = (ctE E (j + 1) : Int) := by
  intro j hj
  rw [List.mem_range] at hj
  rw [fold_cnt E m (j + 1) (by omega) hE (fun i => by rw [h0 i]; omega), h0]; omega
 constructor
 ·intro h j hjn
  have := h j hjn
  rw [hj j hjn] at this
  simp only [beq_iff_eq] at this ⊢
  omega
 ·intro h j hjn
  have := h j hjn
  rw [hj j hjn]
  simp only [beq_iff_eq] at this ⊢
  omega
theorem qdB (E : List Int) (n : Nat) : okE E n = true ↔ ∀ j, 1 ≤ j → j ≤ n → ctE E j = 2 := by
 unfold okE
 rw [List.all_eq_true]
 constructor
 ·intro h j h1 h2
  have := h (j - 1) (List.mem_range.2 (by omega))
  rw [beq_iff_eq, show j - 1 + 1 = j by omega] at this
  exact this
 ·intro h j hj
  rw [beq_iff_eq]
  exact h (j + 1) (by omega) (by have := List.mem_range.1 hj; omega)
theorem zeros_at (n i : Nat) : (List.replicate n (0 : Int)).getD i 0 = 0 := by
 rw [List.getD_eq_getElem?_getD, List.getElem?_replicate]
 split <;> rfl
theorem same_ok (l : List DP) (n : Nat) (hl : l.length = n) (hn : n ≤ 4) (hface : ∀ x ∈ l, ∀ c, ∀ y ∈ lpRow x c, 0 ≤ y ∧ y ≤ 9) (c : Nat) :
  (((rowsE l (dgE n (c : Int)) n 0).foldl (spAdd n) (true, List.replicate (n + 1) 0)).1 && (((rowsE l (dgE n (c : Int)) n 0).foldl (spAdd n) (true, List.replicate (n + 1) 0)).2.drop 1).all fun y => y == 2) = lpOk l c := by
 have hra : rowsE l (dgE n (c : Int)) n 0 = ascE l (dgE n (c : Int)) n := by
  have := rowsE_asc l (dgE n (c : Int)) n 0
  rw [Nat.zero_add] at this
  rw [this]; rfl
 obtain ⟨E, hE⟩ : ∃ E, ascE l (dgE n (c : Int)) n = E := ⟨_, rfl⟩
 have hEl : E.length = 2 * n := by rw [← hE]; exact ascE_len l _ (qtB n (c : Int)) n
 have hent : ∀ j, ctE (entE l n (c : Int)) j = ctE E j := fun j => by rw [← hE]; exact qfB l _ n (c : Int)
 have hentm : ∀ t rest, t ≤ n → ∀ x ∈ entE l t rest, 0 ≤ x ∧ x ≤ 9 := by
  intro t
  induction t with
  | zero => intro rest _ x hx; simp [entE] at hx
  | succ t ih =>
   intro rest ht x hx
   rw [entE, List.mem_append] at hx
   rcases hx with hx | hx
   ·exact hface _ (lp_mem l (by omega)) _ x hx
   ·exact ih (rest / 3) (by omega) x hx
 have hentl : (entE l n (c : Int)).length = 2 * n := by
  have := qfB l (fun _ => true) n (c : Int)
  rw [List.countP_true, hE, hEl] at this
  exact this
 have h1 : lpOk l c = okE E n := by
  unfold lpOk
  rw [hl, lpI_cnt, good_ok _ _ n (by rw [List.length_replicate]; omega) (fun x hx => by have := hentm n _ (Nat.le_refl _) x hx; rw [List.length_replicate]; omega) (zeros_at 10) (by omega)]
  rw [Bool.eq_iff_iff, qdB, qdB]
  simp only [hent]
 rw [hra, hE, h1, qDB, Bool.true_and, drop_all _ n (by rw [qsA, List.length_replicate])]
 cases hin : E.all (inN n) with
 | true =>
  rw [List.all_eq_true] at hin
  rw [Bool.true_and, spAdd_snd n E true _ hin]
  exact good_ok E _ n (by rw [List.length_replicate]; omega) (fun x hx => by
   have := hin x hx
   simp only [inN, Bool.and_eq_true, decide_eq_true_eq] at this
   rw [List.length_replicate]; omega) (zeros_at (n + 1)) (by omega)
 | false =>
  rw [Bool.false_and]
  cases hok : okE E n with
  | false => rfl
  | true =>
   have := twos_in E n hEl ((qdB E n).1 hok)
   rw [← List.all_eq_true] at this
   rw [this] at hin
   cases hin
theorem sp_l0 (l : List DP) (n : Nat) (hl : l.length = n) (hn : n ≤ 4) (hface : ∀ x ∈ l, ∀ c, ∀ y ∈ lpRow x c, 0 ≤ y ∧ y ≤ 9) (P : Nat) (hP9 : P ≤ 1000) (hP : Ev (fun k => qd.f k 3 (n : Int)) (P : Int)) (d : Nat) :
  ∀ (c : Nat) (x4 : List (List Int)), c ≤ P → P - c = d → x4.length = lpNum l c → ∃ r, Ev (fun k => qD.l0 k l (n : Int) x4 (c : Int)) r ∧ r.length = lpNum l P := by
 induction d with
 | zero =>
  intro c x4 hc hd hx
  have : c = P := by omega
  subst this
  refine ⟨x4, ?_, hx⟩
  refine Ev.step (f := fun k => _) (fun k => by rw [qD.l0]) (Ev.bind hP ?_)
  exact Ev.neg (by omega) (Ev.some_ rfl)
 | succ d ih =>
  intro c x4 hc hd hx
  have hle := lpNum_le l c
  obtain ⟨r, hr, hrl⟩ := ih (c + 1) (if lpOk l c = true then x4 ++ [lpDig n (c : Int) (List.replicate n 0)] else x4) (by omega) (by omega) (by
   rw [lpNum_succ]
   split
   ·rw [List.length_append, hx]; rfl
   ·rw [hx]; rfl)
  refine ⟨r, ?_, hrl⟩
  refine Ev.step (f := fun k => _) (fun k => by rw [qD.l0]) (Ev.bind hP ?_)
  refine Ev.pos (by omega) (Ev.pos (by omega) (Ev.pos (by omega) ?_))
  rw [Int.toNat_natCast, show wrap64 ((n : Int) - 1) = (n : Int) - 1 by unfold wrap64; omega]
  refine sp_l1 hn hl n (c : Int) (List.replicate n 0) (Nat.le_refl _) (by omega) (by omega) List.length_replicate ?_
  have hdl : (lpDig n (c : Int) (List.replicate n 0)).length = n := by rw [lpDig_len, List.length_replicate]
  refine sp_l2 hn hl (dgE n (c : Int)) (qtB n (c : Int)) hdl (fun i hi => by rw [lpDig_at n (c : Int) _ i (by rw [List.length_replicate]; exact hi) (by rw [List.length_replicate]; exact Nat.le_refl _), if_pos hi]) n 0 true (List.replicate (n + 1) 0) List.length_replicate (by omega) (by omega) ?_
  exact sp_l4 hn _ (by rw [List.length_drop, qsA, List.length_replicate]; omega) (by omega) c (by omega) (lpOk l c) n 0 _ (by omega) (by omega) (by rw [List.drop_zero]; exact same_ok l n hl hn hface c) hr
abbrev D := S29
theorem rdD (l : List D) (i : Nat) (h : i < l.length) : qB l (i : Int) = l[i] := by
 unfold qB
 rw [Int.toNat_natCast, List.getD_eq_getElem?_getD, List.getElem?_eq_getElem h]; rfl
theorem eqDie_refl (a b c d e f : Int) : qPA.f a b c d e f a b c d e f = some true := by
 unfold qPA.f
 simp
theorem eqDieS_loop (a : List D) (ha : a.length ≤ 140737488355328) (d : Nat) : ∀ i : Nat, i ≤ a.length → a.length - i = d → Ev (fun k => qQ.l0 k a a (i : Int)) true := by
 induction d with
 | zero =>
  intro i hi hd
  exact Ev.step (f := fun k => _) (fun k => by rw [qQ.l0]) (Ev.neg (by omega) (Ev.now _))
 | succ d ih =>
  intro i hi hd
  refine Ev.step (f := fun k => _) (fun k => by rw [qQ.l0]) (Ev.pos (by omega) (Ev.pos (by omega) (Ev.pos (by omega) (Ev.bindc (eqDie_refl _ _ _ _ _ _) (Ev.pos rfl ?_)))))
  rw [show wrap64 ((i : Int) + 1) = ((i + 1 : Nat) : Int) by unfold wrap64; omega]
  exact ih (i + 1) (by omega) (by omega)
theorem eqDieS_refl (a : List D) (ha : a.length ≤ 140737488355328) : Ev (fun k => qQ.f k a a) true := by
 unfold qQ.f
 exact Ev.pos rfl (eqDieS_loop a ha a.length 0 (by omega) (by omega))
def dieOk (x : D) : Bool := dieB x.f0 x.f1 x.f2 x.f3 x.f4 x.f5
def towB (l : List D) : Bool := decide (1 ≤ l.length) && decide (l.length ≤ 4) && l.all dieOk
theorem clDice_loop (l : List D) (hl : l.length ≤ 4) (d : Nat) : ∀ i : Nat, i ≤ l.length → l.length - i = d → Ev (fun k => qX.l0 k l (l.length : Int) (i : Int)) ((l.drop i).all dieOk) := by
 induction d with
 | zero =>
  intro i hi hd
  refine Ev.step (f := fun k => _) (fun k => by rw [qX.l0]) (Ev.neg (by omega) (Ev.some_ ?_))
  rw [List.drop_eq_nil_of_le (by omega)]; rfl
 | succ d ih =>
  intro i hi hd
  have h : i < l.length := by omega
  refine Ev.step (f := fun k => _) (fun k => by rw [qX.l0]) (Ev.pos (by omega) (Ev.pos (by omega) (Ev.pos (by omega) (Ev.bind (spec_diGood_ev _ _ _ _ _ _) ?_))))
  rw [rdD l i h, List.drop_eq_getElem_cons h, List.all_cons, show wrap64 ((i : Int) + 1) = ((i + 1 : Nat) : Int) by unfold wrap64; omega]
  show Ev (fun n => if dieOk l[i] = true then _ else _) _
  cases hb : dieOk l[i] with
  | true => exact Ev.pos rfl (ih (i + 1) (by omega) (by omega))
  | false => exact Ev.neg (by decide) (Ev.some_ rfl)
theorem spec_clDice_ev (l : List D) : Ev (fun k => qX.f k l) (towB l) := by
 unfold qX.f towB
 refine Ev.bindc (qfA _ _ _) ?_
 by_cases h : 1 ≤ l.length ∧ l.length ≤ 4
 ·rw [decide_eq_true h.1, decide_eq_true h.2]
  have := clDice_loop l h.2 l.length 0 (by omega) (by omega)
  exact Ev.pos (by rw [decide_eq_true (by omega), decide_eq_true (by omega)]; rfl) (by simpa using this)
 ·have e : (decide (1 ≤ l.length) && decide (l.length ≤ 4)) = false := by
   simp only [Bool.and_eq_false_iff, decide_eq_false_iff_not]; omega
  rw [e]
  exact Ev.neg (by simp only [Bool.and_eq_true, decide_eq_true_eq]; omega) (Ev.some_ rfl)
theorem idxTow_loop (l : List D) (hl : l.length ≤ 4) (d : Nat) : ∀ i : Nat, i ≤ l.length → l.length - i = d →
  ∃ r : Int, Ev (fun k => qC.l0 k l (l.length : Int) (i : Int)) r ∧ decide (r ≥ 0) = !((l.drop i).all dieOk) := by
 induction d with
 | zero =>
  intro i hi hd
  refine ⟨-1, Ev.step (f := fun k => _) (fun k => by rw [qC.l0]) (Ev.neg (by omega) (Ev.some_ rfl)), ?_⟩
  rw [List.drop_eq_nil_of_le (by omega)]; rfl
 | succ d ih =>
  intro i hi hd
  have h : i < l.length := by omega
  have e1 : Ev (fun k => qu.f k l[i].f0 l[i].f1 l[i].f2 l[i].f3 l[i].f4 l[i].f5) (!dieOk l[i]) := by
   unfold qu.f
   exact Ev.bind (impl_IsDie_ev _ _ _ _ _ _) (Ev.now _)
  rw [List.drop_eq_getElem_cons h, List.all_cons]
  cases hb : dieOk l[i] with
  | true =>
   obtain ⟨r, h1, h2⟩ := ih (i + 1) (by omega) (by omega)
   refine ⟨r, Ev.step (f := fun k => _) (fun k => by rw [qC.l0]) (Ev.pos (by omega) (Ev.pos (by omega) (Ev.pos (by omega) ?_))), by rw [Bool.true_and]; exact h2⟩
   rw [rdD l i h, show wrap64 ((i : Int) + 1) = ((i + 1 : Nat) : Int) by unfold wrap64; omega]
   exact Ev.bind e1 (Ev.neg (by rw [hb]; decide) h1)
  | false =>
   refine ⟨(i : Int), Ev.step (f := fun k => _) (fun k => by rw [qC.l0]) (Ev.pos (by omega) (Ev.pos (by omega) (Ev.pos (by omega) ?_))), ?_⟩
   ·rw [rdD l i h]
    exact Ev.bind e1 (Ev.pos (by rw [hb]; rfl) (Ev.now _))
   ·rw [Bool.false_and]; exact decide_eq_true (by omega)
theorem impl_areTower_ev (l : List D) : Ev (fun k => qFA.f k l) (towB l) := by
 unfold qFA.f towB
 refine Ev.bindc (impl_in_eq _ _ _) ?_
 by_cases h : 1 ≤ l.length ∧ l.length ≤ 4
 ·rw [decide_eq_true h.1, decide_eq_true h.2]
  obtain ⟨r, h1, h2⟩ := idxTow_loop l h.2 l.length 0 (by omega) (by omega)
  unfold qH.f qC.f
  refine Ev.pos (by rw [decide_eq_true (by omega), decide_eq_true (by omega)]; rfl) (Ev.bind (a := decide (r ≥ 0)) (Ev.bind h1 (Ev.now _)) (Ev.some_ ?_))
  rw [h2]; simp
 ·have e : (decide (1 ≤ l.length) && decide (l.length ≤ 4)) = false := by
   simp only [Bool.and_eq_false_iff, decide_eq_false_iff_not]; omega
  rw [e]
  exact Ev.neg (by simp only [Bool.and_eq_true, decide_eq_true_eq]; omega) (Ev.some_ rfl)
theorem towB_len {l : List D} (h : towB l = true) : 1 ≤ l.length ∧ l.length ≤ 4 := by
 unfold towB at h
 simp only [Bool.and_eq_true, decide_eq_true_eq] at h
 exact ⟨h.1.1, h.1.2⟩
theorem towB_all {l : List D} (h : towB l = true) : ∀ x ∈ l, dieOk x = true := by
 unfold towB at h
 simp only [Bool.and_eq_true] at h
 exact List.all_eq_true.1 h.2
abbrev LD := S25
def convD (x : LD) : D := ⟨x.f0, x.f1, x.f2, x.f3, x.f4, x.f5⟩
theorem rdLD (l : List LD) (i : Nat) (h : i < l.length) : qEA l (i : Int) = l[i] := by
 unfold qEA
 rw [Int.toNat_natCast, List.getD_eq_getElem?_getD, List.getElem?_eq_getElem h]; rfl
theorem toDieS_loop (l : List LD) (ha : l.length ≤ 2000000) (d : Nat) : ∀ (i : Nat) (t : List D), i ≤ l.length → l.length - i = d → t.length = l.length - i →
  Ev (fun k => qR.l0 k l (i : Int) ((l.take i).map convD ++ t)) (l.map convD) := by
 induction d with
 | zero =>
  intro i t hi hd ht
  obtain rfl : i = l.length := by omega
  obtain rfl : t = [] := List.eq_nil_of_length_eq_zero (by omega)
  exact Ev.step (f := fun k => _) (fun k => by rw [qR.l0]) (Ev.neg (by omega) (Ev.some_ (by simp)))
 | succ d ih =>
  intro i t hi hd ht
  have h : i < l.length := by omega
  cases t with
  | nil => simp at ht; omega
  | cons t0 t =>
   refine Ev.step (f := fun k => _) (fun k => by rw [qR.l0]) (Ev.pos (by omega) (Ev.pos (by omega) (Ev.bindc (show qaA.f _ _ _ _ _ _ = some _ from rfl) (Ev.pos ?_ ?_))))
   ·simp; omega
   ·rw [show wrap64 ((i : Int) + 1) = ((i + 1 : Nat) : Int) by unfold wrap64; omega, rdLD l i h]
    have := ih (i + 1) t (by omega) (by omega) (by simp at ht; omega)
    rw [List.take_succ_eq_append_getElem h, List.map_append, List.append_assoc] at this
    have e : ((l.take i).map convD ++ t0 :: t).set ((i : Int).toNat) (convD l[i]) = (l.take i).map convD ++ ([l[i]].map convD ++ t) := by
     rw [Int.toNat_natCast, List.set_append_right _ _ (by simp; omega)]
     simp [show i - min i l.length = 0 by omega]
    rw [← e] at this
    exact this
theorem toDieS_ev (l : List LD) (ha : l.length ≤ 2000000) : Ev (fun k => qR.f k l) (l.map convD) := by
 unfold qR.f
 refine Ev.pos (by omega) (Ev.pos (by omega) ?_)
 have := toDieS_loop l ha l.length 0 (List.replicate l.length z29) (by omega) (by omega) (by simp)
 simpa using this
theorem szDieS_eq (l : List LD) (h : l.length * 48 ≤ 140737488351232) : qIA.f l 1048576 = some (if l.length ≤ 1048576 then 1048576 - (l.length : Int) else -1) := by
 unfold qIA.f
 have w : wrap64 (1048576 - (l.length : Int)) = 1048576 - (l.length : Int) := by unfold wrap64; omega
 rw [w]
 by_cases h : l.length ≤ 1048576
 ·rw [if_neg (by omega), if_pos h]
 ·rw [if_pos (by omega), if_neg h]
end Go.Proofs.Ytbnpplakmihhbaa
namespace Go.Proofs.Ytbnpplakmihhbaa.Pure
open Go.RowKit Go.Proofs.Ytbnpplakmihhbaa Go.Proofs.Ytbnpplakmihhbaa.P Go.Proofs.YtbnpplakmihhbaaW.PrintWords Go.Proofs.YtbnpplakmihhbaaW.PrintLast
set_option linter.unusedVariables false
set_option linter.unusedSimpArgs false
theorem specPower_ev (n : Nat) (hn : n ≤ 4) : Ev (fun k => qd.f k 3 (n : Int)) ((3 ^ n : Nat) : Int) := by
 refine Ev.at_ 8 (fun k => ?_)
 have : n = 0 ∨ n = 1 ∨ n = 2 ∨ n = 3 ∨ n = 4 := by omega
 rcases this with rfl | rfl | rfl | rfl | rfl <;> first | (simp [qd.f, qd.l0, wrap64]; done) | kernel_rfl
theorem implPower_ev (n : Nat) (hn : n ≤ 4) : Ev (fun k => qp.f k 3 (n : Int)) ((3 ^ n : Nat) : Int) := by
 refine Ev.at_ 8 (fun k => ?_)
 have : n = 0 ∨ n = 1 ∨ n = 2 ∨ n = 3 ∨ n = 4 := by omega
 rcases this with rfl | rfl | rfl | rfl | rfl <;> first | (simp [qp.f, qp.l0, wrap64]; done) | kernel_rfl
theorem pow_le (n : Nat) (hn : n ≤ 4) : 3 ^ n ≤ 1000 := Nat.le_trans (Nat.pow_le_pow_right (by decide) hn) (by decide)
theorem tow_face {l : List DP} (h : towB l = true) : ∀ x ∈ l, [x.f0, x.f1, x.f2, x.f3, x.f4, x.f5].all lpFace = true := by
 intro x hx
 have := dieB_face (towB_all h x hx)
 rw [List.all_eq_true]
 intro y hy
 have := this y hy
 simp only [lpFace, Bool.and_eq_true, decide_eq_true_eq]
 exact this
theorem both_loops (l : List DP) : ∃ r : Int × Bool, Ev (fun k => ql.f k l) r ∧ Ev (fun k => qc.f k l) r := by
 cases ht : towB l with
 | false =>
  refine ⟨(0, false), ?_, ?_⟩
  ·unfold ql.f
   refine Ev.bind (spec_clDice_ev l) ?_
   rw [ht]
   exact Ev.neg (by decide) (Ev.now _)
  ·unfold qc.f
   refine Ev.bind (impl_areTower_ev l) ?_
   rw [ht]
   exact Ev.neg (by decide) (Ev.now _)
 | true =>
  obtain ⟨h1, h4⟩ := towB_len ht
  have hf := tow_face ht
  have hp := pow_le _ h4
  have e1 := specPower_ev _ h4
  have e2 := implPower_ev _ h4
  generalize 3 ^ l.length = P at hp e1 e2
  obtain ⟨r, hr, hrl⟩ := sp_l0 l l.length rfl h4 (fun x hx c => lpRow_face (hf x hx) c) P hp e1 P 0 [] (by omega) (by omega) rfl
  refine ⟨((lpNum l P : Nat), true), ?_, ?_⟩
  ·unfold ql.f
   refine Ev.bind (spec_clDice_ev l) ?_
   rw [ht]
   refine Ev.pos rfl (Ev.bind (show Ev (fun k => qD.f k l) r from hr) ?_)
   rw [hrl]
   exact Ev.now _
  ·unfold qc.f
   refine Ev.bind (impl_areTower_ev l) ?_
   rw [ht]
   refine Ev.pos rfl (Ev.bind e2 ?_)
   refine Ev.pos ?_ (Ev.now _)
   simp only [lpGuard, Bool.and_eq_true, decide_eq_true_eq]
   refine ⟨⟨⟨⟨h1, h4⟩, by rw [List.all_eq_true]; exact hf⟩, by omega⟩, by omega⟩
theorem FnExactCountLoops : qG.Pure := by
 intro l hl
 refine Ev.rounds (r := true) ?_
 unfold qG.f
 refine Ev.bindc (szDieS_eq l hl) ?_
 by_cases hn : l.length ≤ 1048576
 ·rw [if_pos hn]
  have ht := toDieS_ev l (by omega)
  obtain ⟨r, hs, hi⟩ := both_loops (l.map convD)
  refine Ev.neg (by omega) (Ev.bind ht (Ev.bind hs (Ev.bind ht (Ev.bind hi (Ev.pos rfl ?_)))))
  rw [bne_self_eq_false]
  refine Ev.step (f := fun k => _) (fun k => by rw [qG.j0]) (Ev.neg (by simp) ?_)
  exact Ev.bind ht (Ev.bind (eqDieS_refl _ (by simp; omega)) (Ev.pos rfl (Ev.now _)))
 ·rw [if_neg hn]
  exact Ev.pos (by decide) (Ev.now _)
end Go.Proofs.Ytbnpplakmihhbaa.Pure
