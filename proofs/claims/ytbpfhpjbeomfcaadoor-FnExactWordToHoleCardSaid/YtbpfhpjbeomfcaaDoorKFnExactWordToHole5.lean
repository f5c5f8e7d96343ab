/- The program's WordToHole returns what the reference's returns, for all texts and boxes (the law lets longer texts by). No further condition. -/
import Derived.Test.YtbpfhpjbeomfcaaDoorKFnExactWordToHole4

namespace Go.Proofs.YtbpfhpjbeomfcaaDoor
open Go.RowKit Go.Proofs.YtbpfhpjbeomfcaaDoor.P Go.Proofs.YtbpfhpjbeomfcaaDoorW.PrintWords Go.Proofs.YtbpfhpjbeomfcaaDoorW.PrintLast
set_option linter.unusedVariables false
set_option linter.unusedSimpArgs false
abbrev BX' := S27
theorem qKC {a b : BX'} (h0 : a.f0 = b.f0) (h1 : a.f1 = b.f1) (h2 : a.f2 = b.f2) : a = b := by
 cases a; cases b; simp only at h0 h1 h2; subst h0; subst h1; subst h2; rfl
instance bxDec : DecidableEq BX' := fun a b =>
 if h : a.f0 = b.f0 ∧ a.f1 = b.f1 ∧ a.f2 = b.f2 then isTrue (qKC h.1 h.2.1 h.2.2) else isFalse (fun e => h (by subst e; exact ⟨rfl, rfl, rfl⟩))
def mkX (t : Int × Int × Int) : BX' := ⟨t.1, t.2.1, t.2.2⟩
abbrev tipX (b : BX') (d : Nat) : Int × Int × Int := tipB b.f0 b.f1 b.f2 d
def goodX (a : ByteArray) (b : BX') : Bool := boxB a b.f0 b.f1 b.f2
def stepsB (a : ByteArray) (b : BX') (w : ByteArray) : Nat → Nat → List (Option BX' × ByteArray)
 | 0, _ => []
 | n + 1, d => (if canB a (tipX b d) = true then some (mkX (tipX b d)) else none, w ++ dir1 d) :: stepsB a b w n (d + 1)
def nextX (a : ByteArray) (_ : Nat) (b : BX') (w : ByteArray) : List (Option BX' × ByteArray) := stepsB a b w 4 0
def places : List BX' := (List.range 7).flatMap fun (x : Nat) => (List.range 7).flatMap fun (y : Nat) => (List.range 3).map fun (p : Nat) => (⟨(x : Int), (y : Int), (p : Int)⟩ : BX')
theorem places_len : places.length = 147 := by decide +kernel
theorem mem_places {b : BX'} (h0 : 0 ≤ b.f0 ∧ b.f0 < 7) (h1 : 0 ≤ b.f1 ∧ b.f1 < 7) (h2 : 0 ≤ b.f2 ∧ b.f2 < 3) : b ∈ places := by
 obtain ⟨x, y, p⟩ := b
 simp only at h0 h1 h2
 obtain ⟨x, rfl⟩ := Int.eq_ofNat_of_zero_le h0.1
 obtain ⟨y, rfl⟩ := Int.eq_ofNat_of_zero_le h1.1
 obtain ⟨p, rfl⟩ := Int.eq_ofNat_of_zero_le h2.1
 unfold places
 rw [List.mem_flatMap]
 refine ⟨x, List.mem_range.2 (by omega), ?_⟩
 rw [List.mem_flatMap]
 refine ⟨y, List.mem_range.2 (by omega), ?_⟩
 rw [List.mem_map]
 exact ⟨p, List.mem_range.2 (by omega), rfl⟩
theorem good_place {a : ByteArray} (g : Gnd a) {b : BX'} (h : goodX a b = true) : b ∈ places := by
 have g1 := g.w7
 have g2 := g.h7
 obtain ⟨⟨h1, h2⟩, h3, h4⟩ := (qjB a _ _).1 (qkB h)
 have h5 : 0 ≤ b.f2 ∧ b.f2 ≤ 2 := by
  unfold goodX boxB at h
  simp only [Bool.and_eq_true, decide_eq_true_eq] at h
  exact h.1.1
 exact mem_places (by omega) (by omega) (by omega)
theorem qmB (a : ByteArray) (b : BX') (w : ByteArray) : ∀ (n d : Nat), d + n = 4 → ∀ s ∈ stepsB a b w n d, s.2.size = w.size + 1
 | 0, _, _, s, hs => by cases hs
 | n + 1, d, hd, s, hs => by
  rcases List.mem_cons.1 hs with rfl | hs
  ·show (w ++ dir1 d).size = _
   rw [ByteArray.size_append, qsB d (by omega)]
  ·exact qmB a b w n (d + 1) (by omega) s hs
theorem qcB (a : ByteArray) (b : BX') (w : ByteArray) : ∀ (n d : Nat), ∀ s ∈ stepsB a b w n d, ∀ z, s.1 = some z → goodX a z = true
 | 0, _, s, hs, z, hz => by cases hs
 | n + 1, d, s, hs, z, hz => by
  rcases List.mem_cons.1 hs with rfl | hs
  ·simp only at hz
   split at hz
   ·rename_i hc
    cases hz
    exact hc
   ·cases hz
  ·exact qcB a b w n (d + 1) s hs z hz
structure Found (a : ByteArray) (L : List (BX' × ByteArray)) : Prop where
 nodup : (L.map Prod.fst).Nodup
 good : ∀ x ∈ L, goodX a x.1 = true
theorem Found.len {a : ByteArray} (g : Gnd a) {L : List (BX' × ByteArray)} (h : Found a L) : L.length ≤ 147 := by
 have := Bfs.nodup_len (U := places) h.nodup (fun x hx => by
  obtain ⟨y, hy, rfl⟩ := List.mem_map.1 hx
  exact good_place g (h.good y hy))
 rw [places_len, List.length_map] at this
 exact this
theorem Found.put {a : ByteArray} {L : List (BX' × ByteArray)} (h : Found a L) (y : Option BX') (p : ByteArray) (hy : ∀ z, y = some z → goodX a z = true) : Found a (Bfs.put L y p) :=
 ⟨Bfs.put_nodup h.nodup y p, Bfs.put_all (Q := fun x => goodX a x.1 = true) h.good y p hy⟩
theorem Found.puts {a : ByteArray} {L : List (BX' × ByteArray)} (h : Found a L) (l : List (Option BX' × ByteArray)) (hl : ∀ s ∈ l, ∀ z, s.1 = some z → goodX a z = true) : Found a (Bfs.puts L l) :=
 ⟨Bfs.puts_nodup l h.nodup, Bfs.qhB (Q := fun x => goodX a x.1 = true) l h.good hl⟩
theorem Found.round {a : ByteArray} {L : List (BX' × ByteArray)} (h : Found a L) (i : Nat) : Found a (Bfs.round (nextX a) i L) :=
 ⟨Bfs.round_nodup _ h.nodup i, Bfs.round_all (nextX a) (Q := fun x => goodX a x.1 = true) (fun i x p _ s hs z hz => qcB a x p 4 0 s hs z hz) i h.good⟩
theorem Found.run {a : ByteArray} {L : List (BX' × ByteArray)} (h : Found a L) (n i : Nat) : Found a (Bfs.run (nextX a) n i L) :=
 ⟨Bfs.run_nodup _ n i h.nodup, Bfs.run_all (nextX a) (Q := fun x => goodX a x.1 = true) (fun i x p _ s hs z hz => qcB a x p 4 0 s hs z hz) n i h.good⟩
theorem rdX (l : List BX') (t : BX') (i : Nat) (h : l[i]? = some t) : qP l (i : Int) = t := by
 unfold qP
 rw [Int.toNat_natCast, List.getD_eq_getElem?_getD, h]; rfl
theorem rdW (l : List ByteArray) (t : ByteArray) (i : Nat) (h : l[i]? = some t) : rdOf ByteArray.empty l (i : Int) = t := by
 unfold rdOf
 rw [Int.toNat_natCast, List.getD_eq_getElem?_getD, h]; rfl
abbrev bxs (L : List (BX' × ByteArray)) : List BX' := L.map Prod.fst
abbrev wds (L : List (BX' × ByteArray)) : List ByteArray := L.map Prod.snd
theorem put_get {L : List (BX' × ByteArray)} {i : Nat} {x : BX' × ByteArray} (h : L[i]? = some x) (y : Option BX') (p : ByteArray) : (Bfs.put L y p)[i]? = some x := by
 obtain ⟨t, ht⟩ := Bfs.put_prefix L y p
 rw [← ht, List.getElem?_append_left (List.getElem?_eq_some_iff.1 h).1]
 exact h
theorem spec_found (csN : List Int) (W H at_ d : Int) (B : List BX') (hB : B.length ≤ 147) (ws : List ByteArray) (z : BX') (R : List BX' × List ByteArray × Bool) :
  ∀ (l : List BX') (j : Nat) (f : Bool), B.drop j = l → j ≤ B.length →
   (∀ f', (f' = (f || decide (z ∈ l))) → Ev (fun k => qV.l2 k at_ d f' B (B.length : Int) (B.length : Int) W H csN B ws z.f0 z.f1 z.f2) R) →
   Ev (fun k => qV.l2 k at_ d f B (B.length : Int) (j : Int) W H csN B ws z.f0 z.f1 z.f2) R
 | [], j, f, hd, hj, h => by
  have := Sorts.qrB hd
  obtain rfl : j = B.length := by omega
  exact h f (by simp)
 | b :: l, j, f, hd, hj, h => by
  obtain ⟨hlt, hc, hd'⟩ := Sorts.qdB hd
  have e := rdX B b j (by rw [← hc]; exact List.getElem?_eq_getElem hlt)
  have ih := fun f' hf => spec_found csN W H at_ d B hB ws z R l (j + 1) f' hd' (by omega) hf
  have w : wrap64 ((j : Int) + 1) = ((j + 1 : Nat) : Int) := by unfold wrap64; omega
  clear hd hd' hc
  refine Ev.step (f := fun k => _) (fun k => by rw [qV.l2]) ?_
  rw [w, e]
  refine Ev.pos (by omega) (Ev.pos (by omega) (Ev.pos (by omega) ?_))
  cases f with
  | true =>
   refine Ev.pos rfl (ih true fun f' hf => h f' ?_)
   rw [hf]; rfl
  | false =>
   refine Ev.neg (by decide) ?_
   have hq : (b.f0 == z.f0 && (b.f1 == z.f1 && b.f2 == z.f2)) = decide (z = b) := by
    by_cases hzb : z = b
    ·subst hzb; simp
    ·rw [decide_eq_false hzb]
     cases hx : (b.f0 == z.f0 && (b.f1 == z.f1 && b.f2 == z.f2)) with
     | false => rfl
     | true =>
      simp only [Bool.and_eq_true, beq_iff_eq] at hx
      exact absurd (qKC hx.1.symm hx.2.1.symm hx.2.2.symm) hzb
   rw [hq]
   refine ih _ fun f' hf => h f' ?_
   rw [hf, Bool.false_or]
   by_cases hzb : z = b
   ·subst hzb; simp
   ·simp [hzb]
theorem qUB {a : ByteArray} (g : Gnd a) (at_ : Nat) (R : List BX' × List ByteArray × Bool) : ∀ (n d : Nat) (L : List (BX' × ByteArray)) (b : BX') (w : ByteArray), d + n = 4 → L[at_]? = some (b, w) → Found a L → w.size ≤ 147 →
  (Ev (fun k => qV.l0 k ((at_ + 1 : Nat) : Int) (wideT a : Int) (highT a : Int) (numsOf (flatT a.data.toList)) (bxs (Bfs.puts L (stepsB a b w n d))) (wds (Bfs.puts L (stepsB a b w n d)))) R) →
  Ev (fun k => qV.l1 k (at_ : Int) (d : Int) (wideT a : Int) (highT a : Int) (numsOf (flatT a.data.toList)) (bxs L) (wds L)) R
 | 0, d, L, b, w, hd, hat, hF, hw, h => by
  have hl := hF.len g
  have hlt := (List.getElem?_eq_some_iff.1 hat).1
  have w1 : wrap64 ((at_ : Int) + 1) = ((at_ + 1 : Nat) : Int) := by unfold wrap64; omega
  refine Ev.step (f := fun k => _) (fun k => by rw [qV.l1]) ?_
  rw [w1]
  refine Ev.neg (by omega) (Ev.neg (by rw [List.length_map]; omega) h)
 | n + 1, d, L, b, w, hd, hat, hF, hw, h => by
  have hl := hF.len g
  have hlt := (List.getElem?_eq_some_iff.1 hat).1
  have w1 : wrap64 ((d : Int) + 1) = ((d + 1 : Nat) : Int) := by unfold wrap64; omega
  have eb := rdX (bxs L) b at_ (by rw [List.getElem?_map, hat]; rfl)
  have ew := rdW (wds L) w at_ (by rw [List.getElem?_map, hat]; rfl)
  have hr := bxRoll_ev g b.f0 b.f1 b.f2 d (by omega)
  have h1 := qsB d (by omega)
  refine Ev.step (f := fun k => _) (fun k => by rw [qV.l1]) ?_
  rw [w1, eb]
  refine Ev.pos (by omega) (Ev.pos (by omega) (Ev.pos (by rw [List.length_map]; omega) (Ev.bind hr ?_)))
  rw [stepsB] at h
  have hp := fun y hy => hF.put (a := a) y (w ++ dir1 d) hy
  cases hc : canB a (tipX b d) with
  | false =>
   rw [if_neg (by decide)]
   rw [hc, if_neg (by decide)] at h
   refine Ev.neg (by decide) ?_
   exact qUB g at_ R n (d + 1) L b w (by omega) hat hF hw h
  | true =>
   rw [if_pos rfl]
   rw [hc, if_pos rfl] at h
   refine Ev.pos rfl ?_
   show Ev (fun k => qV.l2 k (at_ : Int) (d : Int) false (bxs L) ((bxs L).length : Int) ((0 : Nat) : Int) (wideT a : Int) (highT a : Int) (numsOf (flatT a.data.toList)) (bxs L) (wds L) (mkX (tipX b d)).f0 (mkX (tipX b d)).f1 (mkX (tipX b d)).f2) R
   refine spec_found _ _ _ _ _ (bxs L) (by rw [List.length_map]; exact hl) (wds L) (mkX (tipX b d)) R (bxs L) 0 false rfl (by omega) fun f' hf => ?_
   rw [Bool.false_or] at hf
   refine Ev.step (f := fun k => _) (fun k => by rw [qV.l2]) ?_
   rw [w1, ew]
   refine Ev.neg (by omega) ?_
   by_cases hm : mkX (tipX b d) ∈ bxs L
   ·rw [decide_eq_true hm] at hf
    subst hf
    have e : Bfs.put L (some (mkX (tipX b d))) (w ++ dir1 d) = L := Bfs.put_met hm _
    rw [Bfs.puts, e] at h
    exact Ev.pos rfl (qUB g at_ R n (d + 1) L b w (by omega) hat hF hw h)
   ·rw [decide_eq_false hm] at hf
    subst hf
    have e : Bfs.put L (some (mkX (tipX b d))) (w ++ dir1 d) = L ++ [(mkX (tipX b d), w ++ dir1 d)] := Bfs.put_new hm _
    have hF2 := hp (some (mkX (tipX b d))) (fun z hz => by cases hz; exact hc)
    have hg2 := put_get hat (some (mkX (tipX b d))) (w ++ dir1 d)
    rw [Bfs.puts, e] at h
    rw [e] at hF2 hg2
    refine Ev.neg (by decide) (Ev.pos (by rw [List.length_map]; omega) (Ev.pos (by omega) (Ev.pos (by rw [List.length_map]; omega) (Ev.bindc (show qlA.f = some dirsB from rfl) (Ev.pos (by omega) (Ev.pos (by omega) (Ev.pos (by rw [show dirsB.size = 4 from rfl]; omega) ?_)))))))
    rw [Int.toNat_natCast, Int.toNat_natCast]
    refine Ev.pos (by show w.size + (dir1 d).size ≤ _; omega) (Ev.pos (by rw [List.length_map]; omega) ?_)
    have := qUB g at_ R n (d + 1) (L ++ [(mkX (tipX b d), w ++ dir1 d)]) b w (by omega) hg2 hF2 hw h
    rw [show bxs (L ++ [(mkX (tipX b d), w ++ dir1 d)]) = bxs L ++ [mkX (tipX b d)] by simp [bxs], show wds (L ++ [(mkX (tipX b d), w ++ dir1 d)]) = wds L ++ [w ++ dir1 d] by simp [wds]] at this
    exact this
def Short (L : List (BX' × ByteArray)) (n : Nat) : Prop := ∀ x ∈ L, x.2.size ≤ n
theorem Short.round {a : ByteArray} {L : List (BX' × ByteArray)} {i : Nat} (h : Short L i) : Short (Bfs.round (nextX a) i L) (i + 1) := by
 unfold Bfs.round
 split
 ·exact fun x hx => Nat.le_succ_of_le (h x hx)
 ·rename_i x hx
  have hxs := h x (List.mem_of_getElem? hx)
  refine Bfs.qhB (Q := fun y => y.2.size ≤ i + 1) _ (fun y hy => Nat.le_succ_of_le (h y hy)) ?_
  intro s hs z hz
  have := qmB a x.1 x.2 4 0 rfl s hs
  show s.2.size ≤ _
  omega
theorem qfB {a : ByteArray} {L : List (BX' × ByteArray)} {i : Nat} {b : BX'} {w : ByteArray} (h : L[i]? = some (b, w)) : Bfs.round (nextX a) i L = Bfs.puts L (stepsB a b w 4 0) := by
 unfold Bfs.round; rw [h]; rfl
theorem spec_run {a : ByteArray} (g : Gnd a) : ∀ (n i : Nat) (L : List (BX' × ByteArray)), Found a L → Short L i → i ≤ L.length → 147 ≤ i + n →
  Ev (fun k => qV.l0 k (i : Int) (wideT a : Int) (highT a : Int) (numsOf (flatT a.data.toList)) (bxs L) (wds L)) (bxs (Bfs.run (nextX a) n i L), wds (Bfs.run (nextX a) n i L), true)
 | 0, i, L, hF, hS, hi, hn => by
  have hl := hF.len g
  refine Ev.step (f := fun k => _) (fun k => by rw [qV.l0]) ?_
  exact Ev.neg (by rw [List.length_map]; omega) (Ev.now _)
 | n + 1, i, L, hF, hS, hi, hn => by
  have hl := hF.len g
  refine Ev.step (f := fun k => _) (fun k => by rw [qV.l0]) ?_
  rw [Bfs.run]
  by_cases hlt : i < L.length
  ·rw [if_pos hlt]
   refine Ev.pos (by rw [List.length_map]; omega) ?_
   have hat : L[i]? = some (L[i].1, L[i].2) := List.getElem?_eq_getElem hlt
   have ih := spec_run g n (i + 1) (Bfs.round (nextX a) i L) (hF.round i) hS.round (by have := (Bfs.round_prefix (nextX a) i L).length_le; omega) (by omega)
   rw [qfB hat] at ih
   rw [qfB hat]
   exact qUB g i _ 4 0 L _ _ rfl hat hF (by have := hS _ (List.getElem_mem hlt); omega) ih
  ·rw [if_neg hlt]
   exact Ev.neg (by rw [List.length_map]; omega) (Ev.now _)
def reachX (a : ByteArray) (x y p : Int) : List (BX' × ByteArray) := Bfs.run (nextX a) 147 0 [(⟨x, y, p⟩, ⟨#[]⟩)]
theorem qSB {a : ByteArray} {x y p : Int} (h : boxB a x y p = true) : Found a [(⟨x, y, p⟩, ⟨#[]⟩)] := ⟨by simp, fun z hz => by rw [List.mem_singleton] at hz; subst hz; exact h⟩
theorem short_start (b : BX') : Short [(b, (⟨#[]⟩ : ByteArray))] 0 := fun z hz => by rw [List.mem_singleton] at hz; subst hz; exact Nat.le_refl _
theorem qDC {a : ByteArray} {x y p : Int} (h : askB a x y p = true) : boxB a x y p = true := by
 unfold askB at h
 rw [Bool.and_eq_true] at h
 exact h.2
theorem bxReached_ev (a : ByteArray) (x y p : Int) : ∃ (w h : Int) (cs : List Int), Ev (fun k => qTA.f k a x y p) (if askB a x y p = true then (w, h, cs, bxs (reachX a x y p), wds (reachX a x y p), true) else (w, h, cs, [], [], false)) ∧ (askB a x y p = true → w = (wideT a : Int) ∧ h = (highT a : Int) ∧ cs = numsOf (flatT a.data.toList)) := by
 obtain ⟨w, h, cs, h2, hs⟩ := bxAsked_ev a x y p
 refine ⟨w, h, cs, ?_, hs⟩
 unfold qTA.f
 refine Ev.bind h2 ?_
 cases hb : askB a x y p with
 | false =>
  rw [if_neg (by decide)]
  exact Ev.neg (by simp) (Ev.now _)
 | true =>
  obtain ⟨rfl, rfl, rfl⟩ := hs hb
  rw [if_pos rfl]
  refine Ev.pos rfl ?_
  have := spec_run (quB (qzA hb)) 147 0 [(⟨x, y, p⟩, ⟨#[]⟩)] (qSB (qDC hb)) (short_start _) (by simp) (by omega)
  unfold qV.f
  exact Ev.bind this (Ev.now _)
theorem impl_index (z : BX') (B : List BX') (hB : B.length ≤ 147) : ∀ (l : List BX') (j : Nat), B.drop j = l → j ≤ B.length → ∃ r : Int, Ev (fun k => qa.l0 k B (B.length : Int) (j : Int) z.f0 z.f1 z.f2) r ∧ (decide (r ≥ 0) = decide (z ∈ l))
 | [], j, hd, hj => by
  have := Sorts.qrB hd
  refine ⟨-1, Ev.step (f := fun k => _) (fun k => by rw [qa.l0]) ?_, by simp⟩
  exact Ev.neg (by omega) (Ev.now _)
 | b :: l, j, hd, hj => by
  obtain ⟨hlt, hc, hd'⟩ := Sorts.qdB hd
  have e := rdX B b j (by rw [← hc]; exact List.getElem?_eq_getElem hlt)
  obtain ⟨r, h1, h2⟩ := impl_index z B hB l (j + 1) hd' (by omega)
  have w : wrap64 ((j : Int) + 1) = ((j + 1 : Nat) : Int) := by unfold wrap64; omega
  clear hd hd' hc
  by_cases hzb : z = b
  ·subst hzb
   refine ⟨(j : Int), Ev.step (f := fun k => _) (fun k => by rw [qa.l0]) ?_, ?_⟩
   ·rw [w, e]
    exact Ev.pos (by omega) (Ev.pos (by omega) (Ev.pos (by omega) (Ev.pos (by simp) (Ev.now _))))
   ·rw [decide_eq_true (by omega), decide_eq_true (by simp)]
  ·refine ⟨r, Ev.step (f := fun k => _) (fun k => by rw [qa.l0]) ?_, ?_⟩
   ·rw [w, e]
    refine Ev.pos (by omega) (Ev.pos (by omega) (Ev.pos (by omega) (Ev.neg ?_ h1)))
    intro hx
    simp only [Bool.and_eq_true, beq_iff_eq] at hx
    exact hzb (qKC hx.1 hx.2.1 hx.2.2)
   ·rw [h2]
    simp [hzb]
theorem impl_contains (z : BX') (B : List BX') (hB : B.length ≤ 147) : Ev (fun k => qj.f k B z.f0 z.f1 z.f2) (decide (z ∈ B)) := by
 obtain ⟨r, h1, h2⟩ := impl_index z B hB B 0 rfl (by omega)
 unfold qj.f qa.f
 exact Ev.bind h1 (Ev.some_ h2)
theorem qYB {a : ByteArray} (g : Gnd a) (at_ : Nat) (R : List BX' × List ByteArray × Bool) : ∀ (n d : Nat) (L : List (BX' × ByteArray)) (b : BX') (w : ByteArray), d + n = 4 → L[at_]? = some (b, w) → Found a L → w.size ≤ 147 →
  (Ev (fun k => qQ.l0 k (bxs (Bfs.puts L (stepsB a b w n d))) (wds (Bfs.puts L (stepsB a b w n d))) ((at_ + 1 : Nat) : Int) (rowsT a)) R) →
  Ev (fun k => qQ.l1 k (bxs L) (wds L) (at_ : Int) (rowsT a) (d : Int)) R
 | 0, d, L, b, w, hd, hat, hF, hw, h => by
  have hl := hF.len g
  have hlt := (List.getElem?_eq_some_iff.1 hat).1
  have w1 : wrap64 ((at_ : Int) + 1) = ((at_ + 1 : Nat) : Int) := by unfold wrap64; omega
  refine Ev.step (f := fun k => _) (fun k => by rw [qQ.l1]) ?_
  rw [w1]
  exact Ev.neg (by omega) h
 | n + 1, d, L, b, w, hd, hat, hF, hw, h => by
  have hl := hF.len g
  have hlt := (List.getElem?_eq_some_iff.1 hat).1
  have w1 : wrap64 ((d : Int) + 1) = ((d + 1 : Nat) : Int) := by unfold wrap64; omega
  have eb := rdX (bxs L) b at_ (by rw [List.getElem?_map, hat]; rfl)
  have ew := rdW (wds L) w at_ (by rw [List.getElem?_map, hat]; rfl)
  have hr := rollBox_ev g b.f0 b.f1 b.f2 d (by omega)
  have h1 := qsB d (by omega)
  refine Ev.step (f := fun k => _) (fun k => by rw [qQ.l1]) ?_
  rw [w1, eb, bt_dirs d (by omega), ew]
  refine Ev.pos (by omega) (Ev.pos (by omega) (Ev.pos (by rw [List.length_map]; omega) (Ev.pos (by omega) (Ev.bind hr ?_))))
  rw [stepsB] at h
  have hp := fun y hy => hF.put (a := a) y (w ++ dir1 d) hy
  cases hc : canB a (tipX b d) with
  | false =>
   rw [hc, if_neg (by decide)] at h
   refine Ev.neg (by simp) ?_
   exact qYB g at_ R n (d + 1) L b w (by omega) hat hF hw h
  | true =>
   rw [hc, if_pos rfl] at h
   refine Ev.pos rfl ?_
   refine Ev.bind (impl_contains (mkX (tipX b d)) (bxs L) (by rw [List.length_map]; exact hl)) ?_
   by_cases hm : mkX (tipX b d) ∈ bxs L
   ·rw [decide_eq_true hm]
    have e : Bfs.put L (some (mkX (tipX b d))) (w ++ dir1 d) = L := Bfs.put_met hm _
    rw [Bfs.puts, e] at h
    exact Ev.pos rfl (qYB g at_ R n (d + 1) L b w (by omega) hat hF hw h)
   ·rw [decide_eq_false hm]
    have e : Bfs.put L (some (mkX (tipX b d))) (w ++ dir1 d) = L ++ [(mkX (tipX b d), w ++ dir1 d)] := Bfs.put_new hm _
    have hF2 := hp (some (mkX (tipX b d))) (fun z hz => by cases hz; exact hc)
    have hg2 := put_get hat (some (mkX (tipX b d))) (w ++ dir1 d)
    rw [Bfs.puts, e] at h
    rw [e] at hF2 hg2
    refine Ev.neg (by decide) (Ev.bindc rfl (Ev.pos (by rw [List.length_map, List.length_singleton]; omega) (Ev.pos (by rw [List.length_map]; omega) (Ev.pos (by omega) (Ev.pos (by omega) ?_)))))
    rw [Int.toNat_natCast, Int.toNat_natCast]
    refine Ev.pos (by show w.size + (dir1 d).size ≤ _; omega) (Ev.bindc rfl (Ev.pos (by rw [List.length_map, List.length_singleton]; omega) ?_))
    have := qYB g at_ R n (d + 1) (L ++ [(mkX (tipX b d), w ++ dir1 d)]) b w (by omega) hg2 hF2 hw h
    rw [show bxs (L ++ [(mkX (tipX b d), w ++ dir1 d)]) = bxs L ++ [mkX (tipX b d)] by simp [bxs], show wds (L ++ [(mkX (tipX b d), w ++ dir1 d)]) = wds L ++ [w ++ dir1 d] by simp [wds]] at this
    exact this
theorem impl_run {a : ByteArray} (g : Gnd a) : ∀ (n i : Nat) (L : List (BX' × ByteArray)), Found a L → Short L i → i ≤ L.length → 147 ≤ i + n →
  Ev (fun k => qQ.l0 k (bxs L) (wds L) (i : Int) (rowsT a)) (bxs (Bfs.run (nextX a) n i L), wds (Bfs.run (nextX a) n i L), true)
 | 0, i, L, hF, hS, hi, hn => by
  have hl := hF.len g
  refine Ev.step (f := fun k => _) (fun k => by rw [qQ.l0]) ?_
  refine Ev.neg (by rw [List.length_map]; omega) (Ev.some_ ?_)
  rw [decide_eq_true (by rw [List.length_map]; omega)]; rfl
 | n + 1, i, L, hF, hS, hi, hn => by
  have hl := hF.len g
  refine Ev.step (f := fun k => _) (fun k => by rw [qQ.l0]) ?_
  rw [Bfs.run]
  by_cases hlt : i < L.length
  ·rw [if_pos hlt]
   refine Ev.pos (by rw [List.length_map]; omega) ?_
   have hat : L[i]? = some (L[i].1, L[i].2) := List.getElem?_eq_getElem hlt
   have ih := impl_run g n (i + 1) (Bfs.round (nextX a) i L) (hF.round i) hS.round (by have := (Bfs.round_prefix (nextX a) i L).length_le; omega) (by omega)
   rw [qfB hat] at ih
   rw [qfB hat]
   exact qYB g i _ 4 0 L _ _ rfl hat hF (by have := hS _ (List.getElem_mem hlt); omega) ih
  ·rw [if_neg hlt]
   refine Ev.neg (by rw [List.length_map]; omega) (Ev.some_ ?_)
   rw [decide_eq_true (by rw [List.length_map]; omega)]
theorem boxWords_ev (a : ByteArray) (x y p : Int) (ha : a.size ≤ 1048576) : Ev (fun k => qQ.f k a x y p) (if askB a x y p = true then (bxs (reachX a x y p), wds (reachX a x y p), true) else ([], [], false)) := by
 obtain ⟨rows, h1, hr⟩ := onGround_ev a x y p ha
 unfold qQ.f
 refine Ev.bind h1 ?_
 cases hb : askB a x y p with
 | false =>
  rw [if_neg (by decide)]
  exact Ev.neg (by simp) (Ev.now _)
 | true =>
  have e := hr hb
  subst e
  rw [if_pos rfl]
  refine Ev.pos rfl ?_
  exact impl_run (quB (qzA hb)) 147 0 [(⟨x, y, p⟩, ⟨#[]⟩)] (qSB (qDC hb)) (short_start _) (by simp) (by omega)
theorem reachX_found {a : ByteArray} {x y p : Int} (h : askB a x y p = true) : Found a (reachX a x y p) := (qSB (qDC h)).run _ _
theorem reachX_len {a : ByteArray} {x y p : Int} (h : askB a x y p = true) : (reachX a x y p).length ≤ 147 := (reachX_found h).len (quB (qzA h))
theorem rise_X {a : ByteArray} (x y p : Int) : (reachX a x y p).Pairwise (fun u v => u.2.size ≤ v.2.size) := by
 unfold reachX
 exact Bfs.run_layers (nextX a) (fun w : ByteArray => w.size) (fun i x p s hs _ => qmB a x p 4 0 rfl s hs) 147 0 (Bfs.layers_start _ _ _)
def noW : ByteArray × Bool := (⟨#[]⟩, false)
def capW (w : ByteArray) : ByteArray × Bool := if (w.size : Int) > 60 then noW else (w, true)
def findI (p : BX' → Bool) : List (BX' × ByteArray) → ByteArray × Bool
 | [] => noW
 | z :: l => if p z.1 = true then capW z.2 else findI p l
def findS (p : BX' → Bool) : List (BX' × ByteArray) → ByteArray × Bool
 | [] => noW
 | z :: l => if p z.1 = true then (if (z.2.size : Int) ≤ 60 then (z.2, true) else findS p l) else findS p l
theorem findI_congr {p q : BX' → Bool} : ∀ l : List (BX' × ByteArray), (∀ z ∈ l, p z.1 = q z.1) → findI p l = findI q l
 | [], _ => rfl
 | z :: l, h => by rw [findI, findI, h z List.mem_cons_self, findI_congr l (fun u hu => h u (List.mem_cons_of_mem _ hu))]
theorem find_none (p : BX' → Bool) : ∀ l : List (BX' × ByteArray), (∀ z ∈ l, (z.2.size : Int) > 60) → findS p l = noW
 | [], _ => rfl
 | z :: l, h => by
  have h1 := h z List.mem_cons_self
  rw [findS, if_neg (by omega : ¬ (z.2.size : Int) ≤ 60), find_none p l (fun u hu => h u (List.mem_cons_of_mem _ hu))]
  split <;> rfl
theorem qqB (p : BX' → Bool) : ∀ l : List (BX' × ByteArray), l.Pairwise (fun u v => u.2.size ≤ v.2.size) → findS p l = findI p l
 | [], _ => rfl
 | z :: l, h => by
  obtain ⟨h1, h2⟩ := List.pairwise_cons.1 h
  rw [findS, findI, qqB p l h2]
  split
  ·unfold capW
   by_cases hz : (z.2.size : Int) ≤ 60
   ·rw [if_pos hz, if_neg (by omega)]
   ·rw [if_neg hz, if_pos (by omega), ← qqB p l h2]
    exact find_none p l (fun u hu => by have := h1 u hu; omega)
  ·rfl
theorem idxP_cons {α : Type} (p : α → Bool) (x : α) (l : List α) : idxP p (x :: l) = if p x = true then 0 else if idxP p l < 0 then -1 else idxP p l + 1 := by
 unfold idxP
 rw [List.findIdx?_cons]
 by_cases h : p x = true
 ·rw [if_pos h, if_pos h]; rfl
 ·rw [if_neg h, if_neg h]
  cases l.findIdx? p with
  | none => rfl
  | some i =>
   simp only [Option.map_some]
   rw [if_neg (by omega)]
   push_cast
   rfl
theorem idx_find (p : BX' → Bool) : ∀ L : List (BX' × ByteArray), (idxP p (bxs L) = -1 ∧ findI p L = noW) ∨ ∃ (i : Nat) (z : BX' × ByteArray), idxP p (bxs L) = (i : Int) ∧ L[i]? = some z ∧ findI p L = capW z.2
 | [] => .inl ⟨rfl, rfl⟩
 | z :: l => by
  have e : idxP p (bxs (z :: l)) = if p z.1 = true then 0 else if idxP p (bxs l) < 0 then -1 else idxP p (bxs l) + 1 := idxP_cons p z.1 (bxs l)
  rw [e, findI]
  by_cases h : p z.1 = true
  ·rw [if_pos h, if_pos h]
   exact .inr ⟨0, z, rfl, rfl, rfl⟩
  ·rw [if_neg h, if_neg h]
   rcases idx_find p l with ⟨h1, h2⟩ | ⟨i, u, h1, h2, h3⟩
   ·rw [h1, h2]
    exact .inl ⟨rfl, rfl⟩
   ·rw [h1, h3, if_neg (by omega)]
    exact .inr ⟨i + 1, u, by push_cast; rfl, h2, rfl⟩
theorem wordTo_ev (p : BX' → Bool) (a : ByteArray) (x y z : Int) (ha : a.size ≤ 1048576) : Ev (fun k => qxB.f p k a x y z) (if askB a x y z = true then findI p (reachX a x y z) else noW) := by
 have h1 := boxWords_ev a x y z ha
 unfold qxB.f
 cases hb : askB a x y z with
 | false =>
  rw [hb, if_neg (by decide)] at h1
  rw [if_neg (by decide)]
  exact Ev.bind h1 (Ev.neg (by simp) (Ev.now _))
 | true =>
  rw [hb, if_pos rfl] at h1
  rw [if_pos rfl]
  refine Ev.bind h1 (Ev.pos rfl ?_)
  simp only []
  rcases idx_find p (reachX a x y z) with ⟨h2, h3⟩ | ⟨i, u, h2, h3, h4⟩
  ·rw [h2, h3]
   exact Ev.pos (by omega) (Ev.now _)
  ·have hlt : i < (reachX a x y z).length := (List.getElem?_eq_some_iff.1 h3).1
   have ew := rdW (wds (reachX a x y z)) u.2 i (by rw [List.getElem?_map, h3]; rfl)
   rw [h2, h4]
   simp only [ew]
   unfold capW
   refine Ev.neg (by omega) (Ev.pos (by rw [List.length_map]; omega) ?_)
   by_cases hz : (u.2.size : Int) > 60
   ·rw [if_pos hz, if_pos hz]
    exact Ev.now _
   ·rw [if_neg hz, if_neg hz]
    exact Ev.now _
end Go.Proofs.YtbpfhpjbeomfcaaDoor
namespace Go.Proofs.YtbpfhpjbeomfcaaDoor.Pure
open Go.RowKit Go.Proofs.YtbpfhpjbeomfcaaDoor.P Go.Proofs.YtbpfhpjbeomfcaaDoorW.PrintWords Go.Proofs.YtbpfhpjbeomfcaaDoorW.PrintLast
set_option linter.unusedVariables false
set_option linter.unusedSimpArgs false
def holeB (a : ByteArray) (z : BX') : Bool := decide (z.f2 = 0) && decide (cellN a z.f0 z.f1 = 111)
theorem isB2_eq {a : ByteArray} (g : Gnd a) (z : BX') (h : hasB a z.f0 z.f1 = true) : isB2.f (rowsT a) z = some (holeB a z) := by
 unfold isB2.f holeB
 by_cases hz : z.f2 = 0
 ·rw [if_pos hz, at_eq g _ _ h, Option.bind_some, decide_eq_true hz, Bool.true_and]
 ·rw [if_neg hz, decide_eq_false hz, Bool.false_and]
theorem sp_hole {a : ByteArray} (g : Gnd a) (L : List (BX' × ByteArray)) (hn : L.length ≤ 147) (hL : ∀ z ∈ L, hasB a z.1.f0 z.1.f1 = true) : ∀ (l : List (BX' × ByteArray)) (j : Nat), L.drop j = l → j ≤ L.length →
  Ev (fun k => qi.l0 k (bxs L) ((bxs L).length : Int) (j : Int) (wideT a : Int) (highT a : Int) (numsOf (flatT a.data.toList)) (bxs L) (wds L)) (findS (holeB a) l)
 | [], j, hd, hj => by
  have := Sorts.qrB hd
  refine Ev.step (f := fun k => _) (fun k => by rw [qi.l0]) ?_
  exact Ev.neg (by rw [List.length_map]; omega) (Ev.now _)
 | x :: l, j, hd, hj => by
  obtain ⟨hlt, hc, hd'⟩ := Sorts.qdB hd
  have hget : L[j]? = some x := by rw [← hc]; exact List.getElem?_eq_getElem hlt
  have hx := hL x (by rw [← hc]; exact List.getElem_mem _)
  have eb := rdX (bxs L) x.1 j (by rw [List.getElem?_map, hget]; rfl)
  have ew := rdW (wds L) x.2 j (by rw [List.getElem?_map, hget]; rfl)
  have ih := sp_hole g L hn hL l (j + 1) hd' (by omega)
  obtain ⟨s1, s2, s3⟩ := qAC g x.1.f0 x.1.f1 hx
  clear hd hd' hc hget
  have w : wrap64 ((j : Int) + 1) = ((j + 1 : Nat) : Int) := by unfold wrap64; omega
  have hn1 : (j : Int) < ((bxs L).length : Int) := by rw [List.length_map]; omega
  have hn2 : (j : Int) < ((wds L).length : Int) := by rw [List.length_map]; omega
  refine Ev.step (f := fun k => _) (fun k => by rw [qi.l0]) ?_
  rw [w, eb, ew, s3, findS]
  refine Ev.pos hn1 (Ev.pos (Int.natCast_nonneg j) (Ev.pos hn1 ?_))
  by_cases hz : x.1.f2 = 0
  ·refine Ev.pos hz (Ev.pos s1 (Ev.pos s2 ?_))
   by_cases ho : cellN a x.1.f0 x.1.f1 = 111
   ·have hp : holeB a x.1 = true := by unfold holeB; rw [decide_eq_true hz, decide_eq_true ho]; rfl
    rw [if_pos hp]
    refine Ev.pos ho (Ev.pos hn2 ?_)
    by_cases hs : (x.2.size : Int) ≤ 60
    ·rw [if_pos hs]
     exact Ev.pos hs (Ev.now _)
    ·rw [if_neg hs]
     exact Ev.neg hs ih
   ·have hp : ¬ holeB a x.1 = true := by unfold holeB; rw [decide_eq_true hz, decide_eq_false ho]; decide
    rw [if_neg hp]
    exact Ev.neg ho ih
  ·have hp : ¬ holeB a x.1 = true := by unfold holeB; rw [decide_eq_false hz, Bool.false_and]; decide
   rw [if_neg hp]
   exact Ev.neg hz ih
theorem both (a : ByteArray) (x y p : Int) (ha : a.size ≤ 1048576) : ∃ r : ByteArray × Bool, Ev (fun k => qi.f k a x y p) r ∧ Ev (fun k => qCA.f k a x y p) r := by
 obtain ⟨w, h, cs, h2, h2'⟩ := bxReached_ev a x y p
 obtain ⟨rows, h3, h3'⟩ := ground_ev a ha
 have h4 := wordTo_ev (fun z => (isB2.f rows z).getD false) a x y p ha
 have h5 := boxWords_ev a x y p ha
 unfold qi.f qCA.f qJB.f
 cases hb : askB a x y p with
 | false =>
  rw [hb, if_neg (by decide)] at h2 h4 h5
  refine ⟨noW, Ev.bind h2 (Ev.neg (by simp) (Ev.now _)), Ev.bind h3 (Ev.bind (a := noW) (Ev.bind h5 (Ev.pos rfl h4)) (Ev.now _))⟩
 | true =>
  obtain ⟨rfl, rfl, rfl⟩ := h2' hb
  have g := quB (qzA hb)
  have hF := reachX_found hb
  rw [hb, if_pos rfl] at h2 h4 h5
  obtain rfl := h3' (qzA hb)
  have hL : ∀ z ∈ reachX a x y p, hasB a z.1.f0 z.1.f1 = true := fun z hz => qkB (hF.good z hz)
  rw [findI_congr (q := holeB a) _ (fun z hz => by rw [isB2_eq g z.1 (hL z hz)]; rfl), ← qqB _ _ (rise_X x y p)] at h4
  refine ⟨findS (holeB a) (reachX a x y p), Ev.bind h2 (Ev.pos rfl (sp_hole g _ (reachX_len hb) hL _ 0 rfl (by omega))), Ev.bind h3 (Ev.bind (Ev.bind h5 (Ev.pos ?_ h4)) (Ev.now _))⟩
  rw [List.all_eq_true]
  intro z hz
  obtain ⟨u, hu, rfl⟩ := List.mem_map.1 hz
  show (isB2.f (rowsT a) u.1).isSome = true
  rw [isB2_eq g u.1 (hL u hu)]; rfl
theorem FnExactWordToHole : qDA.Pure := by
 intro a x y p _ _ _ _
 refine Ev.rounds (r := true) ?_
 unfold qDA.f
 by_cases ha : a.size ≤ 1048576
 ·obtain ⟨r, h1, h2⟩ := both a x y p ha
  refine Ev.neg (by omega) (Ev.bindc (show qNA.f x y p = some (x, y, p) from rfl) ?_)
  refine Ev.bind h1 (Ev.bindc (show qNA.f x y p = some (x, y, p) from rfl) ?_)
  exact Ev.bind h2 (Ev.pos rfl (Ev.neg (by simp) (Ev.now _)))
 ·exact Ev.pos (by omega) (Ev.now _)
end Go.Proofs.YtbpfhpjbeomfcaaDoor.Pure
