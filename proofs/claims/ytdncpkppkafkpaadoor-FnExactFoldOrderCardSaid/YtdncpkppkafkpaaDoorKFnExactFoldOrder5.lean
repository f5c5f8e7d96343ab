/- The program's FoldOrder returns what the reference's returns, for all texts (the law lets longer texts by). No further condition. -/
import Derived.Test.YtdncpkppkafkpaaDoorKFnExactFoldOrder4

namespace Go.Proofs.YtdncpkppkafkpaaDoor
open Go.RowKit Go.Proofs.YtdncpkppkafkpaaDoor.P Go.Proofs.YtdncpkppkafkpaaDoorW.PrintWords Go.Proofs.YtdncpkppkafkpaaDoorW.PrintLast
open Go.Lib (keeps compactUpTo)
set_option linter.unusedVariables false
set_option linter.unusedSimpArgs false
theorem kinds_nodup (l : List Int) : kinds l = l.length ↔ l.Nodup := by
 unfold kinds
 have hp := List.mergeSort_perm l (fun x y => decide (x ≤ y))
 have hs : (l.mergeSort fun x y => decide (x ≤ y)).Pairwise (fun a b => a ≤ b) := by
  have := List.pairwise_mergeSort (le := fun x y : Int => decide (x ≤ y)) (fun a b c h1 h2 => by simp only [decide_eq_true_eq] at *; omega) (fun a b => by simp only [Bool.or_eq_true, decide_eq_true_eq]; omega) l
  exact this.imp (fun h => of_decide_eq_true h)
 rw [← hp.nodup_iff, ← hp.length_eq]
 generalize (l.mergeSort fun x y => decide (x ≤ y)) = s at hs
 clear hp
 have hl : (Lib.compact s).length = ((List.range s.length).filter (keeps s.toArray)).length := by unfold Lib.compact compactUpTo; rw [List.length_map]
 have hr : (List.range s.length).length = s.length := List.length_range
 rw [hl]
 have hk : ∀ (j : Nat) (hj : j + 1 < s.length), keeps s.toArray (j + 1) = true ↔ s[j + 1] ≠ s[j] := by
  intro j hj
  unfold keeps
  have h1 : s.toArray[j + 1]! = s[j + 1] := by simp [hj]
  have h2 : s.toArray[j + 1 - 1]! = s[j] := by simp [show j < s.length by omega]
  rw [h1, h2]
  simp
 constructor
 ·intro h
  have hall : ∀ j ∈ List.range s.length, keeps s.toArray j = true := List.length_filter_eq_length_iff.1 (h.trans hr.symm)
  rw [List.nodup_iff_pairwise_ne]
  rw [List.pairwise_iff_getElem]
  intro i j hi hj hij
  have hj1 : j - 1 + 1 < s.length := by omega
  have hne := (hk (j - 1) hj1).1 (hall _ (List.mem_range.2 hj1))
  have e : j - 1 + 1 = j := by omega
  have hle : s[i] ≤ s[j - 1] := by
   rcases Nat.lt_or_ge i (j - 1) with h3 | h3
   ·exact (List.pairwise_iff_getElem.1 hs) i (j - 1) hi (by omega) h3
   ·have : i = j - 1 := by omega
    subst this; exact Int.le_refl _
  have hle2 : s[j - 1] ≤ s[j] := (List.pairwise_iff_getElem.1 hs) (j - 1) j (by omega) hj (by omega)
  have hne2 : s[j] ≠ s[j - 1] := by
   have : s[j - 1 + 1] = s[j] := by congr 1
   rw [this] at hne; exact hne
  omega
 ·intro h
  rw [List.nodup_iff_pairwise_ne, List.pairwise_iff_getElem] at h
  have this : ((List.range s.length).filter (keeps s.toArray)).length = (List.range s.length).length := List.length_filter_eq_length_iff.2 (fun j hj => by
   have hj2 := List.mem_range.1 hj
   cases j with
   | zero => simp [keeps]
   | succ j => exact (hk j hj2).2 (fun e => h j (j + 1) (by omega) hj2 (by omega) e.symm))
  rw [this, hr]
theorem bot_run (w h : Nat) (F : List UInt8) (hw0 : 0 < w) (hw : w ≤ 6) (hh : h ≤ 6) (hF : F.length = w * h) (X33 : List Int) (R : List Int × Bool) (hend : ∀ L : List (Nat × Fnd), L = Bfs.run (nextN w h F) 36 0 [((idxFrom 0 F).headD 0, (plainD, 0))] → Ev (fun k => qJ.l3 k 0 (tabU botG (List.range F.length) L) X33 (X33.length : Int) 0) R) :
  ∀ (n at_ : Nat) (L : List (Nat × Fnd)), OkN (idxFrom 0 F) L → DieN L → (idxFrom 0 F).length ≤ at_ + n → Bfs.run (nextN w h F) n at_ L = Bfs.run (nextN w h F) 36 0 [((idxFrom 0 F).headD 0, (plainD, 0))] →
  Ev (fun k => qJ.l1 k (ints (keysN L)) (at_ : Int) (tabU botG (List.range F.length) L) (tabU dieG (List.range F.length) L) X33 (w : Int) (h : Int) (nums F)) R := by
 have hkl : ∀ L : List (Nat × Fnd), (ints (keysN L)).length = L.length := fun L => by rw [qdA, List.length_map]
 intro n
 induction n with
 | zero =>
  intro at_ L hok hdn hn he
  have hl := hok.len
  have a1 : ¬ (at_ : Int) < ((ints (keysN L)).length : Int) := by rw [hkl]; omega
  refine Ev.step (f := fun k => _) (fun k => by rw [qJ.l1]) ?_
  exact Ev.neg a1 (hend L he)
 | succ n ih =>
  intro at_ L hok hdn hn he
  have hl := hok.len
  refine Ev.step (f := fun k => _) (fun k => by rw [qJ.l1]) ?_
  by_cases hat : at_ < L.length
  ·have hx : L[at_]? = some L[at_] := List.getElem?_eq_getElem hat
   rw [Bfs.run, if_pos hat] at he
   have hro : Bfs.round (nextN w h F) at_ L = Bfs.puts L (stepsN w h F L[at_].1 L[at_].2 4 0) := by unfold Bfs.round; rw [hx]; rfl
   have := ih (at_ + 1) (Bfs.round (nextN w h F) at_ L) (qQC w h F hw0 hF hok) (dieN_round w h F hdn) (by omega) he
   have a1 : (at_ : Int) < ((ints (keysN L)).length : Int) := by rw [hkl]; omega
   refine Ev.pos a1 ?_
   refine bot_steps w h F hw0 hw hh hF X33 _ at_ L[at_].1 L[at_].2 4 0 L rfl hx hok hdn ?_
   rw [← hro]
   exact this
  ·have a1 : ¬ (at_ : Int) < ((ints (keysN L)).length : Int) := by rw [hkl]; omega
   rw [Bfs.run, if_neg hat] at he
   exact Ev.neg a1 (hend L he)
theorem bot_fill (w h : Nat) (F : List UInt8) (N : Nat) (hN : N ≤ 36) (Y : List DD) (R : List Int × Bool) : ∀ (d i : Nat), i + d = N →
  (Ev (fun k => qJ.l0 k (List.replicate N (-1)) Y (N : Int) (N : Int) (w : Int) (h : Int) (nums F)) R) →
  Ev (fun k => qJ.l0 k (List.replicate i (-1) ++ List.replicate d 0) Y (N : Int) (i : Int) (w : Int) (h : Int) (nums F)) R
 | 0, i, hd, hR => by
  obtain rfl : i = N := by omega
  rw [List.replicate_zero, List.append_nil]; exact hR
 | d + 1, i, hd, hR => by
  have ih := bot_fill w h F N hN Y R d (i + 1) (by omega) hR
  have w1 := qfA i (by omega)
  have e : (List.replicate i (-1 : Int) ++ List.replicate (d + 1) (0 : Int)).set i (-1) = List.replicate (i + 1) (-1 : Int) ++ List.replicate d (0 : Int) := by
   rw [List.set_append_right _ _ (by rw [List.length_replicate]; exact Nat.le_refl _), List.length_replicate, Nat.sub_self, List.replicate_succ, List.set_cons_zero, List.replicate_succ', List.append_assoc]; rfl
  refine Ev.step (f := fun k => _) (fun k => by rw [qJ.l0]) ?_
  refine Ev.pos (by omega) (Ev.pos (by omega) (Ev.pos (by simp; omega) ?_))
  rw [w1, Int.toNat_natCast, e]
  exact ih
def botAt (a : ByteArray) (i : Nat) : Nat := (botI (look (runOf a) i)).toNat
def specBots (a : ByteArray) : List Int := tabU botG (List.range (flatN a).length) (runOf a)
theorem botAt_is {a : ByteArray} (hang : hangB a = true) {i : Nat} (hi : i ∈ placesN a) : ∃ v, look (runOf a) i = some v ∧ v.1.f5 = (botAt a i : Int) ∧ botAt a i < 6 := by
 have hm := of_decide_eq_true hang i hi
 obtain ⟨v, hv, hmem⟩ := qSC hm
 have hd : 0 ≤ v.1.f5 ∧ v.1.f5 < 6 := rots_f5 _ (dieN_runN _ _ _ _ _ hmem)
 refine ⟨v, hv, ?_, ?_⟩
 ·unfold botAt; rw [hv]; show v.1.f5 = ((v.1.f5).toNat : Int); omega
 ·unfold botAt; rw [hv]; show (v.1.f5).toNat < 6; omega
def netB (a : ByteArray) : Bool := sixB a && decide ((placesN a).map (botAt a)).Nodup
theorem neBottoms_ev {a : ByteArray} (hf : fitN a) (h6 : (placesN a).length = 6) (hw : wideN a ≤ 6) (hh : highN a ≤ 6) (hang : hangB a = true) :
  Ev (fun k => qJ.f k (wideN a : Int) (highN a : Int) (nums (flatN a))) (specBots a, decide ((placesN a).map (botAt a)).Nodup) := by
 have hw0 := Nat.pos_of_ne_zero hf.1
 have hF := qtA hf
 have h36 : (flatN a).length ≤ 36 := hF ▸ (Nat.mul_le_mul hw hh : wideN a * highN a ≤ 6 * 6)
 have hDl : (placesN a).length ≤ (flatN a).length := qqA _ 0
 have hDl2 : (idxFrom 0 (flatN a)).length ≤ (flatN a).length := qqA _ 0
 have hn : (nums (flatN a)).length = (flatN a).length := List.length_map _
 have hcons := qnB h6
 obtain ⟨i0, hi0⟩ : ∃ i0, (placesN a).headD 0 = i0 := ⟨_, rfl⟩
 rw [hi0] at hcons
 have hi0m : i0 ∈ placesN a := by rw [hcons]; exact List.mem_cons_self
 have hiF : i0 < (flatN a).length := by rw [hF]; exact qEB hf i0 hi0m
 have hrun : runOf a = Bfs.run (nextN (wideN a) (highN a) (flatN a)) 36 0 [((idxFrom 0 (flatN a)).headD 0, (plainD, 0))] := rfl
 unfold qJ.f
 rw [hn]
 refine Ev.pos (Int.natCast_nonneg _) (Ev.pos (by rw [Int.toNat_natCast]; omega) (Ev.bindc rfl (Ev.pos (by rw [Int.toNat_natCast]; omega) ?_)))
 rw [Int.toNat_natCast, List.length_replicate]
 have hfill := bot_fill (wideN a) (highN a) (flatN a) (flatN a).length h36 (List.replicate (flatN a).length z31) (specBots a, decide ((placesN a).map (botAt a)).Nodup) (flatN a).length 0 (by omega)
 rw [List.replicate_zero, List.nil_append] at hfill
 refine hfill ?_
 refine Ev.step (f := fun k => _) (fun k => by rw [qJ.l0]) ?_
 have n1 : ¬ ((flatN a).length : Int) < ((flatN a).length : Int) := Int.lt_irrefl _
 refine Ev.neg n1 (Ev.bind (qaB _ _ (flatN a) (by omega)) ?_)
 have e0 : rd (ints (idxFrom 0 (flatN a))) 0 = (i0 : Int) := by
  show rd (ints (placesN a)) 0 = _
  rw [hcons]; rfl
 have e1 : (ints (idxFrom 0 (flatN a))).length = 6 := by rw [qdA]; exact h6
 rw [e0]
 have b1 : (i0 : Int) < ((List.replicate (flatN a).length z31).length : Int) := by rw [List.length_replicate]; exact Int.ofNat_lt.2 hiF
 have b2 : (i0 : Int) < ((List.replicate (flatN a).length (-1 : Int)).length : Int) := by rw [List.length_replicate]; exact Int.ofNat_lt.2 hiF
 refine Ev.pos (by rw [e1]; decide) (Ev.bindc (show qDB.f = some (0, 1, 2, 3, 4, 5) by decide +kernel) (Ev.pos (Int.natCast_nonneg _) (Ev.pos b1 (Ev.pos b2 ?_))))
 have s1 := qrB botG (-1) rfl (List.range (flatN a).length) List.nodup_range i0 (by rw [List.length_range]; exact hiF) (plainD, 0)
 have s2 : (List.replicate (flatN a).length z31).set i0 (dieG (some (plainD, 0))) = tabU dieG (List.range (flatN a).length) [(i0, (plainD, 0))] := by
  have h0 : List.replicate (flatN a).length z31 = tabU dieG (List.range (flatN a).length) [] := by
   unfold tabU
   have : (fun i => dieG (look [] i)) = fun _ => z31 := by funext i; rfl
   rw [this, List.map_const', List.length_range]
  have hs := qLB dieG (List.range (flatN a).length) List.nodup_range [] i0 (by rw [List.length_range]; exact hiF) (plainD, 0) (by simp)
  simp only [List.getElem_range] at hs
  rw [h0, hs, List.nil_append]
 simp only [List.length_range, List.getElem_range] at s1
 show Ev (fun k => qJ.l1 k [(i0 : Int)] 0 ((List.replicate (flatN a).length (-1)).set ((i0 : Int)).toNat (botG (some (plainD, 0)))) ((List.replicate (flatN a).length z31).set ((i0 : Int)).toNat (dieG (some (plainD, 0)))) (ints (idxFrom 0 (flatN a))) (wideN a : Int) (highN a : Int) (nums (flatN a))) _
 rw [Int.toNat_natCast, s1, s2]
 have hst : [(i0, (plainD, 0))] = [((idxFrom 0 (flatN a)).headD 0, ((plainD, 0) : Fnd))] := by
  have : (idxFrom 0 (flatN a)).headD 0 = i0 := hi0
  rw [this]
 refine bot_run (wideN a) (highN a) (flatN a) hw0 hw hh hF _ _ (fun L hL => ?_) 36 0 [(i0, (plainD, 0))] (OkN.start hi0m plainD) (fun e he => by rw [List.mem_singleton] at he; subst he; exact rots_plain) (by omega) (by rw [hst])
 rw [← hrun] at hL
 subst hL
 have hX : ∀ i ∈ placesN a, i < (specBots a).length ∧ rd (specBots a) (i : Int) = (botAt a i : Int) ∧ botAt a i < 6 := by
  intro i hi
  have hil : i < (flatN a).length := by rw [hF]; exact qEB hf i hi
  obtain ⟨v, hv, e, hlt⟩ := botAt_is hang hi
  refine ⟨by unfold specBots; rw [qhA, List.length_range]; exact hil, ?_, hlt⟩
  unfold specBots
  rw [rdTab (γ := Unit) botG _ _ i (by rw [List.length_range]; exact hil), List.getElem_range, hv]
  exact e
 have hl3 := bot_l3 (specBots a) (botAt a) (placesN a) (by omega) hX (placesN a) 0 0 List.drop_zero (by decide)
 have hok : botOk (botAt a) 0 (placesN a) = decide ((placesN a).map (botAt a)).Nodup := by
  have := botOk_iff (botAt a) (placesN a) 0 (by decide) (fun i hi => (hX i hi).2.2)
  by_cases hnd : ((placesN a).map (botAt a)).Nodup
  ·rw [decide_eq_true hnd]; exact this.2 ⟨hnd, fun i _ => Nat.zero_testBit _⟩
  ·rw [decide_eq_false hnd, Bool.eq_false_iff]; exact fun h => hnd (this.1 h).1
 rw [hok] at hl3
 have e2 : ((ints (idxFrom 0 (flatN a))).length : Int) = ((placesN a).length : Int) := by rw [qdA]; rfl
 rw [e2]
 exact hl3
theorem neNet_ev (a : ByteArray) : ∃ r : Int × Int × List Int × List Int × Bool, Ev (fun k => qwA.f k a) r ∧ r.2.2.2.2 = netB a ∧ (netB a = true → r = ((wideN a : Int), (highN a : Int), nums (flatN a), specBots a, true)) := by
 unfold qwA.f
 by_cases h : a.size ≤ 41 ∧ fitN a
 ·have h1 := neRead_ev a
  rw [if_pos h] at h1
  have h2 := neSix_same h.2 h.1
  cases hs : sixB a with
  | true =>
   rw [hs] at h2
   have hs' := hs
   unfold sixB at hs'
   simp only [Bool.and_eq_true, decide_eq_true_eq] at hs'
   obtain ⟨_, h6, hw, hh, hang, _, _⟩ := hs'
   have h3 := neBottoms_ev h.2 h6 hw hh hang
   refine ⟨_, Ev.bind h1 (Ev.pos rfl (Ev.bind h2 (Ev.pos rfl (Ev.bind h3 (Ev.now _))))), ?_, ?_⟩
   ·unfold netB; rw [hs, Bool.true_and]
   ·intro hn
    unfold netB at hn
    rw [hs, Bool.true_and] at hn
    rw [hn]
  | false =>
   rw [hs] at h2
   refine ⟨_, Ev.bind h1 (Ev.pos rfl (Ev.bind h2 (Ev.neg (by decide) (Ev.now _)))), ?_, ?_⟩
   ·unfold netB; rw [hs]; rfl
   ·intro hn; unfold netB at hn; rw [hs] at hn; cases hn
 ·have h1 := neRead_ev a
  rw [if_neg h] at h1
  have hs : sixB a = false := by unfold sixB; rw [decide_eq_false h, Bool.false_and]
  refine ⟨_, Ev.bind h1 (Ev.neg (by decide) (Ev.now _)), ?_, ?_⟩
  ·unfold netB; rw [hs]; rfl
  ·intro hn; unfold netB at hn; rw [hs] at hn; cases hn
structure IsNetN (a : ByteArray) : Prop where
 size : a.size ≤ 41
 fit : fitN a
 six : (placesN a).length = 6
 wide : wideN a ≤ 6
 high : highN a ≤ 6
 hang : hangB a = true
 cols : colsFull a
 lines : linesFull a
 nodup : ((placesN a).map (botAt a)).Nodup
theorem netB_is {a : ByteArray} (h : netB a = true) : IsNetN a := by
 unfold netB sixB at h
 simp only [Bool.and_eq_true, decide_eq_true_eq] at h
 obtain ⟨⟨⟨h1, h2⟩, h3, h4, h5, h6, h7, h8⟩, h9⟩ := h
 exact ⟨h1, h2, h3, h4, h5, h6, h7, h8, h9⟩
theorem implNet_ev (a : ByteArray) (ha : a.size ≤ 1048576) : ∃ r : List CC × List Int × Bool, Ev (fun k => qTB.f k a) r ∧ r.2.2 = netB a ∧ (netB a = true → r = ((placesN a).map (cellAt (wideN a)), (placesN a).map (digAt (flatN a)), true)) := by
 have h1 := implSix_ev a ha
 unfold qTB.f
 cases hs : sixB a with
 | true =>
  rw [hs, if_pos rfl] at h1
  have hs' := hs
  unfold sixB at hs'
  simp only [Bool.and_eq_true, decide_eq_true_eq] at hs'
  obtain ⟨⟨_, hf⟩, h6, hw, hh, hang, _, _⟩ := hs'
  have hfo := qUC hf h6 hw hh
  have hbl : (botsOf a).length = 6 := by unfold botsOf; rw [qhA]; exact h6
  have hfold : Ev (fun k => qMA.f k ((placesN a).map (cellAt (wideN a)))) (decide ((placesN a).map (botAt a)).Nodup) := by
   unfold qMA.f
   refine Ev.bind hfo (Ev.bind (contI_ev (farsOf a) (by unfold farsOf; rw [qhA]; omega) (-1)) ?_)
   rw [decide_eq_false (fun hn => (qIC a).1 hn (of_decide_eq_true hang))]
   refine Ev.neg (by decide) (Ev.pos (by rw [hbl]; decide) (Ev.some_ ?_))
   refine decide_eq_decide.2 ?_
   have hk := kinds_nodup (botsOf a)
   rw [hbl] at hk
   rw [hk]
   have e : botsOf a = ((placesN a).map (botAt a)).map (fun (n : Nat) => (n : Int)) := by
    unfold botsOf tabU
    rw [List.map_map]
    refine List.map_congr_left fun i hi => ?_
    obtain ⟨v, hv, e, _⟩ := botAt_is hang hi
    rw [hv]
    exact e
   rw [e]
   constructor
   ·intro h; exact (List.nodup_iff_pairwise_ne.2 ((List.pairwise_map.1 (List.nodup_iff_pairwise_ne.1 h)).imp (fun h e => h (by rw [e]))))
   ·intro h; exact (List.nodup_iff_pairwise_ne.2 (List.pairwise_map.2 ((List.nodup_iff_pairwise_ne.1 h).imp (fun h e => h (Int.ofNat.inj e)))))
  refine ⟨_, Ev.bind h1 (Ev.pos rfl (Ev.bind hfold (Ev.now _))), ?_, ?_⟩
  ·unfold netB; rw [hs, Bool.true_and]
  ·intro hn
   unfold netB at hn
   rw [hs, Bool.true_and] at hn
   rw [hn]
 | false =>
  rw [hs, if_neg (by decide)] at h1
  refine ⟨_, Ev.bind h1 (Ev.neg (by decide) (Ev.now _)), ?_, ?_⟩
  ·unfold netB; rw [hs]; rfl
  ·intro hn; unfold netB at hn; rw [hs] at hn; cases hn
end Go.Proofs.YtdncpkppkafkpaaDoor
namespace Go.Proofs.YtdncpkppkafkpaaDoor
open Go.RowKit Go.Proofs.YtdncpkppkafkpaaDoor.P Go.Proofs.YtdncpkppkafkpaaDoorW.PrintWords Go.Proofs.YtdncpkppkafkpaaDoorW.PrintLast
set_option linter.unusedVariables false
set_option linter.unusedSimpArgs false
theorem eqIntS_loop (a : List Int) (ha : a.length ≤ 140737488355328) (d : Nat) : ∀ i : Nat, i ≤ a.length → a.length - i = d → Ev (fun k => qk.l0 k a a (i : Int)) true := by
 induction d with
 | zero =>
  intro i hi hd
  refine Ev.step (f := fun k => _) (fun k => by rw [qk.l0]) (Ev.neg (by omega) (Ev.now _))
 | succ d ih =>
  intro i hi hd
  refine Ev.step (f := fun k => _) (fun k => by rw [qk.l0]) (Ev.pos (by omega) (Ev.pos (by omega) (Ev.pos (by omega) (Ev.pos rfl ?_))))
  rw [show wrap64 ((i : Int) + 1) = ((i + 1 : Nat) : Int) by unfold wrap64; omega]
  exact ih (i + 1) (by omega) (by omega)
theorem eqIntS_refl (a : List Int) (ha : a.length ≤ 140737488355328) : Ev (fun k => qk.f k a a) true := by
 unfold qk.f
 exact Ev.pos rfl (eqIntS_loop a ha a.length 0 (by omega) (by omega))
def marksI (n : Nat) : List Int := (List.range n).map fun j : Nat => 1 + (j : Int)
theorem qrA (n : Nat) : (marksI n).length = n := by simp [marksI]
theorem marksI_succ (n : Nat) : marksI (n + 1) = marksI n ++ [1 + (n : Int)] := by simp [marksI, List.range_succ]
theorem markIntS_loop (l : List Int) (ha : l.length ≤ 140737488355328) (d : Nat) : ∀ i : Nat, i ≤ l.length → l.length - i = d →
  Ev (fun k => qn.l0 k (marksI i ++ l.drop i) (1 + (i : Int)) (i : Int)) (1 + (l.length : Int), marksI l.length) := by
 induction d with
 | zero =>
  intro i hi hd
  obtain rfl : i = l.length := by omega
  refine Ev.step (f := fun k => _) (fun k => by rw [qn.l0]) (Ev.neg ?_ (Ev.some_ ?_))
  ·simp [qrA]
  ·simp
 | succ d ih =>
  intro i hi hd
  refine Ev.step (f := fun k => _) (fun k => by rw [qn.l0]) (Ev.pos ?_ (Ev.pos (by omega) ?_))
  ·simp [qrA]; omega
  ·rw [show wrap64 ((i : Int) + 1) = ((i + 1 : Nat) : Int) by unfold wrap64; omega, show wrap64 (1 + (i : Int) + 1) = 1 + ((i + 1 : Nat) : Int) by unfold wrap64; omega]
   have e : (marksI i ++ l.drop i).set ((i : Int).toNat) (1 + (i : Int)) = marksI (i + 1) ++ l.drop (i + 1) := by
    rw [Int.toNat_natCast, List.set_append_right _ _ (by rw [qrA]; omega), qrA, Nat.sub_self, List.drop_eq_getElem_cons (show i < l.length by omega), List.set_cons_zero, marksI_succ, List.append_assoc]
    rfl
   rw [e]
   exact ih (i + 1) (by omega) (by omega)
theorem markIntS_ev (l : List Int) (ha : l.length ≤ 140737488355328) : Ev (fun k => qn.f k l 1) (1 + (l.length : Int), marksI l.length) := by
 have := markIntS_loop l ha l.length 0 (by omega) (by omega)
 simpa [marksI, qn.f] using this
theorem heldIntS_loop (n : Nat) (hn : n ≤ 140737488355328) (d : Nat) : ∀ i : Nat, i ≤ n → n - i = d → Ev (fun k => qg.l0 k (marksI n) (1 + (i : Int)) (i : Int)) (1 + (n : Int)) := by
 induction d with
 | zero =>
  intro i hi hd
  obtain rfl : i = n := by omega
  exact Ev.step (f := fun k => _) (fun k => by rw [qg.l0]) (Ev.neg (by rw [qrA]; omega) (Ev.now _))
 | succ d ih =>
  intro i hi hd
  refine Ev.step (f := fun k => _) (fun k => by rw [qg.l0]) (Ev.pos (by rw [qrA]; omega) (Ev.pos (by omega) (Ev.pos ?_ ?_)))
  ·unfold rd
   rw [Int.toNat_natCast, List.getD_eq_getElem?_getD]
   unfold marksI
   rw [List.getElem?_map, List.getElem?_range (by omega)]
   rfl
  ·rw [show wrap64 ((i : Int) + 1) = ((i + 1 : Nat) : Int) by unfold wrap64; omega, show wrap64 (1 + (i : Int) + 1) = 1 + ((i + 1 : Nat) : Int) by unfold wrap64; omega]
   exact ih (i + 1) (by omega) (by omega)
theorem heldIntS_ev (n : Nat) (hn : n ≤ 140737488355328) : Ev (fun k => qg.f k (marksI n) 1) (1 + (n : Int)) := by
 have := heldIntS_loop n hn n 0 (by omega) (by omega)
 simpa [qg.f] using this
end Go.Proofs.YtdncpkppkafkpaaDoor
namespace Go.Proofs.YtdncpkppkafkpaaDoor.Pure
open Go.RowKit Go.Proofs.YtdncpkppkafkpaaDoor Go.Proofs.YtdncpkppkafkpaaDoor.P Go.Proofs.YtdncpkppkafkpaaDoorW.PrintWords Go.Proofs.YtdncpkppkafkpaaDoorW.PrintLast
set_option linter.unusedVariables false
set_option linter.unusedSimpArgs false
theorem fo_loop (far : List Int) (D : List Nat) (hDl : D.length ≤ 100) (hD : ∀ i ∈ D, i < far.length) : ∀ (l : List Nat) (j : Nat) (acc : List Int), D.drop j = l → acc.length ≤ j →
  Ev (fun k => qi.l0 k acc far (ints D) (D.length : Int) (j : Int)) (acc ++ l.map (fun (i : Nat) => rd far (i : Int)), true) := by
 intro l
 induction l with
 | nil =>
  intro j acc hd ha
  have hn : D.length ≤ j := by
   rcases Nat.lt_or_ge j D.length with h | h
   ·rw [List.drop_eq_getElem_cons h] at hd; cases hd
   ·exact h
  rw [List.map_nil, List.append_nil]
  refine Ev.step (f := fun k => _) (fun k => by rw [qi.l0]) ?_
  exact Ev.neg (qRC hn) (Ev.now _)
 | cons i l ih =>
  intro j acc hd ha
  have hlt : j < D.length := by
   rcases Nat.lt_or_ge j D.length with h | h
   ·exact h
   ·rw [List.drop_eq_nil_of_le h] at hd; cases hd
  rw [List.drop_eq_getElem_cons hlt] at hd
  obtain ⟨hi, hd'⟩ := List.cons.inj hd
  have hr : rd (ints D) (j : Int) = (i : Int) := by rw [rdInts D j hlt, hi]
  have w1 := qfA j (Nat.lt_of_lt_of_le hlt (Nat.le_trans hDl (by decide)))
  have a1 : (j : Int) < (D.length : Int) := Int.ofNat_lt.2 hlt
  have a3 : (j : Int) < ((ints D).length : Int) := by rw [qdA]; exact a1
  have a5 : (i : Int) < (far.length : Int) := Int.ofNat_lt.2 (hD i (hi ▸ List.getElem_mem hlt))
  have a6 : acc.length < 17592186044416 := Nat.lt_of_le_of_lt (Nat.le_trans ha (Nat.le_trans (Nat.le_of_lt hlt) hDl)) (by decide)
  have := ih (j + 1) (acc ++ [rd far (i : Int)]) hd' (by rw [List.length_append, List.length_singleton]; exact Nat.succ_le_succ ha)
  rw [List.append_assoc] at this
  refine Ev.step (f := fun k => _) (fun k => by rw [qi.l0]) ?_
  refine Ev.pos a1 (Ev.pos (Int.natCast_nonneg _) (Ev.pos a3 ?_))
  rw [hr]
  refine Ev.pos (Int.natCast_nonneg _) (Ev.pos a5 (Ev.pos a6 ?_))
  rw [w1]
  exact this
theorem both (a : ByteArray) (ha : a.size ≤ 1048576) : ∃ r : List Int × Bool, r.1.length ≤ 6 ∧ Ev (fun k => qi.f k a) r ∧ Ev (fun k => qFA.f k a) r := by
 obtain ⟨p, h1, e1, n1⟩ := neNet_ev a
 obtain ⟨q, h2, e2, n2⟩ := implNet_ev a ha
 unfold qi.f qFA.f
 cases hb : netB a with
 | false =>
  rw [hb] at e1 e2
  exact ⟨([], false), by simp, Ev.bind h1 (Ev.neg (by rw [e1]; decide) (Ev.now _)), Ev.bind h2 (Ev.neg (by rw [e2]; decide) (Ev.now _))⟩
 | true =>
  have hn := netB_is hb
  have ep := n1 hb
  have eq := n2 hb
  subst ep eq
  have hsz : (flatN a).length ≤ 100 := by
   rw [qtA hn.fit]
   exact Nat.le_trans (Nat.mul_le_mul hn.wide hn.high) (by decide)
  have hlen : (farOf a).length = (flatN a).length := by unfold farOf; rw [qhA, List.length_range]
  have hlo := fo_loop (farOf a) (placesN a) (by rw [hn.six]; decide) (fun i hi => by rw [hlen, qtA hn.fit]; exact qEB hn.fit i hi) (placesN a) 0 [] List.drop_zero (Nat.le_refl _)
  have e : (placesN a).map (fun (i : Nat) => rd (farOf a) (i : Int)) = farsOf a := by
   unfold farsOf tabU
   refine List.map_congr_left fun i hi => ?_
   have hlt : i < (flatN a).length := by rw [qtA hn.fit]; exact qEB hn.fit i hi
   unfold farOf
   rw [rdTab (γ := Unit) farG _ _ i (by rw [List.length_range]; exact hlt), List.getElem_range]
  rw [e, List.nil_append] at hlo
  refine ⟨(farsOf a, true), by unfold farsOf; rw [qhA]; exact Nat.le_of_eq hn.six, ?_, ?_⟩
  ·refine Ev.bind h1 (Ev.pos rfl (Ev.bind (specFar_ev hn.fit hn.six hn.wide hn.high) (Ev.bind (qaB _ _ (flatN a) hsz) ?_)))
   have e2 : ((ints (idxFrom 0 (flatN a))).length : Int) = ((placesN a).length : Int) := by rw [qdA]; rfl
   rw [e2]
   exact hlo
  ·exact Ev.bind h2 (Ev.pos rfl (Ev.bind (qUC hn.fit hn.six hn.wide hn.high) (Ev.now _)))
theorem FnExactFoldOrder : qK.Pure := by
 intro a _
 refine Ev.rounds (r := true) ?_
 unfold qK.f
 by_cases ha : a.size ≤ 1048576
 ·obtain ⟨r, hr, hs, hi⟩ := both a ha
  have h1 : r.1.length ≤ 140737488355328 := by omega
  refine Ev.neg (by omega) (Ev.bind hs (Ev.bind hi (Ev.bind (eqIntS_refl _ h1) (Ev.pos rfl ?_))))
  refine Ev.step (f := fun k => _) (fun k => by rw [qK.j0]) (Ev.neg (by simp) ?_)
  refine Ev.bind (markIntS_ev _ h1) (Ev.bind (heldIntS_ev _ h1) (Ev.neg (by omega) (Ev.pos rfl (Ev.bind hi (Ev.bind (eqIntS_refl _ h1) (Ev.pos rfl ?_))))))
  refine Ev.step (f := fun k => _) (fun k => by rw [qK.j1]) (Ev.neg (by simp) ?_)
  exact Ev.bind (heldIntS_ev _ h1) (Ev.neg (by omega) (Ev.pos rfl (Ev.now _)))
 ·exact Ev.pos (by omega) (Ev.now _)
end Go.Proofs.YtdncpkppkafkpaaDoor.Pure
