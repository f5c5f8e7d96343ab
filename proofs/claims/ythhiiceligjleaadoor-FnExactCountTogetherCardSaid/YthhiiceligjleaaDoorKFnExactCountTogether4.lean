/- The program's CountTogether returns what the reference's returns, for all texts and dice (the law lets longer texts and lists by). No further condition. -/
import Derived.Test.YthhiiceligjleaaDoorKFnExactCountTogether3
import Derived.KernelRfl
import Derived.ChangeArms
import Derived.ChangeSame
import Derived.Deep.Slices
import Derived.ProofKit
import Derived.OpenShut
import Derived.SizedLaws
import Derived.Test.YthhiiceligjleaaDoorProg

namespace Go.Proofs.YthhiiceligjleaaDoor
open Go.RowKit Go.Proofs.YthhiiceligjleaaDoor.P Go.Proofs.YthhiiceligjleaaDoorW.PrintWords Go.Proofs.YthhiiceligjleaaDoorW.PrintLast
set_option linter.unusedVariables false
set_option linter.unusedSimpArgs false
abbrev DD := S39
theorem qME {a b : DD} (h0 : a.f0 = b.f0) (h1 : a.f1 = b.f1) (h2 : a.f2 = b.f2) (h3 : a.f3 = b.f3) (h4 : a.f4 = b.f4) (h5 : a.f5 = b.f5) : a = b := by
 cases a; cases b; simp only at h0 h1 h2 h3 h4 h5; subst h0; subst h1; subst h2; subst h3; subst h4; subst h5; rfl
instance ddDec : DecidableEq DD := fun a b =>
 if h : a.f0 = b.f0 ∧ a.f1 = b.f1 ∧ a.f2 = b.f2 ∧ a.f3 = b.f3 ∧ a.f4 = b.f4 ∧ a.f5 = b.f5 then isTrue (qME h.1 h.2.1 h.2.2.1 h.2.2.2.1 h.2.2.2.2.1 h.2.2.2.2.2) else isFalse (fun e => h (by subst e; exact ⟨rfl, rfl, rfl, rfl, rfl, rfl⟩))
def rolD (x : DD) (d : Nat) : DD := if d = 0 then ⟨x.f3, x.f0, x.f2, x.f5, x.f4, x.f1⟩ else if d = 1 then ⟨x.f4, x.f1, x.f0, x.f3, x.f5, x.f2⟩ else if d = 2 then ⟨x.f1, x.f5, x.f2, x.f0, x.f4, x.f3⟩ else ⟨x.f2, x.f1, x.f5, x.f3, x.f0, x.f4⟩
def dirsW : ByteArray := ⟨#[110, 101, 115, 119]⟩
def dirW (d : Nat) : ByteArray := dirsW.extract d (d + 1)
theorem dirW_size (d : Nat) (h : d < 4) : (dirW d).size = 1 := by
 have : d = 0 ∨ d = 1 ∨ d = 2 ∨ d = 3 := by omega
 rcases this with rfl | rfl | rfl | rfl <;> decide +kernel
def stepsD (x : DD) (w : ByteArray) : Nat → Nat → List (Option DD × ByteArray)
 | 0, _ => []
 | n + 1, d => (some (rolD x d), w ++ dirW d) :: stepsD x w n (d + 1)
def nextD (_ : Nat) (x : DD) (w : ByteArray) : List (Option DD × ByteArray) := stepsD x w 4 0
def faceD (x : DD) (n : Int) : Int := if n = 0 then x.f0 else if n = 1 then x.f1 else if n = 2 then x.f2 else if n = 3 then x.f3 else if n = 4 then x.f4 else x.f5
def putD (x p : DD) : DD := ⟨faceD x p.f0, faceD x p.f1, faceD x p.f2, faceD x p.f3, faceD x p.f4, faceD x p.f5⟩
theorem putD_rol (x p : DD) (d : Nat) : rolD (putD x p) d = putD x (rolD p d) := by
 unfold rolD
 by_cases h0 : d = 0
 ·simp only [if_pos h0]; rfl
 by_cases h1 : d = 1
 ·simp only [if_neg h0, if_pos h1]; rfl
 by_cases h2 : d = 2
 ·simp only [if_neg h0, if_neg h1, if_pos h2]; rfl
 ·simp only [if_neg h0, if_neg h1, if_neg h2]; rfl
def plainD : DD := ⟨0, 1, 2, 3, 4, 5⟩
theorem putD_plain (x : DD) : putD x plainD = x := rfl
def runD (x : DD) : List (DD × ByteArray) := Bfs.run nextD 24 0 [(x, ⟨#[]⟩)]
def rots : List DD := (runD plainD).map Prod.fst
def rotWords : List ByteArray := (runD plainD).map Prod.snd
theorem rots_len : rots.length = 24 := by decide +kernel
theorem rots_closed : ∀ p ∈ rots, rolD p 0 ∈ rots ∧ rolD p 1 ∈ rots ∧ rolD p 2 ∈ rots ∧ rolD p 3 ∈ rots := by decide +kernel
theorem rots_plain : plainD ∈ rots := by decide +kernel
def imgs (x : DD) : List DD := rots.map (putD x)
theorem imgs_len (x : DD) : (imgs x).length = 24 := by unfold imgs; rw [List.length_map, rots_len]
theorem qZD (x : DD) : x ∈ imgs x := List.mem_map.2 ⟨plainD, rots_plain, putD_plain x⟩
theorem qwD {x y : DD} (h : y ∈ imgs x) (d : Nat) (hd : d < 4) : rolD y d ∈ imgs x := by
 obtain ⟨p, hp, rfl⟩ := List.mem_map.1 h
 rw [putD_rol]
 refine List.mem_map_of_mem ?_
 have hc := rots_closed p hp
 have : d = 0 ∨ d = 1 ∨ d = 2 ∨ d = 3 := by omega
 rcases this with rfl | rfl | rfl | rfl
 ·exact hc.1
 ·exact hc.2.1
 ·exact hc.2.2.1
 ·exact hc.2.2.2
theorem qTD (x : DD) (w : ByteArray) : ∀ (n d : Nat), d + n = 4 → ∀ s ∈ stepsD x w n d, ∃ e, e < 4 ∧ s = (some (rolD x e), w ++ dirW e)
 | 0, _, _, s, hs => by cases hs
 | n + 1, d, hd, s, hs => by
  rcases List.mem_cons.1 hs with rfl | hs
  ·exact ⟨d, by omega, rfl⟩
  ·exact qTD x w n (d + 1) (by omega) s hs
theorem mem_steps (x : DD) (w : ByteArray) (e : Nat) : ∀ (n d : Nat), d ≤ e → e < d + n → (some (rolD x e), w ++ dirW e) ∈ stepsD x w n d
 | 0, d, h1, h2 => by omega
 | n + 1, d, h1, h2 => by
  by_cases h : e = d
  ·subst h; exact List.mem_cons_self
  ·exact List.mem_cons_of_mem _ (mem_steps x w e n (d + 1) (by omega) (by omega))
structure FoundD (x : DD) (L : List (DD × ByteArray)) : Prop where
 nodup : (L.map Prod.fst).Nodup
 img : ∀ z ∈ L, z.1 ∈ imgs x
theorem FoundD.len {x : DD} {L : List (DD × ByteArray)} (h : FoundD x L) : L.length ≤ 24 := by
 have := Bfs.nodup_len (U := imgs x) h.nodup (fun y hy => by
  obtain ⟨z, hz, rfl⟩ := List.mem_map.1 hy
  exact h.img z hz)
 rwa [imgs_len, List.length_map] at this
theorem FoundD.put {x : DD} {L : List (DD × ByteArray)} (h : FoundD x L) (y : Option DD) (p : ByteArray) (hy : ∀ z, y = some z → z ∈ imgs x) : FoundD x (Bfs.put L y p) :=
 ⟨Bfs.put_nodup h.nodup y p, Bfs.put_all (Q := fun z => z.1 ∈ imgs x) h.img y p hy⟩
theorem nextD_img {x : DD} (i : Nat) (y : DD) (p : ByteArray) (h : y ∈ imgs x) : ∀ s ∈ nextD i y p, ∀ z, s.1 = some z → z ∈ imgs x := by
 intro s hs z hz
 obtain ⟨e, he, rfl⟩ := qTD y p 4 0 rfl s hs
 cases hz
 exact qwD h e he
theorem FoundD.round {x : DD} {L : List (DD × ByteArray)} (h : FoundD x L) (i : Nat) : FoundD x (Bfs.round nextD i L) :=
 ⟨Bfs.round_nodup _ h.nodup i, Bfs.round_all nextD (Q := fun z => z.1 ∈ imgs x) (fun i y p hy => nextD_img i y p hy) i h.img⟩
theorem FoundD.run {x : DD} {L : List (DD × ByteArray)} (h : FoundD x L) (n i : Nat) : FoundD x (Bfs.run nextD n i L) :=
 ⟨Bfs.run_nodup _ n i h.nodup, Bfs.run_all nextD (Q := fun z => z.1 ∈ imgs x) (fun i y p hy => nextD_img i y p hy) n i h.img⟩
theorem qYC (x : DD) : FoundD x [(x, ⟨#[]⟩)] := ⟨by simp, fun z hz => by rw [List.mem_singleton] at hz; subst hz; exact qZD x⟩
theorem qFD (x : DD) : FoundD x (runD x) := (qYC x).run 24 0
theorem runD_closed (x : DD) {y : DD} (h : y ∈ (runD x).map Prod.fst) (d : Nat) (hd : d < 4) : rolD y d ∈ (runD x).map Prod.fst := by
 obtain ⟨z, hz, rfl⟩ := List.mem_map.1 h
 obtain ⟨j, hj⟩ := List.mem_iff_getElem?.1 hz
 exact Bfs.run_closed nextD 24 0 _ 24 (fun m => ((qYC x).run m 0).len) (by omega) j (by omega) z hj _ (mem_steps z.1 z.2 d 4 0 (by omega) (by omega)) _ rfl
theorem runD_self (x : DD) : x ∈ (runD x).map Prod.fst := Bfs.qID (Bfs.qcC nextD 24 0 _) (by simp)
def rolls (x : DD) (l : List Nat) : DD := l.foldl rolD x
theorem rolls_put (x : DD) : ∀ (l : List Nat) (p : DD), rolls (putD x p) l = putD x (rolls p l)
 | [], p => rfl
 | d :: l, p => by
  show rolls (rolD (putD x p) d) l = _
  rw [putD_rol]
  exact rolls_put x l (rolD p d)
theorem rolls_mem (x : DD) : ∀ (l : List Nat), (∀ d ∈ l, d < 4) → ∀ y ∈ (runD x).map Prod.fst, rolls y l ∈ (runD x).map Prod.fst
 | [], _, y, h => h
 | d :: l, hl, y, h => rolls_mem x l (fun e he => hl e (by simp [he])) (rolD y d) (runD_closed x h d (hl d (by simp)))
def dirNum (c : UInt8) : Nat := if c = 110 then 0 else if c = 101 then 1 else if c = 115 then 2 else 3
def numsW (w : ByteArray) : List Nat := w.data.toList.map dirNum
theorem dirNum_lt (c : UInt8) : dirNum c < 4 := by
 unfold dirNum
 split
 ·omega
 ·split
  ·omega
  ·split <;> omega
theorem numsW_lt (w : ByteArray) : ∀ d ∈ numsW w, d < 4 := by
 intro d hd
 obtain ⟨c, _, rfl⟩ := List.mem_map.1 hd
 exact dirNum_lt c
theorem rots_words : rots = rotWords.map fun w => rolls plainD (numsW w) := by decide +kernel
theorem imgs_words (x : DD) : imgs x = rotWords.map fun w => rolls x (numsW w) := by
 unfold imgs
 rw [rots_words, List.map_map]
 refine List.map_congr_left fun w _ => ?_
 show putD x (rolls plainD (numsW w)) = _
 rw [← rolls_put, putD_plain]
theorem mem_run (x y : DD) : y ∈ (runD x).map Prod.fst ↔ y ∈ imgs x := by
 constructor
 ·intro h
  obtain ⟨z, hz, rfl⟩ := List.mem_map.1 h
  exact (qFD x).img z hz
 ·intro h
  rw [imgs_words] at h
  obtain ⟨w, _, rfl⟩ := List.mem_map.1 h
  exact rolls_mem x _ (numsW_lt w) x (runD_self x)
end Go.Proofs.YthhiiceligjleaaDoor
set_option linter.unusedSectionVars false
namespace Go.Proofs.YthhiiceligjleaaDoor.Cap
section
variable {α β : Type} [DecidableEq α]
def put (N : Nat) (L : List (α × β)) (y : α) (p : β) : Option (List (α × β)) := if y ∈ L.map Prod.fst then some L else if L.length = N then none else some (L ++ [(y, p)])
def puts (N : Nat) : List (α × β) → List (α × β) → Option (List (α × β))
 | L, [] => some L
 | L, s :: r => (put N L s.1 s.2).bind fun L1 => puts N L1 r
variable (N : Nat) (next : Nat → α → List (α × β))
def run : Nat → Nat → List (α × β) → Option (List (α × β))
 | 0, _, L => some L
 | n + 1, i, L => match L[i]? with
  | none => some L
  | some x => (puts N L (next i x.1)).bind (run n (i + 1))
theorem qoD {L : List (α × β)} {y : α} (h : y ∈ L.map Prod.fst) (p : β) : put N L y p = some L := if_pos h
theorem put_full {L : List (α × β)} {y : α} (h : ¬ y ∈ L.map Prod.fst) (hl : L.length = N) (p : β) : put N L y p = none := by
 unfold put; rw [if_neg h, if_pos hl]
theorem qnD {L : List (α × β)} {y : α} (h : ¬ y ∈ L.map Prod.fst) (hl : L.length ≠ N) (p : β) : put N L y p = some (L ++ [(y, p)]) := by
 unfold put; rw [if_neg h, if_neg hl]
theorem run_end {n i : Nat} {L : List (α × β)} (h : L.length ≤ i) : run N next n i L = some L := by
 cases n with
 | zero => rfl
 | succ n => unfold run; rw [List.getElem?_eq_none h]
theorem run_step {n i : Nat} {L : List (α × β)} (h : i < L.length) : run N next (n + 1) i L = (puts N L (next i L[i].1)).bind (run N next n (i + 1)) := by
 rw [run, List.getElem?_eq_getElem h]
end
end Go.Proofs.YthhiiceligjleaaDoor.Cap
namespace Go.Proofs.YthhiiceligjleaaDoor
open Go.RowKit Go.Proofs.YthhiiceligjleaaDoor.P Go.Proofs.YthhiiceligjleaaDoorW.PrintWords Go.Proofs.YthhiiceligjleaaDoorW.PrintLast
set_option linter.unusedVariables false
set_option linter.unusedSimpArgs false
theorem qQE {a b : XS} (h0 : a.f0 = b.f0) (h1 : a.f1 = b.f1) (h2 : a.f2 = b.f2) : a = b := by
 cases a; cases b; simp only at h0 h1 h2; subst h0; subst h1; subst h2; rfl
instance xsDec : DecidableEq XS := fun a b =>
 if h : a.f0 = b.f0 ∧ a.f1 = b.f1 ∧ a.f2 = b.f2 then isTrue (qQE h.1 h.2.1 h.2.2) else isFalse (fun e => h (by subst e; exact ⟨rfl, rfl, rfl⟩))
def mp1 (a : ByteArray) (l : List XS) (k i : Nat) : List (Nat × Nat) := if (moveB a l k (i : Int)).2 = true then [(k, i)] else []
def mpK (a : ByteArray) (l : List XS) (k : Nat) : List (Nat × Nat) := mp1 a l k 0 ++ (mp1 a l k 1 ++ (mp1 a l k 2 ++ mp1 a l k 3))
def mps (a : ByteArray) (l : List XS) : Nat → Nat → List (Nat × Nat)
 | _, 0 => []
 | k, d + 1 => mpK a l k ++ mps a l (k + 1) d
theorem mv1_mp (a : ByteArray) (l : List XS) (k i : Nat) : mv1 a l k i = (mp1 a l k i).map fun p => signN p.1 p.2 := by
 unfold mv1 mp1; split <;> rfl
theorem qRE (a : ByteArray) (l : List XS) (d : Nat) : ∀ k, mvs a l k d = (mps a l k d).map fun p => signN p.1 p.2 := by
 induction d with
 | zero => intro k; rfl
 | succ d ih =>
  intro k
  unfold mvs mps mvK mpK
  simp only [List.map_append, mv1_mp, ih]
theorem mp1_mem {a : ByteArray} {l : List XS} {k i : Nat} {p : Nat × Nat} (h : p ∈ mp1 a l k i) : p = (k, i) ∧ (moveB a l k (i : Int)).2 = true := by
 unfold mp1 at h
 split at h
 ·rename_i hm
  rw [List.mem_singleton] at h
  exact ⟨h, hm⟩
 ·cases h
theorem mpK_mem {a : ByteArray} {l : List XS} {k : Nat} {p : Nat × Nat} (h : p ∈ mpK a l k) : p.1 = k ∧ p.2 < 4 ∧ (moveB a l p.1 (p.2 : Int)).2 = true := by
 unfold mpK at h
 simp only [List.mem_append] at h
 rcases h with h | h | h | h <;> (obtain ⟨rfl, h2⟩ := mp1_mem h; exact ⟨rfl, by show _ < 4; omega, h2⟩)
theorem mps_mem {a : ByteArray} {l : List XS} {p : Nat × Nat} (d : Nat) : ∀ k, p ∈ mps a l k d → k ≤ p.1 ∧ p.1 < k + d ∧ p.2 < 4 ∧ (moveB a l p.1 (p.2 : Int)).2 = true := by
 induction d with
 | zero => intro k h; cases h
 | succ d ih =>
  intro k h
  unfold mps at h
  rcases List.mem_append.1 h with h | h
  ·obtain ⟨h1, h2, h3⟩ := mpK_mem h
   exact ⟨by omega, by omega, h2, h3⟩
  ·obtain ⟨h1, h2, h3⟩ := ih (k + 1) h
   exact ⟨by omega, by omega, h3⟩
theorem mpK_self (a : ByteArray) (l : List XS) (k d : Nat) (hd : d < 4) (hm : (moveB a l k (d : Int)).2 = true) : (k, d) ∈ mpK a l k := by
 have h1 : (k, d) ∈ mp1 a l k d := by unfold mp1; rw [if_pos hm]; exact List.mem_singleton.2 rfl
 unfold mpK
 simp only [List.mem_append]
 have : d = 0 ∨ d = 1 ∨ d = 2 ∨ d = 3 := by omega
 rcases this with rfl | rfl | rfl | rfl
 ·exact .inl h1
 ·exact .inr (.inl h1)
 ·exact .inr (.inr (.inl h1))
 ·exact .inr (.inr (.inr h1))
theorem mps_all (a : ByteArray) (l : List XS) (k d : Nat) (hd : d < 4) (hm : (moveB a l k (d : Int)).2 = true) : ∀ (r j : Nat), j ≤ k → k < j + r → (k, d) ∈ mps a l j r
 | 0, j, h1, h2 => by omega
 | r + 1, j, h1, h2 => by
  unfold mps
  by_cases e : j = k
  ·subst e
   exact List.mem_append_left _ (mpK_self a l j d hd hm)
  ·exact List.mem_append_right _ (mps_all a l k d hd hm r (j + 1) (by omega) (by omega))
theorem mps_self (a : ByteArray) (l : List XS) (k d : Nat) (hk : k < l.length) (hd : d < 4) (hm : (moveB a l k (d : Int)).2 = true) : (k, d) ∈ mps a l 0 l.length :=
 mps_all a l k d hd hm l.length 0 (Nat.zero_le _) (by omega)
abbrev PN := List XS × (Int × ByteArray)
def nextP (a : ByteArray) (i : Nat) (l : List XS) : List PN := (mps a l 0 l.length).map fun p => ((moveB a l p.1 (p.2 : Int)).1, ((i : Int), signN p.1 p.2))
def allP (a : ByteArray) (l : List XS) : Option (List PN) := Cap.run 6000 (nextP a) 6000 0 [(l, (-1, (⟨#[]⟩ : ByteArray)))]
def plansB (a : ByteArray) (l : List XS) : Option (List PN) := if askD a l = true ∧ l.length ≤ 2 then allP a l else none
def kinS (a : ByteArray) (s t : XS) : Prop := stateB a t = true ∧ t.f2 ∈ imgs s.f2
def kinD (a : ByteArray) (l m : List XS) : Prop := m.length = l.length ∧ ∀ (k : Nat) (s t : XS), l[k]? = some s → m[k]? = some t → kinS a s t
theorem rollD_rolD (x : DD) (d : Nat) (h : d < 4) : rollD x (d : Int) = rolD x d := by
 have : d = 0 ∨ d = 1 ∨ d = 2 ∨ d = 3 := by omega
 rcases this with rfl | rfl | rfl | rfl <;> rfl
theorem rolD_good {x : DD} (h : dieB x.f0 x.f1 x.f2 x.f3 x.f4 x.f5 = true) (d : Nat) : dieB (rolD x d).f0 (rolD x d).f1 (rolD x d).f2 (rolD x d).f3 (rolD x d).f4 (rolD x d).f5 = true := by
 unfold dieB at h ⊢
 simp only [List.all_cons, List.all_nil, Bool.and_true, Bool.and_eq_true] at h ⊢
 unfold rolD
 by_cases h0 : d = 0
 ·simp only [if_pos h0]; simp only [h, and_self]
 by_cases h1 : d = 1
 ·simp only [if_neg h0, if_pos h1]; simp only [h, and_self]
 by_cases h2 : d = 2
 ·simp only [if_neg h0, if_neg h1, if_pos h2]; simp only [h, and_self]
 ·simp only [if_neg h0, if_neg h1, if_neg h2]; simp only [h, and_self]
theorem qXD {a : ByteArray} {l : List XS} (h : askD a l = true) : kinD a l l := ⟨rfl, fun k s t hs ht => by
 rw [hs] at ht
 cases ht
 exact ⟨askD_state h s (List.mem_of_getElem? hs), qZD _⟩⟩
theorem kinD_move {a : ByteArray} {l m : List XS} (h : kinD a l m) (k d : Nat) (hd : d < 4) (hm : (moveB a m k (d : Int)).2 = true) : kinD a l (moveB a m k (d : Int)).1 := by
 refine ⟨(moveB_len hm).trans h.1, fun j s t hs ht => ?_⟩
 unfold moveB at hm ht
 split at hm
 case isFalse => cases hm
 rename_i hk
 rw [dif_pos hk] at ht
 split at hm
 case isFalse => cases hm
 rename_i hc
 rw [if_pos hc] at ht
 simp only [List.getElem?_set] at ht
 split at ht
 ·rename_i hkj
  subst hkj
  injection ht with ht
  subst ht
  obtain ⟨h1, h2⟩ := h.2 k s m[k] hs (List.getElem?_eq_getElem hk)
  have e : (rollS m[k] (d : Int)).f2 = rolD m[k].f2 d := rollD_rolD _ d hd
  refine ⟨?_, by rw [e]; exact qwD h2 d hd⟩
  unfold stateB at h1 ⊢
  rw [Bool.and_eq_true] at h1 ⊢
  rw [e]
  exact ⟨hc.1, rolD_good h1.2 d⟩
 ·exact h.2 j s t hs ht
theorem qWD {a : ByteArray} {l m : List XS} (h : kinD a l m) (i : Nat) {s : PN} (hs : s ∈ nextP a i m) : kinD a l s.1 := by
 unfold nextP at hs
 obtain ⟨p, hp, rfl⟩ := List.mem_map.1 hs
 obtain ⟨_, _, h2, h3⟩ := mps_mem _ _ hp
 exact kinD_move h p.1 p.2 h2 h3
structure AllOk (a : ByteArray) (l : List XS) (L : List PN) : Prop where
 kin : ∀ x ∈ L, kinD a l x.1
 len : L.length ≤ 6000
 pos : 1 ≤ L.length
 fst : ∀ x, L[0]? = some x → x.2.1 = -1
 bef : ∀ (j : Nat) (x : PN), 0 < j → L[j]? = some x → 0 ≤ x.2.1 ∧ x.2.1 < (j : Int)
 sgn : ∀ x ∈ L, x.2.2.size ≤ 2
theorem AllOk.start {a : ByteArray} {l : List XS} (h : askD a l = true) : AllOk a l [(l, (-1, (⟨#[]⟩ : ByteArray)))] := by
 refine ⟨fun x hx => ?_, by simp, by simp, fun x hx => ?_, fun j x hj hx => ?_, fun x hx => ?_⟩
 ·rw [List.mem_singleton] at hx; subst hx; exact qXD h
 ·simp at hx; subst hx; rfl
 ·have := (List.getElem?_eq_some_iff.1 hx).1
  simp at this; omega
 ·rw [List.mem_singleton] at hx; subst hx; show (ByteArray.size ⟨#[]⟩) ≤ 2; decide
theorem AllOk.add {a : ByteArray} {l : List XS} {L : List PN} (h : AllOk a l L) {i : Nat} {x : PN} (hx : L[i]? = some x) {s : PN} (hs : s ∈ nextP a i x.1) (hn : L.length ≠ 6000) : AllOk a l (L ++ [s]) := by
 have hi := (List.getElem?_eq_some_iff.1 hx).1
 have hl := h.len
 have hp := h.pos
 have hs' := hs
 unfold nextP at hs'
 obtain ⟨p, hp', e⟩ := List.mem_map.1 hs'
 refine ⟨fun y hy => ?_, ?_, ?_, fun y hy => ?_, fun j y hj hy => ?_, fun y hy => ?_⟩
 ·rcases List.mem_append.1 hy with hy | hy
  ·exact h.kin y hy
  ·rw [List.mem_singleton] at hy; subst hy; exact qWD (h.kin x (List.mem_of_getElem? hx)) i hs
 ·simp only [List.length_append, List.length_singleton]; omega
 ·simp only [List.length_append, List.length_singleton]; omega
 ·rw [List.getElem?_append_left (by omega)] at hy; exact h.fst y hy
 ·rcases Nat.lt_or_ge j L.length with hj' | hj'
  ·rw [List.getElem?_append_left hj'] at hy; exact h.bef j y hj hy
  ·have := (List.getElem?_eq_some_iff.1 hy).1
   simp only [List.length_append, List.length_singleton] at this
   have hjj : j = L.length := by omega
   subst hjj
   rw [List.getElem?_append_right (Nat.le_refl _), Nat.sub_self] at hy
   injection hy with hy
   subst hy
   rw [← e]
   exact ⟨by simp, by simp only; omega⟩
 ·rcases List.mem_append.1 hy with hy | hy
  ·exact h.sgn y hy
  ·rw [List.mem_singleton] at hy; subst hy; rw [← e]; exact Nat.le_of_eq (sign_size _ _)
theorem sign_dir (k i : Nat) (hk : k < 3) (hi : i < 4) : bt (signN k i) 1 = bt dirsT (i : Int) := by
 have h1 : i = 0 ∨ i = 1 ∨ i = 2 ∨ i = 3 := by omega
 have h2 : k = 0 ∨ k = 1 ∨ k = 2 := by omega
 rcases h2 with rfl | rfl | rfl <;> rcases h1 with rfl | rfl | rfl | rfl <;> decide +kernel
theorem move_sign {a : ByteArray} (g : Gnd a) (l : List XS) (hl : l.length ≤ 3) (k i : Nat) (hk : k < l.length) (hi : i < 4) :
  qTA.f (rowsT a) l ((bt (signN k i) 0 - 48) % 256) (bt (signN k i) 1) = some (moveB a l k (i : Int)) := by
 rw [qlD k i (by omega) hi, sign_dir k i (by omega) hi, implMove_eq g l (by omega) k, dOf_bt i hi]
end Go.Proofs.YthhiiceligjleaaDoor
namespace Go.Proofs.YthhiiceligjleaaDoor
open Go Go.ChangeMaps Go.RowKit Go.Proofs.YthhiiceligjleaaDoor.P Go.Proofs.YthhiiceligjleaaDoorW.PrintWords Go.Proofs.YthhiiceligjleaaDoorW.PrintLast
set_option linter.unusedVariables false
set_option linter.unusedSimpArgs false
def okN (zs : List Int) : Prop := zs.length = 16 ∧ ∀ n ∈ zs, (Lit.int .i64 n).wf = true
def litN (zs : List Int) : Lit := .string (keyBytes (zs.map (Lit.int .i64)))
def encN (zs : List Int) : Value := .agg (kyC zs)
theorem encN_inj (x y : List Int) (h : encN x = encN y) : x = y := by
 unfold encN kyC at h
 simp only [Value.agg.injEq] at h
 have := congrArg Array.toList h
 simp only at this
 exact (List.map_inj_right (fun a b e => by injection e)).1 this
theorem laidOutP : laidOutB Tryd.prog = true := by kernel_rfl
theorem keyedN : Go.Maps.Keyed Tryd.prog 71 := Go.Maps.Keyed.of_law (deep_law_laid laidOutP (m := 5) (by decide) (of_decide_eq_true (by kernel_rfl)) (by kernel_rfl) (by kernel_rfl))
theorem qnB (d : Nat) (n : Int) (h : (Lit.int .i64 n).wf = true) : Tryd.prog.keyLits (d + 1) 3 [.int .i64 n] = some [.int .i64 n] := by
 unfold Program.keyLits
 rw [Tryd.underlying3]
 simp only [h, and_self, if_true]
theorem list_of_6n : ∀ zs : List Int, zs.length = 6 → ∃ x0 x1 x2 x3 x4 x5 : Int, zs = [x0, x1, x2, x3, x4, x5]
 | [x0, x1, x2, x3, x4, x5], _ => ⟨x0, x1, x2, x3, x4, x5, rfl⟩
theorem list_of_8n : ∀ zs : List Int, zs.length = 8 → ∃ x0 x1 x2 x3 x4 x5 x6 x7 : Int, zs = [x0, x1, x2, x3, x4, x5, x6, x7]
 | [x0, x1, x2, x3, x4, x5, x6, x7], _ => ⟨x0, x1, x2, x3, x4, x5, x6, x7, rfl⟩
theorem litsN_die (d : Nat) (zs : List Int) (h6 : zs.length = 6) (h : ∀ n ∈ zs, (Lit.int .i64 n).wf = true) : Tryd.prog.keyLits (d + 2) 39 (zs.map (Value.int .i64)) = some (zs.map (Lit.int .i64)) := by
 obtain ⟨x0, x1, x2, x3, x4, x5, rfl⟩ := list_of_6n zs h6
 have h0 := h x0 (by simp)
 have h1 := h x1 (by simp)
 have h2 := h x2 (by simp)
 have h3 := h x3 (by simp)
 have h4 := h x4 (by simp)
 have h5 := h x5 (by simp)
 clear h
 have hc : Tryd.prog.cellsOf 39 = 6 := by kernel_rfl
 have hc3 : Tryd.prog.cellsOf 3 = 1 := by kernel_rfl
 unfold Program.keyLits
 rw [Tryd.underlying39]
 simp [hc, hc3, List.mapM_cons, List.mapM_nil, qnB d x0 h0, qnB d x1 h1, qnB d x2 h2, qnB d x3 h3, qnB d x4 h4, qnB d x5 h5]
theorem litsN_state (d : Nat) (zs : List Int) (h8 : zs.length = 8) (h : ∀ n ∈ zs, (Lit.int .i64 n).wf = true) : Tryd.prog.keyLits (d + 3) 41 (zs.map (Value.int .i64)) = some (zs.map (Lit.int .i64)) := by
 obtain ⟨y0, y1, x0, x1, x2, x3, x4, x5, rfl⟩ := list_of_8n zs h8
 have h0 := h y0 (by simp)
 have h1 := h y1 (by simp)
 have hd := litsN_die d [x0, x1, x2, x3, x4, x5] rfl (fun n hn => h n (by simp only [List.mem_cons, List.not_mem_nil, or_false] at hn ⊢; exact .inr (.inr hn)))
 clear h
 have hc : Tryd.prog.cellsOf 39 = 6 := by kernel_rfl
 have hc8 : Tryd.prog.cellsOf 41 = 8 := by kernel_rfl
 have hc3 : Tryd.prog.cellsOf 3 = 1 := by kernel_rfl
 unfold Program.keyLits
 rw [Tryd.underlying41]
 simp only [List.map_cons, List.map_nil] at hd
 simp [hc, hc3, hc8, List.mapM_cons, List.mapM_nil, qnB (d + 1) y0 h0, qnB (d + 1) y1 h1, hd]
theorem keyN (zs : List Int) (h : okN zs) : keyOf Tryd.prog 71 (encN zs) = some (litN zs) := by
 obtain ⟨h16, hw⟩ := h
 have hc16 : Tryd.prog.cellsOf 71 = 16 := by kernel_rfl
 have hc8 : Tryd.prog.cellsOf 41 = 8 := by kernel_rfl
 have hk : Tryd.prog.keyType 71 = true := by kernel_rfl
 have hf : (encN zs).formed Tryd.prog 71 = true := by
  unfold encN Value.formed
  rw [Tryd.underlying71]
  simp [hc16, kyC, h16]
 obtain ⟨m, hm⟩ : ∃ m, Tryd.prog.types.size = m + 3 := ⟨Tryd.prog.types.size - 3, by have : 3 ≤ Tryd.prog.types.size := of_decide_eq_true (by kernel_rfl); omega⟩
 have ha := litsN_state m (zs.take 8) (by rw [List.length_take]; omega) (fun n hn => hw n (List.mem_of_mem_take hn))
 have hb := litsN_state m (zs.drop 8) (by rw [List.length_drop]; omega) (fun n hn => hw n (List.mem_of_mem_drop hn))
 have hl : Tryd.prog.keyLits (Tryd.prog.types.size + 1) 71 (zs.map (Value.int .i64)) = some (zs.map (Lit.int .i64)) := by
  unfold Program.keyLits
  rw [Tryd.underlying71, hm]
  have e : List.range 2 = [0, 1] := by decide
  have e2 : ((zs.map (Value.int .i64)).drop 8).take 8 = (zs.drop 8).map (Value.int .i64) := by
   rw [← List.map_drop, List.take_of_length_le (by rw [List.length_map, List.length_drop]; omega)]
  simp only [hc16, hc8, List.length_map, h16, if_true, e, List.mapM_cons, List.mapM_nil, Nat.zero_mul, List.drop_zero, Nat.one_mul, ← List.map_take, ha]
  rw [← List.map_drop, ← List.map_take, List.take_of_length_le (l := zs.drop 8) (by rw [List.length_drop]; omega), hb]
  simp [← List.map_append]
 unfold keyOf
 rw [Tryd.underlying71]
 simp only [hk, hf, Bool.and_self, if_true]
 show (Tryd.prog.keyLits (Tryd.prog.types.size + 1) 71 (kyC zs).toList).map _ = _
 rw [show (kyC zs).toList = zs.map (Value.int .i64) from rfl, hl]
 rfl
noncomputable def mapK : MapKit Tryd.prog (List Int) Bool where
 t := 70
 k := 71
 e := 4
 law := keyedN
 ht := Tryd.underlying70
 okK := okN
 key := encN
 lit := litN
 hkey := keyN
 inj := encN_inj
 okV := fun _ => True
 val := .bool
 dat := fun v => .lit (.bool v)
 R := plainElem Tryd.prog 4
 hval := (elem_bool Tryd.underlying4).1
 hdat := (elem_bool Tryd.underlying4).2
 zero := false
 okz := trivial
 hz := Tryd.zeroValue4
def metP (L : List PN) : List (List Int × Bool) := (L.map fun x => (keyL x.1, true)).reverse
theorem metP_append (L : List PN) (s : PN) : metP (L ++ [s]) = (keyL s.1, true) :: metP L := by simp [metP]
theorem metP_len (L : List PN) : (metP L).length = L.length := by simp [metP]
theorem numsX_inj {x y : XS} (h : numsX x = numsX y) : x = y := by
 unfold numsX at h
 simp only [List.cons.injEq, and_true] at h
 obtain ⟨h0, h1, h2, h3, h4, h5, h6, h7⟩ := h
 exact qQE h0 h1 (qME h2 h3 h4 h5 h6 h7)
theorem flatS_inj : ∀ {l m : List XS}, l.length = m.length → flatS l = flatS m → l = m
 | [], [], _, _ => rfl
 | [], _ :: _, h, _ => by simp at h
 | _ :: _, [], h, _ => by simp at h
 | x :: l, y :: m, h, e => by
  unfold flatS at e
  rw [List.flatMap_cons, List.flatMap_cons] at e
  have := List.append_inj e (by rw [qKC, qKC])
  rw [numsX_inj this.1, flatS_inj (by simpa using h) this.2]
theorem keyL_inj {l m : List XS} (h : l.length = m.length) (e : keyL l = keyL m) : l = m := by
 unfold keyL at e
 exact flatS_inj h (List.append_inj e (by rw [qXB, qXB, h])).1
theorem look_metP (L : List PN) (m : List XS) (hL : ∀ x ∈ L, x.1.length = m.length) : mapK.look (metP L) (keyL m) = decide (m ∈ L.map Prod.fst) := by
 unfold MapKit.look
 by_cases h : m ∈ L.map Prod.fst
 ·rw [decide_eq_true h]
  obtain ⟨z, hz, rfl⟩ := List.mem_map.1 h
  cases hf : (metP L).find? (fun y => decide (y.1 = keyL z.1)) with
  | none =>
   rw [List.find?_eq_none] at hf
   have := hf (keyL z.1, true) (by unfold metP; rw [List.mem_reverse]; exact List.mem_map.2 ⟨z, hz, rfl⟩)
   simp at this
  | some y =>
   have hm := List.mem_of_find?_eq_some hf
   unfold metP at hm
   rw [List.mem_reverse] at hm
   obtain ⟨u, _, rfl⟩ := List.mem_map.1 hm
   rfl
 ·rw [decide_eq_false h]
  cases hf : (metP L).find? (fun y => decide (y.1 = keyL m)) with
  | none => rfl
  | some y =>
   have hm := List.mem_of_find?_eq_some hf
   have hy := List.find?_some hf
   unfold metP at hm
   rw [List.mem_reverse] at hm
   obtain ⟨u, hu, rfl⟩ := List.mem_map.1 hm
   simp only [decide_eq_true_eq] at hy
   exact absurd ((keyL_inj (hL u hu) hy) ▸ List.mem_map_of_mem hu) h
theorem wf_of_small {n : Int} (h0 : -1000 ≤ n) (h1 : n ≤ 1000) : (Lit.int .i64 n).wf = true := by
 unfold Lit.wf
 simp only [Bool.and_eq_true, decide_eq_true_eq]
 exact ⟨by show (-9223372036854775808 : Int) ≤ n; omega, by show n ≤ (9223372036854775807 : Int); omega⟩
theorem state_small {a : ByteArray} (g : Gnd a) {s : XS} (h : stateB a s = true) : ∀ n ∈ numsX s, -1000 ≤ n ∧ n ≤ 1000 := by
 unfold stateB floorB at h
 simp only [Bool.and_eq_true] at h
 obtain ⟨⟨h1, _⟩, h2⟩ := h
 have hh := (qND a s.f0 s.f1).1 h1
 have hd := dieB_face h2
 have hw7 := g.w7
 have hh7 := g.h7
 intro n hn
 unfold numsX at hn
 simp only [List.mem_cons, List.not_mem_nil, or_false] at hn
 rcases hn with rfl | rfl | hn
 ·omega
 ·omega
 ·have := hd n (by simp only [List.mem_cons, List.not_mem_nil, or_false]; exact hn)
  omega
theorem keyL_ok {a : ByteArray} (g : Gnd a) {l m : List XS} (h : kinD a l m) (hl : l.length ≤ 2) : okN (keyL m) := by
 refine ⟨qgC m (by rw [h.1]; exact hl), fun n hn => ?_⟩
 unfold keyL at hn
 rcases List.mem_append.1 hn with hn | hn
 ·unfold flatS at hn
  obtain ⟨t, ht, hn⟩ := List.mem_flatMap.1 hn
  obtain ⟨k, hk⟩ := List.mem_iff_getElem?.1 ht
  have hkl := (List.getElem?_eq_some_iff.1 hk).1
  rw [h.1] at hkl
  have := (h.2 k _ t (List.getElem?_eq_getElem hkl) hk).1
  obtain ⟨h1, h2⟩ := state_small g this n hn
  exact wf_of_small h1 h2
 ·rw [List.eq_of_mem_replicate hn]
  exact wf_of_small (by omega) (by omega)
def plK (w : World) : Kd (List XS) := Kd.mix 41 k41 k41 w
theorem qDE (w : World) {e t : Nat} (h1 : e ≠ t) (h2 : 41 ≠ t) : ∀ q, q ∈ e :: (plK w).E → q ≠ t := by
 intro q hq
 rw [show e :: (plK w).E = [e, 41] from rfl] at hq
 simp only [List.mem_cons, List.not_mem_nil, or_false] at hq
 rcases hq with rfl | rfl
 ·exact h1
 ·exact h2
theorem plK_C {w0 w : World} (hb : Below w0.heap.size w0 w) {A : Option Addr} {n : Nat} {L : List (List XS)} (h : (plK w0).C w A n L) : Kd.C (Kd.slice 41 k41) w A n L :=
 Kd.C_read (d := Kd.slice 41 k41) (dm := plK w0) rfl (fun x cs hk => by
  obtain ⟨A, c, rfl, hl, hC⟩ := Kd.mix_read (w0 := w0) rfl (fun _ _ hk => hk) hb hk
  exact ⟨A, c, rfl, hl, hC⟩) h
theorem at_row {w : World} {ad : Addr} {n : Nat} {L : List (List XS)} (h : Kd.C (Kd.slice 41 k41) w (some ad) n L) (i : Nat) (hi : i < L.length) :
  ∃ A c, w.cell? (ad.add i) = some (.slice A L[i].length c) ∧ L[i].length ≤ c ∧ Kd.C k41 w A L[i].length L[i] := by
 obtain ⟨ad', e, hc⟩ := h.2.2 (by have := h.1; omega)
 injection e with e
 subst e
 obtain ⟨c, hcl, ⟨A, cc, rfl, hl, hC⟩, hcell⟩ := hc i _ (List.getElem?_eq_getElem hi)
 have h1 := hcell 0 _ rfl
 rw [show (Kd.slice 41 k41).sz = 1 from rfl, Nat.mul_one, Nat.add_zero] at h1
 exact ⟨A, cc, h1, hl, hC⟩
structure PlO (a : ByteArray) (l : List XS) (L : List PN) (i : Nat) (R : Option (List PN)) : Prop where
 ok : AllOk a l L
 le : i ≤ L.length
 fin : Cap.run 6000 (nextP a) (6000 - i) i L = R
structure PlN (a : ByteArray) (l : List XS) (L : List PN) (i j : Nat) (x : List XS) (R : Option (List PN)) : Prop where
 ok : AllOk a l L
 at_ : ∃ p, L[i]? = some (x, p)
 fin : (Cap.puts 6000 L ((nextP a i x).drop j)).bind (Cap.run 6000 (nextP a) (6000 - (i + 1)) (i + 1)) = R
section
variable {a : ByteArray} {l x : List XS} {L : List PN} {i j : Nat} {R : Option (List PN)}
theorem PlO.start (h : askD a l = true) (h2 : l.length ≤ 2) : PlO a l [(l, (-1, (⟨#[]⟩ : ByteArray)))] 0 (plansB a l) :=
 ⟨AllOk.start h, by simp, by unfold plansB; rw [if_pos ⟨h, h2⟩]; rfl⟩
theorem PlO.inner (h : PlO a l L i R) (hi : i < L.length) : PlN a l L i 0 L[i].1 R := by
 refine ⟨h.ok, ⟨L[i].2, List.getElem?_eq_getElem hi⟩, ?_⟩
 have hf := h.fin
 have := h.ok.len
 rw [show 6000 - i = (6000 - (i + 1)) + 1 by omega, Cap.run_step 6000 (nextP a) hi] at hf
 rw [List.drop_zero]
 exact hf
theorem PlO.done (h : PlO a l L i R) (hi : ¬ i < L.length) : R = some L := by
 have hf := h.fin
 rw [Cap.run_end 6000 (nextP a) (by omega)] at hf
 exact hf.symm
theorem PlN.outer (h : PlN a l L i j x R) (hj : (nextP a i x).length ≤ j) : PlO a l L (i + 1) R := by
 obtain ⟨p, hp⟩ := h.at_
 have hi := (List.getElem?_eq_some_iff.1 hp).1
 refine ⟨h.ok, by omega, ?_⟩
 have hf := h.fin
 rw [List.drop_eq_nil_of_le hj, Cap.puts, Option.bind_some] at hf
 exact hf
theorem PlN.met (h : PlN a l L i j x R) {s : PN} (hs : (nextP a i x)[j]? = some s) (hm : s.1 ∈ L.map Prod.fst) : PlN a l L i (j + 1) x R := by
 refine ⟨h.ok, h.at_, ?_⟩
 obtain ⟨hj, e⟩ := List.getElem?_eq_some_iff.1 hs
 have hf := h.fin
 rw [List.drop_eq_getElem_cons hj, e, Cap.puts, Cap.qoD 6000 hm, Option.bind_some] at hf
 exact hf
theorem PlN.full (h : PlN a l L i j x R) {s : PN} (hs : (nextP a i x)[j]? = some s) (hm : ¬ s.1 ∈ L.map Prod.fst) (hn : L.length = 6000) : R = none := by
 obtain ⟨hj, e⟩ := List.getElem?_eq_some_iff.1 hs
 have hf := h.fin
 rw [List.drop_eq_getElem_cons hj, e, Cap.puts, Cap.put_full 6000 hm hn, Option.bind_none, Option.bind_none] at hf
 exact hf.symm
theorem PlN.new (h : PlN a l L i j x R) {s : PN} (hs : (nextP a i x)[j]? = some s) (hm : ¬ s.1 ∈ L.map Prod.fst) (hn : L.length ≠ 6000) : PlN a l (L ++ [s]) i (j + 1) x R := by
 obtain ⟨hj, e⟩ := List.getElem?_eq_some_iff.1 hs
 obtain ⟨p, hp⟩ := h.at_
 refine ⟨h.ok.add hp (List.mem_of_getElem? hs) hn, ⟨p, ?_⟩, ?_⟩
 ·rw [List.getElem?_append_left (List.getElem?_eq_some_iff.1 hp).1]; exact hp
 ·have hf := h.fin
  rw [List.drop_eq_getElem_cons hj, e, Cap.puts, Cap.qnD 6000 hm hn, Option.bind_some] at hf
  exact hf
theorem PlN.kin (h : PlN a l L i j x R) : kinD a l x := by
 obtain ⟨p, hp⟩ := h.at_
 exact h.ok.kin _ (List.mem_of_getElem? hp)
theorem PlN.lens (h : PlN a l L i j x R) {s : PN} (hs : (nextP a i x)[j]? = some s) : ∀ y ∈ L, y.1.length = s.1.length := fun y hy =>
 (h.ok.kin y hy).1.trans (qWD h.kin i (List.mem_of_getElem? hs)).1.symm
end
end Go.Proofs.YthhiiceligjleaaDoor
namespace Go.Proofs.YthhiiceligjleaaDoor
open Go.RowKit Go.Proofs.YthhiiceligjleaaDoor.P Go.Proofs.YthhiiceligjleaaDoorW.PrintWords Go.Proofs.YthhiiceligjleaaDoorW.PrintLast Go.Proofs.YthhiiceligjleaaDoorW.PrintMore
set_option linter.unusedVariables false
set_option linter.unusedSimpArgs false
theorem plLit0 {α : Type} {d : Kd α} {e base : Nat} {ok : Nat → Prop} {W w1 : World} {u : Value} {xs : List α} (h : d.R e W base ok u xs) (hg : W.grownBy w1 none) : d.R e w1 base ok u xs :=
 Kd.qZ (Kd.qjD (Kd.qhB h) (fun k hk hlt => hg.block k hlt (by simp))) (fun _ hk => hk.1)
def PlansAt (w' : World) (v : Value) (L : List PN) : Prop := ∃ (g : Nat) (A0 A1 A2 : Option Addr) (c0 c1 c2 : Nat), v = .pointer (some ⟨g, 0, none⟩) ∧
 w'.heap[g]? = some (.cells #[.slice A0 (L.map Prod.fst).length c0, .slice A1 (L.map fun x => x.2.1).length c1, .slice A2 (L.map fun x => x.2.2).length c2] 53 (0, 0)) ∧
 Kd.C (Kd.slice 41 k41) w' A0 (L.map Prod.fst).length (L.map Prod.fst) ∧ Kd.C (Kd.int .i64) w' A1 (L.map fun x => x.2.1).length (L.map fun x => x.2.1) ∧ Kd.C Kd.string w' A2 (L.map fun x => x.2.2).length (L.map fun x => x.2.2)
theorem plInfo : (Tryd.prog.info? 26).map (fun i => (i.zero, i.size, i.bytes)) = some (some (.slice none 0 0), 1, 24) := by kernel_rfl
theorem plIx (s : ByteArray) (i : Nat) (n : Int) (hn : bt s (i : Int) = n) : ∀ h : i < s.size, ((s[i]'h).toNat : Int) = n := by
 intro h
 rw [← hn]
 unfold bt
 rw [dif_pos (by simpa using h)]
 simp only [Int.toNat_natCast]
theorem plStep (a : ByteArray) (x : List XS) (i j : Nat) (hj : j < (mvs a x 0 x.length).length) : ∃ k d : Nat, k < x.length ∧ d < 4 ∧ (nextP a i x)[j]? = some ((moveB a x k (d : Int)).1, ((i : Int), signN k d)) ∧ (mvs a x 0 x.length)[j]? = some (signN k d) ∧ (moveB a x k (d : Int)).2 = true := by
 rw [qRE, List.length_map] at hj
 have hm := List.getElem_mem hj
 obtain ⟨_, h1, h2, h3⟩ := mps_mem _ _ hm
 refine ⟨(mps a x 0 x.length)[j].1, (mps a x 0 x.length)[j].2, by omega, h2, ?_, ?_, h3⟩
 ·unfold nextP
  rw [List.getElem?_map, List.getElem?_eq_getElem hj]; rfl
 ·rw [qRE, List.getElem?_map, List.getElem?_eq_getElem hj]; rfl
def plT13 : Bool × List (List Nat × List Nat) := (true, [([], []), ([], []), ([1], [1]), ([2], [2]), ([3], [3]), ([], []), ([4, 5], [4, 5]), ([6], [6]), ([], []), ([8], [8]), ([9], [9]), ([10], [10]), ([], []), ([12], [12]), ([0, 7, 11, 13], [0, 7, 11, 13]), ([14], [14]), ([15], [15]), ([15], [15]), ([16, 14, 0, 1, 2, 3, 4, 5, 6, 7, 8, 9, 10, 11, 12, 13, 14, 15, 16], [16]), ([17, 18, 0, 1, 2, 3, 4, 5, 6, 7, 8, 9, 10, 11, 12, 13, 14, 15, 16, 17, 18], [17])])
def plB13 : List Nat := [0, 0, 2, 6, 14, 0, 62, 126, 0, 256, 768, 1792, 0, 4096, 16383, 32767, 65535, 65535, 131071, 524287]
theorem plTab13 : rtab .any (opsOf Tryd.f12 13) = plT13 := by kernel_rfl
theorem plBits13 : waitsOk plT13.2 plB13 = true := by kernel_rfl
def plT18 : Bool × List (List Nat × List Nat) := (true, [([], []), ([], []), ([], []), ([], []), ([3], [3]), ([4], [4]), ([5], [5]), ([], []), ([7], [7]), ([6, 8], [6, 8]), ([], []), ([10], [10]), ([11], [11]), ([12], [12]), ([], []), ([14], [14]), ([13, 15, 9], [13, 15]), ([], []), ([17], [17]), ([18], [18]), ([19], [19]), ([], []), ([21], [21]), ([20, 22, 16], [20, 22]), ([0, 0, 3, 4, 5, 6, 7, 8, 9, 13, 16, 20, 23], [0]), ([24, 0, 3, 4, 5, 6, 7, 8, 9, 13, 16, 20, 23], [24]), ([25, 9, 23, 0, 3, 4, 5, 6, 7, 8, 9, 13, 16, 20, 23], [9, 25]), ([1, 0, 1, 3, 4, 5, 6, 7, 8, 9, 10, 11, 12, 13, 14, 15, 16, 20, 23, 24, 25, 26], [1]), ([27, 0, 1, 3, 4, 5, 6, 7, 8, 9, 10, 11, 12, 13, 14, 15, 16, 20, 23, 24, 25, 26], [27]), ([28, 16, 26, 0, 1, 3, 4, 5, 6, 7, 8, 9, 10, 11, 12, 13, 14, 15, 16, 20, 23, 24, 25, 26], [16, 28]), ([2, 0, 1, 2, 3, 4, 5, 6, 7, 8, 9, 10, 11, 12, 13, 14, 15, 16, 17, 18, 19, 20, 21, 22, 23, 24, 25, 26, 27, 28, 29], [2]), ([30, 0, 1, 2, 3, 4, 5, 6, 7, 8, 9, 10, 11, 12, 13, 14, 15, 16, 17, 18, 19, 20, 21, 22, 23, 24, 25, 26, 27, 28, 29], [30]), ([31, 23, 29, 0, 1, 2, 3, 4, 5, 6, 7, 8, 9, 10, 11, 12, 13, 14, 15, 16, 17, 18, 19, 20, 21, 22, 23, 24, 25, 26, 27, 28, 29], [23, 31])])
def plB18 : List Nat := [0, 0, 0, 0, 8, 24, 56, 0, 128, 504, 0, 1024, 3072, 7168, 0, 16384, 65528, 0, 131072, 393216, 917504, 0, 2097152, 8388600, 16777209, 33554425, 67108857, 134217723, 268435451, 536870907, 1073741823, 2147483647, 4294967295]
theorem plTab18 : rtab .any (opsOf Tryd.f12 18) = plT18 := by kernel_rfl
theorem plBits18 : waitsOk plT18.2 plB18 = true := by kernel_rfl
set_option maxHeartbeats 8000000 in
set_option maxRecDepth 100000 in
theorem plansOf_calls (a : ByteArray) (A1 : Option Addr) (c1 : Nat) (l : List XS) (w : World) (hr1 : Kd.C k41 w A1 l.length l) (hc1 : l.length ≤ c1) (hL : Laid w) (ha : a.size ≤ 1048576) (hl : l.length ≤ 2000000) :
  Calls Tryd.prog 12 #[.string a, .slice A1 l.length c1] w fun e w' => ∃ v : Value, e = .returned (.tuple #[v, .bool (plansB a l).isSome]) ∧ (∀ L, plansB a l = some L → PlansAt w' v L) ∧ Below w.heap.size w w' := by
 have hu53 := Tryd.underlying53
 obtain ⟨rows, ⟨kt, hkt⟩, hrows⟩ := together_ev a l ha hl
 have HT := aM (hkt kt (Nat.le_refl _))
 have HR := aM hr1
 have HC := aM hc1
 have HL := aM hL
 clear hkt hr1 hL
 have B0 := aM (Below.refl w.heap.size w)
 by_cases hA : askD a l = true
 case neg =>
  rw [Bool.not_eq_true] at hA
  rw [hA] at HT
  have hP : plansB a l = none := by unfold plansB; rw [hA, if_neg (by simp)]
  rw [hP]
  go_enter Tryd.func12, Tryd.ntmps12
  go_wp2_with (first | (go_at_call 21; refine (qGB.calls kt a A1 c1 l rows false _ HR.out HC.out HL.out HT.out).mono ?_; rintro e w1 ⟨v0_, rfl, hR, hb⟩; have B1 := aM hb; clear hb hR))
  go_ret2
  exact ⟨_, rfl, fun L h => by simp at h, B1.out⟩
 rw [hA] at HT
 have hg := qLE (askD_board hA)
 obtain rfl := hrows hA
 clear hrows
 by_cases hl2 : l.length ≤ 2
 case neg =>
  have hP : plansB a l = none := by unfold plansB; rw [if_neg (by simp only [hA, true_and]; exact hl2)]
  rw [hP]
  have h2z : (2 : Int) < (l.length : Int) := by omega
  go_enter Tryd.func12, Tryd.ntmps12
  go_wp2_with (first | (go_at_call 21; refine (qGB.calls kt a A1 c1 l _ true _ HR.out HC.out HL.out HT.out).mono ?_; rintro e w1 ⟨v0_, rfl, hR, hb⟩; have B1 := aM hb; clear hb hR))
  go_ret2
  exact ⟨_, rfl, fun L h => by simp at h, B1.out⟩
 have h2z : ¬ (2 : Int) < (l.length : Int) := by omega
 have hP0 := PlO.start hA hl2
 have hl1 := (askD_len hA).1
 have HP0 := aM hP0
 have HGD := aM hg
 have HA := aM (And.intro hl1 hl2)
 have HKL := aM (keyL_ok hg (qXD hA) hl2)
 generalize hRR : plansB a l = R at HP0 ⊢
 clear hP0 hg hl1 hRR hl ha
 have hmm := @run_makeMap Tryd.prog
 go_enter Tryd.func12, Tryd.ntmps12
 go_wp2_with (first
  | (go_at_call 21; refine (qGB.calls kt a A1 c1 l _ true _ HR.out HC.out HL.out HT.out).mono ?_; rintro e w1 ⟨v0_, rfl, hR, hb⟩; obtain ⟨Ag, cg, rfl, hcg, hCg⟩ := Kd.qzD hR; have BW := aM hb; have HG := aM hCg; have HCG := aM hcg; have HR1 := aM (Kd.qg HR.out hb); have B1 := aM (Below.refl w1.heap.size w1); clear hb hR hCg hcg HR HL HT B0)
  | ((with_reducible refine qK (N := 30) rfl ?_); go_loud (refine Kd.R_lit (plK w1) w1.heap.size 26 ?hg (N := 30) ?hd (xs := [l]) (inner := [.slice A1 l.length c1]) (ok := fun _ => True) (okp := fun _ => True) ?hr ?hp (fun _ hk => hk) trivial B1.out B1.out.size (by simp) ?_; (case hd => rfl); (case hg => rfl); (case hr => exact gS); (case hp => exact Reps.one (Kd.mix_came HC.out HR1.out) (Reps.none _ _)); intro v1 w2 ho hb hg_ hnew_; obtain ⟨A30, c30, e30⟩ := Kd.qBA ho; have e30' : v1 = .slice A30 1 c30 := e30; subst e30'; clear e30; have D2 := aM ho; have B2 := aM hb; clear ho hb hg_ hnew_))
  | ((with_reducible refine qK (N := 31) rfl ?_); go_loud (refine Kd.R_lit (Kd.int .i64) w1.heap.size 3 ?hg (N := 31) ?hd (xs := [(-1 : Int)]) (inner := [.int .i64 (-1)]) (ok := fun _ => True) (okp := fun _ => True) ?hr ?hp (fun _ hk => hk) trivial B2.out B2.out.size (by simp) ?_; (case hd => rfl); (case hg => rfl); (case hr => exact gS); (case hp => exact Reps.one (show Kd.M (Kd.int .i64) _ _ _ (-1 : Int) [.int .i64 (-1)] from rfl) (Reps.none _ _)); intro v1 w3 ho hb hg_ hnew_; obtain ⟨A31, c31, e31⟩ := Kd.qBA ho; have e31' : v1 = .slice A31 1 c31 := e31; subst e31'; clear e31; have F3 := aM ho; have D3 := aM (plLit0 D2.out hg_); have B3 := aM hb; clear ho hb hg_ hnew_ D2 B2))
  | ((with_reducible refine qK (N := 32) rfl ?_); go_loud (refine Kd.R_lit Kd.string w1.heap.size 9 ?hg (N := 32) ?hd (xs := [(⟨#[]⟩ : ByteArray)]) (inner := [.string ⟨#[]⟩]) (ok := fun _ => True) (okp := fun _ => True) ?hr ?hp (fun _ hk => hk) trivial B3.out B3.out.size (by simp) ?_; (case hd => rfl); (case hg => rfl); (case hr => exact gS); (case hp => exact Reps.one (show Kd.M Kd.string _ _ _ (⟨#[]⟩ : ByteArray) [.string (⟨#[]⟩ : ByteArray)] from rfl) (Reps.none _ _)); intro v1 w4 ho hb hg_ hnew_; obtain ⟨A32, c32, e32⟩ := Kd.qBA ho; have e32' : v1 = .slice A32 1 c32 := e32; subst e32'; clear e32; have S4 := aM ho; have F4 := aM (plLit0 F3.out hg_); have D4 := aM (plLit0 D3.out hg_); have B4 := aM hb; clear ho hb hg_ hnew_ F3 D3 B3))
  | ((with_reducible refine qK (N := 34) rfl ?_); go_loud (refine qH ?hg (N := 34) ?hd (cs := #[.slice A30 1 c30, .slice A31 1 c31, .slice A32 1 c32]) (t := 53) ?hr ?_; (case hd => rfl); (case hg => rfl); (case hr => exact gS); intro gp hgp w5 hbox hb; have BP5 := aM hbox; have HGP := aM (show w1.heap.size ≤ gp by rw [hgp]; exact B4.out.size); have S5 := aM (Kd.qd S4.out hb); have F5 := aM (Kd.qd F4.out hb); have D5 := aM (Kd.qd D4.out hb); have B5 := aM (qtA B4.out B4.out.size hb); clear hbox hb hgp S4 F4 D4 B4))
  | ((with_reducible refine qNC (s := 37) rfl ?_); go_loud (have M5 := aM (show mapK.Is (w5.alloc (.map #[] 0)) w5.heap.size [] from MapKit.Is.made w5); have HGM := aM (show w1.heap.size ≤ w5.heap.size from B5.out.size); have S6 := aM (Kd.qO S5.out (.map #[] 0)); have F6 := aM (Kd.qO F5.out (.map #[] 0)); have D6 := aM (Kd.qO D5.out (.map #[] 0)); have B6 := aM (qFA B5.out (.map #[] 0)); have BP6 := aM (qPA BP5.out (qFA (Below.refl _ _) (.map #[] 0))); clear S5 F5 D5 B5 BP5; generalize w5.heap.size = gm at M5 HGM ⊢; generalize w5.alloc (.map #[] 0) = w6 at M5 S6 F6 D6 B6 BP6 ⊢; refine qaD (some 39) 37 rfl rfl Tryd.func22 (by kernel_rfl) rfl #[.slice A1 l.length c1] rfl rfl (by (try simp only [List.map_toArray, List.map_cons, List.map_nil]); first | done | rfl | simp) ?_; refine (qYD A1 c1 l _ (Kd.qg HR1.out B6.out) HA.out.1 HA.out.2).mono ?_; rintro e w7 ⟨rfl, hb⟩; refine ⟨_, rfl, ?_⟩; have M7 := aM (M5.out.below hb); have S7 := aM (Kd.qd S6.out hb); have F7 := aM (Kd.qd F6.out hb); have D7 := aM (Kd.qd D6.out hb); have BP7 := aM (qPA BP6.out hb); have B7 := aM (qtA B6.out B6.out.size hb); clear hb M5 S6 F6 D6 B6 BP6)))
 obtain ⟨w8, hrun8, hM8, hgr8⟩ := M7.out.run_put (by decide) HKL.out (v := true) trivial
 have hrun8' : (Instr.mapUpdate 70 (.map (some gm)) (encK l) (.bool true)).run Tryd.prog w7 = .ok () w8 := hrun8
 rw [hrun8']
 have HNE := aM (show gm ≠ gp from fun e_ => M7.out.off BP7.out e_.symm)
 have D8 := aM (M7.out.row D7.out hgr8)
 have F8 := aM (M7.out.row F7.out hgr8)
 have S8 := aM (M7.out.row S7.out hgr8)
 have BP8 := aM (qi BP7.out hgr8 (fun e_ => HNE.out (by injection e_ with e_; exact e_.symm)))
 have B8 := aM (B7.out.grown hgr8 B7.out.size (fun k_ e_ => by cases e_; exact HGM.out))
 have M8 := aM (show mapK.Is w8 gm (metP [(l, (-1, (⟨#[]⟩ : ByteArray)))]) from hM8)
 have HMVS := aM (fun (x : List XS) (hx : x.length ≤ 3) => moves_ev HGD.out x hx)
 have HMV1 := aM (fun (x : List XS) (hx : x.length ≤ 3) (k d : Nat) (hk : k < x.length) (hd : d < 4) => move_sign HGD.out x hx k d hk hd)
 clear hrun8 hrun8' hM8 hgr8 D7 F7 S7 BP7 B7 M7 hmm HKL
 generalize rowsT a = rows at HG HCG HMVS HMV1 ⊢
 go_wp2
 go_loopg [11] 6000 (fun gg v11 wq => ∃ (L : List PN) (i : Nat) (v0 v1 v2 : Value), v11 = .int .i64 i ∧ 6000 - i ≤ gg ∧ Aside0 (PlO a l L i R) ∧ Aside0 (Kd.R (plK w1) 26 wq w1.heap.size (fun _ => True) v0 (L.map Prod.fst)) ∧ Aside0 (Kd.R (Kd.int .i64) 3 wq w1.heap.size (fun _ => True) v1 (L.map fun x => x.2.1)) ∧ Aside0 (Kd.R Kd.string 9 wq w1.heap.size (fun _ => True) v2 (L.map fun x => x.2.2)) ∧ Aside0 (wq.heap[gp]? = some (.cells #[v0, v1, v2] 53 (0, 0))) ∧ Aside0 (mapK.Is wq gm (metP L)) ∧ Aside0 (Below w1.heap.size w1 wq))
 case atStart => exact ⟨[(l, (-1, (⟨#[]⟩ : ByteArray)))], 0, _, _, _, rfl, by omega, HP0, D8, F8, S8, BP8, M8, B8⟩
 case round =>
  clear HP0 D8 F8 S8 BP8 M8 B8
  obtain ⟨L, i, v0, v1, v2, rfl, hgk, HO, D0, F0, S0, BP, M0, B⟩ := hrel
  rename World => wr
  have hL6 := HO.out.ok.len
  have hle := HO.out.le
  obtain ⟨Ad, cd, rfl⟩ := Kd.qBA D0.out
  obtain ⟨n1, hn1⟩ : ∃ n1, (L.map Prod.fst).length = n1 := ⟨_, rfl⟩
  have hln : n1 = L.length := by rw [← hn1]; exact List.length_map _
  rw [hn1] at D0 BP
  have hc0 : wr.cell? ⟨gp, 0, none⟩ = some (.slice Ad n1 cd) := (qxA BP.out 0).trans rfl
  by_cases hlt : i < L.length
  ·have hltz : (i : Int) < (n1 : Int) := by omega
   have hi0 : (0 : Int) ≤ (i : Int) := by omega
   have hil : i < (L.map Prod.fst).length := by rw [hn1]; omega
   have hC := plK_C B.out (Kd.qP D0.out).2.2
   obtain ⟨ad, had⟩ : ∃ ad, Ad = some ad := by obtain ⟨ad, e, _⟩ := hC.2.2 (by omega); exact ⟨ad, e⟩
   subst had
   obtain ⟨Ax, cx, hcx, hlx, hCx⟩ := at_row hC i hil
   obtain ⟨x, hx⟩ : ∃ x, (L.map Prod.fst)[i] = x := ⟨_, rfl⟩
   rw [hx] at hcx hlx hCx
   have hx' : L[i].1 = x := by rw [← hx, List.getElem_map]
   have hN := HO.out.inner hlt
   rw [hx'] at hN
   have hx3 : x.length ≤ 2 := by rw [hN.kin.1]; exact HA.out.2
   have HN := aM hN
   have HX3 := aM hx3
   obtain ⟨km, hkm⟩ := HMVS.out x (by omega)
   have hkm' := hkm km (Nat.le_refl _)
   obtain ⟨ms, hms⟩ : ∃ ms, mvs a x 0 x.length = ms := ⟨_, rfl⟩
   obtain ⟨nm, hnm⟩ : ∃ nm, ms.length = nm := ⟨_, rfl⟩
   have hnm4 : nm ≤ 8 := by have := mvs_len a x x.length 0; rw [hms, hnm] at this; omega
   rw [hms] at hkm'
   have HKM := aM hkm'
   have HMS := aM (And.intro hms hnm)
   have XR := aM hCx
   have HXC := aM hlx
   clear hkm hkm' hN hx' hx hil hC hCx hlx hms hln hn1 hle hx3
   go_wp2_with (first
    | (go_at_call 23; refine (qa.calls km Ag cg rows Ax cx x ms _ (Kd.qg HG.out B.out) HCG.out XR.out HXC.out HKM.out).mono ?_; rintro e w2 ⟨vt, rfl, hR, hb⟩; have TM := aM (Kd.qZ (ok' := fun k_ => some k_ ≠ (v2 : Value).ownBlock) (Kd.qx (Kd.qsA hR (Kd.R_lt S0.out)) B.out.size) (fun _ hk => hk.2)); clear hR; obtain ⟨At, ct, e57⟩ := Kd.qBA TM.out; rw [HMS.out.2] at e57; subst e57; replace D0 := aM (Kd.qd D0.out hb); replace F0 := aM (Kd.qd F0.out hb); replace S0 := aM (Kd.qd S0.out hb); replace M0 := aM (M0.out.below hb); replace BP := aM (qPA BP.out hb); replace B := aM (qtA B.out B.out.size hb); replace XR := aM (Kd.qg XR.out hb); clear hb))
   clear hltz hc0 hcx hnm
   go_loopg [59] nm (fun gg v59 wq => ∃ (L2 : List PN) (j : Nat) (v0 v1 v2 : Value), v59 = .int .i64 j ∧ nm - j ≤ gg ∧ Aside0 (PlN a l L2 i j x R) ∧ Aside0 (Kd.R (plK w1) 26 wq w1.heap.size (fun _ => True) v0 (L2.map Prod.fst)) ∧ Aside0 (Kd.R (Kd.int .i64) 3 wq w1.heap.size (fun _ => True) v1 (L2.map fun x => x.2.1)) ∧ Aside0 (Kd.R Kd.string 9 wq w1.heap.size (fun _ => True) v2 (L2.map fun x => x.2.2)) ∧ Aside0 (Kd.R Kd.string 9 wq w1.heap.size (fun k_ => some k_ ≠ (v2 : Value).ownBlock) (.slice At nm ct) ms) ∧ Aside0 (mapK.Is wq gm (metP L2)) ∧ Aside0 (wq.heap[gp]? = some (.cells #[v0, v1, v2] 53 (0, 0))) ∧ Aside0 (Below w1.heap.size w1 wq))
   case atStart => exact ⟨L, 0, _, _, _, rfl, by omega, HN, D0, F0, S0, TM, M0, BP, B⟩
   case round =>
    clear HN D0 F0 S0 TM M0 BP B XR HO HXC hL6 hlt
    obtain ⟨L2, j, v0, v1, v2, rfl, hgj, HN, D0, F0, S0, TM, M0, BP, B⟩ := hrel
    rename World => wq
    have hL6 := HN.out.ok.len
    by_cases hj : j < nm
    ·have hjz : (j : Int) < (nm : Int) := by omega
     have hj0 : (0 : Int) ≤ (j : Int) := by omega
     have hj4 : j < (mvs a x 0 x.length).length := by rw [HMS.out.1, HMS.out.2]; exact hj
     obtain ⟨k, d, hk, hd, hs, hmsj, hmv⟩ := plStep a x i j hj4
     rw [HMS.out.1] at hmsj
     obtain ⟨own, hown⟩ : ∃ own, (moveB a x k (d : Int)).1 = own := ⟨_, rfl⟩
     have hmv1 := HMV1.out x (by have := HX3.out; omega) k d hk hd
     rw [qlD k d (by have := HX3.out; omega) hd, show moveB a x k (d : Int) = (own, true) from Prod.ext hown hmv] at hmv1
     rw [hown] at hs
     have hw8 := qlD k d (by have := HX3.out; omega) hd
     have hsz := sign_size k d
     obtain ⟨sg, hsg⟩ : ∃ sg, signN k d = sg := ⟨_, rfl⟩
     rw [hsg] at hs hmsj hmv1 hw8 hsz
     obtain ⟨n0, hn0⟩ : ∃ n0, bt sg 0 = n0 := ⟨_, rfl⟩
     obtain ⟨n1, hn1⟩ : ∃ n1, bt sg 1 = n1 := ⟨_, rfl⟩
     rw [hn0] at hw8
     rw [hn1] at hmv1
     have hix0 := plIx sg 0 n0 (by simpa using hn0)
     have hix1 := plIx sg 1 n1 (by simpa using hn1)
     have hwk : IntKind.u8.wrap (n0 - 48) = (k : Int) := hw8
     have hwi : IntKind.i64.wrap (k : Int) = (k : Int) := by rw [IntKind.wrap_i64]; have := HX3.out; omega
     have HMV := aM hmv1
     have HS := aM hs
     have hlen := HN.out.lens hs
     have hkin := HN.out.kin
     have hko := qWD hkin i (List.mem_of_getElem? hs)
     have HOL := aM (show 1 ≤ own.length ∧ own.length ≤ 2 by rw [hko.1]; exact HA.out)
     have HOK := aM (keyL_ok HGD.out hko HA.out.2)
     have HLEN := aM hlen
     obtain ⟨p, hp⟩ := HN.out.at_
     obtain ⟨hil, hpe⟩ := List.getElem?_eq_some_iff.1 hp
     have hCt := (Kd.qP TM.out).2.2
     obtain ⟨adt, et, hcm⟩ := Kd.qpB hCt (j : Int) hj0 (by rw [HMS.out.2]; exact hjz)
     subst et
     rw [show rdOf ByteArray.empty ms (j : Int) = sg by unfold rdOf; rw [Int.toNat_natCast, List.getD_eq_getElem?_getD, hmsj]; rfl, Int.toNat_natCast] at hcm
     obtain ⟨ds, hds⟩ : ∃ ds, L2.map Prod.fst = ds := ⟨_, rfl⟩
     obtain ⟨fs, hfs⟩ : ∃ fs, (L2.map fun x => x.2.1) = fs := ⟨_, rfl⟩
     obtain ⟨ss, hss⟩ : ∃ ss, (L2.map fun x => x.2.2) = ss := ⟨_, rfl⟩
     obtain ⟨met, hmet⟩ : ∃ met, metP L2 = met := ⟨_, rfl⟩
     have hld : ds.length = L2.length := by rw [← hds]; exact List.length_map _
     have HBD := aM (show ds.length ≤ 6000 ∧ fs.length ≤ 6000 ∧ ss.length ≤ 6000 by rw [hld, ← hfs, ← hss, List.length_map, List.length_map]; omega)
     have hlook : ∀ W, mapK.Is W gm met → (Instr.lookup 70 (.map (some gm)) (encK own) false).run Tryd.prog W = .ok (.bool (decide (own ∈ ds))) W := fun W hW => by
      have h := hW.run_look (x := keyL own) HOK.out
      rw [← hmet, look_metP L2 own HLEN.out, hds] at h
      exact h
     have HLOOK := aM hlook
     have hdx : ds[i]? = some x := by rw [← hds, List.getElem?_map, hp]; rfl
     rw [hds] at D0
     rw [hfs] at F0
     rw [hss] at S0
     rw [hmet] at M0
     obtain ⟨Ad, cd, rfl⟩ := Kd.qBA D0.out
     obtain ⟨n2, hn2⟩ : ∃ n2, ds.length = n2 := ⟨_, rfl⟩
     rw [hn2] at D0 BP
     have hC := plK_C B.out (Kd.qP D0.out).2.2
     have hid : i < ds.length := (List.getElem?_eq_some_iff.1 hdx).1
     obtain ⟨ad, had⟩ : ∃ ad, Ad = some ad := by obtain ⟨ad, e, _⟩ := hC.2.2 (by omega); exact ⟨ad, e⟩
     subst had
     obtain ⟨Ax, cx, hcx, hlx, hCx⟩ := at_row hC i hid
     rw [(List.getElem?_eq_some_iff.1 hdx).2] at hcx hlx hCx
     have CX := aM hcx
     have XR := aM hCx
     have HXC := aM hlx
     have hin : (i : Int) < (n2 : Int) := by omega
     have hi0 : (0 : Int) ≤ (i : Int) := by omega
     have HL := aM (show n2 = L2.length by omega)
     have HEQ := aM (show L2.map Prod.fst = ds ∧ (L2.map fun x => x.2.1) = fs ∧ (L2.map fun x => x.2.2) = ss ∧ metP L2 = met from ⟨hds, hfs, hss, hmet⟩)
     clear hj4 hmsj hmv hown hmv1 hs hw8 hsg hn0 hn1 hlen hkin hko hp hil hpe hCt hds hfs hss hmet hld hlook hdx hn2 hC hid hcx hlx hCx hk hd hL6
     go_wp2
     clear hjz hj0 hcm
     refine qCB (n := 20) (S := fun w' => True) (ds := []) #[false, false, false, false, false, false, false, false, false, false, false, false, false, false, false, false, false, false, false, false] (by kernel_rfl) rfl rfl trivial (fun hHeld => ?_); refine qKA plTab13 plBits13 (fun HT_ HW_ => ?_)
     refine pS (i := 0) (N := some 64) #[true, false, false, false, false, false, false, false, false, false, false, false, false, false, false, false, false, false, false, false] HT_ ?_
     refine pS (i := 1) (N := some 65) #[true, true, false, false, false, false, false, false, false, false, false, false, false, false, false, false, false, false, false, false] HT_ ?_
     refine pS (i := 2) (N := some 66) #[true, true, true, false, false, false, false, false, false, false, false, false, false, false, false, false, false, false, false, false] HT_ ?_
     refine pS (i := 3) (N := some 67) #[true, true, true, true, false, false, false, false, false, false, false, false, false, false, false, false, false, false, false, false] HT_ ?_
     refine pS (i := 5) (N := some 69) #[true, true, true, true, false, true, false, false, false, false, false, false, false, false, false, false, false, false, false, false] HT_ ?_
     refine pS (i := 8) (N := some 72) #[true, true, true, true, false, true, false, false, true, false, false, false, false, false, false, false, false, false, false, false] HT_ ?_
     refine pS (i := 9) (N := some 73) #[true, true, true, true, false, true, false, false, true, true, false, false, false, false, false, false, false, false, false, false] HT_ ?_
     refine pS (i := 10) (N := some 74) #[true, true, true, true, false, true, false, false, true, true, true, false, false, false, false, false, false, false, false, false] HT_ ?_
     refine pS (i := 11) (N := some 75) #[true, true, true, true, false, true, false, false, true, true, true, true, false, false, false, false, false, false, false, false] HT_ ?_
     refine pS (i := 12) (N := some 76) #[true, true, true, true, false, true, false, false, true, true, true, true, true, false, false, false, false, false, false, false] HT_ ?_
     refine pS (i := 13) (N := some 77) #[true, true, true, true, false, true, false, false, true, true, true, true, true, true, false, false, false, false, false, false] HT_ ?_
     refine inv_at [4, 6, 7, 14, 15, 16, 17, 18, 19] (fun a0_ b a w' => ∃ (vo : Value) (m14_ : Value) (m15_ : Value) (m16_ : Value) (m18_ : Value), a = putSel a0_ b [(4, 68, .slice (some ad) n2 cd), (6, 70, .pointer (some (ad.add i))), (7, 71, .slice Ax x.length cx), (14, 78, m14_), (15, 63, m15_), (16, 79, m16_), (17, 80, .bool true), (18, 14, m18_), (19, 15, .bool true)] ∧ (Below w1.heap.size w1 w') ∧ (Kd.R (plK w1) 26 w' w1.heap.size (fun _ => True) (.slice (some ad) n2 cd) ds) ∧ (Kd.R (Kd.int .i64) 3 w' w1.heap.size (fun _ => True) v1 fs) ∧ (Kd.R Kd.string 9 w' w1.heap.size (fun _ => True) v2 ss) ∧ (Kd.R Kd.string 9 w' w1.heap.size (fun k_ => some k_ ≠ (v2 : Value).ownBlock) (.slice (some adt) nm ct) ms) ∧ (mapK.Is w' gm met) ∧ (w'.heap[gp]? = some (.cells #[.slice (some ad) n2 cd, v1, v2] 53 (0, 0))) ∧ (w'.cell? (ad.add i) = some (.slice Ax x.length cx)) ∧ (Kd.C k41 w' Ax x.length x) ∧ (b 14 = true → Kd.R k41 41 w' w1.heap.size (fun _ => True) vo own) ∧ (b 14 = true → (m14_ : Value) = .tuple #[vo, .bool true]) ∧ (b 15 = true → (m15_ : Value) = .tuple #[vo, .bool true]) ∧ (b 16 = true → (m16_ : Value) = vo) ∧ (b 18 = true → (m18_ : Value) = vo)) HT_.out HW_.out (by kernel_rfl) (by kernel_rfl) ?_ ?_ ?_
     ·exact ⟨.bool false, .bool false, .bool false, .bool false, .bool false, by simp only [putSel, Bool.false_eq_true, if_false], qu B.out, Kd.qS D0.out, Kd.qS F0.out, Kd.qS S0.out, Kd.qS TM.out, M0.out.drew, qE BP.out, CX.out, Kd.qe XR.out, fun h_ => absurd h_ (by decide), fun h_ => absurd h_ (by decide), fun h_ => absurd h_ (by decide), fun h_ => absurd h_ (by decide), fun h_ => absurd h_ (by decide)⟩
     ·skip
      clear B BP CX D0 F0 M0 S0 TM XR
      refine qz ?_ ?_
      ·rintro b a w' ⟨vo, m14_, m15_, m16_, m18_, ha, Q_B, Q_D0, Q_F0, Q_S0, Q_TM, Q_M0, Q_BP, Q_CX, Q_XR, Q_OW, Q_X14_, Q_X15_, Q_X16_, Q_X18_⟩ hb_ hon hoff
       refine ⟨_, rfl, fun K hK => ?_⟩
       have e67 : a.tmps[67]? = some (.pointer (some ⟨gp, 0, none⟩)) := by rw [ha]; exact (qdA rfl).trans rfl
       replace ha := aM ha
       have B := aM Q_B
       have D0 := aM Q_D0
       have F0 := aM Q_F0
       have S0 := aM Q_S0
       have TM := aM Q_TM
       have M0 := aM Q_M0
       have BP := aM Q_BP
       have CX := aM Q_CX
       have XR := aM Q_XR
       have hc_ : w'.cell? ⟨gp, 0, none⟩ = some (.slice (some ad) n2 cd) := (qxA BP.out 0).trans rfl
       refine qSB (w1 := w') (v := .slice (some ad) n2 cd) (by rfl) rfl ?_ ?_
       ·go_simp
        (try simp only [i64_w])
        try rfl
       refine hK.out _ _ ⟨vo, m14_, m15_, m16_, m18_, (by rw [ha.out]; exact qEA 0 hb_ rfl rfl rfl), Q_B, Q_D0, Q_F0, Q_S0, Q_TM, Q_M0, Q_BP, Q_CX, Q_XR, fun h0_ => aF (hoff 14 kr) h0_, fun h0_ => aF (hoff 14 kr) h0_, fun h0_ => aF (hoff 15 kr) h0_, fun h0_ => aF (hoff 16 kr) h0_, fun h0_ => aF (hoff 18 kr) h0_⟩
      refine qz ?_ ?_
      ·rintro b a w' ⟨vo, m14_, m15_, m16_, m18_, ha, Q_B, Q_D0, Q_F0, Q_S0, Q_TM, Q_M0, Q_BP, Q_CX, Q_XR, Q_OW, Q_X14_, Q_X15_, Q_X16_, Q_X18_⟩ hb_ hon hoff
       refine ⟨_, rfl, fun K hK => ?_⟩
       have e68 : a.tmps[68]? = some (.slice (some ad) n2 cd) := by rw [ha]; exact qOA (e := (4, 68, .slice (some ad) n2 cd)) 0 rfl rfl (hon 4 kr) rfl
       have e69 : a.tmps[69]? = some (.int .i64 (i : Int)) := by rw [ha]; exact (qdA rfl).trans rfl
       replace ha := aM ha
       have B := aM Q_B
       have D0 := aM Q_D0
       have F0 := aM Q_F0
       have S0 := aM Q_S0
       have TM := aM Q_TM
       have M0 := aM Q_M0
       have BP := aM Q_BP
       have CX := aM Q_CX
       have XR := aM Q_XR
       refine qSB (w1 := w') (v := .pointer (some (ad.add i))) (by rfl) rfl ?_ ?_
       ·go_simp
        (try simp only [i64_w])
        try rfl
       refine hK.out _ _ ⟨vo, m14_, m15_, m16_, m18_, (by rw [ha.out]; exact qEA 1 hb_ rfl rfl rfl), Q_B, Q_D0, Q_F0, Q_S0, Q_TM, Q_M0, Q_BP, Q_CX, Q_XR, fun h0_ => aF (hoff 14 kr) h0_, fun h0_ => aF (hoff 14 kr) h0_, fun h0_ => aF (hoff 15 kr) h0_, fun h0_ => aF (hoff 16 kr) h0_, fun h0_ => aF (hoff 18 kr) h0_⟩
      refine qz ?_ ?_
      ·rintro b a w' ⟨vo, m14_, m15_, m16_, m18_, ha, Q_B, Q_D0, Q_F0, Q_S0, Q_TM, Q_M0, Q_BP, Q_CX, Q_XR, Q_OW, Q_X14_, Q_X15_, Q_X16_, Q_X18_⟩ hb_ hon hoff
       refine ⟨_, rfl, fun K hK => ?_⟩
       have e70 : a.tmps[70]? = some (.pointer (some (ad.add i))) := by rw [ha]; exact qOA (e := (6, 70, .pointer (some (ad.add i)))) 1 rfl rfl (hon 6 kr) rfl
       replace ha := aM ha
       have B := aM Q_B
       have D0 := aM Q_D0
       have F0 := aM Q_F0
       have S0 := aM Q_S0
       have TM := aM Q_TM
       have M0 := aM Q_M0
       have BP := aM Q_BP
       have CX := aM Q_CX
       have XR := aM Q_XR
       have hc_ := CX.out
       refine qSB (w1 := w') (v := .slice Ax x.length cx) (by rfl) rfl ?_ ?_
       ·go_simp
        (try simp only [i64_w])
        try rfl
       refine hK.out _ _ ⟨vo, m14_, m15_, m16_, m18_, (by rw [ha.out]; exact qEA 2 hb_ rfl rfl rfl), Q_B, Q_D0, Q_F0, Q_S0, Q_TM, Q_M0, Q_BP, Q_CX, Q_XR, fun h0_ => aF (hoff 14 kr) h0_, fun h0_ => aF (hoff 14 kr) h0_, fun h0_ => aF (hoff 15 kr) h0_, fun h0_ => aF (hoff 16 kr) h0_, fun h0_ => aF (hoff 18 kr) h0_⟩
      refine qz ?_ ?_
      ·rintro b a w' ⟨vo, m14_, m15_, m16_, m18_, ha, Q_B, Q_D0, Q_F0, Q_S0, Q_TM, Q_M0, Q_BP, Q_CX, Q_XR, Q_OW, Q_X14_, Q_X15_, Q_X16_, Q_X18_⟩ hb_ hon hoff
       refine ⟨_, rfl, fun K hK => ?_⟩
       have e64 : a.tmps[64]? = some (.slice Ag rows.length cg) := by rw [ha]; exact (qdA rfl).trans rfl
       have e71 : a.tmps[71]? = some (.slice Ax x.length cx) := by rw [ha]; exact qOA (e := (7, 71, .slice Ax x.length cx)) 2 rfl rfl (hon 7 kr) rfl
       have e75 : a.tmps[75]? = some (.int .i64 (k : Int)) := by rw [ha]; exact (qdA rfl).trans rfl
       have e77 : a.tmps[77]? = some (.int .u8 n1) := by rw [ha]; exact (qdA rfl).trans rfl
       replace ha := aM ha
       have B := aM Q_B
       have D0 := aM Q_D0
       have F0 := aM Q_F0
       have S0 := aM Q_S0
       have TM := aM Q_TM
       have M0 := aM Q_M0
       have BP := aM Q_BP
       have CX := aM Q_CX
       have XR := aM Q_XR
       refine goes_ Tryd.func24 (by kernel_rfl) rfl #[.slice Ag rows.length cg, .slice Ax x.length cx, .int .i64 (k : Int), .int .u8 n1] (by rfl) rfl rfl (by simp only [List.map_toArray, List.map_cons, List.map_nil, qHC e64, qHC e71, qHC e75, qHC e77]) ?_
       refine (qTA.calls Ag cg rows Ax cx x (k : Int) n1 own true w' (Kd.qg HG.out B.out) HCG.out XR.out HXC.out HMV.out).mono ?_
       rintro e_ w1_ ⟨vo_, rfl, hR_, hb_1⟩
       refine ⟨_, rfl, ?_⟩
       refine hK.out _ _ ⟨vo_, (.tuple #[vo_, .bool true]), m15_, m16_, m18_, (by rw [ha.out]; exact qEA 3 hb_ rfl rfl rfl), qtA B.out B.out.size hb_1, Kd.qd D0.out hb_1, Kd.qd F0.out hb_1, Kd.qd S0.out hb_1, Kd.qd TM.out hb_1, M0.out.below hb_1, qPA BP.out hb_1, (hb_1.cell (World.block_lt_of_cell? _ _ CX.out)).trans CX.out, Kd.qg XR.out hb_1, fun _ => Kd.qx hR_ B.out.size, fun _ => rfl, fun h0_ => aF (hoff 15 kr) h0_, fun h0_ => aF (hoff 16 kr) h0_, fun h0_ => aF (hoff 18 kr) h0_⟩
      refine qz ?_ ?_
      ·rintro b a w' ⟨vo, m14_, m15_, m16_, m18_, ha, Q_B, Q_D0, Q_F0, Q_S0, Q_TM, Q_M0, Q_BP, Q_CX, Q_XR, Q_OW, Q_X14_, Q_X15_, Q_X16_, Q_X18_⟩ hb_ hon hoff
       refine ⟨_, rfl, fun K hK => ?_⟩
       have e78 : a.tmps[78]? = some (m14_) := by rw [ha]; exact qOA (e := (14, 78, m14_)) 3 rfl rfl (hon 14 kr) rfl
       rw [Q_X14_ (hon 14 kr)] at e78
       replace ha := aM ha
       have B := aM Q_B
       have D0 := aM Q_D0
       have F0 := aM Q_F0
       have S0 := aM Q_S0
       have TM := aM Q_TM
       have M0 := aM Q_M0
       have BP := aM Q_BP
       have CX := aM Q_CX
       have XR := aM Q_XR
       have OW := aM (Q_OW (hon 14 kr))
       refine qSB (w1 := w') (v := .tuple #[vo, .bool true]) (by rfl) rfl ?_ ?_
       ·go_simp
        (try simp only [i64_w])
        try rfl
       refine hK.out _ _ ⟨vo, m14_, (.tuple #[vo, .bool true]), m16_, m18_, (by rw [ha.out]; exact qEA 4 hb_ rfl rfl rfl), Q_B, Q_D0, Q_F0, Q_S0, Q_TM, Q_M0, Q_BP, Q_CX, Q_XR, Q_OW, Q_X14_, fun _ => rfl, fun h0_ => aF (hoff 16 kr) h0_, fun h0_ => aF (hoff 18 kr) h0_⟩
      refine qz ?_ ?_
      ·rintro b a w' ⟨vo, m14_, m15_, m16_, m18_, ha, Q_B, Q_D0, Q_F0, Q_S0, Q_TM, Q_M0, Q_BP, Q_CX, Q_XR, Q_OW, Q_X14_, Q_X15_, Q_X16_, Q_X18_⟩ hb_ hon hoff
       refine ⟨_, rfl, fun K hK => ?_⟩
       have e63 : a.tmps[63]? = some (m15_) := by rw [ha]; exact qOA (e := (15, 63, m15_)) 4 rfl rfl (hon 15 kr) rfl
       rw [Q_X15_ (hon 15 kr)] at e63
       replace ha := aM ha
       have B := aM Q_B
       have D0 := aM Q_D0
       have F0 := aM Q_F0
       have S0 := aM Q_S0
       have TM := aM Q_TM
       have M0 := aM Q_M0
       have BP := aM Q_BP
       have CX := aM Q_CX
       have XR := aM Q_XR
       have OW := aM (Q_OW (hon 14 kr))
       refine qSB (w1 := w') (v := vo) (by rfl) rfl ?_ ?_
       ·go_simp
        (try simp only [i64_w])
        try rfl
       refine hK.out _ _ ⟨vo, m14_, m15_, (vo), m18_, (by rw [ha.out]; exact qEA 5 hb_ rfl rfl rfl), Q_B, Q_D0, Q_F0, Q_S0, Q_TM, Q_M0, Q_BP, Q_CX, Q_XR, Q_OW, Q_X14_, Q_X15_, fun _ => rfl, fun h0_ => aF (hoff 18 kr) h0_⟩
      refine qz ?_ ?_
      ·rintro b a w' ⟨vo, m14_, m15_, m16_, m18_, ha, Q_B, Q_D0, Q_F0, Q_S0, Q_TM, Q_M0, Q_BP, Q_CX, Q_XR, Q_OW, Q_X14_, Q_X15_, Q_X16_, Q_X18_⟩ hb_ hon hoff
       refine ⟨_, rfl, fun K hK => ?_⟩
       have e63 : a.tmps[63]? = some (m15_) := by rw [ha]; exact qOA (e := (15, 63, m15_)) 4 rfl rfl (hon 15 kr) rfl
       rw [Q_X15_ (hon 15 kr)] at e63
       replace ha := aM ha
       have B := aM Q_B
       have D0 := aM Q_D0
       have F0 := aM Q_F0
       have S0 := aM Q_S0
       have TM := aM Q_TM
       have M0 := aM Q_M0
       have BP := aM Q_BP
       have CX := aM Q_CX
       have XR := aM Q_XR
       have OW := aM (Q_OW (hon 14 kr))
       refine qSB (w1 := w') (v := .bool true) (by rfl) rfl ?_ ?_
       ·go_simp
        (try simp only [i64_w])
        try rfl
       refine hK.out _ _ ⟨vo, m14_, m15_, m16_, m18_, (by rw [ha.out]; exact qEA 6 hb_ rfl rfl rfl), Q_B, Q_D0, Q_F0, Q_S0, Q_TM, Q_M0, Q_BP, Q_CX, Q_XR, Q_OW, Q_X14_, Q_X15_, Q_X16_, Q_X18_⟩
      refine qz ?_ ?_
      ·rintro b a w' ⟨vo, m14_, m15_, m16_, m18_, ha, Q_B, Q_D0, Q_F0, Q_S0, Q_TM, Q_M0, Q_BP, Q_CX, Q_XR, Q_OW, Q_X14_, Q_X15_, Q_X16_, Q_X18_⟩ hb_ hon hoff
       refine ⟨_, rfl, fun K hK => ?_⟩
       have e79 : a.tmps[79]? = some (m16_) := by rw [ha]; exact qOA (e := (16, 79, m16_)) 5 rfl rfl (hon 16 kr) rfl
       rw [Q_X16_ (hon 16 kr)] at e79
       replace ha := aM ha
       have B := aM Q_B
       have D0 := aM Q_D0
       have F0 := aM Q_F0
       have S0 := aM Q_S0
       have TM := aM Q_TM
       have M0 := aM Q_M0
       have BP := aM Q_BP
       have CX := aM Q_CX
       have XR := aM Q_XR
       have OW := aM (Q_OW (hon 14 kr))
       refine qSB (w1 := w') (v := vo) (by rfl) rfl ?_ ?_
       ·go_simp
        (try simp only [i64_w])
        try rfl
       refine hK.out _ _ ⟨vo, m14_, m15_, m16_, (vo), (by rw [ha.out]; exact qEA 7 hb_ rfl rfl rfl), Q_B, Q_D0, Q_F0, Q_S0, Q_TM, Q_M0, Q_BP, Q_CX, Q_XR, Q_OW, Q_X14_, Q_X15_, Q_X16_, fun _ => rfl⟩
      refine qz ?_ ?_
      ·rintro b a w' ⟨vo, m14_, m15_, m16_, m18_, ha, Q_B, Q_D0, Q_F0, Q_S0, Q_TM, Q_M0, Q_BP, Q_CX, Q_XR, Q_OW, Q_X14_, Q_X15_, Q_X16_, Q_X18_⟩ hb_ hon hoff
       refine ⟨_, rfl, fun K hK => ?_⟩
       have e80 : a.tmps[80]? = some (.bool true) := by rw [ha]; exact qOA (e := (17, 80, .bool true)) 6 rfl rfl (hon 17 kr) rfl
       replace ha := aM ha
       have B := aM Q_B
       have D0 := aM Q_D0
       have F0 := aM Q_F0
       have S0 := aM Q_S0
       have TM := aM Q_TM
       have M0 := aM Q_M0
       have BP := aM Q_BP
       have CX := aM Q_CX
       have XR := aM Q_XR
       have OW := aM (Q_OW (hon 14 kr))
       refine qSB (w1 := w') (v := .bool true) (by rfl) rfl ?_ ?_
       ·go_simp
        (try simp only [i64_w])
        try rfl
       refine hK.out _ _ ⟨vo, m14_, m15_, m16_, m18_, (by rw [ha.out]; exact qEA 8 hb_ rfl rfl rfl), Q_B, Q_D0, Q_F0, Q_S0, Q_TM, Q_M0, Q_BP, Q_CX, Q_XR, Q_OW, Q_X14_, Q_X15_, Q_X16_, Q_X18_⟩
      exact steps_nil
     ·rintro b a w' hall ⟨vo, m14_, m15_, m16_, m18_, ha, Q_B, Q_D0, Q_F0, Q_S0, Q_TM, Q_M0, Q_BP, Q_CX, Q_XR, Q_OW, Q_X14_, Q_X15_, Q_X16_, Q_X18_⟩
      clear B BP CX D0 F0 M0 S0 TM XR
      have hb4_ := hall 4 (by kernel_rfl)
      have hb6_ := hall 6 (by kernel_rfl)
      have hb7_ := hall 7 (by kernel_rfl)
      have hb14_ := hall 14 (by kernel_rfl)
      have hb15_ := hall 15 (by kernel_rfl)
      have hb16_ := hall 16 (by kernel_rfl)
      have hb17_ := hall 17 (by kernel_rfl)
      have hb18_ := hall 18 (by kernel_rfl)
      have hb19_ := hall 19 (by kernel_rfl)
      subst ha
      obtain rfl := Q_X14_ hb14_
      obtain rfl := Q_X15_ hb15_
      obtain rfl := Q_X16_ hb16_
      obtain rfl := Q_X18_ hb18_
      simp only [putSel, hb4_, hb6_, hb7_, hb14_, hb15_, hb16_, hb17_, hb18_, hb19_, if_true, Act.put, List.setIfInBounds_toArray, List.set_cons_zero, List.set_cons_succ]
      have B := aM Q_B
      clear Q_B
      have D0 := aM Q_D0
      clear Q_D0
      have F0 := aM Q_F0
      clear Q_F0
      have S0 := aM Q_S0
      clear Q_S0
      have TM := aM Q_TM
      clear Q_TM
      have M0 := aM Q_M0
      clear Q_M0
      have BP := aM Q_BP
      clear Q_BP
      have CX := aM Q_CX
      clear Q_CX
      have XR := aM Q_XR
      clear Q_XR
      have OW := aM (Q_OW hb14_)
      clear Q_OW hall hb4_ hb6_ hb7_ hb14_ hb15_ hb16_ hb17_ hb18_ hb19_
      obtain ⟨Ao, co, rfl⟩ := Kd.qBA OW.out
      clear CX XR HXC hin hi0 hwk hwi hix0 hix1 hsz HMV
      go_wp2_with (first
       | ((with_reducible refine qNC (s := 82) rfl ?_); go_loud (refine qaD (some 84) 82 rfl rfl Tryd.func22 (by kernel_rfl) rfl #[.slice Ao own.length co] rfl rfl (by (try simp only [List.map_toArray, List.map_cons, List.map_nil]); first | done | rfl | simp) ?_; refine (qYD Ao co own _ (Kd.qP OW.out).2.2 HOL.out.1 HOL.out.2).mono ?_; rintro e w3 ⟨rfl, hb⟩; refine ⟨_, rfl, ?_⟩; replace D0 := aM (Kd.qd D0.out hb); replace F0 := aM (Kd.qd F0.out hb); replace S0 := aM (Kd.qd S0.out hb); replace TM := aM (Kd.qd TM.out hb); replace M0 := aM (M0.out.below hb); replace BP := aM (qPA BP.out hb); replace B := aM (qtA B.out B.out.size hb); replace OW := aM (Kd.qd OW.out hb); clear hb)))
      rw [HLOOK.out _ M0.out]
      by_cases hmt : own ∈ ds
      ·have HMT := aM hmt
       rw [decide_eq_true hmt]
       clear hmt
       go_wp2
       go_roundg (nm - (j + 1))
       case measure => omega
       case rel => exact ⟨L2, j + 1, _, _, _, by push_cast; rfl, by omega, ⟨HN.out.met HS.out (by rw [HEQ.out.1]; exact HMT.out)⟩, by rw [HEQ.out.1]; exact D0, by rw [HEQ.out.2.1]; exact F0, by rw [HEQ.out.2.2.1]; exact S0, TM, by rw [HEQ.out.2.2.2]; exact M0, BP, B⟩
      ·have HMT := aM hmt
       rw [decide_eq_false hmt]
       clear hmt
       have hc1 : w3.cell? ⟨gp, 0, none⟩ = some (.slice (some ad) n2 cd) := (qxA BP.out 0).trans rfl
       by_cases h6 : n2 = 6000
       ·have h6z : (n2 : Int) = 6000 := by omega
        have HRN := aM (HN.out.full HS.out (by rw [HEQ.out.1]; exact HMT.out) (by rw [← HL.out]; exact h6))
        go_wp2
        go_ret2
        rw [HRN.out]
        exact ⟨_, rfl, fun L h => by simp at h, qB BW.out B.out⟩
       ·have h6z : ¬ (n2 : Int) = 6000 := by omega
        have H6 := aM h6
        clear h6
        go_wp2_with (first
         | ((with_reducible refine qNC (s := 93) rfl ?_); go_loud (refine qaD (some 95) 93 rfl rfl Tryd.func22 (by kernel_rfl) rfl #[.slice Ao own.length co] rfl rfl (by (try simp only [List.map_toArray, List.map_cons, List.map_nil]); first | done | rfl | simp) ?_; refine (qYD Ao co own _ (Kd.qP OW.out).2.2 HOL.out.1 HOL.out.2).mono ?_; rintro e w4 ⟨rfl, hb⟩; refine ⟨_, rfl, ?_⟩; replace D0 := aM (Kd.qd D0.out hb); replace F0 := aM (Kd.qd F0.out hb); replace S0 := aM (Kd.qd S0.out hb); replace TM := aM (Kd.qd TM.out hb); replace M0 := aM (M0.out.below hb); replace BP := aM (qPA BP.out hb); replace B := aM (qtA B.out B.out.size hb); replace OW := aM (Kd.qd OW.out hb); clear hb)))
        obtain ⟨w5, hrun9, hM9, hgr9⟩ := M0.out.run_put (show met.length < maxLen by have h1 := HEQ.out.2.2.2; have h2 := HN.out.ok.len; rw [← h1, metP_len]; unfold maxLen; omega) HOK.out (v := true) trivial
        have hrun9' : (Instr.mapUpdate 70 (.map (some gm)) (encK own) (.bool true)).run Tryd.prog w4 = .ok () w5 := hrun9
        rw [hrun9']
        have n0_ := aM (M0.out.row D0.out hgr9)
        have n1_ := aM (M0.out.row F0.out hgr9)
        have n2_ := aM (M0.out.row S0.out hgr9)
        have n3_ := aM (M0.out.row TM.out hgr9)
        have n4_ := aM (M0.out.row OW.out hgr9)
        have P0 := aM (qi BP.out hgr9 (fun e_ => HNE.out (by injection e_ with e_; exact e_.symm)))
        have n5_ := aM (B.out.grown hgr9 B.out.size (fun k_ e_ => by cases e_; exact HGM.out))
        have M1 := aM (show mapK.Is w5 gm ((keyL own, true) :: met) from hM9)
        clear hrun9 hrun9' hM9 hgr9 D0 F0 S0 TM OW BP B M0 hc1 h6z
        have D0 := n0_
        have F0 := n1_
        have S0 := n2_
        have TM := n3_
        have OW := n4_
        have B := n5_
        clear n0_ n1_ n2_ n3_ n4_ n5_
        go_wp2
        obtain ⟨met1, hmm1⟩ : ∃ met1, (keyL own, true) :: met = met1 := ⟨_, rfl⟩
        rw [hmm1] at M1
        have HMM := aM hmm1
        clear hmm1
        refine qCB (n := 33) (S := fun w' => True) (ds := []) #[false, false, false, false, false, false, false, false, false, false, false, false, false, false, false, false, false, false, false, false, false, false, false, false, false, false, false, false, false, false, false, false, false] (by kernel_rfl) rfl rfl trivial (fun hHeld => ?_); refine qKA plTab18 plBits18 (fun HT_ HW_ => ?_)
        refine pS (i := 0) (N := some 96) #[true, false, false, false, false, false, false, false, false, false, false, false, false, false, false, false, false, false, false, false, false, false, false, false, false, false, false, false, false, false, false, false, false] HT_ ?_
        refine pS (i := 1) (N := some 97) #[true, true, false, false, false, false, false, false, false, false, false, false, false, false, false, false, false, false, false, false, false, false, false, false, false, false, false, false, false, false, false, false, false] HT_ ?_
        refine pS (i := 2) (N := some 98) #[true, true, true, false, false, false, false, false, false, false, false, false, false, false, false, false, false, false, false, false, false, false, false, false, false, false, false, false, false, false, false, false, false] HT_ ?_
        refine pS (i := 3) (N := some 99) #[true, true, true, true, false, false, false, false, false, false, false, false, false, false, false, false, false, false, false, false, false, false, false, false, false, false, false, false, false, false, false, false, false] HT_ ?_
        refine pS (i := 4) (N := some 100) #[true, true, true, true, true, false, false, false, false, false, false, false, false, false, false, false, false, false, false, false, false, false, false, false, false, false, false, false, false, false, false, false, false] HT_ ?_
        refine pS (i := 5) (N := some 101) #[true, true, true, true, true, true, false, false, false, false, false, false, false, false, false, false, false, false, false, false, false, false, false, false, false, false, false, false, false, false, false, false, false] HT_ ?_
        refine pS (i := 7) (N := some 103) #[true, true, true, true, true, true, false, true, false, false, false, false, false, false, false, false, false, false, false, false, false, false, false, false, false, false, false, false, false, false, false, false, false] HT_ ?_
        refine pS (i := 10) (N := some 106) #[true, true, true, true, true, true, false, true, false, false, true, false, false, false, false, false, false, false, false, false, false, false, false, false, false, false, false, false, false, false, false, false, false] HT_ ?_
        refine pS (i := 11) (N := some 107) #[true, true, true, true, true, true, false, true, false, false, true, true, false, false, false, false, false, false, false, false, false, false, false, false, false, false, false, false, false, false, false, false, false] HT_ ?_
        refine pS (i := 12) (N := some 108) #[true, true, true, true, true, true, false, true, false, false, true, true, true, false, false, false, false, false, false, false, false, false, false, false, false, false, false, false, false, false, false, false, false] HT_ ?_
        refine pS (i := 14) (N := some 110) #[true, true, true, true, true, true, false, true, false, false, true, true, true, false, true, false, false, false, false, false, false, false, false, false, false, false, false, false, false, false, false, false, false] HT_ ?_
        refine pS (i := 17) (N := some 113) #[true, true, true, true, true, true, false, true, false, false, true, true, true, false, true, false, false, true, false, false, false, false, false, false, false, false, false, false, false, false, false, false, false] HT_ ?_
        refine pS (i := 18) (N := some 114) #[true, true, true, true, true, true, false, true, false, false, true, true, true, false, true, false, false, true, true, false, false, false, false, false, false, false, false, false, false, false, false, false, false] HT_ ?_
        refine pS (i := 19) (N := some 115) #[true, true, true, true, true, true, false, true, false, false, true, true, true, false, true, false, false, true, true, true, false, false, false, false, false, false, false, false, false, false, false, false, false] HT_ ?_
        refine pS (i := 21) (N := some 117) #[true, true, true, true, true, true, false, true, false, false, true, true, true, false, true, false, false, true, true, true, false, true, false, false, false, false, false, false, false, false, false, false, false] HT_ ?_
        refine inv_at [6, 8, 9, 13, 15, 16, 20, 22, 23, 24, 25, 26, 27, 28, 29, 30, 31, 32] (fun a0_ b a w' => ∃ (s104 : Value) (s105 : Value) (s111 : Value) (s112 : Value) (s118 : Value) (s119 : Value), a = putSel a0_ b [(6, 102, .slice (some ad) n2 cd), (8, 104, s104), (9, 105, s105), (13, 109, v1), (15, 111, s111), (16, 112, s112), (20, 116, v2), (22, 118, s118), (23, 119, s119), (24, 120, .pointer (some ⟨gp, 0, none⟩)), (25, 121, .pointer (some ⟨gp, 0, none⟩)), (27, 122, .pointer (some ⟨gp, 0, none⟩)), (28, 123, .pointer (some ⟨gp, 1, none⟩)), (30, 124, .pointer (some ⟨gp, 0, none⟩)), (31, 125, .pointer (some ⟨gp, 2, none⟩))] ∧ (Below w1.heap.size w1 w') ∧ (b 26 = false → w'.heap[gp]? = some (.cells #[.slice (some ad) n2 cd, v1, v2] 53 (0, 0))) ∧ (b 26 = true → b 29 = false → w'.heap[gp]? = some (.cells #[s105, v1, v2] 53 (0, 0))) ∧ (b 29 = true → b 32 = false → w'.heap[gp]? = some (.cells #[s105, s112, v2] 53 (0, 0))) ∧ (b 32 = true → w'.heap[gp]? = some (.cells #[s105, s112, s119] 53 (0, 0))) ∧ (mapK.Is w' gm met1) ∧ (b 9 = false → Kd.R (plK w1) 26 w' w1.heap.size (fun _ => True) (.slice (some ad) n2 cd) ds) ∧ (b 8 = false → Kd.R k41 41 w' w1.heap.size (fun _ => True) (.slice Ao own.length co) own) ∧ (b 8 = true → b 9 = false → Kd.R (plK w1) 26 w' w1.heap.size (fun k_ => some k_ ≠ ((.slice (some ad) n2 cd) : Value).ownBlock) s104 [own]) ∧ (b 9 = true → Kd.R (plK w1) 26 w' w1.heap.size (fun _ => True) s105 (ds ++ [own])) ∧ (b 16 = false → Kd.R (Kd.int .i64) 3 w' w1.heap.size (fun _ => True) v1 fs) ∧ (b 15 = true → b 16 = false → Kd.R (Kd.int .i64) 3 w' w1.heap.size (fun k_ => some k_ ≠ (v1 : Value).ownBlock) s111 [(i : Int)]) ∧ (b 16 = true → Kd.R (Kd.int .i64) 3 w' w1.heap.size (fun _ => True) s112 (fs ++ [(i : Int)])) ∧ (b 23 = false → Kd.R Kd.string 9 w' w1.heap.size (fun _ => True) v2 ss) ∧ (b 22 = true → b 23 = false → Kd.R Kd.string 9 w' w1.heap.size (fun k_ => some k_ ≠ (v2 : Value).ownBlock) s118 [sg]) ∧ (b 23 = true → Kd.R Kd.string 9 w' w1.heap.size (fun _ => True) s119 (ss ++ [sg])) ∧ (b 23 = false → Kd.R Kd.string 9 w' w1.heap.size (fun k_ => some k_ ≠ (v2 : Value).ownBlock) (.slice (some adt) nm ct) ms) ∧ (b 23 = true → Kd.R Kd.string 9 w' w1.heap.size (fun k_ => some k_ ≠ (s119 : Value).ownBlock) (.slice (some adt) nm ct) ms)) HT_.out HW_.out (by kernel_rfl) (by kernel_rfl) ?_ ?_ ?_
        ·exact ⟨.bool false, .bool false, .bool false, .bool false, .bool false, .bool false, by simp only [putSel, Bool.false_eq_true, if_false], qu B.out, fun _ => qE P0.out, fun h_ => absurd h_ (by decide), fun h_ => absurd h_ (by decide), fun h_ => absurd h_ (by decide), M1.out.drew, fun _ => Kd.qS D0.out, fun _ => Kd.qS OW.out, fun h_ => absurd h_ (by decide), fun h_ => absurd h_ (by decide), fun _ => Kd.qS F0.out, fun h_ => absurd h_ (by decide), fun h_ => absurd h_ (by decide), fun _ => Kd.qS S0.out, fun h_ => absurd h_ (by decide), fun h_ => absurd h_ (by decide), fun _ => Kd.qS TM.out, fun h_ => absurd h_ (by decide)⟩
        ·skip
         clear B D0 F0 M1 OW P0 S0 TM
         refine qz ?_ ?_
         ·rintro b a w' ⟨s104, s105, s111, s112, s118, s119, ha, Q_B, Q_P0, Q_P1, Q_P2, Q_P3, Q_M1, Q_D0, Q_OW, Q_LD, Q_D1, Q_F0, Q_LF, Q_F1, Q_S0, Q_LS, Q_S1, Q_TM, Q_TN⟩ hb_ hon hoff
          refine ⟨_, rfl, fun K hK => ?_⟩
          have e101 : a.tmps[101]? = some (.pointer (some ⟨gp, 0, none⟩)) := by rw [ha]; exact (qdA rfl).trans rfl
          replace ha := aM ha
          have B := aM Q_B
          have P0 := aM (Q_P0 (hoff 26 kr))
          have M1 := aM Q_M1
          have D0 := aM (Q_D0 (hoff 9 kr))
          have F0 := aM (Q_F0 (hoff 16 kr))
          have S0 := aM (Q_S0 (hoff 23 kr))
          have TM := aM (Q_TM (hoff 23 kr))
          have hc_ : w'.cell? ⟨gp, 0, none⟩ = some (.slice (some ad) n2 cd) := (qxA P0.out 0).trans rfl
          refine qSB (w1 := w') (v := .slice (some ad) n2 cd) (by rfl) rfl ?_ ?_
          ·go_simp
           (try simp only [i64_w])
           try rfl
          refine hK.out _ _ ⟨s104, s105, s111, s112, s118, s119, (by rw [ha.out]; exact qEA 0 hb_ rfl rfl rfl), Q_B, Q_P0, fun h0_ _ => aF (hoff 26 kr) h0_, fun h0_ _ => aF (hoff 29 kr) h0_, fun h0_ => aF (hoff 32 kr) h0_, Q_M1, Q_D0, Q_OW, Q_LD, fun h0_ => aF (hoff 9 kr) h0_, Q_F0, Q_LF, fun h0_ => aF (hoff 16 kr) h0_, Q_S0, Q_LS, fun h0_ => aF (hoff 23 kr) h0_, Q_TM, fun h0_ => aF (hoff 23 kr) h0_⟩
         refine qz ?_ ?_
         ·rintro b a w' ⟨s104, s105, s111, s112, s118, s119, ha, Q_B, Q_P0, Q_P1, Q_P2, Q_P3, Q_M1, Q_D0, Q_OW, Q_LD, Q_D1, Q_F0, Q_LF, Q_F1, Q_S0, Q_LS, Q_S1, Q_TM, Q_TN⟩ hb_ hon hoff
          refine ⟨_, rfl, fun K hK => ?_⟩
          have e103 : a.tmps[103]? = some (.slice Ao own.length co) := by rw [ha]; exact (qdA rfl).trans rfl
          replace ha := aM ha
          have B := aM Q_B
          have P0 := aM (Q_P0 (hoff 26 kr))
          have M1 := aM Q_M1
          have D0 := aM (Q_D0 (hoff 9 kr))
          have OW := aM (Q_OW hb_)
          have F0 := aM (Q_F0 (hoff 16 kr))
          have S0 := aM (Q_S0 (hoff 23 kr))
          have TM := aM (Q_TM (hoff 23 kr))
          refine Kd.qhA (plK w1) (w0 := w1) w1.heap.size 26 (by rfl) (N := 104) rfl (xs := ([own] : List _)) (inner := [.slice Ao own.length co]) (ok := fun k_ => some k_ ≠ (.slice (some ad) n2 cd : Value).ownBlock) (okp := fun k_ => True ∧ some k_ ≠ (.slice (some ad) n2 cd : Value).ownBlock) ?hr8 ?hp8 (fun _ hk => hk.2) (Kd.fresh' (Kd.R_lt D0.out) _ (Nat.le_refl _)) B.out B.out.size (by simp) ?_
          case hr8 => first | (go_simp; done) | (go_simp; rfl)
          case hp8 => exact Reps.one (Kd.mix_made (Kd.quB OW.out (Kd.qyA D0.out) (by decide))) (Reps.none _ _)
          intro v_ w1_ hR_ hB_ hg_ _
          refine hK.out _ _ ⟨v_, s105, s111, s112, s118, s119, (by rw [ha.out]; exact qEA 1 hb_ rfl rfl rfl), hB_, fun _ => qi P0.out hg_ (by simp), fun h0_ _ => aF (hoff 26 kr) h0_, fun h0_ _ => aF (hoff 29 kr) h0_, fun h0_ => aF (hoff 32 kr) h0_, M1.out.qsB (hg_.block gm M1.out.lt (by simp)), fun _ => plLit0 D0.out hg_, fun h0_ => absurd ((qZB b 8).symm.trans h0_) (by decide), fun _ _ => hR_, fun h0_ => aF (hoff 9 kr) h0_, fun _ => plLit0 F0.out hg_, fun h0_ h1_ => plLit0 (Q_LF h0_ h1_) hg_, fun h0_ => aF (hoff 16 kr) h0_, fun _ => plLit0 S0.out hg_, fun h0_ h1_ => plLit0 (Q_LS h0_ h1_) hg_, fun h0_ => aF (hoff 23 kr) h0_, fun _ => plLit0 TM.out hg_, fun h0_ => aF (hoff 23 kr) h0_⟩
         refine qz ?_ ?_
         ·rintro b a w' ⟨s104, s105, s111, s112, s118, s119, ha, Q_B, Q_P0, Q_P1, Q_P2, Q_P3, Q_M1, Q_D0, Q_OW, Q_LD, Q_D1, Q_F0, Q_LF, Q_F1, Q_S0, Q_LS, Q_S1, Q_TM, Q_TN⟩ hb_ hon hoff
          refine ⟨_, rfl, fun K hK => ?_⟩
          have e102 : a.tmps[102]? = some (.slice (some ad) n2 cd) := by rw [ha]; exact qOA (e := (6, 102, .slice (some ad) n2 cd)) 0 rfl rfl (hon 6 kr) rfl
          have e104 : a.tmps[104]? = some (s104) := by rw [ha]; exact qOA (e := (8, 104, s104)) 1 rfl rfl (hon 8 kr) rfl
          replace ha := aM ha
          have B := aM Q_B
          have P0 := aM (Q_P0 (hoff 26 kr))
          have M1 := aM Q_M1
          have D0 := aM (Q_D0 hb_)
          have LD := aM (Q_LD (hon 8 kr) hb_)
          have F0 := aM (Q_F0 (hoff 16 kr))
          have S0 := aM (Q_S0 (hoff 23 kr))
          have TM := aM (Q_TM (hoff 23 kr))
          obtain ⟨A_, c_, hs_, hle_, HRd_⟩ := OwnRow.reads LD.out.2
          have hbd_ := HBD.out
          refine Kd.qDA (plK w1) (w0 := w1) w1.heap.size (by rfl) (.tmp 102) (.tmp 104) 49 26 (.slice none 0 0) 24 rfl Tryd.underlying49 plInfo rfl (by show 0 < 1; omega) (by omega) (.slice (some ad) n2 cd) ds [own] A_ _ c_ (fun _ => True) (fun k_ => some k_ ≠ ((.slice (some ad) n2 cd) : Value).ownBlock ∧ some k_ ≠ (s104 : Value).ownBlock) (qHC e102) ((qHC e104).trans hs_) D0.out HRd_ (fun _ _ h_ => h_) (fun _ hk => ⟨trivial, hk.1⟩) (fun _ _ => trivial) B.out B.out.size (by simp only [List.length_cons, List.length_nil]; omega) ?_
          intro v_ w1_ hR_ hB_ hg_ hat_
          refine hK.out _ _ ⟨s104, v_, s111, s112, s118, s119, (by rw [ha.out]; exact qEA 2 hb_ rfl rfl rfl), hB_, fun _ => qi P0.out hg_ (Kd.R_ne D0.out P0.out (by decide)), fun h0_ _ => aF (hoff 26 kr) h0_, fun h0_ _ => aF (hoff 29 kr) h0_, fun h0_ => aF (hoff 32 kr) h0_, M1.out.qsB (hg_.block gm M1.out.lt (M1.out.ne D0.out)), fun h0_ => absurd ((qZB b 9).symm.trans h0_) (by decide), fun h0_ => aT (hon 8 kr) h0_, fun _ h1_ => absurd ((qZB b 9).symm.trans h1_) (by decide), fun _ => hR_, fun _ => Kd.qMB F0.out (Kd.qyA D0.out) (by decide) hg_, fun h0_ h1_ => Kd.qMB (Q_LF h0_ h1_) (Kd.qyA D0.out) (by decide) hg_, fun h0_ => aF (hoff 16 kr) h0_, fun _ => Kd.qMB S0.out (Kd.qyA D0.out) (by decide) hg_, fun h0_ h1_ => Kd.qMB (Q_LS h0_ h1_) (Kd.qyA D0.out) (by decide) hg_, fun h0_ => aF (hoff 23 kr) h0_, fun _ => Kd.qMB TM.out (Kd.qyA D0.out) (by decide) hg_, fun h0_ => aF (hoff 23 kr) h0_⟩
         refine qz ?_ ?_
         ·rintro b a w' ⟨s104, s105, s111, s112, s118, s119, ha, Q_B, Q_P0, Q_P1, Q_P2, Q_P3, Q_M1, Q_D0, Q_OW, Q_LD, Q_D1, Q_F0, Q_LF, Q_F1, Q_S0, Q_LS, Q_S1, Q_TM, Q_TN⟩ hb_ hon hoff
          refine ⟨_, rfl, fun K hK => ?_⟩
          have e108 : a.tmps[108]? = some (.pointer (some ⟨gp, 1, none⟩)) := by rw [ha]; exact (qdA rfl).trans rfl
          replace ha := aM ha
          have B := aM Q_B
          have P0 := aM (Q_P0 (hoff 26 kr))
          have M1 := aM Q_M1
          have F0 := aM (Q_F0 (hoff 16 kr))
          have S0 := aM (Q_S0 (hoff 23 kr))
          have TM := aM (Q_TM (hoff 23 kr))
          have hc_ : w'.cell? ⟨gp, 1, none⟩ = some v1 := (qxA P0.out 1).trans rfl
          refine qSB (w1 := w') (v := v1) (by rfl) rfl ?_ ?_
          ·go_simp
           (try simp only [i64_w])
           try rfl
          refine hK.out _ _ ⟨s104, s105, s111, s112, s118, s119, (by rw [ha.out]; exact qEA 3 hb_ rfl rfl rfl), Q_B, Q_P0, fun h0_ _ => aF (hoff 26 kr) h0_, fun h0_ _ => aF (hoff 29 kr) h0_, fun h0_ => aF (hoff 32 kr) h0_, Q_M1, Q_D0, Q_OW, Q_LD, Q_D1, Q_F0, Q_LF, fun h0_ => aF (hoff 16 kr) h0_, Q_S0, Q_LS, fun h0_ => aF (hoff 23 kr) h0_, Q_TM, fun h0_ => aF (hoff 23 kr) h0_⟩
         refine qz ?_ ?_
         ·rintro b a w' ⟨s104, s105, s111, s112, s118, s119, ha, Q_B, Q_P0, Q_P1, Q_P2, Q_P3, Q_M1, Q_D0, Q_OW, Q_LD, Q_D1, Q_F0, Q_LF, Q_F1, Q_S0, Q_LS, Q_S1, Q_TM, Q_TN⟩ hb_ hon hoff
          refine ⟨_, rfl, fun K hK => ?_⟩
          have e110 : a.tmps[110]? = some (.int .i64 (i : Int)) := by rw [ha]; exact (qdA rfl).trans rfl
          replace ha := aM ha
          have B := aM Q_B
          have P0 := aM (Q_P0 (hoff 26 kr))
          have M1 := aM Q_M1
          have F0 := aM (Q_F0 (hoff 16 kr))
          have S0 := aM (Q_S0 (hoff 23 kr))
          have TM := aM (Q_TM (hoff 23 kr))
          refine Kd.qhA (Kd.int .i64) (w0 := w1) w1.heap.size 3 (by rfl) (N := 111) rfl (xs := ([(i : Int)] : List _)) (inner := [.int .i64 (i : Int)]) (ok := fun k_ => some k_ ≠ (v1 : Value).ownBlock) (okp := fun _ => False) ?hr15 ?hp15 (fun _ hk => hk.elim) (Kd.fresh' (Kd.R_lt F0.out) _ (Nat.le_refl _)) B.out B.out.size (by simp) ?_
          case hr15 => first | (go_simp; done) | (go_simp; rfl)
          case hp15 => exact Reps.one (show Kd.M (Kd.int .i64) _ _ _ (i : Int) [.int .i64 (i : Int)] from rfl) (Reps.none _ _)
          intro v_ w1_ hR_ hB_ hg_ _
          refine hK.out _ _ ⟨s104, s105, v_, s112, s118, s119, (by rw [ha.out]; exact qEA 4 hb_ rfl rfl rfl), hB_, fun _ => qi P0.out hg_ (by simp), fun h0_ _ => aF (hoff 26 kr) h0_, fun h0_ _ => aF (hoff 29 kr) h0_, fun h0_ => aF (hoff 32 kr) h0_, M1.out.qsB (hg_.block gm M1.out.lt (by simp)), fun h0_ => plLit0 (Q_D0 h0_) hg_, fun h0_ => plLit0 (Q_OW h0_) hg_, fun h0_ h1_ => plLit0 (Q_LD h0_ h1_) hg_, fun h0_ => plLit0 (Q_D1 h0_) hg_, fun _ => plLit0 F0.out hg_, fun _ _ => hR_, fun h0_ => aF (hoff 16 kr) h0_, fun _ => plLit0 S0.out hg_, fun h0_ h1_ => plLit0 (Q_LS h0_ h1_) hg_, fun h0_ => aF (hoff 23 kr) h0_, fun _ => plLit0 TM.out hg_, fun h0_ => aF (hoff 23 kr) h0_⟩
         refine qz ?_ ?_
         ·rintro b a w' ⟨s104, s105, s111, s112, s118, s119, ha, Q_B, Q_P0, Q_P1, Q_P2, Q_P3, Q_M1, Q_D0, Q_OW, Q_LD, Q_D1, Q_F0, Q_LF, Q_F1, Q_S0, Q_LS, Q_S1, Q_TM, Q_TN⟩ hb_ hon hoff
          refine ⟨_, rfl, fun K hK => ?_⟩
          have e109 : a.tmps[109]? = some (v1) := by rw [ha]; exact qOA (e := (13, 109, v1)) 3 rfl rfl (hon 13 kr) rfl
          have e111 : a.tmps[111]? = some (s111) := by rw [ha]; exact qOA (e := (15, 111, s111)) 4 rfl rfl (hon 15 kr) rfl
          replace ha := aM ha
          have B := aM Q_B
          have P0 := aM (Q_P0 (hoff 26 kr))
          have M1 := aM Q_M1
          have D1 := aM (Q_D1 (hon 9 kr))
          have F0 := aM (Q_F0 hb_)
          have LF := aM (Q_LF (hon 15 kr) hb_)
          have S0 := aM (Q_S0 (hoff 23 kr))
          have TM := aM (Q_TM (hoff 23 kr))
          obtain ⟨A_, c_, hs_, hle_, HRd_⟩ := OwnRow.reads LF.out.2
          have hbd_ := HBD.out
          refine Kd.qDA (Kd.int .i64) (w0 := w1) w1.heap.size (by rfl) (.tmp 109) (.tmp 111) 50 3 (.int .i64 0) 8 rfl Tryd.underlying50 info3 rfl (by show 0 < 1; omega) (by omega) v1 fs [(i : Int)] A_ _ c_ (fun _ => True) (fun k_ => some k_ ≠ (v1 : Value).ownBlock ∧ some k_ ≠ (s111 : Value).ownBlock) (qHC e109) ((qHC e111).trans hs_) F0.out HRd_ (fun _ _ h_ => h_) (fun _ hk => ⟨trivial, hk.1⟩) (fun _ _ => trivial) B.out B.out.size (by simp only [List.length_cons, List.length_nil]; omega) ?_
          intro v_ w1_ hR_ hB_ hg_ hat_
          refine hK.out _ _ ⟨s104, s105, s111, v_, s118, s119, (by rw [ha.out]; exact qEA 5 hb_ rfl rfl rfl), hB_, fun _ => qi P0.out hg_ (Kd.R_ne F0.out P0.out (by decide)), fun h0_ _ => aF (hoff 26 kr) h0_, fun h0_ _ => aF (hoff 29 kr) h0_, fun h0_ => aF (hoff 32 kr) h0_, M1.out.qsB (hg_.block gm M1.out.lt (M1.out.ne F0.out)), fun h0_ => aT (hon 9 kr) h0_, fun h0_ => aT (hon 8 kr) h0_, fun _ h1_ => aT (hon 9 kr) h1_, fun _ => Kd.qMB D1.out (Kd.qyA F0.out) (qDE w1 (by decide) (by decide)) hg_, fun h0_ => absurd ((qZB b 16).symm.trans h0_) (by decide), fun _ h1_ => absurd ((qZB b 16).symm.trans h1_) (by decide), fun _ => hR_, fun _ => Kd.qMB S0.out (Kd.qyA F0.out) (by decide) hg_, fun h0_ h1_ => Kd.qMB (Q_LS h0_ h1_) (Kd.qyA F0.out) (by decide) hg_, fun h0_ => aF (hoff 23 kr) h0_, fun _ => Kd.qMB TM.out (Kd.qyA F0.out) (by decide) hg_, fun h0_ => aF (hoff 23 kr) h0_⟩
         refine qz ?_ ?_
         ·rintro b a w' ⟨s104, s105, s111, s112, s118, s119, ha, Q_B, Q_P0, Q_P1, Q_P2, Q_P3, Q_M1, Q_D0, Q_OW, Q_LD, Q_D1, Q_F0, Q_LF, Q_F1, Q_S0, Q_LS, Q_S1, Q_TM, Q_TN⟩ hb_ hon hoff
          refine ⟨_, rfl, fun K hK => ?_⟩
          have e115 : a.tmps[115]? = some (.pointer (some ⟨gp, 2, none⟩)) := by rw [ha]; exact (qdA rfl).trans rfl
          replace ha := aM ha
          have B := aM Q_B
          have P0 := aM (Q_P0 (hoff 26 kr))
          have M1 := aM Q_M1
          have S0 := aM (Q_S0 (hoff 23 kr))
          have TM := aM (Q_TM (hoff 23 kr))
          have hc_ : w'.cell? ⟨gp, 2, none⟩ = some v2 := (qxA P0.out 2).trans rfl
          refine qSB (w1 := w') (v := v2) (by rfl) rfl ?_ ?_
          ·go_simp
           (try simp only [i64_w])
           try rfl
          refine hK.out _ _ ⟨s104, s105, s111, s112, s118, s119, (by rw [ha.out]; exact qEA 6 hb_ rfl rfl rfl), Q_B, Q_P0, fun h0_ _ => aF (hoff 26 kr) h0_, fun h0_ _ => aF (hoff 29 kr) h0_, fun h0_ => aF (hoff 32 kr) h0_, Q_M1, Q_D0, Q_OW, Q_LD, Q_D1, Q_F0, Q_LF, Q_F1, Q_S0, Q_LS, fun h0_ => aF (hoff 23 kr) h0_, Q_TM, fun h0_ => aF (hoff 23 kr) h0_⟩
         refine qz ?_ ?_
         ·rintro b a w' ⟨s104, s105, s111, s112, s118, s119, ha, Q_B, Q_P0, Q_P1, Q_P2, Q_P3, Q_M1, Q_D0, Q_OW, Q_LD, Q_D1, Q_F0, Q_LF, Q_F1, Q_S0, Q_LS, Q_S1, Q_TM, Q_TN⟩ hb_ hon hoff
          refine ⟨_, rfl, fun K hK => ?_⟩
          have e117 : a.tmps[117]? = some (.string sg) := by rw [ha]; exact (qdA rfl).trans rfl
          replace ha := aM ha
          have B := aM Q_B
          have P0 := aM (Q_P0 (hoff 26 kr))
          have M1 := aM Q_M1
          have S0 := aM (Q_S0 (hoff 23 kr))
          have TM := aM (Q_TM (hoff 23 kr))
          refine Kd.qhA Kd.string (w0 := w1) w1.heap.size 9 (by rfl) (N := 118) rfl (xs := ([sg] : List _)) (inner := [.string sg]) (ok := fun k_ => some k_ ≠ (v2 : Value).ownBlock) (okp := fun _ => False) ?hr22 ?hp22 (fun _ hk => hk.elim) (Kd.fresh' (Kd.R_lt S0.out) _ (Nat.le_refl _)) B.out B.out.size (by simp) ?_
          case hr22 => first | (go_simp; done) | (go_simp; rfl)
          case hp22 => exact Reps.one (show Kd.M Kd.string _ _ _ sg [.string sg] from rfl) (Reps.none _ _)
          intro v_ w1_ hR_ hB_ hg_ _
          refine hK.out _ _ ⟨s104, s105, s111, s112, v_, s119, (by rw [ha.out]; exact qEA 7 hb_ rfl rfl rfl), hB_, fun _ => qi P0.out hg_ (by simp), fun h0_ _ => aF (hoff 26 kr) h0_, fun h0_ _ => aF (hoff 29 kr) h0_, fun h0_ => aF (hoff 32 kr) h0_, M1.out.qsB (hg_.block gm M1.out.lt (by simp)), fun h0_ => plLit0 (Q_D0 h0_) hg_, fun h0_ => plLit0 (Q_OW h0_) hg_, fun h0_ h1_ => plLit0 (Q_LD h0_ h1_) hg_, fun h0_ => plLit0 (Q_D1 h0_) hg_, fun h0_ => plLit0 (Q_F0 h0_) hg_, fun h0_ h1_ => plLit0 (Q_LF h0_ h1_) hg_, fun h0_ => plLit0 (Q_F1 h0_) hg_, fun _ => plLit0 S0.out hg_, fun _ _ => hR_, fun h0_ => aF (hoff 23 kr) h0_, fun _ => plLit0 TM.out hg_, fun h0_ => aF (hoff 23 kr) h0_⟩
         refine qz ?_ ?_
         ·rintro b a w' ⟨s104, s105, s111, s112, s118, s119, ha, Q_B, Q_P0, Q_P1, Q_P2, Q_P3, Q_M1, Q_D0, Q_OW, Q_LD, Q_D1, Q_F0, Q_LF, Q_F1, Q_S0, Q_LS, Q_S1, Q_TM, Q_TN⟩ hb_ hon hoff
          refine ⟨_, rfl, fun K hK => ?_⟩
          have e116 : a.tmps[116]? = some (v2) := by rw [ha]; exact qOA (e := (20, 116, v2)) 6 rfl rfl (hon 20 kr) rfl
          have e118 : a.tmps[118]? = some (s118) := by rw [ha]; exact qOA (e := (22, 118, s118)) 7 rfl rfl (hon 22 kr) rfl
          replace ha := aM ha
          have B := aM Q_B
          have P0 := aM (Q_P0 (hoff 26 kr))
          have M1 := aM Q_M1
          have D1 := aM (Q_D1 (hon 9 kr))
          have F1 := aM (Q_F1 (hon 16 kr))
          have S0 := aM (Q_S0 hb_)
          have LS := aM (Q_LS (hon 22 kr) hb_)
          have TM := aM (Q_TM hb_)
          obtain ⟨A_, c_, hs_, hle_, HRd_⟩ := OwnRow.reads LS.out.2
          have hbd_ := HBD.out
          refine Kd.qDA Kd.string (w0 := w1) w1.heap.size (by rfl) (.tmp 116) (.tmp 118) 51 9 (.string ⟨#[]⟩) 16 rfl Tryd.underlying51 info9 rfl (by show 0 < 1; omega) (by omega) v2 ss [sg] A_ _ c_ (fun _ => True) (fun k_ => some k_ ≠ (v2 : Value).ownBlock ∧ some k_ ≠ (s118 : Value).ownBlock) (qHC e116) ((qHC e118).trans hs_) S0.out HRd_ (fun _ _ h_ => h_) (fun _ hk => ⟨trivial, hk.1⟩) (fun _ _ => trivial) B.out B.out.size (by simp only [List.length_cons, List.length_nil]; omega) ?_
          intro v_ w1_ hR_ hB_ hg_ hat_
          refine hK.out _ _ ⟨s104, s105, s111, s112, s118, v_, (by rw [ha.out]; exact qEA 8 hb_ rfl rfl rfl), hB_, fun _ => qi P0.out hg_ (Kd.R_ne S0.out P0.out (by decide)), fun h0_ _ => aF (hoff 26 kr) h0_, fun h0_ _ => aF (hoff 29 kr) h0_, fun h0_ => aF (hoff 32 kr) h0_, M1.out.qsB (hg_.block gm M1.out.lt (M1.out.ne S0.out)), fun h0_ => aT (hon 9 kr) h0_, fun h0_ => aT (hon 8 kr) h0_, fun _ h1_ => aT (hon 9 kr) h1_, fun _ => Kd.qMB D1.out (Kd.qyA S0.out) (qDE w1 (by decide) (by decide)) hg_, fun h0_ => aT (hon 16 kr) h0_, fun _ h1_ => aT (hon 16 kr) h1_, fun _ => Kd.qMB F1.out (Kd.qyA S0.out) (by decide) hg_, fun h0_ => absurd ((qZB b 23).symm.trans h0_) (by decide), fun _ h1_ => absurd ((qZB b 23).symm.trans h1_) (by decide), fun _ => hR_, fun h0_ => absurd ((qZB b 23).symm.trans h0_) (by decide), fun _ => Kd.qZ (Kd.qJA (ok := fun _ => True) (Kd.qZ TM.out (fun _ hk => ⟨trivial, hk⟩)) hg_ hat_) (fun _ hk => hk.2)⟩
         refine qz ?_ ?_
         ·rintro b a w' ⟨s104, s105, s111, s112, s118, s119, ha, Q_B, Q_P0, Q_P1, Q_P2, Q_P3, Q_M1, Q_D0, Q_OW, Q_LD, Q_D1, Q_F0, Q_LF, Q_F1, Q_S0, Q_LS, Q_S1, Q_TM, Q_TN⟩ hb_ hon hoff
          refine ⟨_, rfl, fun K hK => ?_⟩
          have e96 : a.tmps[96]? = some (.pointer (some ⟨gp, 0, none⟩)) := by rw [ha]; exact (qdA rfl).trans rfl
          replace ha := aM ha
          have B := aM Q_B
          have P0 := aM (Q_P0 (hoff 26 kr))
          have M1 := aM Q_M1
          have D1 := aM (Q_D1 (hon 9 kr))
          have F1 := aM (Q_F1 (hon 16 kr))
          have S1 := aM (Q_S1 (hon 23 kr))
          have TN := aM (Q_TN (hon 23 kr))
          refine qSB (w1 := w') (v := .pointer (some ⟨gp, 0, none⟩)) (by rfl) rfl ?_ ?_
          ·go_simp
           (try simp only [i64_w])
           try rfl
          refine hK.out _ _ ⟨s104, s105, s111, s112, s118, s119, (by rw [ha.out]; exact qEA 9 hb_ rfl rfl rfl), Q_B, Q_P0, fun h0_ _ => aF (hoff 26 kr) h0_, fun h0_ _ => aF (hoff 29 kr) h0_, fun h0_ => aF (hoff 32 kr) h0_, Q_M1, fun h0_ => aT (hon 9 kr) h0_, fun h0_ => aT (hon 8 kr) h0_, fun _ h1_ => aT (hon 9 kr) h1_, Q_D1, fun h0_ => aT (hon 16 kr) h0_, fun _ h1_ => aT (hon 16 kr) h1_, Q_F1, fun h0_ => aT (hon 23 kr) h0_, fun _ h1_ => aT (hon 23 kr) h1_, Q_S1, fun h0_ => aT (hon 23 kr) h0_, Q_TN⟩
         refine qz ?_ ?_
         ·rintro b a w' ⟨s104, s105, s111, s112, s118, s119, ha, Q_B, Q_P0, Q_P1, Q_P2, Q_P3, Q_M1, Q_D0, Q_OW, Q_LD, Q_D1, Q_F0, Q_LF, Q_F1, Q_S0, Q_LS, Q_S1, Q_TM, Q_TN⟩ hb_ hon hoff
          refine ⟨_, rfl, fun K hK => ?_⟩
          have e120 : a.tmps[120]? = some (.pointer (some ⟨gp, 0, none⟩)) := by rw [ha]; exact qOA (e := (24, 120, .pointer (some ⟨gp, 0, none⟩))) 9 rfl rfl (hon 24 kr) rfl
          replace ha := aM ha
          have B := aM Q_B
          have P0 := aM (Q_P0 (hoff 26 kr))
          have M1 := aM Q_M1
          have D1 := aM (Q_D1 (hon 9 kr))
          have F1 := aM (Q_F1 (hon 16 kr))
          have S1 := aM (Q_S1 (hon 23 kr))
          have TN := aM (Q_TN (hon 23 kr))
          refine qSB (w1 := w') (v := .pointer (some ⟨gp, 0, none⟩)) (by rfl) rfl ?_ ?_
          ·go_simp
           (try simp only [i64_w])
           try rfl
          refine hK.out _ _ ⟨s104, s105, s111, s112, s118, s119, (by rw [ha.out]; exact qEA 10 hb_ rfl rfl rfl), Q_B, Q_P0, fun h0_ _ => aF (hoff 26 kr) h0_, fun h0_ _ => aF (hoff 29 kr) h0_, fun h0_ => aF (hoff 32 kr) h0_, Q_M1, fun h0_ => aT (hon 9 kr) h0_, fun h0_ => aT (hon 8 kr) h0_, fun _ h1_ => aT (hon 9 kr) h1_, Q_D1, fun h0_ => aT (hon 16 kr) h0_, fun _ h1_ => aT (hon 16 kr) h1_, Q_F1, fun h0_ => aT (hon 23 kr) h0_, fun _ h1_ => aT (hon 23 kr) h1_, Q_S1, fun h0_ => aT (hon 23 kr) h0_, Q_TN⟩
         refine qz ?_ ?_
         ·rintro b a w' ⟨s104, s105, s111, s112, s118, s119, ha, Q_B, Q_P0, Q_P1, Q_P2, Q_P3, Q_M1, Q_D0, Q_OW, Q_LD, Q_D1, Q_F0, Q_LF, Q_F1, Q_S0, Q_LS, Q_S1, Q_TM, Q_TN⟩ hb_ hon hoff
          refine ⟨_, rfl, fun K hK => ?_⟩
          have e121 : a.tmps[121]? = some (.pointer (some ⟨gp, 0, none⟩)) := by rw [ha]; exact qOA (e := (25, 121, .pointer (some ⟨gp, 0, none⟩))) 10 rfl rfl (hon 25 kr) rfl
          have e105 : a.tmps[105]? = some (s105) := by rw [ha]; exact qOA (e := (9, 105, s105)) 2 rfl rfl (hon 9 kr) rfl
          replace ha := aM ha
          have B := aM Q_B
          have P0 := aM (Q_P0 hb_)
          have M1 := aM Q_M1
          have D1 := aM (Q_D1 (hon 9 kr))
          have F1 := aM (Q_F1 (hon 16 kr))
          have S1 := aM (Q_S1 (hon 23 kr))
          have TN := aM (Q_TN (hon 23 kr))
          obtain ⟨A_, c_, hs_⟩ := Kd.qBA D1.out
          have hc_ : w'.cell? ⟨gp, 0, none⟩ = some (.slice (some ad) n2 cd) := (qxA P0.out 0).trans rfl
          have hf_ : w'.frozen? ⟨gp, 0, none⟩ = false := qX P0.out 0
          refine skip_ (w1 := w'.setCell ⟨gp, 0, none⟩ s105) (by rfl) rfl ?hr26 ?_
          case hr26 =>
           rw [hs_] at e105
           rw [hs_]
           first | (go_simp; done) | (go_simp; rfl)
          refine hK.out _ _ ⟨s104, s105, s111, s112, s118, s119, (by rw [ha.out]; exact qrC (v := undef) rfl), qy B.out HGP.out, fun h0_ => absurd ((qZB b 26).symm.trans h0_) (by decide), fun _ _ => qAA P0.out 0 _ rfl, fun h0_ _ => aF (hoff 29 kr) h0_, fun h0_ => aF (hoff 32 kr) h0_, M1.out.setCell HNE.out _, fun h0_ => aT (hon 9 kr) h0_, fun h0_ => aT (hon 8 kr) h0_, fun _ h1_ => aT (hon 9 kr) h1_, fun _ => Kd.R_set D1.out P0.out (qDE w1 (by decide) (by decide)) _ _, fun h0_ => aT (hon 16 kr) h0_, fun _ h1_ => aT (hon 16 kr) h1_, fun _ => Kd.R_set F1.out P0.out (by decide) _ _, fun h0_ => aT (hon 23 kr) h0_, fun _ h1_ => aT (hon 23 kr) h1_, fun _ => Kd.R_set S1.out P0.out (by decide) _ _, fun h0_ => aT (hon 23 kr) h0_, fun _ => Kd.R_set TN.out P0.out (by decide) _ _⟩
         refine qz ?_ ?_
         ·rintro b a w' ⟨s104, s105, s111, s112, s118, s119, ha, Q_B, Q_P0, Q_P1, Q_P2, Q_P3, Q_M1, Q_D0, Q_OW, Q_LD, Q_D1, Q_F0, Q_LF, Q_F1, Q_S0, Q_LS, Q_S1, Q_TM, Q_TN⟩ hb_ hon hoff
          refine ⟨_, rfl, fun K hK => ?_⟩
          have e97 : a.tmps[97]? = some (.pointer (some ⟨gp, 0, none⟩)) := by rw [ha]; exact (qdA rfl).trans rfl
          replace ha := aM ha
          have B := aM Q_B
          have P1 := aM (Q_P1 (hon 26 kr) (hoff 29 kr))
          have M1 := aM Q_M1
          have D1 := aM (Q_D1 (hon 9 kr))
          have F1 := aM (Q_F1 (hon 16 kr))
          have S1 := aM (Q_S1 (hon 23 kr))
          have TN := aM (Q_TN (hon 23 kr))
          refine qSB (w1 := w') (v := .pointer (some ⟨gp, 0, none⟩)) (by rfl) rfl ?_ ?_
          ·go_simp
           (try simp only [i64_w])
           try rfl
          refine hK.out _ _ ⟨s104, s105, s111, s112, s118, s119, (by rw [ha.out]; exact qEA 11 hb_ rfl rfl rfl), Q_B, fun h0_ => aT (hon 26 kr) h0_, Q_P1, fun h0_ _ => aF (hoff 29 kr) h0_, fun h0_ => aF (hoff 32 kr) h0_, Q_M1, fun h0_ => aT (hon 9 kr) h0_, fun h0_ => aT (hon 8 kr) h0_, fun _ h1_ => aT (hon 9 kr) h1_, Q_D1, fun h0_ => aT (hon 16 kr) h0_, fun _ h1_ => aT (hon 16 kr) h1_, Q_F1, fun h0_ => aT (hon 23 kr) h0_, fun _ h1_ => aT (hon 23 kr) h1_, Q_S1, fun h0_ => aT (hon 23 kr) h0_, Q_TN⟩
         refine qz ?_ ?_
         ·rintro b a w' ⟨s104, s105, s111, s112, s118, s119, ha, Q_B, Q_P0, Q_P1, Q_P2, Q_P3, Q_M1, Q_D0, Q_OW, Q_LD, Q_D1, Q_F0, Q_LF, Q_F1, Q_S0, Q_LS, Q_S1, Q_TM, Q_TN⟩ hb_ hon hoff
          refine ⟨_, rfl, fun K hK => ?_⟩
          have e122 : a.tmps[122]? = some (.pointer (some ⟨gp, 0, none⟩)) := by rw [ha]; exact qOA (e := (27, 122, .pointer (some ⟨gp, 0, none⟩))) 11 rfl rfl (hon 27 kr) rfl
          replace ha := aM ha
          have B := aM Q_B
          have P1 := aM (Q_P1 (hon 26 kr) (hoff 29 kr))
          have M1 := aM Q_M1
          have D1 := aM (Q_D1 (hon 9 kr))
          have F1 := aM (Q_F1 (hon 16 kr))
          have S1 := aM (Q_S1 (hon 23 kr))
          have TN := aM (Q_TN (hon 23 kr))
          refine qSB (w1 := w') (v := .pointer (some ⟨gp, 1, none⟩)) (by rfl) rfl ?_ ?_
          ·go_simp
           (try simp only [i64_w])
           try rfl
          refine hK.out _ _ ⟨s104, s105, s111, s112, s118, s119, (by rw [ha.out]; exact qEA 12 hb_ rfl rfl rfl), Q_B, fun h0_ => aT (hon 26 kr) h0_, Q_P1, fun h0_ _ => aF (hoff 29 kr) h0_, fun h0_ => aF (hoff 32 kr) h0_, Q_M1, fun h0_ => aT (hon 9 kr) h0_, fun h0_ => aT (hon 8 kr) h0_, fun _ h1_ => aT (hon 9 kr) h1_, Q_D1, fun h0_ => aT (hon 16 kr) h0_, fun _ h1_ => aT (hon 16 kr) h1_, Q_F1, fun h0_ => aT (hon 23 kr) h0_, fun _ h1_ => aT (hon 23 kr) h1_, Q_S1, fun h0_ => aT (hon 23 kr) h0_, Q_TN⟩
         refine qz ?_ ?_
         ·rintro b a w' ⟨s104, s105, s111, s112, s118, s119, ha, Q_B, Q_P0, Q_P1, Q_P2, Q_P3, Q_M1, Q_D0, Q_OW, Q_LD, Q_D1, Q_F0, Q_LF, Q_F1, Q_S0, Q_LS, Q_S1, Q_TM, Q_TN⟩ hb_ hon hoff
          refine ⟨_, rfl, fun K hK => ?_⟩
          have e123 : a.tmps[123]? = some (.pointer (some ⟨gp, 1, none⟩)) := by rw [ha]; exact qOA (e := (28, 123, .pointer (some ⟨gp, 1, none⟩))) 12 rfl rfl (hon 28 kr) rfl
          have e112 : a.tmps[112]? = some (s112) := by rw [ha]; exact qOA (e := (16, 112, s112)) 5 rfl rfl (hon 16 kr) rfl
          replace ha := aM ha
          have B := aM Q_B
          have P1 := aM (Q_P1 (hon 26 kr) hb_)
          have M1 := aM Q_M1
          have D1 := aM (Q_D1 (hon 9 kr))
          have F1 := aM (Q_F1 (hon 16 kr))
          have S1 := aM (Q_S1 (hon 23 kr))
          have TN := aM (Q_TN (hon 23 kr))
          obtain ⟨A_, c_, hs_⟩ := Kd.qBA F1.out
          have hc_ : w'.cell? ⟨gp, 1, none⟩ = some (v1) := (qxA P1.out 1).trans rfl
          have hf_ : w'.frozen? ⟨gp, 1, none⟩ = false := qX P1.out 1
          refine skip_ (w1 := w'.setCell ⟨gp, 1, none⟩ s112) (by rfl) rfl ?hr29 ?_
          case hr29 =>
           rw [hs_] at e112
           rw [hs_]
           first | (go_simp; done) | (go_simp; rfl)
          refine hK.out _ _ ⟨s104, s105, s111, s112, s118, s119, (by rw [ha.out]; exact qrC (v := undef) rfl), qy B.out HGP.out, fun h0_ => aT (hon 26 kr) h0_, fun _ h1_ => absurd ((qZB b 29).symm.trans h1_) (by decide), fun _ _ => qAA P1.out 1 _ rfl, fun h0_ => aF (hoff 32 kr) h0_, M1.out.setCell HNE.out _, fun h0_ => aT (hon 9 kr) h0_, fun h0_ => aT (hon 8 kr) h0_, fun _ h1_ => aT (hon 9 kr) h1_, fun _ => Kd.R_set D1.out P1.out (qDE w1 (by decide) (by decide)) _ _, fun h0_ => aT (hon 16 kr) h0_, fun _ h1_ => aT (hon 16 kr) h1_, fun _ => Kd.R_set F1.out P1.out (by decide) _ _, fun h0_ => aT (hon 23 kr) h0_, fun _ h1_ => aT (hon 23 kr) h1_, fun _ => Kd.R_set S1.out P1.out (by decide) _ _, fun h0_ => aT (hon 23 kr) h0_, fun _ => Kd.R_set TN.out P1.out (by decide) _ _⟩
         refine qz ?_ ?_
         ·rintro b a w' ⟨s104, s105, s111, s112, s118, s119, ha, Q_B, Q_P0, Q_P1, Q_P2, Q_P3, Q_M1, Q_D0, Q_OW, Q_LD, Q_D1, Q_F0, Q_LF, Q_F1, Q_S0, Q_LS, Q_S1, Q_TM, Q_TN⟩ hb_ hon hoff
          refine ⟨_, rfl, fun K hK => ?_⟩
          have e98 : a.tmps[98]? = some (.pointer (some ⟨gp, 0, none⟩)) := by rw [ha]; exact (qdA rfl).trans rfl
          replace ha := aM ha
          have B := aM Q_B
          have P2 := aM (Q_P2 (hon 29 kr) (hoff 32 kr))
          have M1 := aM Q_M1
          have D1 := aM (Q_D1 (hon 9 kr))
          have F1 := aM (Q_F1 (hon 16 kr))
          have S1 := aM (Q_S1 (hon 23 kr))
          have TN := aM (Q_TN (hon 23 kr))
          refine qSB (w1 := w') (v := .pointer (some ⟨gp, 0, none⟩)) (by rfl) rfl ?_ ?_
          ·go_simp
           (try simp only [i64_w])
           try rfl
          refine hK.out _ _ ⟨s104, s105, s111, s112, s118, s119, (by rw [ha.out]; exact qEA 13 hb_ rfl rfl rfl), Q_B, fun h0_ => aT (hon 26 kr) h0_, fun _ h1_ => aT (hon 29 kr) h1_, Q_P2, fun h0_ => aF (hoff 32 kr) h0_, Q_M1, fun h0_ => aT (hon 9 kr) h0_, fun h0_ => aT (hon 8 kr) h0_, fun _ h1_ => aT (hon 9 kr) h1_, Q_D1, fun h0_ => aT (hon 16 kr) h0_, fun _ h1_ => aT (hon 16 kr) h1_, Q_F1, fun h0_ => aT (hon 23 kr) h0_, fun _ h1_ => aT (hon 23 kr) h1_, Q_S1, fun h0_ => aT (hon 23 kr) h0_, Q_TN⟩
         refine qz ?_ ?_
         ·rintro b a w' ⟨s104, s105, s111, s112, s118, s119, ha, Q_B, Q_P0, Q_P1, Q_P2, Q_P3, Q_M1, Q_D0, Q_OW, Q_LD, Q_D1, Q_F0, Q_LF, Q_F1, Q_S0, Q_LS, Q_S1, Q_TM, Q_TN⟩ hb_ hon hoff
          refine ⟨_, rfl, fun K hK => ?_⟩
          have e124 : a.tmps[124]? = some (.pointer (some ⟨gp, 0, none⟩)) := by rw [ha]; exact qOA (e := (30, 124, .pointer (some ⟨gp, 0, none⟩))) 13 rfl rfl (hon 30 kr) rfl
          replace ha := aM ha
          have B := aM Q_B
          have P2 := aM (Q_P2 (hon 29 kr) (hoff 32 kr))
          have M1 := aM Q_M1
          have D1 := aM (Q_D1 (hon 9 kr))
          have F1 := aM (Q_F1 (hon 16 kr))
          have S1 := aM (Q_S1 (hon 23 kr))
          have TN := aM (Q_TN (hon 23 kr))
          refine qSB (w1 := w') (v := .pointer (some ⟨gp, 2, none⟩)) (by rfl) rfl ?_ ?_
          ·go_simp
           (try simp only [i64_w])
           try rfl
          refine hK.out _ _ ⟨s104, s105, s111, s112, s118, s119, (by rw [ha.out]; exact qEA 14 hb_ rfl rfl rfl), Q_B, fun h0_ => aT (hon 26 kr) h0_, fun _ h1_ => aT (hon 29 kr) h1_, Q_P2, fun h0_ => aF (hoff 32 kr) h0_, Q_M1, fun h0_ => aT (hon 9 kr) h0_, fun h0_ => aT (hon 8 kr) h0_, fun _ h1_ => aT (hon 9 kr) h1_, Q_D1, fun h0_ => aT (hon 16 kr) h0_, fun _ h1_ => aT (hon 16 kr) h1_, Q_F1, fun h0_ => aT (hon 23 kr) h0_, fun _ h1_ => aT (hon 23 kr) h1_, Q_S1, fun h0_ => aT (hon 23 kr) h0_, Q_TN⟩
         refine qz ?_ ?_
         ·rintro b a w' ⟨s104, s105, s111, s112, s118, s119, ha, Q_B, Q_P0, Q_P1, Q_P2, Q_P3, Q_M1, Q_D0, Q_OW, Q_LD, Q_D1, Q_F0, Q_LF, Q_F1, Q_S0, Q_LS, Q_S1, Q_TM, Q_TN⟩ hb_ hon hoff
          refine ⟨_, rfl, fun K hK => ?_⟩
          have e125 : a.tmps[125]? = some (.pointer (some ⟨gp, 2, none⟩)) := by rw [ha]; exact qOA (e := (31, 125, .pointer (some ⟨gp, 2, none⟩))) 14 rfl rfl (hon 31 kr) rfl
          have e119 : a.tmps[119]? = some (s119) := by rw [ha]; exact qOA (e := (23, 119, s119)) 8 rfl rfl (hon 23 kr) rfl
          replace ha := aM ha
          have B := aM Q_B
          have P2 := aM (Q_P2 (hon 29 kr) hb_)
          have M1 := aM Q_M1
          have D1 := aM (Q_D1 (hon 9 kr))
          have F1 := aM (Q_F1 (hon 16 kr))
          have S1 := aM (Q_S1 (hon 23 kr))
          have TN := aM (Q_TN (hon 23 kr))
          obtain ⟨A_, c_, hs_⟩ := Kd.qBA S1.out
          have hc_ : w'.cell? ⟨gp, 2, none⟩ = some (v2) := (qxA P2.out 2).trans rfl
          have hf_ : w'.frozen? ⟨gp, 2, none⟩ = false := qX P2.out 2
          refine skip_ (w1 := w'.setCell ⟨gp, 2, none⟩ s119) (by rfl) rfl ?hr32 ?_
          case hr32 =>
           rw [hs_] at e119
           rw [hs_]
           first | (go_simp; done) | (go_simp; rfl)
          refine hK.out _ _ ⟨s104, s105, s111, s112, s118, s119, (by rw [ha.out]; exact qrC (v := undef) rfl), qy B.out HGP.out, fun h0_ => aT (hon 26 kr) h0_, fun _ h1_ => aT (hon 29 kr) h1_, fun _ h1_ => absurd ((qZB b 32).symm.trans h1_) (by decide), fun _ => qAA P2.out 2 _ rfl, M1.out.setCell HNE.out _, fun h0_ => aT (hon 9 kr) h0_, fun h0_ => aT (hon 8 kr) h0_, fun _ h1_ => aT (hon 9 kr) h1_, fun _ => Kd.R_set D1.out P2.out (qDE w1 (by decide) (by decide)) _ _, fun h0_ => aT (hon 16 kr) h0_, fun _ h1_ => aT (hon 16 kr) h1_, fun _ => Kd.R_set F1.out P2.out (by decide) _ _, fun h0_ => aT (hon 23 kr) h0_, fun _ h1_ => aT (hon 23 kr) h1_, fun _ => Kd.R_set S1.out P2.out (by decide) _ _, fun h0_ => aT (hon 23 kr) h0_, fun _ => Kd.R_set TN.out P2.out (by decide) _ _⟩
         exact steps_nil
        ·rintro b a w' hall ⟨s104, s105, s111, s112, s118, s119, ha, Q_B, Q_P0, Q_P1, Q_P2, Q_P3, Q_M1, Q_D0, Q_OW, Q_LD, Q_D1, Q_F0, Q_LF, Q_F1, Q_S0, Q_LS, Q_S1, Q_TM, Q_TN⟩
         clear B D0 F0 M1 OW P0 S0 TM
         have hb6_ := hall 6 (by kernel_rfl)
         have hb8_ := hall 8 (by kernel_rfl)
         have hb9_ := hall 9 (by kernel_rfl)
         have hb13_ := hall 13 (by kernel_rfl)
         have hb15_ := hall 15 (by kernel_rfl)
         have hb16_ := hall 16 (by kernel_rfl)
         have hb20_ := hall 20 (by kernel_rfl)
         have hb22_ := hall 22 (by kernel_rfl)
         have hb23_ := hall 23 (by kernel_rfl)
         have hb24_ := hall 24 (by kernel_rfl)
         have hb25_ := hall 25 (by kernel_rfl)
         have hb26_ := hall 26 (by kernel_rfl)
         have hb27_ := hall 27 (by kernel_rfl)
         have hb28_ := hall 28 (by kernel_rfl)
         have hb29_ := hall 29 (by kernel_rfl)
         have hb30_ := hall 30 (by kernel_rfl)
         have hb31_ := hall 31 (by kernel_rfl)
         have hb32_ := hall 32 (by kernel_rfl)
         subst ha
         simp only [putSel, hb6_, hb8_, hb9_, hb13_, hb15_, hb16_, hb20_, hb22_, hb23_, hb24_, hb25_, hb26_, hb27_, hb28_, hb29_, hb30_, hb31_, hb32_, if_true, Act.put, List.setIfInBounds_toArray, List.set_cons_zero, List.set_cons_succ]
         have B := aM Q_B
         clear Q_B Q_P0 Q_P1 Q_P2
         have P3 := aM (Q_P3 hb32_)
         clear Q_P3
         have M1 := aM Q_M1
         clear Q_M1 Q_D0 Q_OW Q_LD
         have D1 := aM (Q_D1 hb9_)
         clear Q_D1 Q_F0 Q_LF
         have F1 := aM (Q_F1 hb16_)
         clear Q_F1 Q_S0 Q_LS
         have S1 := aM (Q_S1 hb23_)
         clear Q_S1 Q_TM
         have TN := aM (Q_TN hb23_)
         clear Q_TN hall hb6_ hb8_ hb9_ hb13_ hb15_ hb16_ hb20_ hb22_ hb23_ hb24_ hb25_ hb26_ hb27_ hb28_ hb29_ hb30_ hb31_ hb32_
         go_wp2
         go_roundg (nm - (j + 1))
         case measure => omega
         case rel =>
          refine ⟨L2 ++ [(own, ((i : Int), sg))], j + 1, _, _, _, by push_cast; rfl, by omega, ⟨HN.out.new HS.out (by rw [HEQ.out.1]; exact HMT.out) (by rw [← HL.out]; exact fun e_ => H6.out e_)⟩, ⟨?_⟩, ⟨?_⟩, ⟨?_⟩, TN, ⟨?_⟩, P3, B⟩
          ·rw [List.map_append, HEQ.out.1]; exact D1.out
          ·rw [List.map_append, HEQ.out.2.1]; exact F1.out
          ·rw [List.map_append, HEQ.out.2.2.1]; exact S1.out
          ·rw [metP_append, HEQ.out.2.2.2, HMM.out]; exact M1.out
    ·have hjz : ¬ (j : Int) < (nm : Int) := by omega
     go_wp2
     go_roundg (6000 - (i + 1))
     case measure => have := HN.out.ok.len; obtain ⟨p, hp⟩ := HN.out.at_; have := (List.getElem?_eq_some_iff.1 hp).1; omega
     case rel => exact ⟨L2, i + 1, _, _, _, by (have h1 := HN.out.ok.len; obtain ⟨p, hp⟩ := HN.out.at_; have h2 := (List.getElem?_eq_some_iff.1 hp).1; show Value.int .i64 (wrap64 ((i : Int) + 1)) = _; rw [show wrap64 ((i : Int) + 1) = ((i + 1 : Nat) : Int) by unfold wrap64; omega]), by omega, ⟨HN.out.outer (by have h := HMS.out.2; rw [← HMS.out.1, qRE, List.length_map] at h; unfold nextP; rw [List.length_map]; omega)⟩, D0, F0, S0, BP, M0, B⟩
  ·have hltz : ¬ (i : Int) < (n1 : Int) := by omega
   have HRN := aM (HO.out.done hlt)
   have HV := aM (And.intro hn1 hln)
   clear hn1 hln
   obtain ⟨Af, cf, rfl⟩ := Kd.qBA F0.out
   obtain ⟨As, cs, rfl⟩ := Kd.qBA S0.out
   go_wp2
   go_ret2
   rw [HRN.out]
   refine ⟨_, rfl, fun L' h => ?_, qB BW.out B.out⟩
   injection h with h
   subst h
   refine ⟨gp, Ad, Af, As, cd, cf, cs, rfl, by rw [HV.out.1]; exact BP.out, plK_C B.out ?_, (Kd.qP F0.out).2.2, (Kd.qP S0.out).2.2⟩
   exact (Kd.qP D0.out).2.2
end Go.Proofs.YthhiiceligjleaaDoor
namespace Go.Proofs.YthhiiceligjleaaDoor
open Go.RowKit Go.Proofs.YthhiiceligjleaaDoor.P Go.Proofs.YthhiiceligjleaaDoorW Go.Proofs.YthhiiceligjleaaDoorW.PrintWords Go.Proofs.YthhiiceligjleaaDoorW.PrintLast
set_option linter.unusedVariables false
set_option linter.unusedSimpArgs false
namespace P
def qWA.f (a : ByteArray) (l : List S41) : Option (Int × Bool) := if a.size ≤ 1048576 ∧ l.length ≤ 2000000 then (match plansB a l with | none => some (0, false) | some L => some ((L.length : Int), true)) else none
set_option maxHeartbeats 4000000 in
set_option maxRecDepth 100000 in
theorem qWA.calls (a0 : ByteArray) (A1 : Option Addr) (c1 : Nat) (l1 : List S41) (r1 : Int) (r2 : Bool) (w : World) (hr1 : Kd.C k41 w A1 l1.length l1) (hc1 : l1.length ≤ c1) (hL : Laid w) (h : qWA.f a0 l1 = some (r1, r2)) :
  Calls Tryd.prog 7 #[.string a0, .slice A1 l1.length c1] w fun e w' => e = .returned (.tuple #[.int .i64 r1, .bool r2]) ∧ Below w.heap.size w w' := by
 unfold qWA.f at h
 split at h
 case isFalse => cases h
 rename_i hs
 have HP := aM (plansOf_calls a0 A1 c1 l1 w hr1 hc1 hL hs.1 hs.2)
 clear hr1 hc1 hL hs
 cases hp : plansB a0 l1 with
 | none =>
  rw [hp] at h HP
  simp only [Option.some.injEq, Prod.mk.injEq] at h
  obtain ⟨rfl, rfl⟩ := h
  clear hp
  go_enter Tryd.func7, Tryd.ntmps7
  go_wp2_with (first | (go_at_call 12; refine HP.out.mono ?_; rintro e w1 ⟨v, rfl, hv, hb⟩; have B := aM hb; clear hb hv))
  go_ret2
  exact ⟨rfl, B.out⟩
 | some L =>
  rw [hp] at h HP
  simp only [Option.some.injEq, Prod.mk.injEq] at h
  obtain ⟨rfl, rfl⟩ := h
  clear hp
  go_enter Tryd.func7, Tryd.ntmps7
  go_wp2_with (first | (go_at_call 12; refine HP.out.mono ?_; rintro e w1 ⟨v, rfl, hv, hb⟩; obtain ⟨g, A0, A2, A3, c0, c2, c3, rfl, hg, _, _, _⟩ := hv L rfl; have hc : w1.cell? ⟨g, 0, none⟩ = some (.slice A0 (L.map Prod.fst).length c0) := (qxA hg 0).trans rfl; rw [List.length_map] at hc; have B := aM hb; clear hb hv hg))
  go_ret2
  exact ⟨rfl, B.out⟩
end P
end Go.Proofs.YthhiiceligjleaaDoor
namespace Go.Proofs.YthhiiceligjleaaDoor.P
open Go.RowKit Go.Proofs.YthhiiceligjleaaDoorW.PrintWords Go.Proofs.YthhiiceligjleaaDoorW.PrintLast Go.Proofs.YthhiiceligjleaaDoorW.PrintMore
attribute [local go_sem] qn ql qw qv qc qb qm qk
set_option linter.unusedVariables false
set_option linter.unusedSimpArgs false
def qY.j0 : Nat → List (S45) → List (S41) → Bool → Option (Bool)
 | 0, _, _, _ => none
 | k + 1, x1, x8, x41 => if x41 = true then (some false) else ((qo.f k x1).bind fun t488 => ((qh.f k x8 t488).bind fun t491 => (if t491 = true then (some true) else (some false))))
def qY.f (k : Nat) (a0 : ByteArray) (l1 : List (S45)) : Option (Bool) := if (a0.size : Int) > 1048576 then (some true) else ((quA.f l1 1048576).bind fun t477 => (if t477 < 0 then (some true) else ((qo.f k l1).bind fun t478 => ((qgA.f k a0 t478).bind fun bt481 => ((qo.f k l1).bind fun t483 => ((qWA.f a0 t483).bind fun bt486 => (if bt486.1 = bt481.1 then (qY.j0 k l1 t483 (bt486.2 != bt481.2)) else (qY.j0 k l1 t483 true))))))))
set_option maxHeartbeats 8000000 in
set_option maxRecDepth 100000 in
theorem qY.calls (k : Nat) (a0 : ByteArray) (A1 : Option Addr) (c1 : Nat) (l1 : List (S45)) (r : Bool) (w : World) (hr1 : Kd.C k45 w A1 l1.length l1) (hc1 : l1.length ≤ c1) (hL : Laid w) (h : qY.f k a0 l1 = some r) :
  Calls Tryd.prog 3 #[.string a0, .slice A1 l1.length c1] w fun e w' => e = .returned (.bool r) ∧ Below w.heap.size w w' := by
 have HR1 := aM hr1
 have HC1 := aM hc1
 clear hr1 hc1
 have HLD := aM hL
 clear hL
 have HB := aM (Below.refl w.heap.size w)
 have H : (if (a0.size : Int) > 1048576 then (some true) else ((quA.f l1 1048576).bind fun t477 => (if t477 < 0 then (some true) else ((qo.f k l1).bind fun t478 => ((qgA.f k a0 t478).bind fun bt481 => ((qo.f k l1).bind fun t483 => ((qWA.f a0 t483).bind fun bt486 => (if bt486.1 = bt481.1 then (qY.j0 k l1 t483 (bt486.2 != bt481.2)) else (qY.j0 k l1 t483 true))))))))) = some r := h
 clear h
 by_cases c3 : (a0.size : Int) > 1048576
 ·rw [if_pos c3] at H
  have c3b0 := decide_eq_true c3
  have c3b1 : decide (1048576 < a0.size) = true := decide_eq_true (by omega)
  clear c3
  obtain rfl := Option.some.inj H
  go_enter Tryd.func3, Tryd.ntmps3
  go_wp2
  go_ret
  exact ⟨sR, bl⟩
 ·rw [if_neg c3] at H
  have c3b0 := decide_eq_false c3
  have c3b1 : decide (1048576 < a0.size) = false := decide_eq_false (by omega)
  clear c3
  replace H := bO H
  obtain ⟨t477, A4, H⟩ := H
  by_cases c5 : t477 < 0
  ·rw [if_pos c5] at H
   have c5b0 := decide_eq_true c5
   clear c5
   obtain rfl := Option.some.inj H
   go_enter Tryd.func3, Tryd.ntmps3
   go_wp2_with (first | ((with_reducible refine qJ (f := 4) rfl ?_); refine qr (some 16) rfl rfl Tryd.func4 (by kernel_rfl) rfl #[.slice A1 l1.length c1, .int .i64 1048576] rfl gA ?_; (with_reducible refine (quA.calls _ _ l1 1048576 t477 _ ?side1 ?side2 A4.out).mono ?_); (case side1 => repeat (first | exact HR1.out | (with_reducible refine Kd.qW ?_ _) | (with_reducible refine Kd.qV ?_ _) | (with_reducible refine Kd.qe ?_))); (case side2 => exact HC1.out); rintro e w' ⟨rfl, ⟨nd, rfl⟩⟩; refine ⟨_, rfl, ?_⟩))
   go_ret
   exact ⟨sR, bl⟩
  ·rw [if_neg c5] at H
   have c5b0 := decide_eq_false c5
   clear c5
   replace H := bO H
   obtain ⟨t478, A6, H⟩ := H
   replace H := bO H
   obtain ⟨⟨t481, t482⟩, A7, H⟩ := H
   dsimp only at H A7
   replace H := bO H
   obtain ⟨t483, A8, H⟩ := H
   replace H := bO H
   obtain ⟨⟨t486, t487⟩, A9, H⟩ := H
   dsimp only at H A9
   have HC10 := aM H
   clear H
   go_enter Tryd.func3, Tryd.ntmps3
   go_upto_region 10 with (first | ((with_reducible refine qJ (f := 4) rfl ?_); refine qr (some 16) rfl rfl Tryd.func4 (by kernel_rfl) rfl #[.slice A1 l1.length c1, .int .i64 1048576] rfl gA ?_; (with_reducible refine (quA.calls _ _ l1 1048576 t477 _ ?side1 ?side2 A4.out).mono ?_); (case side1 => repeat (first | exact HR1.out | (with_reducible refine Kd.qW ?_ _) | (with_reducible refine Kd.qV ?_ _) | (with_reducible refine Kd.qe ?_))); (case side2 => exact HC1.out); rintro e w' ⟨rfl, ⟨nd, rfl⟩⟩; refine ⟨_, rfl, ?_⟩) | ((with_reducible refine qJ (f := 6) rfl ?_); refine qr (some 22) rfl rfl Tryd.func6 (by kernel_rfl) rfl #[.slice A1 l1.length c1] rfl gA ?_; (with_reducible refine (qo.calls k _ _ l1 t478 _ ?side1 ?side2 A6.out).mono ?_); (case side1 => repeat (first | exact HR1.out | (with_reducible refine Kd.qW ?_ _) | (with_reducible refine Kd.qV ?_ _) | (with_reducible refine Kd.qe ?_))); (case side2 => exact HC1.out); rintro e w11 ⟨v479, rfl, ho0, hb⟩; refine ⟨_, rfl, ?_⟩; have HO480 := aM (Kd.qx ho0 (qL bl)); replace HB := aM (qB bl hb); (try clear hb); (try clear hb2); (try clear hk); (try clear hi); (try clear ho0); obtain ⟨Ao12, co12, eo12⟩ := Kd.qBA HO480.out; subst eo12) | ((with_reducible refine qJ (f := 5) rfl ?_); refine qr (some 23) rfl rfl Tryd.func5 (by kernel_rfl) rfl #[.string a0, .slice Ao12 t478.length co12] rfl gA ?_; (with_reducible refine (qgA.calls k a0 _ _ t478 t481 t482 _ ?side1 ?side2 A7.out).mono ?_); (case side1 => repeat (first | exact (Kd.qP HO480.out).2.2 | (with_reducible refine Kd.qW ?_ _) | (with_reducible refine Kd.qV ?_ _) | (with_reducible refine Kd.qe ?_))); (case side2 => exact (Kd.qP HO480.out).2.1); rintro e w13 ⟨rfl, hb⟩; refine ⟨_, rfl, ?_⟩; replace HO480 := aM (Kd.qd (rR HO480) hb); replace HB := aM (qB bl hb); (try clear hb); (try clear hb2); (try clear hk); (try clear hi)) | ((with_reducible refine qJ (f := 6) rfl ?_); refine qr (some 27) rfl rfl Tryd.func6 (by kernel_rfl) rfl #[.slice A1 l1.length c1] rfl gA ?_; (with_reducible refine (qo.calls k _ _ l1 t483 _ ?side1 ?side2 A8.out).mono ?_); (case side1 => repeat (first | exact (Kd.qg HR1.out HB.out) | (with_reducible refine Kd.qW ?_ _) | (with_reducible refine Kd.qV ?_ _) | (with_reducible refine Kd.qe ?_))); (case side2 => exact HC1.out); rintro e w14 ⟨v484, rfl, ho0, hb⟩; refine ⟨_, rfl, ?_⟩; have HO485 := aM (Kd.qx (Kd.qsA ho0 (Kd.R_lt (rR HO480))) (qL bl)); replace HO480 := aM (Kd.qMA (rR HO480) (Kd.qfA ho0) hb); replace HB := aM (qB bl hb); (try clear hb); (try clear hb2); (try clear hk); (try clear hi); (try clear ho0); obtain ⟨Ao15, co15, eo15⟩ := Kd.qBA HO485.out; subst eo15) | ((with_reducible refine qJ (f := 7) rfl ?_); refine qr (some 31) rfl rfl Tryd.func7 (by kernel_rfl) rfl #[.string a0, .slice Ao15 t483.length co15] rfl gA ?_; (with_reducible refine (qWA.calls a0 _ _ t483 t486 t487 _ ?side1 ?side2 ?side3 A9.out).mono ?_); (case side1 => repeat (first | exact (Kd.qP HO485.out).2.2 | (with_reducible refine Kd.qW ?_ _) | (with_reducible refine Kd.qV ?_ _) | (with_reducible refine Kd.qe ?_))); (case side2 => exact (Kd.qP HO485.out).2.1); (case side3 => first | (with_reducible exact HLD.out) | exact Laid.below HLD.out bl); rintro e w16 ⟨rfl, hb⟩; refine ⟨_, rfl, ?_⟩; replace HO480 := aM (Kd.qd (rR HO480) hb); replace HO485 := aM (Kd.qd (rR HO485) hb); replace HB := aM (qB bl hb); (try clear hb); (try clear hb2); (try clear hk); (try clear hi)))
   (try simp only [Act.put, List.setIfInBounds_toArray, List.set_cons_zero, List.set_cons_succ])
   go_cut [41] (fun v41 wc => ∃ (kq : Nat) (x41_9 : Bool), v41 = .bool x41_9 ∧ Aside0 (qY.j0 kq l1 t483 x41_9 = some r) ∧ Aside0 (kq ≤ k) ∧ Aside0 (Kd.R k41 41 wc w.heap.size (fun _ => True) (.slice Ao15 t483.length co15) t483) ∧ Aside0 (Below w.heap.size w wc))
   case first =>
    have H := HC10.out
    clear HC10
    by_cases c17 : t486 = t481
    ·rw [if_pos c17] at H
     have c17b0 := beq_iff_eq.mpr c17
     have c17b1 := bne_eq_false_iff_eq.mpr c17
     clear c17
     (first | rw [c17b0] | (simp only [i64_w, i32_w]; rw [c17b0]) | skip)
     have H' := aM H
     clear H
     go_wp2
     go_meet
     case rel => exact ⟨_, ((t487 != t482)), sD, H', ⟨by first | omega | exact Nat.le_refl _⟩, ⟨by (with_reducible repeat (first | apply Kd.qO | apply Kd.qQ | apply Kd.qS)); exact Kd.qZ HO485.out (fun _ hk => trivial)⟩, ⟨bl⟩⟩
    ·rw [if_neg c17] at H
     have c17b0 := beq_eq_false_iff_ne.mpr c17
     have c17b1 := bne_iff_ne.mpr c17
     (first | rw [c17b0] | (simp only [i64_w, i32_w]; rw [c17b0]) | skip)
     have H' := aM H
     clear H
     go_wp2
     go_meet
     case rel => exact ⟨_, (true), sD, H', ⟨by first | omega | exact Nat.le_refl _⟩, ⟨by (with_reducible repeat (first | apply Kd.qO | apply Kd.qQ | apply Kd.qS)); exact Kd.qZ HO485.out (fun _ hk => trivial)⟩, ⟨bl⟩⟩
   case rest =>
    clear HC10; (try clear c1); (try clear p2); (try clear c3); (try clear c3b0); (try clear c3b1); (try clear c4); (try clear c5); (try clear c5b0); (try clear c6); (try clear c7); (try clear c17); (try clear c17b0); (try clear c17b1)
    obtain ⟨kq, x41_9, rfl, HA, HJ9, HO_8, HB⟩ := hcut
    cases kq with
    | zero => exact absurd HA.out (by simp [qY.j0])
    | succ kj9 =>
     have H := HA.out
     clear HA
     simp only [qY.j0] at H
     by_cases c18 : x41_9 = true
     ·subst c18
      replace H := iT H
      obtain rfl := Option.some.inj H
      go_wp2
      go_ret
      exact ⟨sR, bl⟩
     ·replace c18 := Bool.eq_false_iff.mpr c18
      subst c18
      replace H := iF H
      replace H := bO H
      obtain ⟨t488, A19, H⟩ := H
      replace H := bO H
      obtain ⟨t491, A20, H⟩ := H
      by_cases c21 : t491 = true
      ·subst c21
       replace H := iT H
       obtain rfl := Option.some.inj H
       go_wp2_with (first | ((with_reducible refine qJ (f := 6) rfl ?_); refine qr (some 44) rfl rfl Tryd.func6 (by kernel_rfl) rfl #[.slice A1 l1.length c1] rfl gA ?_; (with_reducible refine (qo.calls kj9 _ _ l1 t488 _ ?side1 ?side2 A19.out).mono ?_); (case side1 => repeat (first | exact (Kd.qg HR1.out HB.out) | (with_reducible refine Kd.qW ?_ _) | (with_reducible refine Kd.qV ?_ _) | (with_reducible refine Kd.qe ?_))); (case side2 => exact HC1.out); rintro e w22 ⟨v489, rfl, ho0, hb⟩; refine ⟨_, rfl, ?_⟩; have HO490 := aM (Kd.qx (Kd.qsA ho0 (Kd.R_lt (rR HO_8))) (qL bl)); replace HO_8 := aM (Kd.qMA (rR HO_8) (Kd.qfA ho0) hb); replace HB := aM (qB bl hb); (try clear hb); (try clear hb2); (try clear hk); (try clear hi); (try clear ho0); obtain ⟨Ao23, co23, eo23⟩ := Kd.qBA HO490.out; subst eo23) | ((with_reducible refine qJ (f := 8) rfl ?_); refine qr (some 45) rfl rfl Tryd.func8 (by kernel_rfl) rfl #[.slice Ao15 t483.length co15, .slice Ao23 t488.length co23] rfl gA ?_; (with_reducible refine (qh.calls kj9 _ _ t483 _ _ t488 true _ ?side1 ?side2 ?side3 ?side4 A20.out).mono ?_); (case side1 => repeat (first | exact (Kd.qP HO_8.out).2.2 | (with_reducible refine Kd.qW ?_ _) | (with_reducible refine Kd.qV ?_ _) | (with_reducible refine Kd.qe ?_))); (case side2 => exact (Kd.qP HO_8.out).2.1); (case side3 => repeat (first | exact (Kd.qP HO490.out).2.2 | (with_reducible refine Kd.qW ?_ _) | (with_reducible refine Kd.qV ?_ _) | (with_reducible refine Kd.qe ?_))); (case side4 => exact (Kd.qP HO490.out).2.1); rintro e w24 ⟨rfl, hb⟩; refine ⟨_, rfl, ?_⟩; replace HO_8 := aM (Kd.qd (rR HO_8) hb); replace HO490 := aM (Kd.qd (rR HO490) hb); replace HB := aM (qB bl hb); (try clear hb); (try clear hb2); (try clear hk); (try clear hi)))
       go_ret
       exact ⟨sR, bl⟩
      ·replace c21 := Bool.eq_false_iff.mpr c21
       subst c21
       replace H := iF H
       obtain rfl := Option.some.inj H
       go_wp2_with (first | ((with_reducible refine qJ (f := 6) rfl ?_); refine qr (some 44) rfl rfl Tryd.func6 (by kernel_rfl) rfl #[.slice A1 l1.length c1] rfl gA ?_; (with_reducible refine (qo.calls kj9 _ _ l1 t488 _ ?side1 ?side2 A19.out).mono ?_); (case side1 => repeat (first | exact (Kd.qg HR1.out HB.out) | (with_reducible refine Kd.qW ?_ _) | (with_reducible refine Kd.qV ?_ _) | (with_reducible refine Kd.qe ?_))); (case side2 => exact HC1.out); rintro e w25 ⟨v489, rfl, ho0, hb⟩; refine ⟨_, rfl, ?_⟩; have HO490 := aM (Kd.qx (Kd.qsA ho0 (Kd.R_lt (rR HO_8))) (qL bl)); replace HO_8 := aM (Kd.qMA (rR HO_8) (Kd.qfA ho0) hb); replace HB := aM (qB bl hb); (try clear hb); (try clear hb2); (try clear hk); (try clear hi); (try clear ho0); obtain ⟨Ao26, co26, eo26⟩ := Kd.qBA HO490.out; subst eo26) | ((with_reducible refine qJ (f := 8) rfl ?_); refine qr (some 45) rfl rfl Tryd.func8 (by kernel_rfl) rfl #[.slice Ao15 t483.length co15, .slice Ao26 t488.length co26] rfl gA ?_; (with_reducible refine (qh.calls kj9 _ _ t483 _ _ t488 false _ ?side1 ?side2 ?side3 ?side4 A20.out).mono ?_); (case side1 => repeat (first | exact (Kd.qP HO_8.out).2.2 | (with_reducible refine Kd.qW ?_ _) | (with_reducible refine Kd.qV ?_ _) | (with_reducible refine Kd.qe ?_))); (case side2 => exact (Kd.qP HO_8.out).2.1); (case side3 => repeat (first | exact (Kd.qP HO490.out).2.2 | (with_reducible refine Kd.qW ?_ _) | (with_reducible refine Kd.qV ?_ _) | (with_reducible refine Kd.qe ?_))); (case side4 => exact (Kd.qP HO490.out).2.1); rintro e w27 ⟨rfl, hb⟩; refine ⟨_, rfl, ?_⟩; replace HO_8 := aM (Kd.qd (rR HO_8) hb); replace HO490 := aM (Kd.qd (rR HO490) hb); replace HB := aM (qB bl hb); (try clear hb); (try clear hb2); (try clear hk); (try clear hi)))
       go_ret
       exact ⟨sR, bl⟩
def qY.Pure : Prop := ∀ (a0 : ByteArray) (l1 : List (S45)), a0.size ≤ 140737488351232 → l1.length * 64 ≤ 140737488351232 → ∃ k, qY.f k a0 l1 = some true
end Go.Proofs.YthhiiceligjleaaDoor.P
namespace Go.Proofs.YthhiiceligjleaaDoor
open Go.ChangeShapes Go.WideShapes Go.Deep Go.RowKit Go.Proofs.YthhiiceligjleaaDoorW.PrintWords
set_option linter.unusedVariables false
set_option linter.unusedSimpArgs false
theorem list_of_8 : ∀ zs : List Int, zs.length = 8 → ∃ x0 x1 x2 x3 x4 x5 x6 x7 : Int, zs = [x0, x1, x2, x3, x4, x5, x6, x7]
 | [x0, x1, x2, x3, x4, x5, x6, x7], _ => ⟨x0, x1, x2, x3, x4, x5, x6, x7, rfl⟩
def laidB (P : Program) : List Field → Nat → Nat → Bool
 | [], o, n => decide (o = n)
 | f :: fs, o, n => decide (f.offset = o) && laidB P fs (o + P.cellsOf f.type) n
def flatB (P : Program) : Nat → TypeId → Bool
 | 0, _ => false
 | m + 1, t => match P.underlying t with
  | some (.int .i64) => decide (P.cellsOf t = 1)
  | some (.struct fs) => laidB P fs.toList 0 (P.cellsOf t) && fs.toList.all fun f => flatB P m f.type
  | _ => false
section
variable {H : Type} {enc : TypeId × Value → H} {P : Program} {w : World} {base : Nat} {spare : Nat → Bool} {held : Bool}
theorem fields_flat {n : Nat} (cs : List Value) (rd : TypeId → List Value → Option (DataW H × List MemPlace)) :
  ∀ (fs : List Field) (o : Nat) (xs : List (DataW H × List MemPlace)), laidB P fs o n = true → xs.length = fs.length →
   (∀ (i : Nat) (f : Field), fs[i]? = some f → rd f.type ((cs.drop f.offset).take (P.cellsOf f.type)) = xs[i]?) →
   (∀ f ∈ fs, ∀ cs' x, rd f.type cs' = some x → cs'.length = P.cellsOf f.type ∧ ∃ zs : List Int, cs' = zs.map (Value.int .i64) ∧ ∀ z ∈ zs, (Lit.int .i64 z).wf = true) →
   o ≤ n ∧ ∃ zs : List Int, (cs.drop o).take (n - o) = zs.map (Value.int .i64) ∧ ∀ z ∈ zs, (Lit.int .i64 z).wf = true
 | [], o, xs, hl, hx, hr, hi => by
  have : o = n := by simpa [laidB] using hl
  subst this
  exact ⟨Nat.le_refl _, [], by simp, by simp⟩
 | f :: fs, o, xs, hl, hx, hr, hi => by
  simp only [laidB, Bool.and_eq_true, decide_eq_true_eq] at hl
  obtain ⟨ho, hl⟩ := hl
  match xs, hx with
  | x :: xs, hx =>
   have h0 := hr 0 f rfl
   rw [ho] at h0
   obtain ⟨hlen, zs, hz, hw⟩ := hi f (by simp) _ x h0
   obtain ⟨hle, ws, hw2, hw3⟩ := fields_flat cs rd fs (o + P.cellsOf f.type) xs hl (by simpa using hx) (fun i g hg => by have := hr (i + 1) g (by simpa using hg); simpa using this) (fun g hg => hi g (by simp [hg]))
   refine ⟨by omega, zs ++ ws, ?_, fun z hz' => ?_⟩
   ·rw [List.map_append, ← hz, ← hw2, ← List.drop_drop, show n - o = P.cellsOf f.type + (n - (o + P.cellsOf f.type)) by omega, List.take_add]
   ·rcases List.mem_append.1 hz' with h | h
    ·exact hw z h
    ·exact hw3 z h
theorem trod_flat (m : Nat) : ∀ {t : TypeId} {fuel : Nat} {cs : List Value} {x : DataW H × List MemPlace}, flatB P m t = true → DataW.trod enc P w base spare held fuel t cs = some x → (∃ k, P.underlying t = some (.int k)) → cs.length = 1 ∧ ∃ zs : List Int, cs = zs.map (Value.int .i64) ∧ ∀ z ∈ zs, (Lit.int .i64 z).wf = true := by
 intro t fuel cs x hf h ⟨k, hk⟩
 cases m with
 | zero => simp [flatB] at hf
 | succ m =>
  unfold flatB at hf
  rw [hk] at hf
  have : k = .i64 := by
   cases k <;> first | rfl | (simp at hf)
  subst this
  obtain ⟨n, rfl, _, hw⟩ := DataW.trod_int hk h
  exact ⟨rfl, [n], rfl, by simpa using hw⟩
theorem trod_flat_all (m : Nat) : ∀ {t : TypeId} {fuel : Nat} {cs : List Value} {x : DataW H × List MemPlace}, flatB P m t = true → DataW.trod enc P w base spare held fuel t cs = some x →
  cs.length = P.cellsOf t ∧ ∃ zs : List Int, cs = zs.map (Value.int .i64) ∧ ∀ z ∈ zs, (Lit.int .i64 z).wf = true := by
 induction m with
 | zero => intro t fuel cs x hf h; simp [flatB] at hf
 | succ m ih =>
  intro t fuel cs x hf h
  have hf0 := hf
  unfold flatB at hf
  split at hf
  ·rename_i hu
   obtain ⟨hl, hz⟩ := trod_flat (m + 1) hf0 h ⟨_, hu⟩
   exact ⟨by rw [hl, of_decide_eq_true hf], hz⟩
  ·rename_i fs hu
   rw [Bool.and_eq_true, List.all_eq_true] at hf
   obtain ⟨hl, ha⟩ := hf
   obtain ⟨xs, n, _, _, hlen, hxl, hg⟩ := DataW.trod_struct hu h
   obtain ⟨_, zs, hz, hw⟩ := fields_flat (n := P.cellsOf t) cs (fun t cs => DataW.trod enc P w base spare held n t cs) fs.toList 0 xs hl (by simpa using hxl)
    (fun i f hf => hg i f (by simpa using hf)) (fun f hf cs' x hx => ih (ha f hf) hx)
   refine ⟨hlen, zs, ?_, hw⟩
   rw [← hz, List.drop_zero, Nat.sub_zero, ← hlen, List.take_length]
  ·cases hf
theorem open_flats {r : Reach} {b0 m : Nat} {t e : TypeId} {a : Option Addr} {len cap : Nat} {d : DataW H} {p : List MemPlace} (hu : P.underlying t = some (.slice e)) (hf : flatB P m e = true)
  (h : DataW.Trod enc P w base spare held t (.slice a len cap) d p) : len ≤ cap ∧ cap ≤ maxLen ∧ ∃ L : List (List Int), L.length = len ∧ (∀ zs ∈ L, zs.length = P.cellsOf e) ∧
   (0 < len → ∃ ad, a = some ad ∧ ∀ (j : Nat) (zs : List Int), L[j]? = some zs → ∀ (i : Nat) (u : Value), (zs.map (Value.int .i64))[i]? = some u → w.cell? (ad.add (j * P.cellsOf e + i)) = some u) := by
 obtain ⟨fuel, h⟩ := h
 rcases DataW.trod_slice hu h with ⟨hcs, _⟩ | ⟨x, l, c, elems, rest, n, _, hcs, _, _, hl, hm, hlen, hel, _, _⟩
 ·simp [Value.cells] at hcs
  obtain ⟨rfl, rfl, rfl⟩ := hcs
  exact ⟨Nat.le_refl _, by simp [maxLen], [], rfl, by simp, fun h => absurd h (by omega)⟩
 ·simp [Value.cells] at hcs
  obtain ⟨rfl, rfl, rfl⟩ := hcs
  refine ⟨hl, hm, ?_⟩
  have each : ∀ i, i < len → ∃ zs : List Int, zs.length = P.cellsOf e ∧ ∀ (j : Nat) (u : Value), (zs.map (Value.int .i64))[j]? = some u → w.cell? (x.add (i * P.cellsOf e + j)) = some u := by
   intro i hi
   have h1 := hel i hi
   have h2 : elems[i]? = some (elems[i]'(by omega)) := List.getElem?_eq_getElem (by omega)
   rw [h2, Option.bind_eq_some_iff] at h1
   obtain ⟨cs', hcs', ht⟩ := h1
   obtain ⟨_, hcl, hat⟩ := World.cells?_some hcs'
   obtain ⟨hl', zs, hz, _⟩ := trod_flat_all m hf ht
   have hzl : zs.length = P.cellsOf e := by
    have := congrArg List.length hz
    rw [List.length_map] at this
    omega
   refine ⟨zs, hzl, fun j u hu => ?_⟩
   have hj : j < P.cellsOf e := by
    have := (List.getElem?_eq_some_iff.1 hu).1
    rw [List.length_map] at this
    omega
   rw [← Go.Deep.add_add, hat j hj, hz, hu]
  have mk : ∀ n, n ≤ len → ∃ L : List (List Int), L.length = n ∧ (∀ zs ∈ L, zs.length = P.cellsOf e) ∧ ∀ (j : Nat) (zs : List Int), L[j]? = some zs → ∀ (i : Nat) (u : Value), (zs.map (Value.int .i64))[i]? = some u → w.cell? (x.add (j * P.cellsOf e + i)) = some u := by
   intro n
   induction n with
   | zero => exact fun _ => ⟨[], rfl, by simp, fun j zs h => by simp at h⟩
   | succ n ih =>
    intro hn
    obtain ⟨L, h1, h2, h3⟩ := ih (by omega)
    obtain ⟨zs, hz1, hz2⟩ := each n (by omega)
    refine ⟨L ++ [zs], by simp [h1], fun y hy => ?_, fun j y hj => ?_⟩
    ·rcases List.mem_append.1 hy with h | h
     ·exact h2 y h
     ·rw [List.mem_singleton.1 h]; exact hz1
    ·rcases Nat.lt_or_ge j L.length with h | h
     ·rw [List.getElem?_append_left h] at hj
      exact h3 j y hj
     ·have : j = L.length := by
       have := (List.getElem?_eq_some_iff.1 hj).1
       simp at this
       omega
      subst this
      have : zs = y := by simpa using hj
      subst this
      rw [h1]
      exact hz2
  obtain ⟨L, h1, h2, h3⟩ := mk len (Nat.le_refl _)
  exact ⟨L, h1, h2, fun _ => ⟨x, rfl, h3⟩⟩
end
theorem sized_flats {H : Type} {enc : TypeId × Value → H} {P : Program} {W : World} {base : Nat} {spare : Nat → Bool} {held : Bool} {t e : TypeId} {a : Option Addr} {len cap : Nat} {d : DataW H} {ps : List MemPlace} {ts : List TypeId} {ds : List (DataW H)} {j : Nat}
  (hsz : (DataW.weightsEach P ts ds).all (· ≤ reachBytes) = true) (ht : ts[j]? = some t) (hd : ds[j]? = some d) (hu : P.underlying t = some (.slice e)) {B : Nat} (hB : P.bytesOf e = B)
  (h : DataW.Trod enc P W base spare held t (.slice a len cap) d ps) : len * B ≤ 140737488351232 := by
 obtain ⟨fuel, h⟩ := h
 rcases DataW.trod_slice hu h with ⟨hcs, _⟩ | ⟨x, l, c, elems, rest, n, _, hcs, hx, _, hl, hm, hlen, hel, _, _⟩
 ·simp [Value.cells] at hcs
  obtain ⟨rfl, rfl, rfl⟩ := hcs
  simp
 ·simp [Value.cells] at hcs
  obtain ⟨rfl, rfl, rfl⟩ := hcs
  obtain ⟨rfl, _⟩ := Prod.mk.inj hx
  have z := sized_slice hsz ht hd hu
  rw [hB] at z
  refine Nat.le_trans (Nat.mul_le_mul_right _ ?_) z
  rw [List.length_map, hlen]
  exact Nat.le_add_right _ _
end Go.Proofs.YthhiiceligjleaaDoor
namespace Go.Proofs.YthhiiceligjleaaDoor.Sorts
section
variable {α : Type}
def ins (lt : α → α → Bool) (x : α) : List α → List α
 | [] => [x]
 | y :: l => if lt y x = true then y :: ins lt x l else x :: y :: l
def insAll (lt : α → α → Bool) : List α → List α → List α
 | acc, [] => acc
 | acc, x :: l => insAll lt (ins lt x acc) l
variable {lt : α → α → Bool}
theorem qvD (lt : α → α → Bool) (x : α) : ∀ l : List α, (ins lt x l).Perm (x :: l)
 | [] => List.Perm.refl _
 | y :: l => by
  unfold ins
  split
  ·exact ((qvD lt x l).cons y).trans (List.Perm.swap x y l)
  ·exact List.Perm.refl _
theorem insAll_perm (lt : α → α → Bool) : ∀ (l acc : List α), (insAll lt acc l).Perm (l ++ acc)
 | [], acc => List.Perm.refl _
 | x :: l, acc => by
  refine (insAll_perm lt l (ins lt x acc)).trans ?_
  exact ((List.Perm.refl l).append (qvD lt x acc)).trans List.perm_middle
theorem one {l l' : List α} (h : l.Pairwise (fun a b => lt b a = false)) (h' : l'.Pairwise (fun a b => lt b a = false)) (hp : l.Perm l') (ha : ∀ a ∈ l, ∀ b ∈ l, lt a b = false → lt b a = false → a = b) : l = l' :=
 List.Perm.eq_of_pairwise (le := fun a b => lt b a = false) (fun a b h1 h2 h3 h4 => ha a h1 b (hp.mem_iff.2 h2) h4 h3) h h' hp
def less (lt : α → α → Bool) (x : α) : List α → Nat
 | [] => 0
 | y :: l => if lt y x = true then less lt x l + 1 else 0
theorem less_le (x : α) : ∀ l : List α, less lt x l ≤ l.length
 | [] => Nat.le_refl _
 | y :: l => by
  unfold less
  split
  ·have := less_le x l; simp only [List.length_cons]; omega
  ·omega
theorem ins_eq (x : α) : ∀ l : List α, ins lt x l = l.take (less lt x l) ++ x :: l.drop (less lt x l)
 | [] => rfl
 | y :: l => by
  unfold ins less
  split
  ·rw [ins_eq x l]; rfl
  ·rfl
theorem less_lt (x : α) : ∀ (l : List α) (i : Nat) (h : i < l.length), i < less lt x l → lt l[i] x = true
 | y :: l, 0, _, h => by
  unfold less at h
  split at h
  ·assumption
  ·omega
 | y :: l, i + 1, hl, h => by
  unfold less at h
  split at h
  ·exact less_lt x l i (by simpa using hl) (by omega)
  ·omega
theorem less_stop (x : α) : ∀ (l : List α) (h : less lt x l < l.length), lt l[less lt x l] x = false
 | y :: l, h => by
  by_cases hy : lt y x = true
  ·have e : less lt x (y :: l) = less lt x l + 1 := by rw [less, if_pos hy]
   simp only [e, List.getElem_cons_succ]
   exact less_stop x l (by rw [e] at h; simpa using h)
  ·have e : less lt x (y :: l) = 0 := by rw [less, if_neg hy]
   simp only [e, List.getElem_cons_zero]
   simpa using hy
end
theorem qLB {α : Type} {L : List α} {i : Nat} {c : α} {cs : List α} (h : L.drop i = c :: cs) : ∃ hi : i < L.length, L[i] = c ∧ L.drop (i + 1) = cs := by
 have hi : i < L.length := by
  rcases Nat.lt_or_ge i L.length with h1 | h1
  ·exact h1
  ·rw [List.drop_eq_nil_of_le h1] at h; cases h
 rw [List.drop_eq_getElem_cons hi] at h
 injection h with h1 h2
 exact ⟨hi, h1, h2⟩
theorem qfB {α : Type} {L : List α} {i : Nat} (h : L.drop i = []) : L.length ≤ i := by
 rcases Nat.lt_or_ge i L.length with h1 | h1
 ·rw [List.drop_eq_getElem_cons h1] at h; cases h
 ·exact h1
end Go.Proofs.YthhiiceligjleaaDoor.Sorts
namespace Go.Proofs.YthhiiceligjleaaDoor
open Go.RowKit Go.Proofs.YthhiiceligjleaaDoor.P Go.Proofs.YthhiiceligjleaaDoorW.PrintWords Go.Proofs.YthhiiceligjleaaDoorW.PrintLast
set_option linter.unusedVariables false
set_option linter.unusedSimpArgs false
theorem rdDD (l : List DD) (t : DD) (i : Nat) (h : l[i]? = some t) : qC l (i : Int) = t := by
 unfold qC
 rw [Int.toNat_natCast, List.getD_eq_getElem?_getD, h]; rfl
theorem rdWD (l : List ByteArray) (t : ByteArray) (i : Nat) (h : l[i]? = some t) : rdOf ByteArray.empty l (i : Int) = t := by
 unfold rdOf
 rw [Int.toNat_natCast, List.getD_eq_getElem?_getD, h]; rfl
abbrev dds (L : List (DD × ByteArray)) : List DD := L.map Prod.fst
abbrev wsd (L : List (DD × ByteArray)) : List ByteArray := L.map Prod.snd
theorem putD_get {L : List (DD × ByteArray)} {i : Nat} {x : DD × ByteArray} (h : L[i]? = some x) (y : Option DD) (p : ByteArray) : (Bfs.put L y p)[i]? = some x := by
 obtain ⟨t, ht⟩ := Bfs.put_prefix L y p
 rw [← ht, List.getElem?_append_left (List.getElem?_eq_some_iff.1 h).1]
 exact h
theorem specDie_rol (x : DD) (d : Nat) (h : d < 4) : qqA.f x.f0 x.f1 x.f2 x.f3 x.f4 x.f5 (d : Int) = some ((rolD x d).f0, (rolD x d).f1, (rolD x d).f2, (rolD x d).f3, (rolD x d).f4, (rolD x d).f5) := by
 have : d = 0 ∨ d = 1 ∨ d = 2 ∨ d = 3 := by omega
 rcases this with rfl | rfl | rfl | rfl <;> simp [qqA.f, rolD]
theorem same_die (b z : DD) : (b.f0 == z.f0 && (b.f1 == z.f1 && (b.f2 == z.f2 && (b.f3 == z.f3 && (b.f4 == z.f4 && (b.f5 == z.f5)))))) = decide (z = b) := by
 by_cases hzb : z = b
 ·subst hzb; simp
 ·rw [decide_eq_false hzb]
  cases hx : (b.f0 == z.f0 && (b.f1 == z.f1 && (b.f2 == z.f2 && (b.f3 == z.f3 && (b.f4 == z.f4 && (b.f5 == z.f5)))))) with
  | false => rfl
  | true =>
   simp only [Bool.and_eq_true, beq_iff_eq] at hx
   exact absurd (qME hx.1.symm hx.2.1.symm hx.2.2.1.symm hx.2.2.2.1.symm hx.2.2.2.2.1.symm hx.2.2.2.2.2.symm) hzb
theorem search_found (at_ d : Int) (B : List DD) (hB : B.length ≤ 24) (ws : List ByteArray) (z : DD) (R : List DD × List ByteArray) :
  ∀ (l : List DD) (j : Nat) (f : Bool), B.drop j = l → j ≤ B.length →
   (∀ f', (f' = (f || decide (z ∈ l))) → Ev (fun k => qM.l2 k B ws at_ d f' (B.length : Int) (B.length : Int) z.f0 z.f1 z.f2 z.f3 z.f4 z.f5) R) →
   Ev (fun k => qM.l2 k B ws at_ d f (B.length : Int) (j : Int) z.f0 z.f1 z.f2 z.f3 z.f4 z.f5) R
 | [], j, f, hd, hj, h => by
  have := Sorts.qfB hd
  obtain rfl : j = B.length := by omega
  exact h f (by simp)
 | b :: l, j, f, hd, hj, h => by
  obtain ⟨hlt, hc, hd'⟩ := Sorts.qLB hd
  have e := rdDD B b j (by rw [← hc]; exact List.getElem?_eq_getElem hlt)
  have ih := fun f' hf => search_found at_ d B hB ws z R l (j + 1) f' hd' (by omega) hf
  have w : wrap64 ((j : Int) + 1) = ((j + 1 : Nat) : Int) := by unfold wrap64; omega
  clear hd hd' hc
  refine Ev.step (f := fun k => _) (fun k => by rw [qM.l2]) ?_
  rw [w, e]
  refine Ev.pos (by omega) (Ev.pos (by omega) (Ev.pos (by omega) ?_))
  cases f with
  | true =>
   refine Ev.pos rfl (ih true fun f' hf => h f' ?_)
   rw [hf]; rfl
  | false =>
   refine Ev.neg (by decide) ?_
   rw [same_die]
   refine ih _ fun f' hf => h f' ?_
   rw [hf, Bool.false_or]
   by_cases hzb : z = b
   ·subst hzb; simp
   ·simp [hzb]
theorem qpC (x : DD) (at_ : Nat) (R : List DD × List ByteArray) : ∀ (n d : Nat) (L : List (DD × ByteArray)) (b : DD) (w : ByteArray), d + n = 4 → L[at_]? = some (b, w) → FoundD x L → w.size ≤ 147 →
  (Ev (fun k => qM.l0 k (dds (Bfs.puts L (stepsD b w n d))) (wsd (Bfs.puts L (stepsD b w n d))) ((at_ + 1 : Nat) : Int)) R) →
  Ev (fun k => qM.l1 k (dds L) (wsd L) (at_ : Int) (d : Int)) R
 | 0, d, L, b, w, hd, hat, hF, hw, h => by
  have hl := hF.len
  have hlt := (List.getElem?_eq_some_iff.1 hat).1
  have w1 : wrap64 ((at_ : Int) + 1) = ((at_ + 1 : Nat) : Int) := by unfold wrap64; omega
  refine Ev.step (f := fun k => _) (fun k => by rw [qM.l1]) ?_
  rw [w1]
  exact Ev.neg (by omega) h
 | n + 1, d, L, b, w, hd, hat, hF, hw, h => by
  have hl := hF.len
  have hlt := (List.getElem?_eq_some_iff.1 hat).1
  have w1 : wrap64 ((d : Int) + 1) = ((d + 1 : Nat) : Int) := by unfold wrap64; omega
  have eb := rdDD (dds L) b at_ (by rw [List.getElem?_map, hat]; rfl)
  have ew := rdWD (wsd L) w at_ (by rw [List.getElem?_map, hat]; rfl)
  have h1 := dirW_size d (by omega)
  have hlen : (dds L).length = L.length := List.length_map _
  have hlen2 : (wsd L).length = L.length := List.length_map _
  have him : b ∈ imgs x := hF.img (b, w) (List.mem_of_getElem? hat)
  refine Ev.step (f := fun k => _) (fun k => by rw [qM.l1]) ?_
  rw [eb]
  refine Ev.pos (by omega) (Ev.pos (by omega) (Ev.pos (by omega) (Ev.bindc (specDie_rol b d (by omega)) ?_)))
  rw [stepsD] at h
  show Ev (fun k => qM.l2 k (dds L) (wsd L) (at_ : Int) (d : Int) false ((dds L).length : Int) ((0 : Nat) : Int) (rolD b d).f0 (rolD b d).f1 (rolD b d).f2 (rolD b d).f3 (rolD b d).f4 (rolD b d).f5) R
  refine search_found _ _ (dds L) (by omega) (wsd L) (rolD b d) R (dds L) 0 false rfl (by omega) fun f' hf => ?_
  rw [Bool.false_or] at hf
  refine Ev.step (f := fun k => _) (fun k => by rw [qM.l2]) ?_
  rw [w1, ew]
  refine Ev.neg (by omega) ?_
  by_cases hm : rolD b d ∈ dds L
  ·rw [decide_eq_true hm] at hf
   subst hf
   have e : Bfs.put L (some (rolD b d)) (w ++ dirW d) = L := Bfs.qoD hm _
   rw [Bfs.puts, e] at h
   exact Ev.pos rfl (qpC x at_ R n (d + 1) L b w (by omega) hat hF hw h)
  ·rw [decide_eq_false hm] at hf
   subst hf
   have e : Bfs.put L (some (rolD b d)) (w ++ dirW d) = L ++ [(rolD b d, w ++ dirW d)] := Bfs.qnD hm _
   have hF2 := hF.put (some (rolD b d)) (w ++ dirW d) (fun z hz => by cases hz; exact qwD him d (by omega))
   have hg2 := putD_get hat (some (rolD b d)) (w ++ dirW d)
   rw [Bfs.puts, e] at h
   rw [e] at hF2 hg2
   refine Ev.neg (by decide) (Ev.pos (by omega) (Ev.pos (by omega) (Ev.pos (by omega) (Ev.bindc (show qEB.f = some dirsW from rfl) (Ev.pos (by omega) (Ev.pos (by omega) (Ev.pos (by rw [show dirsW.size = 4 from rfl]; omega) ?_)))))))
   rw [Int.toNat_natCast, Int.toNat_natCast]
   refine Ev.pos (by show w.size + (dirW d).size ≤ _; omega) (Ev.pos (by omega) ?_)
   have := qpC x at_ R n (d + 1) (L ++ [(rolD b d, w ++ dirW d)]) b w (by omega) hg2 hF2 hw h
   rw [show dds (L ++ [(rolD b d, w ++ dirW d)]) = dds L ++ [rolD b d] by simp [dds], show wsd (L ++ [(rolD b d, w ++ dirW d)]) = wsd L ++ [w ++ dirW d] by simp [wsd]] at this
   exact this
def ShortD (L : List (DD × ByteArray)) (n : Nat) : Prop := ∀ x ∈ L, x.2.size ≤ n
theorem ShortD.round {L : List (DD × ByteArray)} {i : Nat} (h : ShortD L i) : ShortD (Bfs.round nextD i L) (i + 1) := by
 unfold Bfs.round
 split
 ·exact fun x hx => Nat.le_succ_of_le (h x hx)
 ·rename_i x hx
  have hxs := h x (List.mem_of_getElem? hx)
  refine Bfs.qmD (Q := fun y => y.2.size ≤ i + 1) _ (fun y hy => Nat.le_succ_of_le (h y hy)) ?_
  intro s hs z hz
  obtain ⟨e, he, rfl⟩ := qTD x.1 x.2 4 0 rfl s hs
  show (x.2 ++ dirW e).size ≤ _
  rw [ByteArray.size_append, dirW_size e he]
  omega
theorem roundD_is {L : List (DD × ByteArray)} {i : Nat} {b : DD} {w : ByteArray} (h : L[i]? = some (b, w)) : Bfs.round nextD i L = Bfs.puts L (stepsD b w 4 0) := by
 unfold Bfs.round; rw [h]; rfl
theorem search_run (x : DD) : ∀ (n i : Nat) (L : List (DD × ByteArray)), FoundD x L → ShortD L i → i ≤ L.length → 24 ≤ i + n →
  Ev (fun k => qM.l0 k (dds L) (wsd L) (i : Int)) (dds (Bfs.run nextD n i L), wsd (Bfs.run nextD n i L))
 | 0, i, L, hF, hS, hi, hn => by
  have hl := hF.len
  refine Ev.step (f := fun k => _) (fun k => by rw [qM.l0]) ?_
  exact Ev.neg (by rw [List.length_map]; omega) (Ev.now _)
 | n + 1, i, L, hF, hS, hi, hn => by
  have hl := hF.len
  refine Ev.step (f := fun k => _) (fun k => by rw [qM.l0]) ?_
  rw [Bfs.run]
  by_cases hlt : i < L.length
  ·rw [if_pos hlt]
   refine Ev.pos (by rw [List.length_map]; omega) ?_
   have hat : L[i]? = some (L[i].1, L[i].2) := List.getElem?_eq_getElem hlt
   have ih := search_run x n (i + 1) (Bfs.round nextD i L) (hF.round i) hS.round (by have := (Bfs.qWC nextD i L).length_le; omega) (by omega)
   rw [roundD_is hat] at ih
   rw [roundD_is hat]
   exact qpC x i _ 4 0 L _ _ rfl hat hF (by have := hS _ (List.getElem_mem hlt); omega) ih
  ·rw [if_neg hlt]
   exact Ev.neg (by rw [List.length_map]; omega) (Ev.now _)
theorem diSearch_ev (x : DD) : Ev (fun k => qM.f k x.f0 x.f1 x.f2 x.f3 x.f4 x.f5) (dds (runD x), wsd (runD x)) :=
 search_run x 24 0 [(x, ⟨#[]⟩)] (qYC x) (fun z hz => by rw [List.mem_singleton] at hz; subst hz; exact Nat.le_refl _) (by simp) (by omega)
end Go.Proofs.YthhiiceligjleaaDoor
namespace Go.Proofs.YthhiiceligjleaaDoor
set_option linter.unusedVariables false
set_option linter.unusedSimpArgs false
def cmpI (a b : Int) : Int := if a < b then -1 else if a > b then 1 else 0
def lexI : List Int → List Int → Int
 | [], [] => 0
 | [], _ :: _ => -1
 | _ :: _, [] => 1
 | a :: l, b :: m => if cmpI a b = 0 then lexI l m else cmpI a b
theorem cmpI_neg (a b : Int) : cmpI a b < 0 ↔ a < b := by
 unfold cmpI
 split
 ·omega
 ·split <;> omega
theorem cmpI_zero (a b : Int) : cmpI a b = 0 ↔ a = b := by
 unfold cmpI
 split
 ·omega
 ·split <;> omega
theorem lexI_neg_cons (a b : Int) (l m : List Int) : lexI (a :: l) (b :: m) < 0 ↔ a < b ∨ (a = b ∧ lexI l m < 0) := by
 have h1 := cmpI_neg a b
 have h2 := cmpI_zero a b
 rw [lexI]
 split <;> omega
end Go.Proofs.YthhiiceligjleaaDoor
namespace Go.Proofs.YthhiiceligjleaaDoor
open Go.RowKit Go.Proofs.YthhiiceligjleaaDoor.P Go.Proofs.YthhiiceligjleaaDoorW.PrintWords Go.Proofs.YthhiiceligjleaaDoorW.PrintLast
set_option linter.unusedVariables false
set_option linter.unusedSimpArgs false
def facesD (x : DD) : List Int := [x.f0, x.f1, x.f2, x.f3, x.f4, x.f5]
theorem facesD_inj {x y : DD} (h : facesD x = facesD y) : x = y := by
 unfold facesD at h
 injection h with h0 h
 injection h with h1 h
 injection h with h2 h
 injection h with h3 h
 injection h with h4 h
 injection h with h5 h
 exact qME h0 h1 h2 h3 h4 h5
def ltD (x y : DD) : Bool := decide (lexI (facesD x) (facesD y) < 0)
theorem rd_isD (l : List Int) (i : Nat) {x : Int} (h : i < l.length) (e : l[i] = x) : rd l (i : Int) = x := by
 unfold rd
 rw [Int.toNat_natCast, List.getD_eq_getElem?_getD, List.getElem?_eq_getElem h, e]; rfl
theorem less_loop (l m : List Int) (hl : l.length ≤ 100000) (hm : m.length = l.length) : ∀ (u v : List Int) (i : Nat), l.drop i = u → m.drop i = v → i ≤ l.length →
  Ev (fun k => qf.l0 k l m (l.length : Int) (i : Int)) (decide (lexI u v < 0))
 | [], v, i, hu, hv, h1 => by
  have hi := Sorts.qfB hu
  have hv' : v = [] := by rw [← hv]; exact List.drop_eq_nil_of_le (by omega)
  subst hv'
  refine Ev.step (f := fun k => _) (fun k => by rw [qf.l0]) ?_
  exact Ev.neg (by omega) (Ev.some_ rfl)
 | a :: u, v, i, hu, hv, h1 => by
  obtain ⟨h3, e3, hu'⟩ := Sorts.qLB hu
  have ea := rd_isD l i h3 e3
  have w : wrap64 ((i : Int) + 1) = ((i + 1 : Nat) : Int) := by unfold wrap64; omega
  clear hu e3
  refine Ev.step (f := fun k => _) (fun k => by rw [qf.l0]) ?_
  rw [w, ea]
  refine Ev.pos (by omega) (Ev.pos (by omega) (Ev.pos (by omega) (Ev.pos (by omega) ?_)))
  match v, hv with
  | [], hv =>
   have := Sorts.qfB hv
   omega
  | b :: v, hv =>
   obtain ⟨h4, e4, hv'⟩ := Sorts.qLB hv
   have eb := rd_isD m i h4 e4
   have ih := less_loop l m hl hm u v (i + 1) hu' hv' (by omega)
   clear hv e4 hu' hv'
   rw [eb]
   have hn := lexI_neg_cons a b u v
   by_cases h0 : a = b
   ·refine Ev.pos h0 ?_
    rw [show decide (lexI (a :: u) (b :: v) < 0) = decide (lexI u v < 0) from decide_eq_decide.2 (by omega)]
    exact ih
   ·refine Ev.neg h0 (Ev.some_ ?_)
    exact decide_eq_decide.2 (by omega)
theorem diLess_ev (x y : DD) : Ev (fun k => qf.f k x.f0 x.f1 x.f2 x.f3 x.f4 x.f5 y.f0 y.f1 y.f2 y.f3 y.f4 y.f5) (ltD x y) := by
 unfold qf.f
 exact Ev.bindc (show qGA.f _ _ _ _ _ _ = some (facesD x) from rfl) (Ev.bindc (show qGA.f _ _ _ _ _ _ = some (facesD y) from rfl) (less_loop (facesD x) (facesD y) (by simp [facesD]) rfl (facesD x) (facesD y) 0 rfl rfl (by simp)))
theorem ways_ins (B : List DD) (i : Int) (x : DD) (acc : List DD) (ha : acc.length ≤ 100) (R : List DD) (h : Ev (fun k => qR.l0 k (Sorts.ins ltD x acc) B (B.length : Int) (wrap64 (i + 1))) R) (d : Nat) :
  ∀ j : Nat, j ≤ Sorts.less ltD x acc → Sorts.less ltD x acc - j = d → Ev (fun k => qR.l1 k acc (j : Int) B (B.length : Int) i x.f0 x.f1 x.f2 x.f3 x.f4 x.f5) R := by
 have hle := Sorts.less_le (lt := ltD) x acc
 have fin : Ev (fun k => qR.l1 k acc (Sorts.less ltD x acc : Int) B (B.length : Int) i x.f0 x.f1 x.f2 x.f3 x.f4 x.f5) R := by
  have hi := Sorts.ins_eq (lt := ltD) x acc
  have e : (([] : List DD) ++ acc.take (Sorts.less ltD x acc)) ++ [x] ++ acc.drop (Sorts.less ltD x acc) = Sorts.ins ltD x acc := by
   rw [hi]; simp
  have l1 : (acc.take (Sorts.less ltD x acc)).length = Sorts.less ltD x acc := by rw [List.length_take]; omega
  have l2 : (acc.drop (Sorts.less ltD x acc)).length = acc.length - Sorts.less ltD x acc := List.length_drop
  rw [← e] at h
  refine Ev.step (f := fun k => _) (fun k => by rw [qR.l1]) ?_
  by_cases hlt : Sorts.less ltD x acc < acc.length
  ·have hs := Sorts.less_stop (lt := ltD) x acc hlt
   refine Ev.pos (by omega) (Ev.pos (by omega) ?_)
   rw [rdDD acc _ _ (List.getElem?_eq_getElem hlt)]
   have hd := diLess_ev (acc[Sorts.less ltD x acc]) x
   rw [hs] at hd
   refine Ev.bind hd (Ev.neg (by decide) ?_)
   rw [Int.toNat_natCast]
   refine Ev.bindc rfl (Ev.pos (by omega) (Ev.bindc rfl (Ev.pos (by rw [l1]; simp; omega) (Ev.bindc rfl (Ev.bindc rfl (Ev.pos (by simp [l1]; omega) (Ev.bindc rfl (Ev.bindc rfl (Ev.pos (by simp [l1, l2]; omega) h)))))))))
  ·refine Ev.neg (by omega) ?_
   rw [Int.toNat_natCast]
   refine Ev.bindc rfl (Ev.pos (by omega) (Ev.pos (by omega) (Ev.bindc rfl (Ev.pos (by rw [l1]; simp; omega) (Ev.bindc rfl (Ev.bindc rfl (Ev.pos (by simp [l1]; omega) (Ev.bindc rfl (Ev.bindc rfl (Ev.pos (by simp [l1, l2]; omega) h))))))))))
 induction d with
 | zero =>
  intro j hj hd
  obtain rfl : j = Sorts.less ltD x acc := by omega
  exact fin
 | succ d ih =>
  intro j hj hd
  have hlt : j < acc.length := by omega
  have hs := Sorts.less_lt (lt := ltD) x acc j hlt (by omega)
  have w : wrap64 ((j : Int) + 1) = ((j + 1 : Nat) : Int) := by unfold wrap64; omega
  have ihh := ih (j + 1) (by omega) (by omega)
  clear ih fin h
  refine Ev.step (f := fun k => _) (fun k => by rw [qR.l1]) ?_
  refine Ev.pos (by omega) (Ev.pos (by omega) ?_)
  rw [rdDD acc _ _ (List.getElem?_eq_getElem hlt), w]
  have hd := diLess_ev (acc[j]) x
  rw [hs] at hd
  exact Ev.bind hd (Ev.pos rfl ihh)
theorem ways_loop (B : List DD) (hB : B.length ≤ 24) : ∀ (l : List DD) (i : Nat) (acc : List DD), B.drop i = l → i ≤ B.length → acc.length ≤ i →
  Ev (fun k => qR.l0 k acc B (B.length : Int) (i : Int)) (Sorts.insAll ltD acc l)
 | [], i, acc, hd, hi, ha => by
  have := Sorts.qfB hd
  refine Ev.step (f := fun k => _) (fun k => by rw [qR.l0]) ?_
  exact Ev.neg (by omega) (Ev.now _)
 | x :: l, i, acc, hd, hi, ha => by
  obtain ⟨hlt, hc, hd'⟩ := Sorts.qLB hd
  have e := rdDD B x i (by rw [← hc]; exact List.getElem?_eq_getElem hlt)
  have hl : (Sorts.ins ltD x acc).length = acc.length + 1 := by
   have := (Sorts.qvD ltD x acc).length_eq
   simpa using this
  have ih := ways_loop B hB l (i + 1) (Sorts.ins ltD x acc) hd' (by omega) (by omega)
  have w : wrap64 ((i : Int) + 1) = ((i + 1 : Nat) : Int) := by unfold wrap64; omega
  clear hd hd' hc
  refine Ev.step (f := fun k => _) (fun k => by rw [qR.l0]) ?_
  rw [e]
  refine Ev.pos (by omega) (Ev.pos (by omega) (Ev.pos (by omega) ?_))
  rw [← w] at ih
  exact ways_ins B (i : Int) x acc (by omega) _ ih _ 0 (by omega) rfl
def waysD (x : DD) : List DD := Sorts.insAll ltD [] (dds (runD x))
theorem diWays_ev (x : DD) : Ev (fun k => qR.f k x.f0 x.f1 x.f2 x.f3 x.f4 x.f5) (waysD x) := by
 have hl : (dds (runD x)).length ≤ 24 := by rw [List.length_map]; exact (qFD x).len
 unfold qR.f
 exact Ev.bind (diSearch_ev x) (ways_loop _ hl _ 0 [] rfl (by omega) (by simp))
theorem waysD_perm (x : DD) : (waysD x).Perm (dds (runD x)) := by
 have := Sorts.insAll_perm ltD (dds (runD x)) []
 rwa [List.append_nil] at this
theorem qVC (x y : DD) : y ∈ waysD x ↔ y ∈ imgs x := (waysD_perm x).mem_iff.trans (mem_run x y)
theorem waysD_len (x : DD) : 1 ≤ (waysD x).length ∧ (waysD x).length ≤ 24 := by
 have h1 := (waysD_perm x).length_eq
 have h2 := (qFD x).len
 rw [List.length_map] at h1
 have h3 := List.length_pos_of_mem ((qVC x x).2 (qZD x))
 omega
def codeF (o : Int) (l : List Int) : Int := l.foldl (fun o f => 10 * o + f) o
def codeD (x : DD) : Int := codeF 0 (facesD x)
theorem codeF_inj : ∀ (l m : List Int) (o p : Int), l.length = m.length → (∀ n ∈ l, 0 ≤ n ∧ n ≤ 9) → (∀ n ∈ m, 0 ≤ n ∧ n ≤ 9) → codeF o l = codeF p m → o = p ∧ l = m
 | [], [], o, p, _, _, _, h => ⟨h, rfl⟩
 | [], _ :: _, _, _, h, _, _, _ => by simp at h
 | _ :: _, [], _, _, h, _, _, _ => by simp at h
 | a :: l, b :: m, o, p, hl, h1, h2, h => by
  obtain ⟨h3, h4⟩ := codeF_inj l m (10 * o + a) (10 * p + b) (by simpa using hl) (fun n hn => h1 n (List.mem_cons_of_mem _ hn)) (fun n hn => h2 n (List.mem_cons_of_mem _ hn)) h
  have ha := h1 a List.mem_cons_self
  have hb := h2 b List.mem_cons_self
  have : o = p := by omega
  refine ⟨this, ?_⟩
  rw [h4, show a = b by omega]
def goodD (x : DD) : Prop := ∀ n ∈ facesD x, 0 ≤ n ∧ n ≤ 9
theorem goodD_of {x : DD} (h : dieB x.f0 x.f1 x.f2 x.f3 x.f4 x.f5 = true) : goodD x := dieB_face h
theorem codeD_inj {x y : DD} (hx : goodD x) (hy : goodD y) (h : codeD x = codeD y) : x = y :=
 facesD_inj (codeF_inj (facesD x) (facesD y) 0 0 rfl hx hy h).2
theorem rdI (l : List Int) (i : Nat) (h : i < l.length) : rd l (i : Int) = l[i] := by
 unfold rd
 rw [Int.toNat_natCast, List.getD_eq_getElem?_getD, List.getElem?_eq_getElem h]; rfl
theorem wyCode_loop (F : List Int) (hF : F.length ≤ 6) : ∀ (u : List Int) (i : Nat) (o : Int), F.drop i = u → i ≤ F.length → (∀ n ∈ u, 0 ≤ n ∧ n ≤ 9) → 0 ≤ o → o < 100 * 10 ^ i →
  Ev (fun k => qHA.l0 k o F (F.length : Int) (i : Int)) (codeF o u)
 | [], i, o, hd, hi, _, _, _ => by
  have := Sorts.qfB hd
  refine Ev.step (f := fun k => _) (fun k => by rw [qHA.l0]) ?_
  exact Ev.neg (by omega) (Ev.now _)
 | a :: u, i, o, hd, hi, hu, h0, h1 => by
  obtain ⟨hlt, hc, hd'⟩ := Sorts.qLB hd
  have ha := hu a List.mem_cons_self
  have hp : (10 : Int) ^ (i + 1) = 10 ^ i * 10 := Int.pow_succ _ _
  have hb : (10 : Int) ^ i ≤ 1000000 := by
   have : i < 6 := by omega
   have : i = 0 ∨ i = 1 ∨ i = 2 ∨ i = 3 ∨ i = 4 ∨ i = 5 := by omega
   rcases this with rfl | rfl | rfl | rfl | rfl | rfl <;> decide
  have ih := wyCode_loop F hF u (i + 1) (10 * o + a) hd' (by omega) (fun n hn => hu n (List.mem_cons_of_mem _ hn)) (by omega) (by rw [hp]; omega)
  have w : wrap64 ((i : Int) + 1) = ((i + 1 : Nat) : Int) := by unfold wrap64; omega
  have w1 : wrap64 (10 * o) = 10 * o := by unfold wrap64; omega
  have w2 : wrap64 (10 * o + a) = 10 * o + a := by unfold wrap64; omega
  refine Ev.step (f := fun k => _) (fun k => by rw [qHA.l0]) ?_
  rw [rdI F i hlt, hc, w, w1, w2]
  clear hd hd' hc
  exact Ev.pos (by omega) (Ev.pos (by omega) (Ev.pos (by omega) ih))
theorem wyCode_ev (W H : Int) (cs : List Int) (x y : Int) (d : DD) (hd : goodD d) (h0 : 0 ≤ y * W + x) (h1 : y * W + x < 100) (hw : wrap64 (y * W) = y * W) :
  Ev (fun k => qHA.f k W H cs x y d.f0 d.f1 d.f2 d.f3 d.f4 d.f5) (codeF (y * W + x) (facesD d)) := by
 unfold qHA.f
 refine Ev.bindc (show qGA.f d.f0 d.f1 d.f2 d.f3 d.f4 d.f5 = some (facesD d) from rfl) ?_
 rw [hw, show wrap64 (y * W + x) = y * W + x by unfold wrap64; omega]
 exact wyCode_loop (facesD d) (by show 6 ≤ 6; omega) (facesD d) 0 _ rfl (by omega) hd h0 (by simpa using h1)
theorem wyCode_die (W H : Int) (cs : List Int) (d : DD) (hd : goodD d) : Ev (fun k => qHA.f k W H cs 0 0 d.f0 d.f1 d.f2 d.f3 d.f4 d.f5) (codeD d) := by
 have := wyCode_ev W H cs 0 0 d hd (by simp) (by simp) (by simp [wrap64])
 rw [Int.zero_mul, Int.zero_add] at this
 exact this
def plc (n : Int) : List Int → Nat → Int
 | [], _ => -1
 | x :: l, i => if x = n then (i : Int) else plc n l (i + 1)
theorem qpD (n : Int) : ∀ (l : List Int) (i : Nat), n ∈ l → ∃ j, j < l.length ∧ plc n l i = ((i + j : Nat) : Int) ∧ l[j]? = some n
 | [], _, h => by cases h
 | x :: l, i, h => by
  unfold plc
  by_cases e : x = n
  ·rw [if_pos e]
   exact ⟨0, by simp, by simp, by simp [e]⟩
  ·rw [if_neg e]
   rcases List.mem_cons.1 h with h | h
   ·exact absurd h.symm e
   obtain ⟨j, h1, h2, h3⟩ := qpD n l (i + 1) h
   refine ⟨j + 1, by simp only [List.length_cons]; omega, by rw [h2]; congr 1; omega, by simpa using h3⟩
theorem wyPlace_loop (L : List Int) (hL : L.length ≤ 1000000) (n : Int) : ∀ (u : List Int) (i : Nat), L.drop i = u → i ≤ L.length → Ev (fun k => qNA.l0 k n L (L.length : Int) (i : Int)) (plc n u i)
 | [], i, hd, hi => by
  have := Sorts.qfB hd
  refine Ev.step (f := fun k => _) (fun k => by rw [qNA.l0]) ?_
  exact Ev.neg (by omega) (Ev.now _)
 | x :: u, i, hd, hi => by
  obtain ⟨hlt, hc, hd'⟩ := Sorts.qLB hd
  have ih := wyPlace_loop L hL n u (i + 1) hd' (by omega)
  have w : wrap64 ((i : Int) + 1) = ((i + 1 : Nat) : Int) := by unfold wrap64; omega
  refine Ev.step (f := fun k => _) (fun k => by rw [qNA.l0]) ?_
  rw [rdI L i hlt, hc, w]
  clear hd hd' hc
  unfold plc
  refine Ev.pos (by omega) (Ev.pos (by omega) (Ev.pos (by omega) ?_))
  by_cases e : x = n
  ·rw [if_pos e]; exact Ev.pos e (Ev.now _)
  ·rw [if_neg e]; exact Ev.neg e ih
theorem wyPlace_ev (L : List Int) (hL : L.length ≤ 1000000) (n : Int) : Ev (fun k => qNA.f k L n) (plc n L 0) := wyPlace_loop L hL n L 0 rfl (by omega)
def waysC (x : DD) : List Int := (waysD x).map codeD
theorem waysC_len (x : DD) : (waysC x).length ≤ 24 := by unfold waysC; rw [List.length_map]; exact (waysD_len x).2
theorem qBD {x y : DD} (hx : goodD x) (h : y ∈ imgs x) : goodD y := by
 obtain ⟨p, _, rfl⟩ := List.mem_map.1 h
 have hf : ∀ n : Int, 0 ≤ faceD x n ∧ faceD x n ≤ 9 := by
  intro n
  have h0 := hx x.f0 (by simp [facesD])
  have h1 := hx x.f1 (by simp [facesD])
  have h2 := hx x.f2 (by simp [facesD])
  have h3 := hx x.f3 (by simp [facesD])
  have h4 := hx x.f4 (by simp [facesD])
  have h5 := hx x.f5 (by simp [facesD])
  unfold faceD
  by_cases e0 : n = 0
  ·rw [if_pos e0]; exact h0
  rw [if_neg e0]
  by_cases e1 : n = 1
  ·rw [if_pos e1]; exact h1
  rw [if_neg e1]
  by_cases e2 : n = 2
  ·rw [if_pos e2]; exact h2
  rw [if_neg e2]
  by_cases e3 : n = 3
  ·rw [if_pos e3]; exact h3
  rw [if_neg e3]
  by_cases e4 : n = 4
  ·rw [if_pos e4]; exact h4
  rw [if_neg e4]; exact h5
 intro n hn
 unfold facesD putD at hn
 simp only [List.mem_cons, List.not_mem_nil, or_false] at hn
 rcases hn with rfl | rfl | rfl | rfl | rfl | rfl <;> exact hf _
theorem myWays_loop (W H : Int) (cs : List Int) (B : List DD) (hB : B.length ≤ 24) : ∀ (u : List DD) (i : Nat) (acc : List Int), B.drop i = u → i ≤ B.length → (∀ d ∈ u, goodD d) → acc.length ≤ i →
  Ev (fun k => qQA.l0 k acc B (B.length : Int) (i : Int) W H cs) (acc ++ u.map codeD)
 | [], i, acc, hd, hi, _, _ => by
  have := Sorts.qfB hd
  refine Ev.step (f := fun k => _) (fun k => by rw [qQA.l0]) ?_
  rw [List.map_nil, List.append_nil]
  exact Ev.neg (by omega) (Ev.now _)
 | d :: u, i, acc, hd, hi, hu, ha => by
  obtain ⟨hlt, hc, hd'⟩ := Sorts.qLB hd
  have ih := myWays_loop W H cs B hB u (i + 1) (acc ++ [codeD d]) hd' (by omega) (fun n hn => hu n (List.mem_cons_of_mem _ hn)) (by simp only [List.length_append, List.length_singleton]; omega)
  have w : wrap64 ((i : Int) + 1) = ((i + 1 : Nat) : Int) := by unfold wrap64; omega
  have hw := wyCode_die W H cs d (hu d List.mem_cons_self)
  refine Ev.step (f := fun k => _) (fun k => by rw [qQA.l0]) ?_
  rw [rdDD B d i (by rw [← hc]; exact List.getElem?_eq_getElem hlt), w]
  clear hd hd' hc
  rw [List.append_assoc] at ih
  exact Ev.pos (by omega) (Ev.pos (by omega) (Ev.pos (by omega) (Ev.bind hw (Ev.pos (by omega) ih))))
theorem myWays_ev (W H : Int) (cs : List Int) (x y : Int) (d : DD) (hd : goodD d) : Ev (fun k => qQA.f k W H cs x y d.f0 d.f1 d.f2 d.f3 d.f4 d.f5) (waysC d) := by
 unfold qQA.f waysC
 have h1 := (waysD_len d).2
 have h2 : ∀ e ∈ waysD d, goodD e := fun e he => qBD hd ((qVC d e).1 he)
 refine Ev.bind (diWays_ev d) ?_
 generalize waysD d = B at h1 h2
 exact myWays_loop W H cs B h1 B 0 [] List.drop_zero (Nat.zero_le _) h2 (Nat.le_refl _)
def code1 (a : ByteArray) (s t : XS) : Int := (t.f1 * (wideT a : Int) + t.f0) * 24 + plc (codeD t.f2) (waysC s.f2) 0
def cellsN (a : ByteArray) : Int := (wideT a : Int) * (highT a : Int)
def codeL (a : ByteArray) : Int → List XS → List XS → Int
 | o, s :: l, t :: m => codeL a (o * (cellsN a * 24) + code1 a s t) l m
 | o, _, _ => o
theorem qyC {x y : DD} (h : y ∈ imgs x) : 0 ≤ plc (codeD y) (waysC x) 0 ∧ plc (codeD y) (waysC x) 0 < 24 := by
 obtain ⟨j, h1, h2, _⟩ := qpD (codeD y) (waysC x) 0 (List.mem_map_of_mem ((qVC x y).2 h))
 have := waysC_len x
 rw [h2]; omega
theorem plc_inj {x y z : DD} (hx : goodD x) (hy : y ∈ imgs x) (hz : z ∈ imgs x) (h : plc (codeD y) (waysC x) 0 = plc (codeD z) (waysC x) 0) : y = z := by
 obtain ⟨j, _, h2, h3⟩ := qpD (codeD y) (waysC x) 0 (List.mem_map_of_mem ((qVC x y).2 hy))
 obtain ⟨j', _, h2', h3'⟩ := qpD (codeD z) (waysC x) 0 (List.mem_map_of_mem ((qVC x z).2 hz))
 rw [h2, h2'] at h
 have : j = j' := by omega
 subst this
 rw [h3] at h3'
 exact codeD_inj (qBD hx hy) (qBD hx hz) (by injection h3')
theorem cell_lin {x y W H : Int} (y0 : 0 ≤ y) (y1 : y < H) (x0 : 0 ≤ x) (x1 : x < W) : 0 ≤ y * W + x ∧ y * W + x < W * H := by
 have hp : (y + 1) * W ≤ H * W := Int.mul_le_mul_of_nonneg_right (by omega) (by omega)
 have hq : 0 ≤ y * W := Int.mul_nonneg y0 (by omega)
 rw [Int.add_mul, Int.one_mul] at hp
 rw [Int.mul_comm W H]
 generalize y * W = m at *
 generalize H * W = M at *
 omega
theorem qkC {a : ByteArray} (g : Gnd a) {t : XS} (h : stateB a t = true) : 0 ≤ t.f1 * (wideT a : Int) + t.f0 ∧ t.f1 * (wideT a : Int) + t.f0 < cellsN a ∧ 0 ≤ t.f0 ∧ t.f0 < (wideT a : Int) ∧ 0 ≤ t.f1 ∧ t.f1 < (highT a : Int) := by
 unfold stateB floorB at h
 simp only [Bool.and_eq_true] at h
 obtain ⟨⟨h1, _⟩, _⟩ := h
 obtain ⟨⟨y0, y1⟩, x0, x1⟩ := (qND a t.f0 t.f1).1 h1
 obtain ⟨z0, z1⟩ := cell_lin y0 y1 x0 x1
 exact ⟨z0, z1, x0, x1, y0, y1⟩
theorem qOC {a : ByteArray} (g : Gnd a) : 1 ≤ cellsN a ∧ cellsN a ≤ 49 := by
 have h1 := g.w1
 have h2 := g.h1
 have h3 := g.w7
 have h4 := g.h7
 unfold cellsN
 have e : (wideT a : Int) * (highT a : Int) = ((wideT a * highT a : Nat) : Int) := by rw [Int.natCast_mul]
 rw [e]
 have h5 : 1 * 1 ≤ wideT a * highT a := Nat.mul_le_mul h1 h2
 have h6 : wideT a * highT a ≤ 7 * 7 := Nat.mul_le_mul h3 h4
 omega
theorem qTC {a : ByteArray} (g : Gnd a) {s t : XS} (h : kinS a s t) : 0 ≤ code1 a s t ∧ code1 a s t < cellsN a * 24 := by
 obtain ⟨c0, c1, _⟩ := qkC g h.1
 obtain ⟨p0, p1⟩ := qyC h.2
 unfold code1
 generalize t.f1 * (wideT a : Int) + t.f0 = m at *
 generalize plc (codeD t.f2) (waysC s.f2) 0 = p at *
 generalize cellsN a = N at *
 omega
theorem code1_inj {a : ByteArray} (g : Gnd a) {s t u : XS} (hs : goodD s.f2) (ht : kinS a s t) (hu : kinS a s u) (h : code1 a s t = code1 a s u) : t = u := by
 obtain ⟨c0, c1, tx0, tx1, ty0, ty1⟩ := qkC g ht.1
 obtain ⟨d0, d1, ux0, ux1, uy0, uy1⟩ := qkC g hu.1
 obtain ⟨p0, p1⟩ := qyC ht.2
 obtain ⟨q0, q1⟩ := qyC hu.2
 unfold code1 at h
 have hpc : plc (codeD t.f2) (waysC s.f2) 0 = plc (codeD u.f2) (waysC s.f2) 0 ∧ t.f1 * (wideT a : Int) + t.f0 = u.f1 * (wideT a : Int) + u.f0 := by
  generalize t.f1 * (wideT a : Int) + t.f0 = m at *
  generalize u.f1 * (wideT a : Int) + u.f0 = m' at *
  generalize plc (codeD t.f2) (waysC s.f2) 0 = p at *
  generalize plc (codeD u.f2) (waysC s.f2) 0 = p' at *
  omega
 obtain ⟨hp, hc⟩ := hpc
 have hw : (0 : Int) < (wideT a : Int) := by omega
 have hy : t.f1 = u.f1 := by
  have e1 : (t.f0 + t.f1 * (wideT a : Int)) / (wideT a : Int) = t.f1 := by rw [Int.add_mul_ediv_right _ _ (by omega), Int.ediv_eq_zero_of_lt tx0 tx1, Int.zero_add]
  have e2 : (u.f0 + u.f1 * (wideT a : Int)) / (wideT a : Int) = u.f1 := by rw [Int.add_mul_ediv_right _ _ (by omega), Int.ediv_eq_zero_of_lt ux0 ux1, Int.zero_add]
  rw [← e1, ← e2, Int.add_comm t.f0, Int.add_comm u.f0, hc]
 rw [hy] at hc
 exact qQE (by omega) hy (plc_inj hs ht.2 hu.2 hp)
theorem qAD {a : ByteArray} {s t : XS} {l m : List XS} (h : kinD a (s :: l) (t :: m)) : kinS a s t ∧ kinD a l m :=
 ⟨h.2 0 s t rfl rfl, ⟨by simpa using h.1, fun k u v hu hv => h.2 (k + 1) u v (by simpa using hu) (by simpa using hv)⟩⟩
theorem codeL_inj {a : ByteArray} (g : Gnd a) : ∀ (l m n : List XS) (o p : Int), kinD a l m → kinD a l n → (∀ s ∈ l, goodD s.f2) → codeL a o l m = codeL a p l n → o = p ∧ m = n
 | [], m, n, o, p, hm, hn, _, h => by
  have h1 := List.length_eq_zero_iff.1 hm.1
  have h2 := List.length_eq_zero_iff.1 hn.1
  subst h1 h2
  exact ⟨h, rfl⟩
 | s :: l, [], n, o, p, hm, hn, _, h => by simp [kinD] at hm
 | s :: l, t :: m, [], o, p, hm, hn, _, h => by simp [kinD] at hn
 | s :: l, t :: m, u :: n, o, p, hm, hn, hg, h => by
  obtain ⟨t1, t2⟩ := qAD hm
  obtain ⟨u1, u2⟩ := qAD hn
  obtain ⟨h3, h4⟩ := codeL_inj g l m n _ _ t2 u2 (fun z hz => hg z (List.mem_cons_of_mem _ hz)) h
  obtain ⟨b0, b1⟩ := qTC g t1
  obtain ⟨d0, d1⟩ := qTC g u1
  have hN := qOC g
  have hop : o = p := by
   have e1 : (code1 a s t + o * (cellsN a * 24)) / (cellsN a * 24) = o := by rw [Int.add_mul_ediv_right _ _ (by omega), Int.ediv_eq_zero_of_lt b0 b1, Int.zero_add]
   have e2 : (code1 a s u + p * (cellsN a * 24)) / (cellsN a * 24) = p := by rw [Int.add_mul_ediv_right _ _ (by omega), Int.ediv_eq_zero_of_lt d0 d1, Int.zero_add]
   rw [← e1, ← e2, Int.add_comm (code1 a s t), Int.add_comm (code1 a s u), h3]
  subst hop
  refine ⟨rfl, ?_⟩
  rw [h4, code1_inj g (hg s List.mem_cons_self) t1 u1 (by omega)]
theorem numsOf_len (l : List UInt8) : (numsOf l).length = l.length := by unfold numsOf; exact List.length_map _
theorem flatten_len (w : Nat) : ∀ L : List (List UInt8), (∀ r ∈ L, r.length = w) → L.flatten.length = L.length * w
 | [], _ => by simp
 | r :: L, h => by
  have ih := flatten_len w L (fun x hx => h x (List.mem_cons_of_mem _ hx))
  rw [List.flatten_cons, List.length_append, ih, h r List.mem_cons_self, List.length_cons, Nat.add_mul]; omega
theorem csOf_len {a : ByteArray} (g : Gnd a) : ((csOf a).length : Int) = cellsN a := by
 unfold csOf cellsN
 rw [numsOf_len, flatT_eq, flatten_len (wideT a) (rowsL a) g.rows, qDC, Int.natCast_mul, Int.mul_comm]
theorem code_wrap {M m x p : Int} (h0 : 0 ≤ M) (h1 : M ≤ 100000) (m0 : 0 ≤ m) (m1 : m ≤ 1000) (x0 : 0 ≤ x) (x1 : x ≤ 10) (p0 : 0 ≤ p) (p1 : p < 24) :
  wrap64 (wrap64 (wrap64 (wrap64 (wrap64 M + wrap64 m) + x) * 24) + p) = (M + m + x) * 24 + p := by
 rw [show wrap64 M = M by unfold wrap64; omega, show wrap64 m = m by unfold wrap64; omega, show wrap64 (M + m) = M + m by unfold wrap64; omega, show wrap64 (M + m + x) = M + m + x by unfold wrap64; omega, show wrap64 ((M + m + x) * 24) = (M + m + x) * 24 by unfold wrap64; omega]
 unfold wrap64; omega
theorem mul_small {o C : Int} (o0 : 0 ≤ o) (o1 : o < 1200) (C0 : 1 ≤ C) (C1 : C ≤ 49) : 0 ≤ o * C ∧ o * C ≤ 100000 := by
 have h1 : o * C ≤ 1200 * 49 := Int.mul_le_mul (by omega) C1 (by omega) (by omega)
 have h2 : 0 ≤ o * C := Int.mul_nonneg o0 (by omega)
 generalize o * C = M at *
 omega
theorem code_step {a : ByteArray} (g : Gnd a) {s t : XS} (h : kinS a s t) {o : Int} (o0 : 0 ≤ o) (o1 : o < 1200) :
  wrap64 (wrap64 (wrap64 (wrap64 (wrap64 (o * cellsN a) + wrap64 (t.f1 * (wideT a : Int))) + t.f0) * 24) + plc (codeD t.f2) (waysC s.f2) 0) = o * (cellsN a * 24) + code1 a s t := by
 obtain ⟨c0, c1, x0, x1, y0, y1⟩ := qkC g h.1
 obtain ⟨p0, p1⟩ := qyC h.2
 obtain ⟨N0, N1⟩ := qOC g
 have hw := g.w7
 obtain ⟨m0, m1⟩ := mul_small o0 o1 N0 N1
 have hy : 0 ≤ t.f1 * (wideT a : Int) := Int.mul_nonneg y0 (by omega)
 unfold code1
 rw [show o * (cellsN a * 24) = o * cellsN a * 24 from (Int.mul_assoc _ _ _).symm]
 generalize t.f1 * (wideT a : Int) = m at *
 generalize plc (codeD t.f2) (waysC s.f2) 0 = p at *
 generalize o * cellsN a = M at *
 generalize cellsN a = N at *
 rw [code_wrap m0 m1 hy (by omega) x0 (by omega) p0 p1]
 omega
theorem c24 {a : ByteArray} (g : Gnd a) : 0 ≤ cellsN a * 24 ∧ cellsN a * 24 ≤ 1176 := by
 obtain ⟨N0, N1⟩ := qOC g
 generalize cellsN a = N at *
 omega
theorem code_one {o C c : Int} (h : o = 0) (h1 : c < C) (h2 : C ≤ 1176) : o * C + c < 1200 := by
 subst h
 rw [Int.zero_mul]; omega
theorem myCode_loop {a : ByteArray} (g : Gnd a) (l m : List XS) (hm2 : m.length ≤ 2) (hml : m.length = l.length) (hg : ∀ s ∈ l, goodD s.f2) : ∀ (v u : List XS) (i : Nat) (o : Int), m.drop i = v → l.drop i = u → i ≤ m.length → kinD a u v → 0 ≤ o → (1 ≤ v.length → o < 1200) → (2 ≤ v.length → o = 0) →
  Ev (fun k => qt.l0 k (l.map fun s => waysC s.f2) o m (m.length : Int) (i : Int) (wideT a : Int) (highT a : Int) (csOf a)) (codeL a o u v)
 | [], u, i, o, hd, hu, hi, hk, _, _, _ => by
  have := Sorts.qfB hd
  have hu0 := List.length_eq_zero_iff.1 hk.1.symm
  subst hu0
  refine Ev.step (f := fun k => _) (fun k => by rw [qt.l0]) ?_
  exact Ev.neg (by omega) (Ev.now _)
 | t :: v, [], i, o, hd, hu, hi, hk, _, _, _ => by simp [kinD] at hk
 | t :: v, s :: u, i, o, hd, hu, hi, hk, h0, h1, h2 => by
  obtain ⟨hlt, hc, hd'⟩ := Sorts.qLB hd
  obtain ⟨hlt2, hc2, hu'⟩ := Sorts.qLB hu
  have hlv : m.length = i + (v.length + 1) := by
   have := congrArg List.length hd
   rw [List.length_drop, List.length_cons] at this
   omega
  have hv2 : ¬ 2 ≤ v.length := by omega
  have w : wrap64 ((i : Int) + 1) = ((i + 1 : Nat) : Int) := by unfold wrap64; omega
  have hi1 : i + 1 ≤ m.length := by omega
  obtain ⟨k1, k2⟩ := qAD hk
  have hgs := hg s (hc2 ▸ List.getElem_mem hlt2)
  have hgt := qBD hgs k1.2
  have ho := h1 (Nat.succ_le_succ (Nat.zero_le _))
  have hst := code_step g k1 h0 ho
  obtain ⟨b0, b1⟩ := qTC g k1
  have hn0 : 0 ≤ o * (cellsN a * 24) := Int.mul_nonneg h0 (c24 g).1
  have ih := myCode_loop g l m hm2 hml hg v u (i + 1) (o * (cellsN a * 24) + code1 a s t) hd' hu' hi1 k2 (Int.add_nonneg hn0 b0)
   (fun hv => code_one (h2 (Nat.succ_le_succ hv)) b1 (c24 g).2) (fun hv => absurd hv hv2)
  have hwc := wyCode_die (wideT a : Int) (highT a : Int) (csOf a) t.f2 hgt
  have hwp : Ev (fun k => qNA.f k ((l.map fun s => waysC s.f2).getD ((i : Int).toNat) ([] : List Int)) (codeD t.f2)) (plc (codeD t.f2) (waysC s.f2) 0) := by
   have e : (l.map fun s => waysC s.f2).getD ((i : Int).toNat) ([] : List Int) = waysC s.f2 := by
    rw [Int.toNat_natCast, List.getD_eq_getElem?_getD, List.getElem?_map, List.getElem?_eq_getElem hlt2, hc2, Option.map_some, Option.getD_some]
   rw [e]
   exact wyPlace_ev _ (Nat.le_trans (waysC_len s.f2) (by decide)) _
  have hll : (l.map fun s => waysC s.f2).length = l.length := List.length_map _
  have q1 : (i : Int) < (m.length : Int) := Int.ofNat_lt.2 hlt
  have q2 : (i : Int) < (l.length : Int) := Int.ofNat_lt.2 hlt2
  have q0 : (0 : Int) ≤ (i : Int) := Int.natCast_nonneg i
  refine Ev.step (f := fun k => _) (fun k => by rw [qt.l0]) ?_
  rw [rdXS m i hlt, hc, w, csOf_len g, hll]
  clear hd hd' hu hu' hc hc2
  refine Ev.pos q1 (Ev.pos q0 (Ev.pos q1 (Ev.pos q2 (Ev.bind hwc (Ev.bind hwp ?_)))))
  rw [hst]
  exact ih
theorem myCode_ev {a : ByteArray} (g : Gnd a) {l m : List XS} (hl : l.length ≤ 2) (hg : ∀ s ∈ l, goodD s.f2) (hk : kinD a l m) :
  Ev (fun k => qt.f k (wideT a : Int) (highT a : Int) (csOf a) (l.map fun s => waysC s.f2) m) (codeL a 0 l m) :=
 myCode_loop g l m (by rw [hk.1]; exact hl) hk.1 hg m l 0 0 rfl rfl (Nat.zero_le _) hk (Int.le_refl _) (fun _ => by omega) (fun _ => rfl)
def pwN (C : Int) : Nat → Int
 | 0 => 1
 | n + 1 => pwN C n * C
theorem qFE {C : Int} (h : 1 ≤ C) : ∀ n, 1 ≤ pwN C n
 | 0 => Int.le_refl _
 | n + 1 => by
  have := qFE h n
  have h2 : 1 * 1 ≤ pwN C n * C := Int.mul_le_mul this h (by omega) (by omega)
  unfold pwN
  omega
theorem qAC {a : ByteArray} (g : Gnd a) : ∀ (l m : List XS) (o : Int), kinD a l m → 0 ≤ o → 0 ≤ codeL a o l m ∧ codeL a o l m < (o + 1) * pwN (cellsN a * 24) l.length
 | [], m, o, hk, h0 => by
  have := List.length_eq_zero_iff.1 hk.1
  subst this
  unfold codeL
  rw [List.length_nil, pwN, Int.mul_one]
  omega
 | s :: l, [], o, hk, h0 => by simp [kinD] at hk
 | s :: l, t :: m, o, hk, h0 => by
  obtain ⟨k1, k2⟩ := qAD hk
  obtain ⟨b0, b1⟩ := qTC g k1
  obtain ⟨N0, N1⟩ := qOC g
  have hC : 1 ≤ cellsN a * 24 := by generalize cellsN a = N at *; omega
  have hn0 : 0 ≤ o * (cellsN a * 24) := Int.mul_nonneg h0 (by omega)
  obtain ⟨i0, i1⟩ := qAC g l m (o * (cellsN a * 24) + code1 a s t) k2 (Int.add_nonneg hn0 b0)
  unfold codeL
  refine ⟨i0, Int.lt_of_lt_of_le i1 ?_⟩
  have hP := qFE hC l.length
  rw [List.length_cons, pwN]
  generalize pwN (cellsN a * 24) l.length = P at *
  generalize cellsN a * 24 = C at *
  rw [show (o + 1) * (P * C) = ((o + 1) * C) * P by rw [Int.mul_comm P C, Int.mul_assoc]]
  refine Int.mul_le_mul_of_nonneg_right ?_ (by omega)
  rw [Int.add_mul, Int.one_mul]
  omega
structure SnOk (a : ByteArray) (l : List XS) (sn : List Bool) (L : List PN) : Prop where
 len : (sn.length : Int) = pwN (cellsN a * 24) l.length
 at_ : ∀ m, kinD a l m → rdOf false sn (codeL a 0 l m) = decide (m ∈ L.map Prod.fst)
theorem rdOf_set {sn : List Bool} {i j : Int} (hi : 0 ≤ i) (hj : 0 ≤ j) (hl : i < (sn.length : Int)) : rdOf false (sn.set i.toNat true) j = if i = j then true else rdOf false sn j := by
 unfold rdOf
 rw [List.getD_eq_getElem?_getD, List.getD_eq_getElem?_getD, List.getElem?_set]
 by_cases e : i = j
 ·subst e
  rw [if_pos rfl, if_pos rfl, if_pos (by omega)]; rfl
 ·rw [if_neg (by omega), if_neg e]
theorem SnOk.put {a : ByteArray} {l : List XS} {sn : List Bool} {L : List PN} (g : Gnd a) (hg : ∀ s ∈ l, goodD s.f2) (h : SnOk a l sn L) {y : List XS} (hy : kinD a l y) (p : Int × ByteArray) : SnOk a l (sn.set (codeL a 0 l y).toNat true) (L ++ [(y, p)]) := by
 refine ⟨by rw [List.length_set]; exact h.len, fun m hm => ?_⟩
 obtain ⟨y0, y1⟩ := qAC g l y 0 hy (Int.le_refl _)
 obtain ⟨m0, _⟩ := qAC g l m 0 hm (Int.le_refl _)
 rw [Int.zero_add, Int.one_mul, ← h.len] at y1
 rw [rdOf_set y0 m0 y1, h.at_ m hm, List.map_append]
 by_cases e : codeL a 0 l y = codeL a 0 l m
 ·have := (codeL_inj g l y m 0 0 hy hm hg e).2
  subst this
  rw [if_pos rfl, decide_eq_true (by simp)]
 ·rw [if_neg e]
  have hne : m ≠ y := fun q => e (by rw [q])
  by_cases hmm : m ∈ L.map Prod.fst
  ·rw [decide_eq_true hmm, decide_eq_true (List.mem_append_left _ hmm)]
  ·rw [decide_eq_false hmm, decide_eq_false (by
    intro q
    rcases List.mem_append.1 q with q | q
    ·exact hmm q
    ·simp at q; exact hne q)]
theorem SnOk.none (a : ByteArray) (l : List XS) (n : Nat) (h : (n : Int) = pwN (cellsN a * 24) l.length) : SnOk a l (List.replicate n false) [] :=
 ⟨by rw [List.length_replicate]; exact h, fun m _ => by
  unfold rdOf
  rw [List.getD_eq_getElem?_getD, List.getElem?_replicate]
  split <;> rfl⟩
abbrev SN := S62
def s62 (x : PN) : SN := ⟨x.1, x.2.1, x.2.2⟩
def resA : Option (List PN) → List SN × Bool
 | none => ([], false)
 | some L => (L.map s62, true)
def pnP (a : ByteArray) (i : Nat) (x : List XS) (p : Nat × Nat) : PN := ((moveB a x p.1 (p.2 : Int)).1, ((i : Int), signN p.1 p.2))
def mpFrom (a : ByteArray) (x : List XS) (k : Nat) : Nat → Nat → List (Nat × Nat)
 | 0, _ => []
 | r + 1, d => mp1 a x k d ++ mpFrom a x k r (d + 1)
theorem mpK_from (a : ByteArray) (x : List XS) (k : Nat) : mpK a x k = mpFrom a x k 4 0 := by
 unfold mpK
 simp only [mpFrom, List.append_nil]
theorem rdSN (L : List PN) (x : PN) (i : Nat) (h : L[i]? = some x) : qmB (L.map s62) (i : Int) = s62 x := by
 unfold qmB
 rw [Int.toNat_natCast, List.getD_eq_getElem?_getD, List.getElem?_map, h]; rfl
section
variable {a : ByteArray} (g : Gnd a) {l : List XS} (hl : l.length ≤ 2) (hg : ∀ s ∈ l, goodD s.f2)
include g hl hg
theorem qOD (x : List XS) (i k : Nat) (hk : k < x.length) (hkl : x.length = l.length) (RR : Option (List PN)) (tl : List (Nat × Nat)) (F : List PN → Option (List PN))
  (IH : ∀ (L : List PN) (sn : List Bool), AllOk a l L → SnOk a l sn L → (∃ p, L[i]? = some (x, p)) → (Cap.puts 6000 L (tl.map (pnP a i x))).bind F = RR →
   Ev (fun n => qN.l2 n l (l.map fun s => waysC s.f2) (L.map s62) (i : Int) sn (l.length : Int) (wrap64 ((k : Int) + 1)) (wideT a : Int) (highT a : Int) (csOf a)) (resA RR)) :
  ∀ (r d : Nat) (L : List PN) (sn : List Bool), d + r = 4 → AllOk a l L → SnOk a l sn L → (∃ p, L[i]? = some (x, p)) → (Cap.puts 6000 L ((mpFrom a x k r d ++ tl).map (pnP a i x))).bind F = RR →
   Ev (fun n => qN.l3 n l (l.map fun s => waysC s.f2) (L.map s62) (i : Int) (k : Int) (d : Int) sn (l.length : Int) (k : Int) (wideT a : Int) (highT a : Int) (csOf a)) (resA RR)
 | 0, d, L, sn, hd, hA, hS, hat, hf => by
  refine Ev.step (f := fun n => _) (fun n => by rw [qN.l3]) ?_
  rw [mpFrom, List.nil_append] at hf
  exact Ev.neg (by omega) (IH L sn hA hS hat hf)
 | r + 1, d, L, sn, hd, hA, hS, hat, hf => by
  have w : wrap64 ((d : Int) + 1) = ((d + 1 : Nat) : Int) := by unfold wrap64; omega
  obtain ⟨p, hp⟩ := hat
  have hi := (List.getElem?_eq_some_iff.1 hp).1
  have hlen : (L.map s62).length = L.length := List.length_map _
  have h6 := hA.len
  have hxk := hA.kin _ (List.mem_of_getElem? hp)
  have hmv := specMove_ev g x (by omega) k hk (d : Int)
  refine Ev.step (f := fun n => _) (fun n => by rw [qN.l3]) ?_
  rw [rdSN L (x, p) i hp, hlen]
  refine Ev.pos (by omega) (Ev.pos (by omega) (Ev.pos (by omega) (Ev.bind hmv ?_)))
  rw [mpFrom, List.append_assoc, mp1] at hf
  cases hm : (moveB a x k (d : Int)).2 with
  | false =>
   rw [hm, if_neg (by decide), List.nil_append] at hf
   refine Ev.neg (by decide) (Ev.step (f := fun n => _) (fun n => by rw [qN.j4]) (Ev.pos rfl ?_))
   rw [w]
   exact qOD x i k hk hkl RR tl F IH r (d + 1) L sn (by omega) hA hS ⟨p, hp⟩ hf
  | true =>
   rw [hm, if_pos rfl, List.cons_append, List.nil_append, List.map_cons, Cap.puts] at hf
   have hkin : kinD a l (moveB a x k (d : Int)).1 := kinD_move hxk k d (by omega) hm
   obtain ⟨c0, c1⟩ := qAC g l _ 0 hkin (Int.le_refl _)
   rw [Int.zero_add, Int.one_mul, ← hS.len] at c1
   have hcd := myCode_ev g hl hg hkin
   have hsg := sign_spec k d (by omega) (by omega)
   have hsn := hS.at_ _ hkin
   refine Ev.pos rfl (Ev.bind hcd (Ev.pos c0 (Ev.pos c1 ?_)))
   rw [hsn]
   by_cases hmt : (moveB a x k (d : Int)).1 ∈ L.map Prod.fst
   ·rw [decide_eq_true hmt]
    rw [show (pnP a i x (k, d)).1 = (moveB a x k (d : Int)).1 from rfl, Cap.qoD 6000 hmt, Option.bind_some] at hf
    refine Ev.step (f := fun n => _) (fun n => by rw [qN.j4]) (Ev.pos rfl ?_)
    rw [w]
    exact qOD x i k hk hkl RR tl F IH r (d + 1) L sn (by omega) hA hS ⟨p, hp⟩ hf
   ·rw [decide_eq_false hmt]
    refine Ev.step (f := fun n => _) (fun n => by rw [qN.j4]) (Ev.neg (by decide) ?_)
    rw [hlen]
    by_cases hfull : L.length = 6000
    ·rw [Cap.put_full 6000 (show ¬ (pnP a i x (k, d)).1 ∈ L.map Prod.fst from hmt) hfull, Option.bind_none, Option.bind_none] at hf
     rw [← hf]
     exact Ev.pos (by omega) (Ev.now _)
    ·rw [Cap.qnD 6000 (show ¬ (pnP a i x (k, d)).1 ∈ L.map Prod.fst from hmt) hfull, Option.bind_some] at hf
     refine Ev.neg (by omega) (Ev.bind hcd (Ev.pos c0 (Ev.pos c1 (Ev.bind hsg (Ev.pos (by omega) ?_)))))
     rw [w]
     have hs : pnP a i x (k, d) ∈ nextP a i x := by
      unfold nextP
      refine List.mem_map.2 ⟨(k, d), ?_, rfl⟩
      exact mps_self a x k d hk (by omega) hm
     have hA2 := hA.add hp hs hfull
     have hS2 := hS.put g hg hkin (((i : Int), signN k d))
     have := qOD x i k hk hkl RR tl F IH r (d + 1) (L ++ [pnP a i x (k, d)]) _ (by omega) hA2 hS2 ⟨p, by rw [List.getElem?_append_left hi]; exact hp⟩ hf
     rw [List.map_append] at this
     exact this
theorem all_ks (x : List XS) (i : Nat) (hkl : x.length = l.length) (RR : Option (List PN)) (F : List PN → Option (List PN))
  (IH : ∀ (L : List PN) (sn : List Bool), AllOk a l L → SnOk a l sn L → (∃ p, L[i]? = some (x, p)) → F L = RR →
   Ev (fun n => qN.l1 n l (l.map fun s => waysC s.f2) (L.map s62) (wrap64 ((i : Int) + 1)) sn (wideT a : Int) (highT a : Int) (csOf a)) (resA RR)) :
  ∀ (r k : Nat) (L : List PN) (sn : List Bool), k + r = x.length → AllOk a l L → SnOk a l sn L → (∃ p, L[i]? = some (x, p)) → (Cap.puts 6000 L ((mps a x k r).map (pnP a i x))).bind F = RR →
   Ev (fun n => qN.l2 n l (l.map fun s => waysC s.f2) (L.map s62) (i : Int) sn (l.length : Int) (k : Int) (wideT a : Int) (highT a : Int) (csOf a)) (resA RR)
 | 0, k, L, sn, hk, hA, hS, hat, hf => by
  refine Ev.step (f := fun n => _) (fun n => by rw [qN.l2]) ?_
  rw [mps, List.map_nil, Cap.puts, Option.bind_some] at hf
  exact Ev.neg (by omega) (IH L sn hA hS hat hf)
 | r + 1, k, L, sn, hk, hA, hS, hat, hf => by
  refine Ev.step (f := fun n => _) (fun n => by rw [qN.l2]) ?_
  rw [mps, mpK_from] at hf
  refine Ev.pos (by omega) ?_
  refine qOD g hl hg x i k (by omega) hkl RR (mps a x (k + 1) r) F (fun L' sn' hA' hS' hat' hf' => ?_) 4 0 L sn rfl hA hS hat hf
  rw [show wrap64 ((k : Int) + 1) = ((k + 1 : Nat) : Int) by unfold wrap64; omega]
  exact all_ks x i hkl RR F IH r (k + 1) L' sn' (by omega) hA' hS' hat' hf'
theorem all_run (RR : Option (List PN)) : ∀ (n i : Nat) (L : List PN) (sn : List Bool), i + n = 6000 → i ≤ L.length → AllOk a l L → SnOk a l sn L → Cap.run 6000 (nextP a) n i L = RR →
  Ev (fun k => qN.l1 k l (l.map fun s => waysC s.f2) (L.map s62) (i : Int) sn (wideT a : Int) (highT a : Int) (csOf a)) (resA RR)
 | 0, i, L, sn, hn, hi, hA, hS, hf => by
  have hlen : (L.map s62).length = L.length := List.length_map _
  have h6 := hA.len
  refine Ev.step (f := fun n => _) (fun n => by rw [qN.l1]) ?_
  rw [hlen, ← hf]
  exact Ev.neg (by omega) (Ev.now _)
 | n + 1, i, L, sn, hn, hi, hA, hS, hf => by
  have hlen : (L.map s62).length = L.length := List.length_map _
  have h6 := hA.len
  refine Ev.step (f := fun n => _) (fun n => by rw [qN.l1]) ?_
  rw [hlen]
  by_cases hlt : i < L.length
  ·rw [Cap.run_step 6000 (nextP a) hlt] at hf
   have hp : L[i]? = some (L[i].1, L[i].2) := List.getElem?_eq_getElem hlt
   have hxk := hA.kin _ (List.mem_of_getElem? hp)
   refine Ev.pos (by omega) ?_
   refine all_ks g hl hg L[i].1 i hxk.1 RR (Cap.run 6000 (nextP a) n (i + 1)) (fun L' sn' hA' hS' hat' hf' => ?_) L[i].1.length 0 L sn (by omega) hA hS ⟨_, hp⟩ hf
   rw [show wrap64 ((i : Int) + 1) = ((i + 1 : Nat) : Int) by unfold wrap64; omega]
   obtain ⟨p', hp'⟩ := hat'
   exact all_run RR n (i + 1) L' sn' (by omega) (by have := (List.getElem?_eq_some_iff.1 hp').1; omega) hA' hS' hf'
  ·rw [Cap.run_end 6000 (nextP a) (by omega)] at hf
   rw [← hf]
   exact Ev.neg (by omega) (Ev.now _)
end
theorem all_ways {a : ByteArray} (g : Gnd a) (l : List XS) (hl : l.length ≤ 2) (R : List SN × Bool) : ∀ (u : List XS) (i : Nat) (acc : List (List Int)), l.drop i = u → i ≤ l.length → (∀ s ∈ l, goodD s.f2) → acc = (l.take i).map (fun s => waysC s.f2) →
  Ev (fun n => qN.l0 n l (l.map fun s => waysC s.f2) (pwN (cellsN a * 24) l.length) (l.length : Int) (l.length : Int) (wideT a : Int) (highT a : Int) (csOf a)) R →
  Ev (fun n => qN.l0 n l acc (pwN (cellsN a * 24) i) (l.length : Int) (i : Int) (wideT a : Int) (highT a : Int) (csOf a)) R
 | [], i, acc, hd, hi, hg, hac, h => by
  have := Sorts.qfB hd
  obtain rfl : i = l.length := by omega
  rw [List.take_length] at hac
  subst hac
  exact h
 | s :: u, i, acc, hd, hi, hg, hac, h => by
  obtain ⟨hlt, hc, hd'⟩ := Sorts.qLB hd
  have hgs := hg s (hc ▸ List.getElem_mem hlt)
  have hw := myWays_ev (wideT a : Int) (highT a : Int) (csOf a) s.f0 s.f1 s.f2 hgs
  have w : wrap64 ((i : Int) + 1) = ((i + 1 : Nat) : Int) := by unfold wrap64; omega
  obtain ⟨N0, N1⟩ := qOC g
  have hb : 1 ≤ pwN (cellsN a * 24) i ∧ pwN (cellsN a * 24) i ≤ 1176 := by
   have : i = 0 ∨ i = 1 := by omega
   rcases this with rfl | rfl
   ·exact ⟨Int.le_refl _, by show (1 : Int) ≤ 1176; decide⟩
   ·simp only [pwN, Int.one_mul]
    generalize cellsN a = N at *
    omega
  have w2 : wrap64 (pwN (cellsN a * 24) i * wrap64 (((csOf a).length : Int) * 24)) = pwN (cellsN a * 24) (i + 1) := by
   rw [csOf_len g, show wrap64 (cellsN a * 24) = cellsN a * 24 by (generalize cellsN a = N at *; unfold wrap64; omega), pwN]
   have h1 : pwN (cellsN a * 24) i * (cellsN a * 24) ≤ 1176 * 1176 := Int.mul_le_mul hb.2 (by generalize cellsN a = N at *; omega) (by generalize cellsN a = N at *; omega) (by omega)
   have h2 : 0 ≤ pwN (cellsN a * 24) i * (cellsN a * 24) := Int.mul_nonneg (by omega) (by generalize cellsN a = N at *; omega)
   generalize pwN (cellsN a * 24) i * (cellsN a * 24) = M at *
   unfold wrap64; omega
  have hal : acc.length ≤ 2 := by rw [hac, List.length_map, List.length_take]; omega
  have ih := all_ways g l hl R u (i + 1) (acc ++ [waysC s.f2]) hd' (by omega) hg (by rw [hac, List.take_succ_eq_append_getElem hlt, List.map_append, hc]; rfl) h
  refine Ev.step (f := fun k => _) (fun k => by rw [qN.l0]) ?_
  rw [rdXS l i hlt, hc, w, w2]
  clear hd hd' hc hac
  exact Ev.pos (by omega) (Ev.pos (by omega) (Ev.pos (by omega) (Ev.bind hw (Ev.pos (by omega) ih))))
theorem myAll_ev {a : ByteArray} {l : List XS} (h : askD a l = true) : Ev (fun k => qN.f k (wideT a : Int) (highT a : Int) (csOf a) l) (resA (plansB a l)) := by
 unfold qN.f plansB
 by_cases hl : l.length ≤ 2
 ·rw [if_pos ⟨h, hl⟩]
  have g := qLE (askD_board h)
  have hg : ∀ s ∈ l, goodD s.f2 := fun s hs => by
   have := askD_state h s hs
   unfold stateB at this
   rw [Bool.and_eq_true] at this
   exact goodD_of this.2
  obtain ⟨N0, N1⟩ := qOC g
  have hk := qXD h
  have hC : 1 ≤ cellsN a * 24 := by generalize cellsN a = N at *; omega
  have hb := qFE hC l.length
  have hb2 : pwN (cellsN a * 24) l.length ≤ 1382976 := by
   have : l.length = 0 ∨ l.length = 1 ∨ l.length = 2 := by omega
   rcases this with e | e | e <;> rw [e]
   ·show (1 : Int) ≤ 1382976; decide
   ·simp only [pwN, Int.one_mul]; generalize cellsN a = N at *; omega
   ·simp only [pwN, Int.one_mul]
    have : cellsN a * 24 * (cellsN a * 24) ≤ 1176 * 1176 := Int.mul_le_mul (by generalize cellsN a = N at *; omega) (by generalize cellsN a = N at *; omega) (by generalize cellsN a = N at *; omega) (by omega)
    generalize cellsN a * 24 * (cellsN a * 24) = M at *
    omega
  obtain ⟨n, hn⟩ : ∃ n : Nat, pwN (cellsN a * 24) l.length = (n : Int) := ⟨(pwN (cellsN a * 24) l.length).toNat, by omega⟩
  have hcd := myCode_ev g hl hg hk
  obtain ⟨c0, c1⟩ := qAC g l l 0 hk (Int.le_refl _)
  rw [Int.zero_add, Int.one_mul, hn] at c1
  have hS := (SnOk.none a l n hn.symm).put g hg hk (-1, (⟨#[]⟩ : ByteArray))
  have hrun := all_run g hl hg (allP a l) 6000 0 [(l, (-1, (⟨#[]⟩ : ByteArray)))] _ rfl (Nat.zero_le _) (AllOk.start h) hS rfl
  refine Ev.neg (by omega) ?_
  refine all_ways g l hl _ l 0 [] List.drop_zero (Nat.zero_le _) hg rfl ?_
  refine Ev.step (f := fun k => _) (fun k => by rw [qN.l0]) (Ev.neg (by omega) ?_)
  rw [hn, Int.toNat_natCast]
  rw [hn] at hb hb2
  refine Ev.pos (by omega) (Ev.pos (by omega) (Ev.bindc rfl (Ev.bind hcd (Ev.pos c0 (Ev.pos (by rw [List.length_replicate]; exact c1) ?_)))))
  exact hrun
 ·rw [if_neg (fun q => hl q.2)]
  exact Ev.pos (by omega) (Ev.now _)
end Go.Proofs.YthhiiceligjleaaDoor
namespace Go.Proofs.YthhiiceligjleaaDoor.Pure
open Go.RowKit Go.Proofs.YthhiiceligjleaaDoor.P Go.Proofs.YthhiiceligjleaaDoorW.PrintWords Go.Proofs.YthhiiceligjleaaDoorW.PrintLast
set_option linter.unusedVariables false
set_option linter.unusedSimpArgs false
theorem both (a : ByteArray) (l : List XS) (ha : a.size ≤ 1048576) (hl : l.length ≤ 2000000) : ∃ r : Int × Bool, Ev (fun n => qgA.f n a l) r ∧ qWA.f a l = some r := by
 obtain ⟨w, h, cs, h2, hs⟩ := myAsked_ev a l hl
 unfold qgA.f qWA.f
 rw [if_pos ⟨ha, hl⟩]
 cases hb : askD a l with
 | false =>
  rw [hb] at h2
  have hp : plansB a l = none := by unfold plansB; rw [hb, if_neg (by simp)]
  rw [hp]
  exact ⟨(0, false), Ev.bind h2 (Ev.neg (by simp) (Ev.now _)), rfl⟩
 | true =>
  obtain ⟨e1, e2, e3⟩ := hs hb
  subst e1 e2 e3
  rw [hb] at h2
  have h3 := myAll_ev hb
  cases hp : plansB a l with
  | none =>
   rw [hp] at h3
   exact ⟨(0, false), Ev.bind h2 (Ev.pos rfl (Ev.bind h3 (Ev.some_ rfl))), rfl⟩
  | some L =>
   rw [hp] at h3
   exact ⟨((L.length : Int), true), Ev.bind h2 (Ev.pos rfl (Ev.bind h3 (Ev.some_ (by simp only [resA, List.length_map])))), rfl⟩
theorem FnExactCountTogether : qY.Pure := by
 intro a l _ hl
 refine Ev.rounds (r := true) ?_
 unfold qY.f
 by_cases ha : a.size ≤ 1048576
 ·refine Ev.neg (by omega) (Ev.bindc (szStateS_eq l hl) ?_)
  by_cases hn : l.length ≤ 1048576
  ·rw [if_pos hn]
   have hc : l.length ≤ 2000000 := by omega
   have ht := toStateS_ev l hc
   obtain ⟨r, hs, hi⟩ := both a (l.map convS) ha (by simp; omega)
   have h3 : (l.map convS).length ≤ 140737488355328 := by simp; omega
   refine Ev.neg (by omega) (Ev.bind ht (Ev.bind hs (Ev.bind ht (Ev.bindc hi (Ev.pos rfl ?_)))))
   refine Ev.step (f := fun k => _) (fun k => by rw [qY.j0]) (Ev.neg (by simp) ?_)
   exact Ev.bind ht (Ev.bind (eqStateS_refl _ h3) (Ev.pos rfl (Ev.now _)))
  ·rw [if_neg hn]
   exact Ev.pos (by decide) (Ev.now _)
 ·exact Ev.pos (by omega) (Ev.now _)
end Go.Proofs.YthhiiceligjleaaDoor.Pure
