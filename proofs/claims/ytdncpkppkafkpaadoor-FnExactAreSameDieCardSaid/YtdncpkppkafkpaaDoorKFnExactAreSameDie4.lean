/- The program's AreSameDie returns what the reference's returns, for all texts (the law lets longer texts by). No further condition. -/
import Derived.Test.YtdncpkppkafkpaaDoorKFnExactAreSameDie3
import Derived.Lib.Strings
import Derived.Lib.SplitLaws
import Derived.KernelRfl
import Derived.Lib.Hide

namespace Go.Proofs.YtdncpkppkafkpaaDoor
open Go.RowKit Go.Proofs.YtdncpkppkafkpaaDoorW.PrintWords Go.Proofs.YtdncpkppkafkpaaDoorW.PrintLast
set_option linter.unusedVariables false
set_option linter.unusedSimpArgs false
theorem Ev.at_ {α : Type} {g : Nat → Option α} {r : α} (n : Nat) (h : ∀ k, g (k + n) = some r) : Ev g r := ⟨n, fun k hk => by
 obtain ⟨m, rfl⟩ : ∃ m, k = m + n := ⟨k - n, by omega⟩
 exact h m⟩
theorem Ev.pos {α : Type} {c : Prop} [Decidable c] {g f : Nat → Option α} {r : α} (hc : c) (h : Ev g r) : Ev (fun k => if c then g k else f k) r := h.congr fun k => if_pos hc
theorem Ev.neg {α : Type} {c : Prop} [Decidable c] {g f : Nat → Option α} {r : α} (hc : ¬ c) (h : Ev f r) : Ev (fun k => if c then g k else f k) r := h.congr fun k => if_neg hc
theorem Ev.some_ {α : Type} {a r : α} (h : a = r) : Ev (fun _ => some a) r := ⟨0, fun _ _ => by rw [h]⟩
theorem Ev.bindc {α β : Type} {o : Option α} {f : Nat → α → Option β} {a : α} {r : β} (h : o = some a) (k : Ev (fun n => f n a) r) : Ev (fun n => o.bind (f n)) r := k.congr fun n => by rw [h]; rfl
theorem w64 {i : Int} (h0 : -9223372036854775808 ≤ i) (h1 : i ≤ 9223372036854775807) : wrap64 i = i := by unfold wrap64; omega
def sp (c : UInt8) : List UInt8 → List UInt8 × List (List UInt8)
 | [] => ([], [])
 | b :: r => if b = c then ([], (sp c r).1 :: (sp c r).2) else (b :: (sp c r).1, (sp c r).2)
theorem splitK_sp (c : UInt8) (l : List UInt8) : Lib.splitK [c] 0 (Lib.count l [c]) l = (sp c l).1 :: (sp c l).2 := by
 induction l with
 | nil =>
  have : Lib.count [] [c] = 0 := by rw [Lib.count_one]; rfl
  rw [this]; rfl
 | cons b l ih =>
  by_cases h : b = c
  ·subst h
   have hix : Lib.index (b :: l) [b] = 0 := by rw [Lib.index]; simp [List.isPrefixOf]
   rw [Lib.count_cons_eq, show 1 + Lib.count l [b] = Lib.count l [b] + 1 by omega, Lib.splitK, hix]
   simp only [sp, if_true]
   rw [if_neg (by decide), ← ih]
   rfl
  ·have hp : ([c] : List UInt8).isPrefixOf (b :: l) = false := by simp [List.isPrefixOf, Ne.symm h]
   have hix : Lib.index (b :: l) [c] = if Lib.index l [c] == -1 then -1 else Lib.index l [c] + 1 := by rw [Lib.index, hp]; simp
   rw [Lib.count_cons_ne b c l h]
   simp only [sp, if_neg h]
   by_cases hm : Lib.index l [c] = -1
   ·have h0 : Lib.count l [c] = 0 := Lib.count_miss hm
    rw [h0] at ih ⊢
    simp only [Lib.splitK] at ih ⊢
    injection ih with e1 e2
    rw [← e1, ← e2]
   ·have hge := Lib.index_ge l [c]
    obtain ⟨j, hj⟩ : ∃ j : Nat, Lib.index l [c] = j := ⟨(Lib.index l [c]).toNat, by omega⟩
    have hc := Lib.count_hit (sub := [c]) (by simp) hj
    obtain ⟨k, hk⟩ : ∃ k, Lib.count l [c] = k + 1 := ⟨Lib.count l [c] - 1, by omega⟩
    rw [hk] at ih ⊢
    have hne : ¬ ((j : Int) == -1) = true := by intro e; have := beq_iff_eq.1 e; omega
    have hne' : ¬ ((j : Int) + 1 == -1) = true := by intro e; have := beq_iff_eq.1 e; omega
    rw [Lib.splitK, hj, if_neg hne] at ih
    rw [Lib.splitK, hix, hj, if_neg hne, if_neg hne']
    have e1 : ((j : Int) + 1).toNat = j + 1 := by omega
    rw [e1]
    simp only [Int.toNat_natCast, Nat.add_zero, List.length_singleton] at ih ⊢
    injection ih with i1 i2
    rw [← i1, ← i2]
    rfl
theorem split_sp (a : ByteArray) (c : UInt8) : (Lib.splitB ⟨#[c]⟩ 0 (Lib.countB a ⟨#[c]⟩) a).map (·.data.toList) = (sp c a.data.toList).1 :: (sp c a.data.toList).2 := by
 rw [Lib.splitB_data]
 exact splitK_sp c a.data.toList
theorem qqC (c : UInt8) (l : List UInt8) : l.length = (sp c l).1.length + ((sp c l).2.map List.length).sum + (sp c l).2.length := by
 induction l with
 | nil => rfl
 | cons b l ih =>
  by_cases h : b = c
  ·simp only [sp, if_pos h, List.length_cons, List.length_nil, List.map_cons, List.sum_cons]; omega
  ·simp only [sp, if_neg h, List.length_cons]; omega
theorem sp_all (c : UInt8) (p : UInt8 → Bool) (l : List UInt8) (hp : p c = false) : ((sp c l).1.all p && (sp c l).2.all (·.all p)) = l.all fun b => b == c || p b := by
 induction l with
 | nil => rfl
 | cons b l ih =>
  by_cases h : b = c
  ·subst h
   simp only [sp, if_true, List.all_nil, Bool.true_and, List.all_cons, ih, beq_self_eq_true, Bool.true_or]
  ·have : (b == c) = false := by simpa using h
   simp only [sp, if_neg h, List.all_cons, Bool.and_assoc, ih, this, Bool.false_or]
theorem qTB {p : UInt8 → Bool} {e : UInt8} (he : p e = false) : ∀ l : List UInt8, e ∈ l → e ∈ l.dropWhile p
 | [], h => h
 | b :: l, h => by
  rw [List.dropWhile_cons]
  split
  ·rename_i hb
   rcases List.mem_cons.1 h with rfl | h
   ·rw [he] at hb; cases hb
   ·exact qTB he l h
  ·exact h
theorem dropWhile_all {p : UInt8 → Bool} : ∀ l : List UInt8, l.all p = true → l.dropWhile p = []
 | [], _ => rfl
 | b :: l, h => by
  rw [List.all_cons, Bool.and_eq_true] at h
  rw [List.dropWhile_cons, if_pos h.1]
  exact dropWhile_all l h.2
theorem trimS_nil (l cs : List UInt8) : (Lib.trimS l cs = []) ↔ l.all (cs.contains ·) = true := by
 unfold Lib.trimS Lib.trimLeftS Lib.trimRightS
 constructor
 ·intro h
  rw [List.all_eq_true]
  intro e he
  cases hc : cs.contains e with
  | true => rfl
  | false =>
   have h1 := qTB (p := (cs.contains ·)) (e := e) hc l.reverse (by simpa using he)
   have h2 := qTB (p := (cs.contains ·)) (e := e) hc (l.reverse.dropWhile (cs.contains ·)).reverse (by simpa using h1)
   rw [h] at h2; cases h2
 ·intro h
  rw [dropWhile_all l.reverse (by rw [List.all_reverse]; exact h)]
  rfl
end Go.Proofs.YtdncpkppkafkpaaDoor
namespace Go.Proofs.YtdncpkppkafkpaaDoor.P
open Go.RowKit Go.Proofs.YtdncpkppkafkpaaDoorW.PrintWords Go.Proofs.YtdncpkppkafkpaaDoorW.PrintLast Go.Proofs.YtdncpkppkafkpaaDoorW.PrintMore
attribute [local go_sem] qz qx qJA qIA qo qn qy qw
set_option linter.unusedVariables false
set_option linter.unusedSimpArgs false
def qBB.f (a0 : Int) : Option (Bool) := if a0 ≥ 48 then (some (decide (a0 ≤ 57))) else (some false)
set_option maxHeartbeats 8000000 in
set_option maxRecDepth 100000 in
theorem qBB.calls (a0 : Int) (r : Bool) (w : World) (h : qBB.f a0 = some r) :
  Calls Tryd.prog 48 #[.int .u8 a0] w fun e w' => e = .returned (.bool r) ∧ Drawn0 w w' := by
 have H : (if a0 ≥ 48 then (some (decide (a0 ≤ 57))) else (some false)) = some r := h
 clear h
 by_cases c2 : a0 ≥ 48
 ·rw [if_pos c2] at H
  have c2b0 : decide (48 ≤ a0) = true := decide_eq_true c2
  clear c2
  obtain rfl := Option.some.inj H
  go_enter Tryd.func48, Tryd.ntmps48
  go_wp2
  go_ret
  exact ⟨by first | rfl | (simp; done) | (simp [*]; done), by repeat (first | exact Drawn0.refl _ | apply Drawn0.step)⟩
 ·rw [if_neg c2] at H
  have c2b0 : decide (48 ≤ a0) = false := decide_eq_false c2
  clear c2
  obtain rfl := Option.some.inj H
  go_enter Tryd.func48, Tryd.ntmps48
  go_wp2
  go_ret
  exact ⟨by first | rfl | (simp; done) | (simp [*]; done), by repeat (first | exact Drawn0.refl _ | apply Drawn0.step)⟩
def qbA.f (k : Nat) (l0 : List (S61)) : Option (Bool) := (qI.f k l0).bind fun bt213 => ((qi.f k bt213.2 (-1)).bind fun t219 => (some (!t219)))
set_option maxHeartbeats 8000000 in
set_option maxRecDepth 100000 in
theorem qbA.calls (k : Nat) (A0 : Option Addr) (c0 : Nat) (l0 : List (S61)) (r : Bool) (w : World) (hr0 : Kd.C k61 w A0 l0.length l0) (hc0 : l0.length ≤ c0) (h : qbA.f k l0 = some r) :
  Calls Tryd.prog 49 #[.slice A0 l0.length c0] w fun e w' => e = .returned (.bool r) ∧ Below w.heap.size w w' := by
 have HR0 := Aside0.mk hr0
 have HC0 := Aside0.mk hc0
 clear hr0 hc0
 have HB := Aside0.mk (Below.refl w.heap.size w)
 have H : ((qI.f k l0).bind fun bt213 => ((qi.f k bt213.2 (-1)).bind fun t219 => (some (!t219)))) = some r := h
 clear h
 replace H := Option.bind_eq_some_iff.mp H
 obtain ⟨⟨t213, t214⟩, A20, H⟩ := H
 replace H : ((qi.f k t214 (-1)).bind fun t219 => (some (!t219))) = some r := H
 have A2 := Aside0.mk A20
 clear A20
 replace H := Option.bind_eq_some_iff.mp H
 obtain ⟨t219, A30, H⟩ := H
 replace H : (some (!t219)) = some r := H
 have A3 := Aside0.mk A30
 clear A30
 obtain rfl := Option.some.inj H
 go_enter Tryd.func49, Tryd.ntmps49
 go_wp2_with (first | ((with_reducible refine qa (f := 38) rfl ?_); refine qQA (some 7) rfl rfl Tryd.func38 (by kernel_rfl) rfl #[.slice A0 l0.length c0] rfl (by (try simp only [List.map_toArray, List.map_cons, List.map_nil]); first | done | rfl | (simp only [List.length_drop, List.length_take]; rfl)) ?_; (with_reducible refine (qI.calls k _ _ l0 t213 t214 _ ?side1 ?side2 A2.out).mono ?_); (case side1 => repeat (first | exact HR0.out | (with_reducible refine Kd.qZA ?_ _) | (with_reducible refine Kd.qYA ?_ _) | (with_reducible refine Kd.qpA ?_))); (case side2 => exact HC0.out); rintro e w4 ⟨v215, v217, rfl, ho0, ho1, hb⟩; refine ⟨_, rfl, ?_⟩; have n0_ := Aside0.mk (Kd.qEA ho0 (qb bl)); have n1_ := Aside0.mk (Kd.qEA ho1 (qb bl)); have n2_ := Aside0.mk (qJ bl hb); clear HB; have HO216 := n0_; have HO218 := n1_; have HB := n2_; clear n0_ n1_ n2_; (try clear hb); (try clear hb2); (try clear hk); (try clear hi); (try clear ho0); (try clear ho1); obtain ⟨Ao5, co5, eo5⟩ := Kd.qr HO218.out; subst eo5) | ((with_reducible refine qa (f := 71) rfl ?_); refine qQA (some 11) rfl rfl Tryd.func71 (by kernel_rfl) rfl #[.slice Ao5 t214.length co5, .int .i64 (-1)] rfl (by (try simp only [List.map_toArray, List.map_cons, List.map_nil]); first | done | rfl | (simp only [List.length_drop, List.length_take]; rfl)) ?_; (with_reducible refine (qi.calls k _ _ t214 (-1) t219 _ ?side1 ?side2 A3.out).mono ?_); (case side1 => repeat (first | exact (Kd.qS HO218.out).2.2 | (with_reducible refine Kd.qZA ?_ _) | (with_reducible refine Kd.qYA ?_ _) | (with_reducible refine Kd.qpA ?_))); (case side2 => exact (Kd.qS HO218.out).2.1); rintro e w' ⟨rfl, ⟨nd, rfl⟩⟩; refine ⟨_, rfl, ?_⟩))
 go_ret
 exact ⟨by first | rfl | (simp [qN, qM] <;> rfl) | (simp [*, qN, qM] <;> rfl), bl⟩
end Go.Proofs.YtdncpkppkafkpaaDoor.P
namespace Go.Proofs.YtdncpkppkafkpaaDoor
open Go.RowKit Go.Proofs.YtdncpkppkafkpaaDoor.P Go.Proofs.YtdncpkppkafkpaaDoorW.PrintWords Go.Proofs.YtdncpkppkafkpaaDoorW.PrintLast
set_option linter.unusedVariables false
set_option linter.unusedSimpArgs false
abbrev CC := S61
structure Sx where
 cs : List CC
 ds : List Int
 ms : List (Int × Bool)
def isDg (c : UInt8) : Bool := decide (48 ≤ c.toNat) && decide (c.toNat ≤ 57)
def sixByte (y x : Nat) (c : UInt8) (s : Sx) : Option Sx := if c = 46 then some s else if isDg c = true then (if s.cs.length = 6 then none else some ⟨s.cs ++ [⟨(x : Int), (y : Int)⟩], s.ds ++ [((c.toNat : Int) - 48)], ((x : Int), true) :: s.ms⟩) else none
def sixRow (y : Nat) : Nat → List UInt8 → Sx → Option Sx
 | _, [], s => some s
 | x, c :: r, s => (sixByte y x c s).bind (sixRow y (x + 1) r)
def isDots (r : ByteArray) : Bool := r.data.toList.all (fun c => c == 46)
def sixRows (wd : Nat) : Nat → List ByteArray → Sx → Option Sx
 | _, [], s => some s
 | y, r :: l, s => if r.size = wd then (if isDots r = true then none else (sixRow y 0 r.data.toList s).bind (sixRows wd (y + 1) l)) else none
def sixFin (k wd : Nat) : Option Sx → Option (List CC × List Int × Bool)
 | none => some ([], [], false)
 | some s => if s.cs.length = 6 then (if MapKit.count s.ms = wd then (qbA.f k s.cs).bind fun t => some (if t = true then (s.cs, s.ds, true) else ([], [], false)) else some ([], [], false)) else some ([], [], false)
def rowsOf6 (a : ByteArray) : List ByteArray := Lib.splitB ⟨#[47]⟩ 0 (Lib.countB a ⟨#[47]⟩) a
def sixAll (a : ByteArray) : Option Sx := sixRows ((rowsOf6 a).headD ByteArray.empty).size 0 (rowsOf6 a) ⟨[], [], []⟩
structure SixOk (s : Sx) : Prop where
 cs : s.cs.length ≤ 6
 ds : s.ds.length = s.cs.length
 ms : s.ms.length = s.cs.length
theorem SixOk.start : SixOk ⟨[], [], []⟩ := ⟨by simp, rfl, rfl⟩
theorem SixOk.add {s : Sx} (h : SixOk s) (hn : s.cs.length ≠ 6) (c : CC) (d : Int) (x : Int) : SixOk ⟨s.cs ++ [c], s.ds ++ [d], (x, true) :: s.ms⟩ := by
 have h1 := h.cs; have h2 := h.ds; have h3 := h.ms
 exact ⟨by simp; omega, by simp; omega, by simp; omega⟩
theorem six_trim (r u : ByteArray) (h : qvA.f r ⟨#[46]⟩ = some u) : (u = ⟨#[]⟩) ↔ isDots r = true := by
 unfold qvA.f at h
 split at h
 ·obtain rfl := Option.some.inj h
  have e : (Lib.trimS r.data.toList [46] = []) ↔ r.data.toList.all (([46] : List UInt8).contains ·) = true := trimS_nil _ _
  unfold isDots
  have e2 : (fun c : UInt8 => c == 46) = (([46] : List UInt8).contains ·) := by funext c; by_cases h : c = 46 <;> simp [h]
  rw [e2, ← e]
  constructor
  ·intro h
   have := congrArg (fun x : ByteArray => x.data.toList) h
   simpa using this
  ·intro h
   show (⟨(Lib.trimS r.data.toList [46]).toArray⟩ : ByteArray) = _
   rw [h]
 ·cases h
theorem split_size (a : ByteArray) : ∀ r ∈ rowsOf6 a, r.size ≤ a.size := by
 intro r hr
 have h := split_sp a 47
 have hl := qqC 47 a.data.toList
 have hd : a.data.toList.length = a.size := by rw [Array.length_toList]; rfl
 have hr2 : r.data.toList ∈ (sp 47 a.data.toList).1 :: (sp 47 a.data.toList).2 := by
  rw [← h]
  exact List.mem_map.2 ⟨r, hr, rfl⟩
 have hrl : r.data.toList.length = r.size := by rw [Array.length_toList]; rfl
 rcases List.mem_cons.1 hr2 with e | e
 ·rw [← e] at hl
  omega
 ·have : r.data.toList.length ≤ ((sp 47 a.data.toList).2.map List.length).sum := by
   generalize (sp 47 a.data.toList).2 = L at e
   clear hl h hr2
   induction L with
   | nil => cases e
   | cons b L ih =>
    rcases List.mem_cons.1 e with e | e
    ·rw [e]; simp
    ·have := ih e; simp; omega
  omega
theorem split_len (a : ByteArray) : (rowsOf6 a).length = Lib.countB a ⟨#[47]⟩ + 1 := by
 have := Lib.splitB_all ⟨#[47]⟩ (by decide) 0 _ a rfl
 exact this
theorem qBC {α : Type} {d : Kd α} {e base : Nat} {ok : Nat → Prop} {W w1 : World} {u : Value} {xs : List α} (h : d.R e W base ok u xs) (hg : W.grownBy w1 none) : d.R e w1 base ok u xs :=
 Kd.qd (Kd.qOD (Kd.qQB h) (fun k hk hlt => hg.block k hlt (by simp))) (fun _ hk => hk.1)
theorem dg_eq (c : UInt8) : qBB.f (c.toNat : Int) = some (isDg c) := by
 unfold qBB.f isDg
 by_cases h : 48 ≤ c.toNat
 ·rw [if_pos (by omega), decide_eq_true h, Bool.true_and]
  congr 1
  exact decide_eq_decide.2 (by omega)
 ·rw [if_neg (by omega), decide_eq_false h, Bool.false_and]
namespace P
def qUB.f (k : Nat) (a0 : ByteArray) : Option (List CC × List Int × Bool) := if a0.size < 4294967281 then sixFin k ((rowsOf6 a0).headD ByteArray.empty).size (sixAll a0) else none
end P
theorem six_getW (l : List ByteArray) (j : Nat) (h : j < l.length) : rdOf ByteArray.empty l (j : Int) = l[j] := by
 unfold rdOf
 rw [Int.toNat_natCast, List.getD_eq_getElem?_getD, List.getElem?_eq_getElem h]; rfl
theorem six_bt (s : ByteArray) (i : Nat) (h : i < s.data.toList.length) : bt s (i : Int) = ((s.data.toList[i]).toNat : Int) := by
 have h' : i < s.size := by have : s.data.toList.length = s.size := (by rw [Array.length_toList]; rfl); omega
 unfold bt
 rw [dif_pos (by simpa using h')]
 simp only [Int.toNat_natCast, Array.getElem_toList]
 rfl
def sixT14 : Bool × List (List Nat × List Nat) := (true, [([], []), ([], []), ([], []), ([], []), ([], []), ([3, 4], [3, 4]), ([5], [5]), ([2, 6], [2, 6]), ([], []), ([], []), ([], []), ([9, 10], [9, 10]), ([11], [11]), ([12], [12]), ([13], [13]), ([8, 14, 7], [8, 14]), ([7, 15, 2, 3, 4, 5, 6, 7], [2, 7]), ([15, 16, 2, 3, 4, 5, 6, 7, 8, 9, 10, 11, 12, 13, 14, 15, 16], [8, 15]), ([0, 1, 17, 0, 1, 2, 3, 4, 5, 6, 7, 8, 9, 10, 11, 12, 13, 14, 15, 16, 17], [0, 1])])
def sixB14 : List Nat := [0, 0, 0, 0, 0, 24, 56, 124, 0, 0, 0, 1536, 3584, 7680, 15872, 32764, 65532, 131068, 262143]
def sixT17 : Bool × List (List Nat × List Nat) := (true, [([], []), ([0], [0]), ([1], [1]), ([2], [2]), ([3], [3]), ([4, 3, 3], [3, 4]), ([3], [3]), ([6, 3], [3, 6]), ([7, 3], [3, 7]), ([8, 3], [3, 8]), ([5, 9, 3], [3, 5, 9]), ([3, 10], [3, 10]), ([11, 5], [11]), ([12], [12]), ([13, 12, 12], [12, 13]), ([14, 12], [12, 14]), ([12, 15], [12, 15])])
def sixB17 : List Nat := [0, 1, 3, 7, 15, 31, 15, 79, 207, 463, 1023, 2047, 4095, 8191, 16383, 32767, 65535]
theorem sixTab14 : rtab .any (opsOf Tryd.f33 14) = sixT14 := by kernel_rfl
theorem sixBits14 : waitsOk sixT14.2 sixB14 = true := by kernel_rfl
theorem sixTab17 : rtab .any (opsOf Tryd.f33 17) = sixT17 := by kernel_rfl
theorem sixBits17 : waitsOk sixT17.2 sixB17 = true := by kernel_rfl
namespace P
set_option maxHeartbeats 4000000 in
set_option maxRecDepth 100000 in
theorem qUB.calls (k : Nat) (a0 : ByteArray) (r1 : List CC) (r2 : List Int) (r3 : Bool) (w : World) (hL : Laid w) (h : qUB.f k a0 = some (r1, r2, r3)) :
    Calls Tryd.prog 33 #[.string a0] w fun e w' => ∃ v0_ v1_ : Value, e = .returned (.tuple #[v0_, v1_, .bool r3]) ∧ Kd.R k61 61 w' w.heap.size (fun _ => True) v0_ r1 ∧ Kd.R (Kd.int .i64) 3 w' w.heap.size (fun _ => True) v1_ r2 ∧ Below w.heap.size w w' := by
  unfold qUB.f at h
  by_cases hs : a0.size < 4294967281
  case neg => rw [if_neg hs] at h; cases h
  rw [if_pos hs] at h
  have hsp : strings_Split.f a0 ⟨#[47]⟩ = some (rowsOf6 a0) := if_pos ⟨hs, by decide⟩
  have hlen := split_len a0
  have hcnt := Lib.countB_le ⟨#[47]⟩ (by decide) a0.size a0 (Nat.le_refl _)
  have hrs : ∀ r ∈ rowsOf6 a0, r.size < 4294967281 := fun r hr => Nat.lt_of_le_of_lt (split_size a0 r hr) hs
  unfold sixAll at h
  generalize rowsOf6 a0 = L at h hsp hlen hrs
  have hLn : L.length ≤ 4294967281 := by omega
  have hL0 : 0 < L.length := by omega
  clear hlen hcnt hs
  obtain ⟨r0, hr0⟩ : ∃ r0, L[0] = r0 := ⟨_, rfl⟩
  have hhd : L.headD ByteArray.empty = r0 := by rw [← hr0]; cases L with | nil => simp at hL0 | cons a l => rfl
  rw [hhd] at h
  obtain ⟨T, hT⟩ : ∃ T, sixRows r0.size 0 L ⟨[], [], []⟩ = T := ⟨_, rfl⟩
  rw [hT] at h
  have HT := Aside0.mk hT
  have HF := Aside0.mk h
  have HSP := Aside0.mk hsp
  have HRS := Aside0.mk hrs
  have HL0 := Aside0.mk hL0
  have HLN := Aside0.mk hLn
  have HLD := Aside0.mk hL
  have HLP := Aside0.mk (show (0 : Int) < (L.length : Int) by omega)
  have HR0 := Aside0.mk (show rdOf ByteArray.empty L 0 = r0 from (six_getW L 0 hL0).trans hr0)
  clear hT h hsp hrs hLn hL hhd hr0 hL0
  have hu := Tryd.underlying61
  go_enter Tryd.func33, Tryd.ntmps33
  have B0 := Aside0.mk (Below.refl w.heap.size w)
  have hmm := @run_makeMap Tryd.prog
  go_wp2_with (first
    | ((with_reducible refine qX (N := 12) rfl ?_); refine Kd.R_lit k61 w.heap.size 61 ?hg (N := 12) ?hd (xs := ([] : List CC)) (inner := []) (ok := fun _ => True) (okp := fun _ => True) ?hr ?hp (fun _ hk => hk) trivial B0.out B0.out.size (by simp) ?_; (case hd => rfl); (case hg => rfl); (case hr => first | (go_simp; done) | (go_simp; rfl)); (case hp => exact (Reps.none _ _)); intro vc wA ho hb hg_ hnew_; have C1 := Aside0.mk ho; have B1 := Aside0.mk hb; clear ho hb hg_ hnew_ B0)
    | ((with_reducible refine qX (N := 13) rfl ?_); refine Kd.R_lit (Kd.int .i64) w.heap.size 3 ?hg (N := 13) ?hd (xs := ([] : List Int)) (inner := []) (ok := fun _ => True) (okp := fun _ => True) ?hr ?hp (fun _ hk => hk) trivial B1.out B1.out.size (by simp) ?_; (case hd => rfl); (case hg => rfl); (case hr => first | (go_simp; done) | (go_simp; rfl)); (case hp => exact (Reps.none _ _)); intro vd wB ho hb hg_ hnew_; have C2 := Aside0.mk (qBC C1.out hg_); have D2 := Aside0.mk ho; have B2 := Aside0.mk hb; clear ho hb hg_ hnew_ B1 C1)
    | ((with_reducible refine qa (f := 46) rfl ?_); refine qQA (some 15) rfl rfl Tryd.func46 (by kernel_rfl) rfl #[.string a0, .string ⟨#[47]⟩] rfl (by (try simp only [List.map_toArray, List.map_cons, List.map_nil]); first | done | rfl | simp) ?_; refine (strings_Split.calls a0 ⟨#[47]⟩ L _ (Laid.below HLD.out B2.out) HSP.out).mono ?_; rintro e wC ⟨vw, rfl, hw, hb⟩; refine ⟨_, rfl, ?_⟩; have C3 := Aside0.mk (Kd.qU C2.out hb); have D3 := Aside0.mk (Kd.qU D2.out hb); have L3 := Aside0.mk (Kd.qEA hw B2.out.size); have B3 := Aside0.mk (qaA B2.out B2.out.size hb); obtain ⟨ad, cw, ew⟩ := Kd.R_slice1 L3.out HL0.out; subst ew; clear hw hb C2 D2 B2))
  have M4 := Aside0.mk (show mapI.Is (wC.alloc (.map #[] 0)) wC.heap.size [] from MapKit.Is.made wC)
  have HG := Aside0.mk (show w.heap.size ≤ wC.heap.size from B3.out.size)
  have C4 := Aside0.mk (Kd.qF C3.out (.map #[] 0))
  have D4 := Aside0.mk (Kd.qF D3.out (.map #[] 0))
  have L4 := Aside0.mk (Kd.qF L3.out (.map #[] 0))
  have B4 := Aside0.mk (qBA B3.out (.map #[] 0))
  clear C3 D3 L3 B3 hmm
  generalize hgg : wC.heap.size = g at M4 HG ⊢
  clear hgg
  generalize wC.alloc (.map #[] 0) = wD at M4 C4 D4 L4 B4 ⊢
  go_loopg [5, 6, 19] L.length (fun gg v5 v6 v19 wq => ∃ (vc vd : Value) (s : Sx) (y : Nat), vc = v5 ∧ vd = v6 ∧ v19 = .int .i64 y ∧ L.length - y ≤ gg ∧ y ≤ L.length ∧ Aside0 (sixRows r0.size y (L.drop y) s = T) ∧ Aside0 (SixOk s) ∧ Aside0 (Kd.R k61 61 wq w.heap.size (fun _ => True) vc s.cs) ∧ Aside0 (Kd.R (Kd.int .i64) 3 wq w.heap.size (fun _ => True) vd s.ds) ∧ Aside0 (Kd.R Kd.string 9 wq w.heap.size (fun _ => True) (.slice (some ad) L.length cw) L) ∧ Aside0 (mapI.Is wq g s.ms) ∧ Aside0 (Below w.heap.size w wq))
  case atStart => exact ⟨_, _, ⟨[], [], []⟩, 0, rfl, rfl, rfl, by omega, by omega, HT, ⟨SixOk.start⟩, C4, D4, L4, M4, B4⟩
  case round =>
    clear C4 D4 L4 M4 B4 HT
    obtain ⟨vc, vd, s, y, rfl, rfl, rfl, hgk, hy, HT, HK, C0, D0, LR, M0, B⟩ := hrel
    rename World => wr
    by_cases hlt : y < L.length
    · have hltz : (y : Int) < (L.length : Int) := by omega
      obtain ⟨_, _, hC⟩ := Kd.qS LR.out
      obtain ⟨ady, ey, hcell⟩ := Kd.qPB hC (y : Int) (by omega) (by omega)
      obtain rfl : ad = ady := by injection ey
      obtain ⟨ad0, e0, hcell0⟩ := Kd.qPB hC (0 : Int) (by omega) (by omega)
      obtain rfl : ad = ad0 := by injection e0
      rw [HR0.out] at hcell0
      obtain ⟨row, hrow⟩ : ∃ row, L[y] = row := ⟨_, rfl⟩
      rw [six_getW L y hlt, hrow, Int.toNat_natCast] at hcell
      have hmem : row ∈ L := hrow ▸ List.getElem_mem hlt
      have hT := HT.out
      rw [List.drop_eq_getElem_cons hlt, hrow, sixRows] at hT
      have hrz := HRS.out row hmem
      have HRZ := Aside0.mk hrz
      have htr : qvA.f row ⟨#[46]⟩ = some ⟨(Lib.trimS row.data.toList [46]).toArray⟩ := if_pos ⟨by omega, by decide, by decide⟩
      have hdot := six_trim row _ htr
      generalize (⟨(Lib.trimS row.data.toList [46]).toArray⟩ : ByteArray) = u at htr hdot
      have HTR := Aside0.mk htr
      have HDT := Aside0.mk hdot
      clear hC hrow htr hdot HT hmem ey e0
      have hcell1 : wr.cell? ad = some (.string r0) := hcell0
      by_cases hz : row.size = r0.size
      · have hzi : (row.size : Int) = (r0.size : Int) := by omega
        rw [if_pos hz] at hT
        have HT1 := Aside0.mk hT
        clear hT
        by_cases hu0 : u = ⟨#[]⟩
        · subst hu0
          have HTN := Aside0.mk (show none = T by have := HT1.out; rwa [if_pos (HDT.out.1 rfl)] at this)
          have HFN := HF.out
          rw [← HTN.out] at HFN
          simp only [sixFin, Option.some.injEq, Prod.mk.injEq] at HFN
          obtain ⟨rfl, rfl, rfl⟩ := HFN
          go_wp2_with (first
            | (go_at_call 47; refine (qvA.calls row ⟨#[46]⟩ ⟨#[]⟩ _ HTR.out).mono ?_; rintro e w2 ⟨rfl, hb⟩; have B1 := Aside0.mk (qaA B.out B.out.size hb); clear hb))
          go_ret3
          exact ⟨_, _, rfl, Kd.R_nil k61 61 _ _ _, Kd.R_nil (Kd.int .i64) 3 _ _ _, B1.out⟩
        · have HTS := Aside0.mk (show (sixRow y 0 row.data.toList s).bind (sixRows r0.size (y + 1) (L.drop (y + 1))) = T by have := HT1.out; rwa [if_neg (fun h => hu0 (HDT.out.2 h))] at this)
          clear HT1 HDT
          have hue : u.toList.isEmpty = false := by
            rw [Bool.eq_false_iff]
            intro h
            apply hu0
            rw [Lib.toList_data, List.isEmpty_iff] at h
            obtain ⟨⟨l⟩⟩ := u
            obtain rfl : l = [] := h
            rfl
          go_wp2_with (first
            | (go_at_call 47; refine (qvA.calls row ⟨#[46]⟩ u _ HTR.out).mono ?_; rintro e w2 ⟨rfl, hb⟩; have B1 := Aside0.mk (qaA B.out B.out.size hb); have C1 := Aside0.mk (Kd.qU C0.out hb); have D1 := Aside0.mk (Kd.qU D0.out hb); have L1 := Aside0.mk (Kd.qU LR.out hb); have M1 := Aside0.mk (M0.out.below hb); clear hb B C0 D0 LR M0 hcell hcell0 hcell1))
          go_loopg [5, 6, 38] row.size (fun gg v5 v6 v38 wq => ∃ (vc vd : Value) (s : Sx) (x : Nat), vc = v5 ∧ vd = v6 ∧ v38 = .int .i64 x ∧ row.size - x ≤ gg ∧ x ≤ row.size ∧ Aside0 ((sixRow y x (row.data.toList.drop x) s).bind (sixRows r0.size (y + 1) (L.drop (y + 1))) = T) ∧ Aside0 (SixOk s) ∧ Aside0 (Kd.R k61 61 wq w.heap.size (fun _ => True) vc s.cs) ∧ Aside0 (Kd.R (Kd.int .i64) 3 wq w.heap.size (fun _ => True) vd s.ds) ∧ Aside0 (Kd.R Kd.string 9 wq w.heap.size (fun _ => True) (.slice (some ad) L.length cw) L) ∧ Aside0 (mapI.Is wq g s.ms) ∧ Aside0 (Below w.heap.size w wq))
          case atStart => exact ⟨_, _, s, 0, rfl, rfl, rfl, by omega, by omega, HTS, HK, C1, D1, L1, M1, B1⟩
          case round =>
            clear C1 D1 L1 M1 B1 HTS HK
            obtain ⟨vc, vd, s, x, rfl, rfl, rfl, hgx, hx, HT, HK, C0, D0, LR, M0, B⟩ := hrel
            rename World => wq
            have hdl : row.data.toList.length = row.size := by rw [Array.length_toList]; rfl
            by_cases hxl : x < row.size
            · have hxz : (x : Int) < (row.size : Int) := by omega
              have hx0 : (0 : Int) ≤ (x : Int) := by omega
              have hxt : x < row.data.toList.length := by omega
              obtain ⟨c, hc⟩ : ∃ c, row.data.toList[x] = c := ⟨_, rfl⟩
              have hT := HT.out
              rw [List.drop_eq_getElem_cons hxt, hc, sixRow, sixByte] at hT
              have hbt := six_bt row x hxt
              rw [hc] at hbt
              have hix : ∀ h : x < row.size, ((row[x]'h).toNat : Int) = (c.toNat : Int) := fun h => by have := bt_at row (x : Int) (by simpa using h); rw [hbt] at this; simpa using this
              have hc256 : c.toNat < 256 := c.toNat_lt
              have HBT := Aside0.mk hbt
              clear HT hbt hc hdl hxt
              have p0 := eq_true hx0
              have q0 := eq_true hxz
              obtain ⟨n, hn⟩ : ∃ n : Int, (c.toNat : Int) = n := ⟨_, rfl⟩
              simp only [hn] at hix
              by_cases h46 : c = 46
              · have hn46 : n = 46 := by rw [← hn, h46]; rfl
                rw [if_pos h46] at hT
                have HT := Aside0.mk hT
                clear hT
                subst hn46
                clear hn
                go_wp2
                go_roundg (row.size - (x + 1))
                case measure => omega
                case rel => exact ⟨_, _, s, x + 1, rfl, rfl, by push_cast; rfl, by omega, by omega, HT, HK, C0, D0, LR, M0, B⟩
              · have hn46 : ¬ n = 46 := fun e => h46 (by rw [← hn] at e; have : c.toNat = 46 := by omega
                                                         have := congrArg UInt8.ofNat this; simpa using this)
                rw [if_neg h46] at hT
                have HT := Aside0.mk hT
                clear hT
                have hdg := dg_eq c
                rw [hn] at hdg
                obtain ⟨dg, hdgv⟩ : ∃ dg, isDg c = dg := ⟨_, rfl⟩
                rw [hdgv] at hdg
                have HDG := Aside0.mk hdg
                have HDV := Aside0.mk hdgv
                have HN := Aside0.mk hn
                clear hdg hdgv hn
                cases dg with
                | false =>
                  have HTN := Aside0.mk (show none = T by have := HT.out; rwa [HDV.out, if_neg (by decide), Option.bind_none, Option.bind_none] at this)
                  have HFN := HF.out
                  rw [← HTN.out] at HFN
                  simp only [sixFin, Option.some.injEq, Prod.mk.injEq] at HFN
                  obtain ⟨rfl, rfl, rfl⟩ := HFN
                  go_wp2_with (first
                    | ((with_reducible refine qa (f := 48) rfl ?_); refine qQA (some 48) rfl rfl Tryd.func48 (by kernel_rfl) rfl #[.int .u8 n] rfl (by (try simp only [List.map_toArray, List.map_cons, List.map_nil]); first | done | rfl | simp) ?_; refine (qBB.calls n false _ HDG.out).mono ?_; rintro e w2 ⟨rfl, hb0⟩; refine ⟨_, rfl, ?_⟩; have hb := hb0.below; clear hb0; have B1 := Aside0.mk (qaA B.out B.out.size hb); clear hb))
                  go_ret3
                  exact ⟨_, _, rfl, Kd.R_nil k61 61 _ _ _, Kd.R_nil (Kd.int .i64) 3 _ _ _, B1.out⟩
                | true =>
                  have HT1 := Aside0.mk (show ((if s.cs.length = 6 then (none : Option Sx) else some ⟨s.cs ++ [⟨(x : Int), (y : Int)⟩], s.ds ++ [((c.toNat : Int) - 48)], ((x : Int), true) :: s.ms⟩).bind (sixRow y (x + 1) (row.data.toList.drop (x + 1)))).bind (sixRows r0.size (y + 1) (L.drop (y + 1))) = T by have := HT.out; rwa [HDV.out, if_pos rfl] at this)
                  clear HT
                  obtain ⟨Ac, cc, eac⟩ := Kd.qr C0.out
                  subst eac
                  by_cases h6 : s.cs.length = 6
                  · have h6i : (s.cs.length : Int) = 6 := by omega
                    have HTN := Aside0.mk (show none = T by have := HT1.out; rwa [if_pos h6, Option.bind_none, Option.bind_none] at this)
                    have HFN := HF.out
                    rw [← HTN.out] at HFN
                    simp only [sixFin, Option.some.injEq, Prod.mk.injEq] at HFN
                    obtain ⟨rfl, rfl, rfl⟩ := HFN
                    clear HT1
                    go_wp2_with (first
                      | ((with_reducible refine qa (f := 48) rfl ?_); refine qQA (some 48) rfl rfl Tryd.func48 (by kernel_rfl) rfl #[.int .u8 n] rfl (by (try simp only [List.map_toArray, List.map_cons, List.map_nil]); first | done | rfl | simp) ?_; refine (qBB.calls n true _ HDG.out).mono ?_; rintro e w2 ⟨rfl, hb0⟩; refine ⟨_, rfl, ?_⟩; have hb := hb0.below; clear hb0; have B1 := Aside0.mk (qaA B.out B.out.size hb); clear hb))
                    go_ret3
                    exact ⟨_, _, rfl, Kd.R_nil k61 61 _ _ _, Kd.R_nil (Kd.int .i64) 3 _ _ _, B1.out⟩
                  · have h6i : ¬ (s.cs.length : Int) = 6 := by omega
                    have HT2 := Aside0.mk (show (sixRow y (x + 1) (row.data.toList.drop (x + 1)) ⟨s.cs ++ [⟨(x : Int), (y : Int)⟩], s.ds ++ [((c.toNat : Int) - 48)], ((x : Int), true) :: s.ms⟩).bind (sixRows r0.size (y + 1) (L.drop (y + 1))) = T by have := HT1.out; rwa [if_neg h6] at this)
                    clear HT1
                    go_wp2_with (first
                      | ((with_reducible refine qa (f := 48) rfl ?_); refine qQA (some 48) rfl rfl Tryd.func48 (by kernel_rfl) rfl #[.int .u8 n] rfl (by (try simp only [List.map_toArray, List.map_cons, List.map_nil]); first | done | rfl | simp) ?_; refine (qBB.calls n true _ HDG.out).mono ?_; rintro e w2 ⟨rfl, hb0⟩; refine ⟨_, rfl, ?_⟩; have hb := hb0.below; clear hb0; have n0_ := Aside0.mk (qaA B.out B.out.size hb); have n1_ := Aside0.mk (Kd.qU C0.out hb); have n2_ := Aside0.mk (Kd.qU D0.out hb); have n3_ := Aside0.mk (Kd.qU LR.out hb); have n4_ := Aside0.mk (M0.out.below hb); clear hb B C0 D0 LR M0; have B := n0_; have C0 := n1_; have D0 := n2_; have LR := n3_; have M0 := n4_; clear n0_ n1_ n2_ n3_ n4_))
                    generalize hvc : (Value.slice Ac s.cs.length cc) = vc at C0 ⊢
                    clear hvc
                    have hrange : 48 ≤ n ∧ n ≤ 57 := by
                      have h1 := HDV.out
                      have h2 := HN.out
                      unfold isDg at h1
                      simp only [Bool.and_eq_true, decide_eq_true_eq] at h1
                      omega
                    have hw8 : IntKind.u8.wrap (n - 48) = n - 48 := by show (n - 48) % 256 = n - 48; omega
                    have hw64 : IntKind.i64.wrap (n - 48) = n - 48 := by rw [IntKind.wrap_i64]; omega
                    have HOK := Aside0.mk (show s.cs.length < 6 by have := HK.out.cs; omega)
                    have HOK2 := Aside0.mk (show s.ds.length < 6 by have := HK.out.cs; have := HK.out.ds; omega)
                    have HML := Aside0.mk (show s.ms.length < maxLen by have := HK.out.cs; have := HK.out.ms; unfold maxLen; omega)
                    have HXW := Aside0.mk (show (Lit.int .i64 (x : Int)).wf = true by have := HRZ.out; unfold Lit.wf; simp only [Bool.and_eq_true, decide_eq_true_eq]; exact ⟨by show (-9223372036854775808 : Int) ≤ _; omega, by show _ ≤ (9223372036854775807 : Int); omega⟩)
                    clear hrange h6i
                    refine qwA (n := 19) (S := fun w' => True) (ds := []) #[false, false, false, false, false, false, false, false, false, false, false, false, false, false, false, false, false, false, false] (by kernel_rfl) rfl rfl trivial (fun hHeld => ?_); refine qTA sixTab14 sixBits14 (fun HT_ HW_ => ?_)
                    refine pure_ (i := 0) (N := some 55) (v := ?_) (a' := ?_) #[true, false, false, false, false, false, false, false, false, false, false, false, false, false, false, false, false, false, false] rfl rfl (qKA HT_.out (by kernel_rfl)) (fun _ _ _ h => h) (Or.inl ⟨by rfl, ?_⟩) ?_ ?_
                    rotate_left
                    · intro w'
                      go_simp
                      with_reducible rfl
                    rotate_left
                    · simp only [Act.put, List.setIfInBounds_toArray, List.set_cons_zero, List.set_cons_succ, i64_w, i32_w]
                      rfl
                    refine pure_ (i := 1) (N := some 56) (v := ?_) (a' := ?_) #[true, true, false, false, false, false, false, false, false, false, false, false, false, false, false, false, false, false, false] rfl rfl (qKA HT_.out (by kernel_rfl)) (fun _ _ _ h => h) (Or.inl ⟨by rfl, ?_⟩) ?_ ?_
                    rotate_left
                    · intro w'
                      go_simp
                      with_reducible rfl
                    rotate_left
                    · simp only [Act.put, List.setIfInBounds_toArray, List.set_cons_zero, List.set_cons_succ, i64_w, i32_w]
                      rfl
                    refine pure_ (i := 2) (N := some 57) (v := ?_) (a' := ?_) #[true, true, true, false, false, false, false, false, false, false, false, false, false, false, false, false, false, false, false] rfl rfl (qKA HT_.out (by kernel_rfl)) (fun _ _ _ h => h) (Or.inl ⟨by rfl, ?_⟩) ?_ ?_
                    rotate_left
                    · intro w'
                      go_simp
                      with_reducible rfl
                    rotate_left
                    · simp only [Act.put, List.setIfInBounds_toArray, List.set_cons_zero, List.set_cons_succ, i64_w, i32_w]
                      rfl
                    refine pure_ (i := 3) (N := some 58) (v := ?_) (a' := ?_) #[true, true, true, true, false, false, false, false, false, false, false, false, false, false, false, false, false, false, false] rfl rfl (qKA HT_.out (by kernel_rfl)) (fun _ _ _ h => h) (Or.inl ⟨by rfl, ?_⟩) ?_ ?_
                    rotate_left
                    · intro w'
                      go_simp
                      with_reducible rfl
                    rotate_left
                    · simp only [Act.put, List.setIfInBounds_toArray, List.set_cons_zero, List.set_cons_succ, i64_w, i32_w]
                      rfl
                    refine pure_ (i := 4) (N := some 59) (v := ?_) (a' := ?_) #[true, true, true, true, true, false, false, false, false, false, false, false, false, false, false, false, false, false, false] rfl rfl (qKA HT_.out (by kernel_rfl)) (fun _ _ _ h => h) (Or.inl ⟨by rfl, ?_⟩) ?_ ?_
                    rotate_left
                    · intro w'
                      go_simp
                      with_reducible rfl
                    rotate_left
                    · simp only [Act.put, List.setIfInBounds_toArray, List.set_cons_zero, List.set_cons_succ, i64_w, i32_w]
                      rfl
                    refine pure_ (i := 5) (N := some 60) (v := ?_) (a' := ?_) #[true, true, true, true, true, true, false, false, false, false, false, false, false, false, false, false, false, false, false] rfl rfl (qKA HT_.out (by kernel_rfl)) (fun _ _ _ h => h) (Or.inl ⟨by rfl, ?_⟩) ?_ ?_
                    rotate_left
                    · intro w'
                      go_simp
                      with_reducible rfl
                    rotate_left
                    · simp only [Act.put, List.setIfInBounds_toArray, List.set_cons_zero, List.set_cons_succ, i64_w, i32_w]
                      rfl
                    refine pure_ (i := 8) (N := some 63) (v := ?_) (a' := ?_) #[true, true, true, true, true, true, false, false, true, false, false, false, false, false, false, false, false, false, false] rfl rfl (qKA HT_.out (by kernel_rfl)) (fun _ _ _ h => h) (Or.inl ⟨by rfl, ?_⟩) ?_ ?_
                    rotate_left
                    · intro w'
                      go_simp
                      with_reducible rfl
                    rotate_left
                    · simp only [Act.put, List.setIfInBounds_toArray, List.set_cons_zero, List.set_cons_succ, i64_w, i32_w]
                      rfl
                    refine pure_ (i := 9) (N := some 64) (v := ?_) (a' := ?_) #[true, true, true, true, true, true, false, false, true, true, false, false, false, false, false, false, false, false, false] rfl rfl (qKA HT_.out (by kernel_rfl)) (fun _ _ _ h => h) (Or.inl ⟨by rfl, ?_⟩) ?_ ?_
                    rotate_left
                    · intro w'
                      go_simp
                      with_reducible rfl
                    rotate_left
                    · simp only [Act.put, List.setIfInBounds_toArray, List.set_cons_zero, List.set_cons_succ, i64_w, i32_w]
                      rfl
                    refine pure_ (i := 10) (N := some 65) (v := ?_) (a' := ?_) #[true, true, true, true, true, true, false, false, true, true, true, false, false, false, false, false, false, false, false] rfl rfl (qKA HT_.out (by kernel_rfl)) (fun _ _ _ h => h) (Or.inl ⟨by rfl, ?_⟩) ?_ ?_
                    rotate_left
                    · intro w'
                      go_simp
                      with_reducible rfl
                    rotate_left
                    · simp only [Act.put, List.setIfInBounds_toArray, List.set_cons_zero, List.set_cons_succ, i64_w, i32_w]
                      rfl
                    refine pure_ (i := 11) (N := some 66) (v := ?_) (a' := ?_) #[true, true, true, true, true, true, false, false, true, true, true, true, false, false, false, false, false, false, false] rfl rfl (qKA HT_.out (by kernel_rfl)) (fun _ _ _ h => h) (Or.inl ⟨by rfl, ?_⟩) ?_ ?_
                    rotate_left
                    · intro w'
                      go_simp
                      with_reducible rfl
                    rotate_left
                    · simp only [Act.put, List.setIfInBounds_toArray, List.set_cons_zero, List.set_cons_succ, i64_w, i32_w]
                      rfl
                    refine pure_ (i := 12) (N := some 67) (v := ?_) (a' := ?_) #[true, true, true, true, true, true, false, false, true, true, true, true, true, false, false, false, false, false, false] rfl rfl (qKA HT_.out (by kernel_rfl)) (fun _ _ _ h => h) (Or.inl ⟨by rfl, ?_⟩) ?_ ?_
                    rotate_left
                    · intro w'
                      go_simp
                      with_reducible rfl
                    rotate_left
                    · simp only [Act.put, List.setIfInBounds_toArray, List.set_cons_zero, List.set_cons_succ, i64_w, i32_w]
                      rfl
                    refine pure_ (i := 13) (N := some 68) (v := ?_) (a' := ?_) #[true, true, true, true, true, true, false, false, true, true, true, true, true, true, false, false, false, false, false] rfl rfl (qKA HT_.out (by kernel_rfl)) (fun _ _ _ h => h) (Or.inl ⟨by rfl, ?_⟩) ?_ ?_
                    rotate_left
                    · intro w'
                      go_simp
                      with_reducible rfl
                    rotate_left
                    · simp only [Act.put, List.setIfInBounds_toArray, List.set_cons_zero, List.set_cons_succ, i64_w, i32_w]
                      rfl
                    refine qND [6, 7, 14, 15, 16, 17, 18] (fun a0_ b a w' => ∃ (s61 : Value) (s62 : Value) (s69 : Value) (s70 : Value) (m16_ : Value) (m17_ : Value), a = putSel a0_ b [(6, 61, s61), (7, 62, s62), (14, 69, s69), (15, 70, s70), (16, 5, m16_), (17, 6, m17_)] ∧ (Below w.heap.size w w') ∧ (Kd.R Kd.string 9 w' w.heap.size (fun _ => True) (.slice (some ad) L.length cw) L) ∧ (b 7 = false → Kd.R k61 61 w' w.heap.size (fun _ => True) vc s.cs) ∧ (b 6 = true → b 7 = false → Kd.R k61 61 w' w.heap.size (fun k_ => some k_ ≠ (vc : Value).ownBlock) s61 [(⟨(x : Int), (y : Int)⟩ : CC)]) ∧ (b 7 = true → Kd.R k61 61 w' w.heap.size (fun _ => True) s62 (s.cs ++ [(⟨(x : Int), (y : Int)⟩ : CC)])) ∧ (b 15 = false → Kd.R (Kd.int .i64) 3 w' w.heap.size (fun _ => True) vd s.ds) ∧ (b 14 = true → b 15 = false → Kd.R (Kd.int .i64) 3 w' w.heap.size (fun k_ => some k_ ≠ (vd : Value).ownBlock) s69 [(n - 48)]) ∧ (b 15 = true → Kd.R (Kd.int .i64) 3 w' w.heap.size (fun _ => True) s70 (s.ds ++ [(n - 48)])) ∧ (b 18 = false → mapI.Is w' g s.ms) ∧ (b 18 = true → mapI.Is w' g (((x : Int), true) :: s.ms)) ∧ (b 16 = true → (m16_ : Value) = s62) ∧ (b 17 = true → (m17_ : Value) = s70)) HT_.out HW_.out (by kernel_rfl) (by kernel_rfl) ?_ ?_ ?_
                    · exact ⟨.bool false, .bool false, .bool false, .bool false, .bool false, .bool false, by simp only [putSel, Bool.false_eq_true, if_false], qk B.out, Kd.qH LR.out, fun _ => Kd.qH C0.out, fun h_ => absurd h_ (by decide), fun h_ => absurd h_ (by decide), fun _ => Kd.qH D0.out, fun h_ => absurd h_ (by decide), fun h_ => absurd h_ (by decide), fun _ => M0.out.drew, fun h_ => absurd h_ (by decide), fun h_ => absurd h_ (by decide), fun h_ => absurd h_ (by decide)⟩
                    · skip
                      clear B C0 D0 LR M0
                      refine qm ?_ ?_
                      · rintro b a w' ⟨s61, s62, s69, s70, m16_, m17_, ha, Q_B, Q_LR, Q_C0, Q_LC, Q_C1, Q_D0, Q_LD, Q_D1, Q_M0, Q_M1, Q_X16_, Q_X17_⟩ hb_ hon hoff
                        refine ⟨_, rfl, fun K hK => ?_⟩
                        have e60 : a.tmps[60]? = some (.agg #[.int .i64 (x : Int), .int .i64 (y : Int)]) := by rw [ha]; exact (qFA rfl).trans rfl
                        replace ha := Aside0.mk ha
                        have B := Aside0.mk Q_B
                        have LR := Aside0.mk Q_LR
                        have C0 := Aside0.mk (Q_C0 (hoff 7 (by kernel_rfl)))
                        have D0 := Aside0.mk (Q_D0 (hoff 15 (by kernel_rfl)))
                        have M0 := Aside0.mk (Q_M0 (hoff 18 (by kernel_rfl)))
                        refine Kd.qzB k61 (w0 := w) w.heap.size 61 (by rfl) (N := 61) rfl (xs := ([(⟨(x : Int), (y : Int)⟩ : CC)] : List _)) (inner := [.int .i64 (x : Int), .int .i64 (y : Int)]) (ok := fun k_ => some k_ ≠ (vc : Value).ownBlock) (okp := fun _ => False) ?hr61 ?hp61 (fun _ hk => hk.elim) (Kd.fresh' (Kd.R_lt C0.out) _ (Nat.le_refl _)) B.out B.out.size (by simp) ?_
                        case hr61 => first | (go_simp; done) | (go_simp; rfl)
                        case hp61 => exact Reps.c2 (show Kd.M k61 _ _ _ (⟨(x : Int), (y : Int)⟩ : CC) [.int .i64 (x : Int), .int .i64 (y : Int)] from k61_mkM _ _ _ _) (Reps.none _ _)
                        intro v_ w1_ hR_ hB_ hg_ _
                        refine hK.out _ _ ⟨v_, s62, s69, s70, m16_, m17_, (by rw [ha.out]; exact qCA 0 hb_ rfl rfl rfl), hB_, qBC LR.out hg_, fun _ => qBC C0.out hg_, fun _ _ => hR_, fun h0_ => absurd ((hoff 7 (by kernel_rfl)).symm.trans h0_) (by decide), fun _ => qBC D0.out hg_, fun h0_ h1_ => qBC (Q_LD h0_ h1_) hg_, fun h0_ => absurd ((hoff 15 (by kernel_rfl)).symm.trans h0_) (by decide), fun _ => M0.out.qXB (hg_.block g M0.out.lt (by simp)), fun h0_ => absurd ((hoff 18 (by kernel_rfl)).symm.trans h0_) (by decide), fun h0_ => absurd ((hoff 16 (by kernel_rfl)).symm.trans h0_) (by decide), fun h0_ => absurd ((hoff 17 (by kernel_rfl)).symm.trans h0_) (by decide)⟩
                      refine qm ?_ ?_
                      · rintro b a w' ⟨s61, s62, s69, s70, m16_, m17_, ha, Q_B, Q_LR, Q_C0, Q_LC, Q_C1, Q_D0, Q_LD, Q_D1, Q_M0, Q_M1, Q_X16_, Q_X17_⟩ hb_ hon hoff
                        refine ⟨_, rfl, fun K hK => ?_⟩
                        have e57 : a.tmps[57]? = some (vc) := by rw [ha]; exact (qFA rfl).trans rfl
                        have e61 : a.tmps[61]? = some (s61) := by rw [ha]; exact qHA (e := (6, 61, s61)) 0 rfl rfl (hon 6 (by kernel_rfl)) rfl
                        replace ha := Aside0.mk ha
                        have B := Aside0.mk Q_B
                        have LR := Aside0.mk Q_LR
                        have C0 := Aside0.mk (Q_C0 hb_)
                        have LC := Aside0.mk (Q_LC (hon 6 (by kernel_rfl)) hb_)
                        have D0 := Aside0.mk (Q_D0 (hoff 15 (by kernel_rfl)))
                        have M0 := Aside0.mk (Q_M0 (hoff 18 (by kernel_rfl)))
                        obtain ⟨A_, c_, hs_⟩ := Kd.qr LC.out
                        have LX_ := LC.out
                        rw [hs_] at LX_
                        have HRd_ := (Kd.qS LX_).2.2
                        have hbd_ := HOK.out
                        refine Kd.R_append_rows_step k61 (w0 := w) w.heap.size (by rfl) (.tmp 57) (.tmp 61) 50 61 (.agg #[(.int .i64 0), (.int .i64 0)]) 16 rfl Tryd.underlying50 info61 rfl (by decide) (by omega) vc s.cs [(⟨(x : Int), (y : Int)⟩ : CC)] A_ _ c_ (fun _ => True) (fun _ => False) (qKC e57) ((qKC e61).trans hs_) C0.out HRd_ (fun x_ cs_ hk_ => by obtain rfl := k61_open hk_; exact k61_mkM _ _ _ x_) (fun _ hk => hk.elim) (fun _ _ => trivial) B.out B.out.size (by simp only [List.length_cons, List.length_nil]; omega) ?_
                        intro v_ w1_ hR_ hB_ hg_ _
                        refine hK.out _ _ ⟨s61, v_, s69, s70, m16_, m17_, (by rw [ha.out]; exact qCA 1 hb_ rfl rfl rfl), hB_, Kd.qqA LR.out (Kd.qOA C0.out) (by decide) hg_, fun h0_ => absurd ((qfB b 7).symm.trans h0_) (by decide), fun _ h1_ => absurd ((qfB b 7).symm.trans h1_) (by decide), fun _ => hR_, fun _ => Kd.qqA D0.out (Kd.qOA C0.out) (by decide) hg_, fun h0_ h1_ => Kd.qqA (Q_LD h0_ h1_) (Kd.qOA C0.out) (by decide) hg_, fun h0_ => absurd ((hoff 15 (by kernel_rfl)).symm.trans h0_) (by decide), fun _ => M0.out.qXB (hg_.block g M0.out.lt (M0.out.ne C0.out)), fun h0_ => absurd ((hoff 18 (by kernel_rfl)).symm.trans h0_) (by decide), fun h0_ => absurd ((hoff 16 (by kernel_rfl)).symm.trans h0_) (by decide), fun h0_ => absurd ((hoff 17 (by kernel_rfl)).symm.trans h0_) (by decide)⟩
                      refine qm ?_ ?_
                      · rintro b a w' ⟨s61, s62, s69, s70, m16_, m17_, ha, Q_B, Q_LR, Q_C0, Q_LC, Q_C1, Q_D0, Q_LD, Q_D1, Q_M0, Q_M1, Q_X16_, Q_X17_⟩ hb_ hon hoff
                        refine ⟨_, rfl, fun K hK => ?_⟩
                        have e68 : a.tmps[68]? = some (.int .i64 (n - 48)) := by rw [ha]; exact (qFA rfl).trans rfl
                        replace ha := Aside0.mk ha
                        have B := Aside0.mk Q_B
                        have LR := Aside0.mk Q_LR
                        have D0 := Aside0.mk (Q_D0 (hoff 15 (by kernel_rfl)))
                        have M0 := Aside0.mk (Q_M0 (hoff 18 (by kernel_rfl)))
                        refine Kd.qzB (Kd.int .i64) (w0 := w) w.heap.size 3 (by rfl) (N := 69) rfl (xs := ([(n - 48)] : List _)) (inner := [.int .i64 (n - 48)]) (ok := fun k_ => some k_ ≠ (vd : Value).ownBlock) (okp := fun _ => False) ?hr69 ?hp69 (fun _ hk => hk.elim) (Kd.fresh' (Kd.R_lt D0.out) _ (Nat.le_refl _)) B.out B.out.size (by simp) ?_
                        case hr69 => first | (go_simp; done) | (go_simp; rfl)
                        case hp69 => exact Reps.one (show Kd.M (Kd.int .i64) _ _ _ (n - 48) [.int .i64 (n - 48)] from rfl) (Reps.none _ _)
                        intro v_ w1_ hR_ hB_ hg_ _
                        refine hK.out _ _ ⟨s61, s62, v_, s70, m16_, m17_, (by rw [ha.out]; exact qCA 2 hb_ rfl rfl rfl), hB_, qBC LR.out hg_, fun h0_ => qBC (Q_C0 h0_) hg_, fun h0_ h1_ => qBC (Q_LC h0_ h1_) hg_, fun h0_ => qBC (Q_C1 h0_) hg_, fun _ => qBC D0.out hg_, fun _ _ => hR_, fun h0_ => absurd ((hoff 15 (by kernel_rfl)).symm.trans h0_) (by decide), fun _ => M0.out.qXB (hg_.block g M0.out.lt (by simp)), fun h0_ => absurd ((hoff 18 (by kernel_rfl)).symm.trans h0_) (by decide), fun h0_ => absurd ((hoff 16 (by kernel_rfl)).symm.trans h0_) (by decide), fun h0_ => absurd ((hoff 17 (by kernel_rfl)).symm.trans h0_) (by decide)⟩
                      refine qm ?_ ?_
                      · rintro b a w' ⟨s61, s62, s69, s70, m16_, m17_, ha, Q_B, Q_LR, Q_C0, Q_LC, Q_C1, Q_D0, Q_LD, Q_D1, Q_M0, Q_M1, Q_X16_, Q_X17_⟩ hb_ hon hoff
                        refine ⟨_, rfl, fun K hK => ?_⟩
                        have e63 : a.tmps[63]? = some (vd) := by rw [ha]; exact (qFA rfl).trans rfl
                        have e69 : a.tmps[69]? = some (s69) := by rw [ha]; exact qHA (e := (14, 69, s69)) 2 rfl rfl (hon 14 (by kernel_rfl)) rfl
                        replace ha := Aside0.mk ha
                        have B := Aside0.mk Q_B
                        have LR := Aside0.mk Q_LR
                        have C1 := Aside0.mk (Q_C1 (hon 7 (by kernel_rfl)))
                        have D0 := Aside0.mk (Q_D0 hb_)
                        have LD := Aside0.mk (Q_LD (hon 14 (by kernel_rfl)) hb_)
                        have M0 := Aside0.mk (Q_M0 (hoff 18 (by kernel_rfl)))
                        obtain ⟨A_, c_, hs_⟩ := Kd.qr LD.out
                        have LX_ := LD.out
                        rw [hs_] at LX_
                        have HRd_ := (Kd.qS LX_).2.2
                        have hbd_ := HOK2.out
                        refine Kd.R_append_rows_step (Kd.int .i64) (w0 := w) w.heap.size (by rfl) (.tmp 63) (.tmp 69) 25 3 (.int .i64 0) 8 rfl Tryd.underlying25 info3 rfl (by decide) (by omega) vd s.ds [(n - 48)] A_ _ c_ (fun _ => True) (fun _ => False) (qKC e63) ((qKC e69).trans hs_) D0.out HRd_ (fun _ _ hk_ => hk_) (fun _ hk => hk.elim) (fun _ _ => trivial) B.out B.out.size (by simp only [List.length_cons, List.length_nil]; omega) ?_
                        intro v_ w1_ hR_ hB_ hg_ _
                        refine hK.out _ _ ⟨s61, s62, s69, v_, m16_, m17_, (by rw [ha.out]; exact qCA 3 hb_ rfl rfl rfl), hB_, Kd.qqA LR.out (Kd.qOA D0.out) (by decide) hg_, fun h0_ => absurd ((hon 7 (by kernel_rfl)).symm.trans h0_) (by decide), fun _ h1_ => absurd ((hon 7 (by kernel_rfl)).symm.trans h1_) (by decide), fun _ => Kd.qqA C1.out (Kd.qOA D0.out) (by decide) hg_, fun h0_ => absurd ((qfB b 15).symm.trans h0_) (by decide), fun _ h1_ => absurd ((qfB b 15).symm.trans h1_) (by decide), fun _ => hR_, fun _ => M0.out.qXB (hg_.block g M0.out.lt (M0.out.ne D0.out)), fun h0_ => absurd ((hoff 18 (by kernel_rfl)).symm.trans h0_) (by decide), fun h0_ => absurd ((hoff 16 (by kernel_rfl)).symm.trans h0_) (by decide), fun h0_ => absurd ((hoff 17 (by kernel_rfl)).symm.trans h0_) (by decide)⟩
                      refine qm ?_ ?_
                      · rintro b a w' ⟨s61, s62, s69, s70, m16_, m17_, ha, Q_B, Q_LR, Q_C0, Q_LC, Q_C1, Q_D0, Q_LD, Q_D1, Q_M0, Q_M1, Q_X16_, Q_X17_⟩ hb_ hon hoff
                        refine ⟨_, rfl, fun K hK => ?_⟩
                        have e62 : a.tmps[62]? = some (s62) := by rw [ha]; exact qHA (e := (7, 62, s62)) 1 rfl rfl (hon 7 (by kernel_rfl)) rfl
                        replace ha := Aside0.mk ha
                        have B := Aside0.mk Q_B
                        have LR := Aside0.mk Q_LR
                        have C1 := Aside0.mk (Q_C1 (hon 7 (by kernel_rfl)))
                        have D1 := Aside0.mk (Q_D1 (hon 15 (by kernel_rfl)))
                        have M0 := Aside0.mk (Q_M0 (hoff 18 (by kernel_rfl)))
                        refine qzA (w1 := w') (v := s62) (by rfl) rfl ?_ ?_
                        · go_simp
                          (try simp only [i64_w])
                          try rfl
                        refine hK.out _ _ ⟨s61, s62, s69, s70, (s62), m17_, (by rw [ha.out]; exact qCA 4 hb_ rfl rfl rfl), Q_B, Q_LR, fun h0_ => absurd ((hon 7 (by kernel_rfl)).symm.trans h0_) (by decide), fun _ h1_ => absurd ((hon 7 (by kernel_rfl)).symm.trans h1_) (by decide), Q_C1, fun h0_ => absurd ((hon 15 (by kernel_rfl)).symm.trans h0_) (by decide), fun _ h1_ => absurd ((hon 15 (by kernel_rfl)).symm.trans h1_) (by decide), Q_D1, Q_M0, fun h0_ => absurd ((hoff 18 (by kernel_rfl)).symm.trans h0_) (by decide), fun _ => rfl, fun h0_ => absurd ((hoff 17 (by kernel_rfl)).symm.trans h0_) (by decide)⟩
                      refine qm ?_ ?_
                      · rintro b a w' ⟨s61, s62, s69, s70, m16_, m17_, ha, Q_B, Q_LR, Q_C0, Q_LC, Q_C1, Q_D0, Q_LD, Q_D1, Q_M0, Q_M1, Q_X16_, Q_X17_⟩ hb_ hon hoff
                        refine ⟨_, rfl, fun K hK => ?_⟩
                        have e70 : a.tmps[70]? = some (s70) := by rw [ha]; exact qHA (e := (15, 70, s70)) 3 rfl rfl (hon 15 (by kernel_rfl)) rfl
                        replace ha := Aside0.mk ha
                        have B := Aside0.mk Q_B
                        have LR := Aside0.mk Q_LR
                        have C1 := Aside0.mk (Q_C1 (hon 7 (by kernel_rfl)))
                        have D1 := Aside0.mk (Q_D1 (hon 15 (by kernel_rfl)))
                        have M0 := Aside0.mk (Q_M0 (hoff 18 (by kernel_rfl)))
                        refine qzA (w1 := w') (v := s70) (by rfl) rfl ?_ ?_
                        · go_simp
                          (try simp only [i64_w])
                          try rfl
                        refine hK.out _ _ ⟨s61, s62, s69, s70, m16_, (s70), (by rw [ha.out]; exact qCA 5 hb_ rfl rfl rfl), Q_B, Q_LR, fun h0_ => absurd ((hon 7 (by kernel_rfl)).symm.trans h0_) (by decide), fun _ h1_ => absurd ((hon 7 (by kernel_rfl)).symm.trans h1_) (by decide), Q_C1, fun h0_ => absurd ((hon 15 (by kernel_rfl)).symm.trans h0_) (by decide), fun _ h1_ => absurd ((hon 15 (by kernel_rfl)).symm.trans h1_) (by decide), Q_D1, Q_M0, fun h0_ => absurd ((hoff 18 (by kernel_rfl)).symm.trans h0_) (by decide), Q_X16_, fun _ => rfl⟩
                      refine qm ?_ ?_
                      · rintro b a w' ⟨s61, s62, s69, s70, m16_, m17_, ha, Q_B, Q_LR, Q_C0, Q_LC, Q_C1, Q_D0, Q_LD, Q_D1, Q_M0, Q_M1, Q_X16_, Q_X17_⟩ hb_ hon hoff
                        refine ⟨_, rfl, fun K hK => ?_⟩
                        have e55 : a.tmps[55]? = some (.map (some g)) := by rw [ha]; exact (qFA rfl).trans rfl
                        have e56 : a.tmps[56]? = some (.int .i64 (x : Int)) := by rw [ha]; exact (qFA rfl).trans rfl
                        replace ha := Aside0.mk ha
                        have B := Aside0.mk Q_B
                        have LR := Aside0.mk Q_LR
                        have C1 := Aside0.mk (Q_C1 (hon 7 (by kernel_rfl)))
                        have D1 := Aside0.mk (Q_D1 (hon 15 (by kernel_rfl)))
                        have M0 := Aside0.mk (Q_M0 hb_)
                        obtain ⟨w1_, hrun_, hM1_, hgr_⟩ := M0.out.qJD HML.out (x := (x : Int)) HXW.out (v := true) trivial
                        have hrun2_ : (Instr.mapUpdate 64 (.map (some g)) (.int .i64 (x : Int)) (.bool true)).run Tryd.prog w' = .ok () w1_ := hrun_
                        refine skip_ (w1 := w1_) (by rfl) rfl ?hr18 ?_
                        case hr18 =>
                          have a1_ := qKC e55
                          have a2_ := qKC e56
                          unfold execOp
                          simp [a1_, a2_, show a.eval (.const (.bool true)) = .bool true from rfl, hrun2_, Result.andThen]
                        refine hK.out _ _ ⟨s61, s62, s69, s70, m16_, m17_, (by rw [ha.out]; exact putSel_none (v := undef) rfl), B.out.grown hgr_ B.out.size (fun k_ e_ => by cases e_; exact HG.out), M0.out.row LR.out hgr_, fun h0_ => absurd ((hon 7 (by kernel_rfl)).symm.trans h0_) (by decide), fun _ h1_ => absurd ((hon 7 (by kernel_rfl)).symm.trans h1_) (by decide), fun _ => M0.out.row C1.out hgr_, fun h0_ => absurd ((hon 15 (by kernel_rfl)).symm.trans h0_) (by decide), fun _ h1_ => absurd ((hon 15 (by kernel_rfl)).symm.trans h1_) (by decide), fun _ => M0.out.row D1.out hgr_, fun h0_ => absurd ((qfB b 18).symm.trans h0_) (by decide), fun _ => hM1_, Q_X16_, Q_X17_⟩
                      exact qmB
                    · rintro b a w' hall ⟨s61, s62, s69, s70, m16_, m17_, ha, Q_B, Q_LR, Q_C0, Q_LC, Q_C1, Q_D0, Q_LD, Q_D1, Q_M0, Q_M1, Q_X16_, Q_X17_⟩
                      clear B C0 D0 LR M0
                      have hb6_ := hall 6 (by kernel_rfl)
                      have hb7_ := hall 7 (by kernel_rfl)
                      have hb14_ := hall 14 (by kernel_rfl)
                      have hb15_ := hall 15 (by kernel_rfl)
                      have hb16_ := hall 16 (by kernel_rfl)
                      have hb17_ := hall 17 (by kernel_rfl)
                      have hb18_ := hall 18 (by kernel_rfl)
                      subst ha
                      obtain rfl := Q_X16_ hb16_
                      obtain rfl := Q_X17_ hb17_
                      simp only [putSel, hb6_, hb7_, hb14_, hb15_, hb16_, hb17_, hb18_, if_true, Act.put, List.setIfInBounds_toArray, List.set_cons_zero, List.set_cons_succ]
                      have B := Aside0.mk Q_B
                      clear Q_B
                      have LR := Aside0.mk Q_LR
                      clear Q_LR
                      clear Q_C0
                      clear Q_LC
                      have C1 := Aside0.mk (Q_C1 hb7_)
                      clear Q_C1
                      clear Q_D0
                      clear Q_LD
                      have D1 := Aside0.mk (Q_D1 hb15_)
                      clear Q_D1
                      clear Q_M0
                      have M1 := Aside0.mk (Q_M1 hb18_)
                      clear Q_M1
                      clear hall hb6_ hb7_ hb14_ hb15_ hb16_ hb17_ hb18_
                      go_wp2
                      go_roundg (row.size - (x + 1))
                      case measure => omega
                      case rel => exact ⟨_, _, ⟨s.cs ++ [⟨(x : Int), (y : Int)⟩], s.ds ++ [((c.toNat : Int) - 48)], ((x : Int), true) :: s.ms⟩, x + 1, rfl, rfl, by push_cast; rfl, by omega, by omega, HT2, ⟨HK.out.add h6 _ _ _⟩, C1, by rw [HN.out]; exact D1, LR, M1, B⟩
            · have hxz : ¬ (x : Int) < (row.size : Int) := by omega
              have HT2 := Aside0.mk (show sixRows r0.size (y + 1) (L.drop (y + 1)) s = T by have := HT.out; rwa [List.drop_eq_nil_of_le (by omega), sixRow, Option.bind_some] at this)
              clear HT hdl
              go_wp2
              go_roundg (L.length - (y + 1))
              case measure => omega
              case rel => exact ⟨_, _, s, y + 1, rfl, rfl, by (first | (push_cast; rfl) | (have hz_ := HLN.out; show Value.int .i64 (wrap64 ((y : Int) + 1)) = _; rw [show wrap64 ((y : Int) + 1) = ((y + 1 : Nat) : Int) by unfold wrap64; omega])), by omega, by omega, HT2, HK, C0, D0, LR, M0, B⟩
      · have hzi : ¬ (row.size : Int) = (r0.size : Int) := by omega
        rw [if_neg hz] at hT
        have HTN := Aside0.mk hT
        clear hT
        have HFN := HF.out
        rw [← HTN.out] at HFN
        simp only [sixFin, Option.some.injEq, Prod.mk.injEq] at HFN
        obtain ⟨rfl, rfl, rfl⟩ := HFN
        go_wp2
        go_ret3
        exact ⟨_, _, rfl, Kd.R_nil k61 61 _ _ _, Kd.R_nil (Kd.int .i64) 3 _ _ _, B.out⟩
    · have hltz : ¬ (y : Int) < (L.length : Int) := by omega
      have hT := HT.out
      rw [List.drop_eq_nil_of_le (by omega), sixRows] at hT
      have HFN := HF.out
      rw [← hT, sixFin] at HFN
      clear hT HT
      have hLpos : 0 < L.length := HL0.out
      go_wp2
      obtain ⟨Ac, cc, eac⟩ := Kd.qr C0.out
      subst eac
      by_cases h6 : s.cs.length = 6
      · rw [if_pos h6] at HFN
        have h6i : (s.cs.length : Int) = 6 := by omega
        by_cases hq : MapKit.count s.ms = r0.size
        · rw [if_pos hq] at HFN
          have hqi : (MapKit.count s.ms : Int) = (r0.size : Int) := by omega
          obtain ⟨th, hth, hr⟩ := Option.bind_eq_some_iff.mp HFN
          have HH := Aside0.mk hth
          clear HFN hth
          refine qwA (n := 17) (S := fun w' => True) (ds := []) #[false, false, false, false, false, false, false, false, false, false, false, false, false, false, false, false, false] (by kernel_rfl) rfl rfl trivial (fun hHeld => ?_); refine qTA sixTab17 sixBits17 (fun HT_ HW_ => ?_)
          refine pure_ (i := 0) (N := some 73) (v := ?_) (a' := ?_) #[true, false, false, false, false, false, false, false, false, false, false, false, false, false, false, false, false] rfl rfl (qKA HT_.out (by kernel_rfl)) (fun _ _ _ h => h) (Or.inl ⟨by rfl, ?_⟩) ?_ ?_
          rotate_left
          · intro w'
            go_simp
            with_reducible rfl
          rotate_left
          · simp only [Act.put, List.setIfInBounds_toArray, List.set_cons_zero, List.set_cons_succ, i64_w, i32_w]
            rfl
          refine pure_ (i := 1) (N := some 74) (v := ?_) (a' := ?_) #[true, true, false, false, false, false, false, false, false, false, false, false, false, false, false, false, false] rfl rfl (qKA HT_.out (by kernel_rfl)) (fun _ _ _ h => h) (Or.inl ⟨by rfl, ?_⟩) ?_ ?_
          rotate_left
          · intro w'
            go_simp
            with_reducible rfl
          rotate_left
          · simp only [Act.put, List.setIfInBounds_toArray, List.set_cons_zero, List.set_cons_succ, i64_w, i32_w]
            rfl
          refine pure_ (i := 2) (N := some 75) (v := ?_) (a' := ?_) #[true, true, true, false, false, false, false, false, false, false, false, false, false, false, false, false, false] rfl rfl (qKA HT_.out (by kernel_rfl)) (fun _ _ _ h => h) (Or.inl ⟨by rfl, ?_⟩) ?_ ?_
          rotate_left
          · intro w'
            go_simp
            with_reducible rfl
          rotate_left
          · simp only [Act.put, List.setIfInBounds_toArray, List.set_cons_zero, List.set_cons_succ, i64_w, i32_w]
            rfl
          refine pure_ (i := 3) (N := some 76) (v := ?_) (a' := ?_) #[true, true, true, true, false, false, false, false, false, false, false, false, false, false, false, false, false] rfl rfl (qKA HT_.out (by kernel_rfl)) (fun _ _ _ h => h) (Or.inl ⟨by rfl, ?_⟩) ?_ ?_
          rotate_left
          · intro w'
            go_simp
            with_reducible rfl
          rotate_left
          · simp only [Act.put, List.setIfInBounds_toArray, List.set_cons_zero, List.set_cons_succ, i64_w, i32_w]
            rfl
          refine pure_ (i := 4) (N := some 77) (v := ?_) (a' := ?_) #[true, true, true, true, true, false, false, false, false, false, false, false, false, false, false, false, false] rfl rfl (qKA HT_.out (by kernel_rfl)) (fun _ _ _ h => h) (Or.inl ⟨by rfl, ?_⟩) ?_ ?_
          rotate_left
          · intro w'
            go_simp
            with_reducible rfl
          rotate_left
          · simp only [Act.put, List.setIfInBounds_toArray, List.set_cons_zero, List.set_cons_succ, i64_w, i32_w]
            rfl
          refine pure_ (i := 6) (N := some 79) (v := ?_) (a' := ?_) #[true, true, true, true, true, false, true, false, false, false, false, false, false, false, false, false, false] rfl rfl (qKA HT_.out (by kernel_rfl)) (fun _ _ _ h => h) (Or.inl ⟨by rfl, ?_⟩) ?_ ?_
          rotate_left
          · intro w'
            go_simp
            with_reducible rfl
          rotate_left
          · simp only [Act.put, List.setIfInBounds_toArray, List.set_cons_zero, List.set_cons_succ, i64_w, i32_w]
            rfl
          refine pure_ (i := 7) (N := some 80) (v := ?_) (a' := ?_) #[true, true, true, true, true, false, true, true, false, false, false, false, false, false, false, false, false] rfl rfl (qKA HT_.out (by kernel_rfl)) (fun _ _ _ h => h) (Or.inl ⟨by rfl, ?_⟩) ?_ ?_
          rotate_left
          · intro w'
            go_simp
            with_reducible rfl
          rotate_left
          · simp only [Act.put, List.setIfInBounds_toArray, List.set_cons_zero, List.set_cons_succ, i64_w, i32_w]
            rfl
          refine qND [5, 8, 9, 10, 11, 12, 13, 14, 15, 16] (fun a0_ b a w' => a = putSel a0_ b [(5, 78, .int .i64 (MapKit.count s.ms : Int)), (8, 81, .string r0), (9, 82, .int .i64 (r0.size : Int)), (10, 83, .bool false), (11, 84, .bool false), (12, 85, .bool false), (13, 86, .slice Ac s.cs.length cc), (14, 87, .bool th), (15, 88, .bool (!th)), (16, 89, .bool (!th))] ∧ (Below w.heap.size w w') ∧ (Kd.R Kd.string 9 w' w.heap.size (fun _ => True) (.slice (some ad) L.length cw) L) ∧ (Kd.R k61 61 w' w.heap.size (fun _ => True) (.slice Ac s.cs.length cc) s.cs) ∧ (Kd.R (Kd.int .i64) 3 w' w.heap.size (fun _ => True) vd s.ds) ∧ (mapI.Is w' g s.ms)) HT_.out HW_.out (by kernel_rfl) (by kernel_rfl) ?_ ?_ ?_
          · exact ⟨by simp only [putSel, Bool.false_eq_true, if_false], qk B.out, Kd.qH LR.out, Kd.qH C0.out, Kd.qH D0.out, M0.out.drew⟩
          · skip
            clear B C0 D0 LR M0
            refine qm ?_ ?_
            · rintro b a w' ⟨ha, Q_B, Q_LR, Q_C0, Q_D0, Q_M0⟩ hb_ hon hoff
              refine ⟨_, rfl, fun K hK => ?_⟩
              have e77 : a.tmps[77]? = some (.map (some g)) := by rw [ha]; exact (qFA rfl).trans rfl
              have e76 : a.tmps[76]? = some (.bool false) := by rw [ha]; exact (qFA rfl).trans rfl
              replace ha := Aside0.mk ha
              have B := Aside0.mk Q_B
              have LR := Aside0.mk Q_LR
              have C0 := Aside0.mk Q_C0
              have D0 := Aside0.mk Q_D0
              have M0 := Aside0.mk Q_M0
              have hrl_ := fun ty_ => (show (Builtin.len_ #[64] ty_ #[.map (some g)]).run Tryd.prog w' = .ok (.int .i64 (MapKit.count s.ms)) w' from M0.out.run_len ty_)
              refine qzA (w1 := w') (v := .int .i64 (MapKit.count s.ms : Int)) (qAB rfl rfl rfl (e76.trans (by first | rfl | (simp [*]; done)))) rfl ?_ ?_
              · go_simp
                (try simp only [i64_w])
                try rfl
              refine hK.out _ _ ⟨(by rw [ha.out]; exact qCA 0 hb_ rfl rfl rfl), Q_B, Q_LR, Q_C0, Q_D0, Q_M0⟩
            refine qm ?_ ?_
            · rintro b a w' ⟨ha, Q_B, Q_LR, Q_C0, Q_D0, Q_M0⟩ hb_ hon hoff
              refine ⟨_, rfl, fun K hK => ?_⟩
              have e80 : a.tmps[80]? = some (.pointer (some ad)) := by rw [ha]; exact (qFA rfl).trans rfl
              have e76 : a.tmps[76]? = some (.bool false) := by rw [ha]; exact (qFA rfl).trans rfl
              replace ha := Aside0.mk ha
              have B := Aside0.mk Q_B
              have LR := Aside0.mk Q_LR
              have C0 := Aside0.mk Q_C0
              have D0 := Aside0.mk Q_D0
              have M0 := Aside0.mk Q_M0
              obtain ⟨ad_, e_, hcell_⟩ := Kd.qPB (Kd.qS LR.out).2.2 (0 : Int) (Int.le_refl 0) HLP.out
              obtain rfl : ad = ad_ := by injection e_
              rw [HR0.out] at hcell_
              have hcell2_ : w'.cell? ad = some (.string r0) := hcell_
              refine qzA (w1 := w') (v := .string r0) (qAB rfl rfl rfl (e76.trans (by first | rfl | (simp [*]; done)))) rfl ?_ ?_
              · go_simp
                (try simp only [i64_w])
                try rfl
              refine hK.out _ _ ⟨(by rw [ha.out]; exact qCA 1 hb_ rfl rfl rfl), Q_B, Q_LR, Q_C0, Q_D0, Q_M0⟩
            refine qm ?_ ?_
            · rintro b a w' ⟨ha, Q_B, Q_LR, Q_C0, Q_D0, Q_M0⟩ hb_ hon hoff
              refine ⟨_, rfl, fun K hK => ?_⟩
              have e81 : a.tmps[81]? = some (.string r0) := by rw [ha]; exact qHA (e := (8, 81, .string r0)) 1 rfl rfl (hon 8 (by kernel_rfl)) rfl
              have e76 : a.tmps[76]? = some (.bool false) := by rw [ha]; exact (qFA rfl).trans rfl
              replace ha := Aside0.mk ha
              have B := Aside0.mk Q_B
              have LR := Aside0.mk Q_LR
              have C0 := Aside0.mk Q_C0
              have D0 := Aside0.mk Q_D0
              have M0 := Aside0.mk Q_M0
              refine qzA (w1 := w') (v := .int .i64 (r0.size : Int)) (qAB rfl rfl rfl (e76.trans (by first | rfl | (simp [*]; done)))) rfl ?_ ?_
              · go_simp
                (try simp only [i64_w])
                try rfl
              refine hK.out _ _ ⟨(by rw [ha.out]; exact qCA 2 hb_ rfl rfl rfl), Q_B, Q_LR, Q_C0, Q_D0, Q_M0⟩
            refine qm ?_ ?_
            · rintro b a w' ⟨ha, Q_B, Q_LR, Q_C0, Q_D0, Q_M0⟩ hb_ hon hoff
              refine ⟨_, rfl, fun K hK => ?_⟩
              have e78 : a.tmps[78]? = some (.int .i64 (MapKit.count s.ms : Int)) := by rw [ha]; exact qHA (e := (5, 78, .int .i64 (MapKit.count s.ms : Int))) 0 rfl rfl (hon 5 (by kernel_rfl)) rfl
              have e82 : a.tmps[82]? = some (.int .i64 (r0.size : Int)) := by rw [ha]; exact qHA (e := (9, 82, .int .i64 (r0.size : Int))) 2 rfl rfl (hon 9 (by kernel_rfl)) rfl
              have e76 : a.tmps[76]? = some (.bool false) := by rw [ha]; exact (qFA rfl).trans rfl
              replace ha := Aside0.mk ha
              have B := Aside0.mk Q_B
              have LR := Aside0.mk Q_LR
              have C0 := Aside0.mk Q_C0
              have D0 := Aside0.mk Q_D0
              have M0 := Aside0.mk Q_M0
              refine qzA (w1 := w') (v := .bool false) (qAB rfl rfl rfl (e76.trans (by first | rfl | (simp [*]; done)))) rfl ?_ ?_
              · go_simp
                (try simp only [i64_w])
                try rfl
              refine hK.out _ _ ⟨(by rw [ha.out]; exact qCA 3 hb_ rfl rfl rfl), Q_B, Q_LR, Q_C0, Q_D0, Q_M0⟩
            refine qm ?_ ?_
            · rintro b a w' ⟨ha, Q_B, Q_LR, Q_C0, Q_D0, Q_M0⟩ hb_ hon hoff
              refine ⟨_, rfl, fun K hK => ?_⟩
              have e76 : a.tmps[76]? = some (.bool false) := by rw [ha]; exact (qFA rfl).trans rfl
              have e83 : a.tmps[83]? = some (.bool false) := by rw [ha]; exact qHA (e := (10, 83, .bool false)) 3 rfl rfl (hon 10 (by kernel_rfl)) rfl
              replace ha := Aside0.mk ha
              have B := Aside0.mk Q_B
              have LR := Aside0.mk Q_LR
              have C0 := Aside0.mk Q_C0
              have D0 := Aside0.mk Q_D0
              have M0 := Aside0.mk Q_M0
              refine qzA (w1 := w') (v := .bool false) (by rfl) rfl ?_ ?_
              · go_simp
                (try simp only [i64_w])
                try rfl
              refine hK.out _ _ ⟨(by rw [ha.out]; exact qCA 4 hb_ rfl rfl rfl), Q_B, Q_LR, Q_C0, Q_D0, Q_M0⟩
            refine qm ?_ ?_
            · rintro b a w' ⟨ha, Q_B, Q_LR, Q_C0, Q_D0, Q_M0⟩ hb_ hon hoff
              refine ⟨_, rfl, fun K hK => ?_⟩
              have e84 : a.tmps[84]? = some (.bool false) := by rw [ha]; exact qHA (e := (11, 84, .bool false)) 4 rfl rfl (hon 11 (by kernel_rfl)) rfl
              replace ha := Aside0.mk ha
              have B := Aside0.mk Q_B
              have LR := Aside0.mk Q_LR
              have C0 := Aside0.mk Q_C0
              have D0 := Aside0.mk Q_D0
              have M0 := Aside0.mk Q_M0
              refine qzA (w1 := w') (v := .bool false) (by rfl) rfl ?_ ?_
              · go_simp
                (try simp only [i64_w])
                try rfl
              refine hK.out _ _ ⟨(by rw [ha.out]; exact qCA 5 hb_ rfl rfl rfl), Q_B, Q_LR, Q_C0, Q_D0, Q_M0⟩
            refine qm ?_ ?_
            · rintro b a w' ⟨ha, Q_B, Q_LR, Q_C0, Q_D0, Q_M0⟩ hb_ hon hoff
              refine ⟨_, rfl, fun K hK => ?_⟩
              have e5 : a.tmps[5]? = some (.slice Ac s.cs.length cc) := by rw [ha]; exact (qFA rfl).trans rfl
              have e85 : a.tmps[85]? = some (.bool false) := by rw [ha]; exact qHA (e := (12, 85, .bool false)) 5 rfl rfl (hon 12 (by kernel_rfl)) rfl
              replace ha := Aside0.mk ha
              have B := Aside0.mk Q_B
              have LR := Aside0.mk Q_LR
              have C0 := Aside0.mk Q_C0
              have D0 := Aside0.mk Q_D0
              have M0 := Aside0.mk Q_M0
              refine qzA (w1 := w') (v := .slice Ac s.cs.length cc) (qAB rfl rfl rfl (e85.trans (by first | rfl | (simp [*]; done)))) rfl ?_ ?_
              · go_simp
                (try simp only [i64_w])
                try rfl
              refine hK.out _ _ ⟨(by rw [ha.out]; exact qCA 6 hb_ rfl rfl rfl), Q_B, Q_LR, Q_C0, Q_D0, Q_M0⟩
            refine qm ?_ ?_
            · rintro b a w' ⟨ha, Q_B, Q_LR, Q_C0, Q_D0, Q_M0⟩ hb_ hon hoff
              refine ⟨_, rfl, fun K hK => ?_⟩
              have e86 : a.tmps[86]? = some (.slice Ac s.cs.length cc) := by rw [ha]; exact qHA (e := (13, 86, .slice Ac s.cs.length cc)) 6 rfl rfl (hon 13 (by kernel_rfl)) rfl
              have e85 : a.tmps[85]? = some (.bool false) := by rw [ha]; exact qHA (e := (12, 85, .bool false)) 5 rfl rfl (hon 12 (by kernel_rfl)) rfl
              replace ha := Aside0.mk ha
              have B := Aside0.mk Q_B
              have LR := Aside0.mk Q_LR
              have C0 := Aside0.mk Q_C0
              have D0 := Aside0.mk Q_D0
              have M0 := Aside0.mk Q_M0
              refine goes_ Tryd.func49 (by kernel_rfl) rfl #[.slice Ac s.cs.length cc] (qAB rfl rfl rfl (e85.trans (by first | rfl | (simp [*]; done)))) rfl rfl (by simp only [List.map_toArray, List.map_cons, List.map_nil, qKC e86]) ?_
              refine (qbA.calls k Ac cc s.cs th w' (Kd.qS C0.out).2.2 (Kd.qS C0.out).2.1 HH.out).mono ?_
              rintro e_ w1_ ⟨rfl, hb_1⟩
              refine ⟨_, rfl, ?_⟩
              refine hK.out _ _ ⟨(by rw [ha.out]; exact qCA 7 hb_ rfl rfl rfl), qaA B.out B.out.size hb_1, Kd.qU LR.out hb_1, Kd.qU C0.out hb_1, Kd.qU D0.out hb_1, M0.out.below hb_1⟩
            refine qm ?_ ?_
            · rintro b a w' ⟨ha, Q_B, Q_LR, Q_C0, Q_D0, Q_M0⟩ hb_ hon hoff
              refine ⟨_, rfl, fun K hK => ?_⟩
              have e87 : a.tmps[87]? = some (.bool th) := by rw [ha]; exact qHA (e := (14, 87, .bool th)) 7 rfl rfl (hon 14 (by kernel_rfl)) rfl
              have e85 : a.tmps[85]? = some (.bool false) := by rw [ha]; exact qHA (e := (12, 85, .bool false)) 5 rfl rfl (hon 12 (by kernel_rfl)) rfl
              replace ha := Aside0.mk ha
              have B := Aside0.mk Q_B
              have LR := Aside0.mk Q_LR
              have C0 := Aside0.mk Q_C0
              have D0 := Aside0.mk Q_D0
              have M0 := Aside0.mk Q_M0
              refine qzA (w1 := w') (v := .bool (!th)) (qAB rfl rfl rfl (e85.trans (by first | rfl | (simp [*]; done)))) rfl ?_ ?_
              · go_simp
                (try simp only [i64_w])
                try rfl
              refine hK.out _ _ ⟨(by rw [ha.out]; exact qCA 8 hb_ rfl rfl rfl), Q_B, Q_LR, Q_C0, Q_D0, Q_M0⟩
            refine qm ?_ ?_
            · rintro b a w' ⟨ha, Q_B, Q_LR, Q_C0, Q_D0, Q_M0⟩ hb_ hon hoff
              refine ⟨_, rfl, fun K hK => ?_⟩
              have e85 : a.tmps[85]? = some (.bool false) := by rw [ha]; exact qHA (e := (12, 85, .bool false)) 5 rfl rfl (hon 12 (by kernel_rfl)) rfl
              have e88 : a.tmps[88]? = some (.bool (!th)) := by rw [ha]; exact qHA (e := (15, 88, .bool (!th))) 8 rfl rfl (hon 15 (by kernel_rfl)) rfl
              replace ha := Aside0.mk ha
              have B := Aside0.mk Q_B
              have LR := Aside0.mk Q_LR
              have C0 := Aside0.mk Q_C0
              have D0 := Aside0.mk Q_D0
              have M0 := Aside0.mk Q_M0
              refine qzA (w1 := w') (v := .bool (!th)) (by rfl) rfl ?_ ?_
              · go_simp
                (try simp only [i64_w])
                try rfl
              refine hK.out _ _ ⟨(by rw [ha.out]; exact qCA 9 hb_ rfl rfl rfl), Q_B, Q_LR, Q_C0, Q_D0, Q_M0⟩
            exact qmB
          · rintro b a w' hall ⟨ha, Q_B, Q_LR, Q_C0, Q_D0, Q_M0⟩
            clear B C0 D0 LR M0
            have hb5_ := hall 5 (by kernel_rfl)
            have hb8_ := hall 8 (by kernel_rfl)
            have hb9_ := hall 9 (by kernel_rfl)
            have hb10_ := hall 10 (by kernel_rfl)
            have hb11_ := hall 11 (by kernel_rfl)
            have hb12_ := hall 12 (by kernel_rfl)
            have hb13_ := hall 13 (by kernel_rfl)
            have hb14_ := hall 14 (by kernel_rfl)
            have hb15_ := hall 15 (by kernel_rfl)
            have hb16_ := hall 16 (by kernel_rfl)
            subst ha
            simp only [putSel, hb5_, hb8_, hb9_, hb10_, hb11_, hb12_, hb13_, hb14_, hb15_, hb16_, if_true, Act.put, List.setIfInBounds_toArray, List.set_cons_zero, List.set_cons_succ]
            have B := Aside0.mk Q_B
            clear Q_B
            have LR := Aside0.mk Q_LR
            clear Q_LR
            have C0 := Aside0.mk Q_C0
            clear Q_C0
            have D0 := Aside0.mk Q_D0
            clear Q_D0
            have M0 := Aside0.mk Q_M0
            clear Q_M0
            clear hall hb5_ hb8_ hb9_ hb10_ hb11_ hb12_ hb13_ hb14_ hb15_ hb16_
            cases th with
            | true =>
              simp only [if_true, Option.some.injEq, Prod.mk.injEq] at hr
              obtain ⟨rfl, rfl, rfl⟩ := hr
              go_wp2
              go_ret3
              exact ⟨_, _, rfl, C0.out, D0.out, B.out⟩
            | false =>
              simp only [Bool.false_eq_true, if_false, Option.some.injEq, Prod.mk.injEq] at hr
              obtain ⟨rfl, rfl, rfl⟩ := hr
              go_wp2
              go_ret3
              exact ⟨_, _, rfl, Kd.R_nil k61 61 _ _ _, Kd.R_nil (Kd.int .i64) 3 _ _ _, B.out⟩
        · rw [if_neg hq] at HFN
          have hqi : ¬ (MapKit.count s.ms : Int) = (r0.size : Int) := by omega
          simp only [Option.some.injEq, Prod.mk.injEq] at HFN
          obtain ⟨rfl, rfl, rfl⟩ := HFN
          refine qwA (n := 17) (S := fun w' => True) (ds := []) #[false, false, false, false, false, false, false, false, false, false, false, false, false, false, false, false, false] (by kernel_rfl) rfl rfl trivial (fun hHeld => ?_); refine qTA sixTab17 sixBits17 (fun HT_ HW_ => ?_)
          refine pure_ (i := 0) (N := some 73) (v := ?_) (a' := ?_) #[true, false, false, false, false, false, false, false, false, false, false, false, false, false, false, false, false] rfl rfl (qKA HT_.out (by kernel_rfl)) (fun _ _ _ h => h) (Or.inl ⟨by rfl, ?_⟩) ?_ ?_
          rotate_left
          · intro w'
            go_simp
            with_reducible rfl
          rotate_left
          · simp only [Act.put, List.setIfInBounds_toArray, List.set_cons_zero, List.set_cons_succ, i64_w, i32_w]
            rfl
          refine pure_ (i := 1) (N := some 74) (v := ?_) (a' := ?_) #[true, true, false, false, false, false, false, false, false, false, false, false, false, false, false, false, false] rfl rfl (qKA HT_.out (by kernel_rfl)) (fun _ _ _ h => h) (Or.inl ⟨by rfl, ?_⟩) ?_ ?_
          rotate_left
          · intro w'
            go_simp
            with_reducible rfl
          rotate_left
          · simp only [Act.put, List.setIfInBounds_toArray, List.set_cons_zero, List.set_cons_succ, i64_w, i32_w]
            rfl
          refine pure_ (i := 2) (N := some 75) (v := ?_) (a' := ?_) #[true, true, true, false, false, false, false, false, false, false, false, false, false, false, false, false, false] rfl rfl (qKA HT_.out (by kernel_rfl)) (fun _ _ _ h => h) (Or.inl ⟨by rfl, ?_⟩) ?_ ?_
          rotate_left
          · intro w'
            go_simp
            with_reducible rfl
          rotate_left
          · simp only [Act.put, List.setIfInBounds_toArray, List.set_cons_zero, List.set_cons_succ, i64_w, i32_w]
            rfl
          refine pure_ (i := 3) (N := some 76) (v := ?_) (a' := ?_) #[true, true, true, true, false, false, false, false, false, false, false, false, false, false, false, false, false] rfl rfl (qKA HT_.out (by kernel_rfl)) (fun _ _ _ h => h) (Or.inl ⟨by rfl, ?_⟩) ?_ ?_
          rotate_left
          · intro w'
            go_simp
            with_reducible rfl
          rotate_left
          · simp only [Act.put, List.setIfInBounds_toArray, List.set_cons_zero, List.set_cons_succ, i64_w, i32_w]
            rfl
          refine pure_ (i := 4) (N := some 77) (v := ?_) (a' := ?_) #[true, true, true, true, true, false, false, false, false, false, false, false, false, false, false, false, false] rfl rfl (qKA HT_.out (by kernel_rfl)) (fun _ _ _ h => h) (Or.inl ⟨by rfl, ?_⟩) ?_ ?_
          rotate_left
          · intro w'
            go_simp
            with_reducible rfl
          rotate_left
          · simp only [Act.put, List.setIfInBounds_toArray, List.set_cons_zero, List.set_cons_succ, i64_w, i32_w]
            rfl
          refine pure_ (i := 6) (N := some 79) (v := ?_) (a' := ?_) #[true, true, true, true, true, false, true, false, false, false, false, false, false, false, false, false, false] rfl rfl (qKA HT_.out (by kernel_rfl)) (fun _ _ _ h => h) (Or.inl ⟨by rfl, ?_⟩) ?_ ?_
          rotate_left
          · intro w'
            go_simp
            with_reducible rfl
          rotate_left
          · simp only [Act.put, List.setIfInBounds_toArray, List.set_cons_zero, List.set_cons_succ, i64_w, i32_w]
            rfl
          refine pure_ (i := 7) (N := some 80) (v := ?_) (a' := ?_) #[true, true, true, true, true, false, true, true, false, false, false, false, false, false, false, false, false] rfl rfl (qKA HT_.out (by kernel_rfl)) (fun _ _ _ h => h) (Or.inl ⟨by rfl, ?_⟩) ?_ ?_
          rotate_left
          · intro w'
            go_simp
            with_reducible rfl
          rotate_left
          · simp only [Act.put, List.setIfInBounds_toArray, List.set_cons_zero, List.set_cons_succ, i64_w, i32_w]
            rfl
          refine qND [5, 8, 9, 10, 11, 12, 13, 14, 15, 16] (fun a0_ b a w' => a = putSel a0_ b [(5, 78, .int .i64 (MapKit.count s.ms : Int)), (8, 81, .string r0), (9, 82, .int .i64 (r0.size : Int)), (10, 83, .bool true), (11, 84, .bool true), (12, 85, .bool true), (13, 86, undef), (14, 87, undef), (15, 88, undef), (16, 89, .bool true)] ∧ (Below w.heap.size w w') ∧ (Kd.R Kd.string 9 w' w.heap.size (fun _ => True) (.slice (some ad) L.length cw) L) ∧ (Kd.R k61 61 w' w.heap.size (fun _ => True) (.slice Ac s.cs.length cc) s.cs) ∧ (Kd.R (Kd.int .i64) 3 w' w.heap.size (fun _ => True) vd s.ds) ∧ (mapI.Is w' g s.ms)) HT_.out HW_.out (by kernel_rfl) (by kernel_rfl) ?_ ?_ ?_
          · exact ⟨by simp only [putSel, Bool.false_eq_true, if_false], qk B.out, Kd.qH LR.out, Kd.qH C0.out, Kd.qH D0.out, M0.out.drew⟩
          · skip
            clear B C0 D0 LR M0
            refine qm ?_ ?_
            · rintro b a w' ⟨ha, Q_B, Q_LR, Q_C0, Q_D0, Q_M0⟩ hb_ hon hoff
              refine ⟨_, rfl, fun K hK => ?_⟩
              have e77 : a.tmps[77]? = some (.map (some g)) := by rw [ha]; exact (qFA rfl).trans rfl
              have e76 : a.tmps[76]? = some (.bool false) := by rw [ha]; exact (qFA rfl).trans rfl
              replace ha := Aside0.mk ha
              have B := Aside0.mk Q_B
              have LR := Aside0.mk Q_LR
              have C0 := Aside0.mk Q_C0
              have D0 := Aside0.mk Q_D0
              have M0 := Aside0.mk Q_M0
              have hrl_ := fun ty_ => (show (Builtin.len_ #[64] ty_ #[.map (some g)]).run Tryd.prog w' = .ok (.int .i64 (MapKit.count s.ms)) w' from M0.out.run_len ty_)
              refine qzA (w1 := w') (v := .int .i64 (MapKit.count s.ms : Int)) (qAB rfl rfl rfl (e76.trans (by first | rfl | (simp [*]; done)))) rfl ?_ ?_
              · go_simp
                (try simp only [i64_w])
                try rfl
              refine hK.out _ _ ⟨(by rw [ha.out]; exact qCA 0 hb_ rfl rfl rfl), Q_B, Q_LR, Q_C0, Q_D0, Q_M0⟩
            refine qm ?_ ?_
            · rintro b a w' ⟨ha, Q_B, Q_LR, Q_C0, Q_D0, Q_M0⟩ hb_ hon hoff
              refine ⟨_, rfl, fun K hK => ?_⟩
              have e80 : a.tmps[80]? = some (.pointer (some ad)) := by rw [ha]; exact (qFA rfl).trans rfl
              have e76 : a.tmps[76]? = some (.bool false) := by rw [ha]; exact (qFA rfl).trans rfl
              replace ha := Aside0.mk ha
              have B := Aside0.mk Q_B
              have LR := Aside0.mk Q_LR
              have C0 := Aside0.mk Q_C0
              have D0 := Aside0.mk Q_D0
              have M0 := Aside0.mk Q_M0
              obtain ⟨ad_, e_, hcell_⟩ := Kd.qPB (Kd.qS LR.out).2.2 (0 : Int) (Int.le_refl 0) HLP.out
              obtain rfl : ad = ad_ := by injection e_
              rw [HR0.out] at hcell_
              have hcell2_ : w'.cell? ad = some (.string r0) := hcell_
              refine qzA (w1 := w') (v := .string r0) (qAB rfl rfl rfl (e76.trans (by first | rfl | (simp [*]; done)))) rfl ?_ ?_
              · go_simp
                (try simp only [i64_w])
                try rfl
              refine hK.out _ _ ⟨(by rw [ha.out]; exact qCA 1 hb_ rfl rfl rfl), Q_B, Q_LR, Q_C0, Q_D0, Q_M0⟩
            refine qm ?_ ?_
            · rintro b a w' ⟨ha, Q_B, Q_LR, Q_C0, Q_D0, Q_M0⟩ hb_ hon hoff
              refine ⟨_, rfl, fun K hK => ?_⟩
              have e81 : a.tmps[81]? = some (.string r0) := by rw [ha]; exact qHA (e := (8, 81, .string r0)) 1 rfl rfl (hon 8 (by kernel_rfl)) rfl
              have e76 : a.tmps[76]? = some (.bool false) := by rw [ha]; exact (qFA rfl).trans rfl
              replace ha := Aside0.mk ha
              have B := Aside0.mk Q_B
              have LR := Aside0.mk Q_LR
              have C0 := Aside0.mk Q_C0
              have D0 := Aside0.mk Q_D0
              have M0 := Aside0.mk Q_M0
              refine qzA (w1 := w') (v := .int .i64 (r0.size : Int)) (qAB rfl rfl rfl (e76.trans (by first | rfl | (simp [*]; done)))) rfl ?_ ?_
              · go_simp
                (try simp only [i64_w])
                try rfl
              refine hK.out _ _ ⟨(by rw [ha.out]; exact qCA 2 hb_ rfl rfl rfl), Q_B, Q_LR, Q_C0, Q_D0, Q_M0⟩
            refine qm ?_ ?_
            · rintro b a w' ⟨ha, Q_B, Q_LR, Q_C0, Q_D0, Q_M0⟩ hb_ hon hoff
              refine ⟨_, rfl, fun K hK => ?_⟩
              have e78 : a.tmps[78]? = some (.int .i64 (MapKit.count s.ms : Int)) := by rw [ha]; exact qHA (e := (5, 78, .int .i64 (MapKit.count s.ms : Int))) 0 rfl rfl (hon 5 (by kernel_rfl)) rfl
              have e82 : a.tmps[82]? = some (.int .i64 (r0.size : Int)) := by rw [ha]; exact qHA (e := (9, 82, .int .i64 (r0.size : Int))) 2 rfl rfl (hon 9 (by kernel_rfl)) rfl
              have e76 : a.tmps[76]? = some (.bool false) := by rw [ha]; exact (qFA rfl).trans rfl
              replace ha := Aside0.mk ha
              have B := Aside0.mk Q_B
              have LR := Aside0.mk Q_LR
              have C0 := Aside0.mk Q_C0
              have D0 := Aside0.mk Q_D0
              have M0 := Aside0.mk Q_M0
              refine qzA (w1 := w') (v := .bool true) (qAB rfl rfl rfl (e76.trans (by first | rfl | (simp [*]; done)))) rfl ?_ ?_
              · go_simp
                (try simp only [i64_w])
                try rfl
              refine hK.out _ _ ⟨(by rw [ha.out]; exact qCA 3 hb_ rfl rfl rfl), Q_B, Q_LR, Q_C0, Q_D0, Q_M0⟩
            refine qm ?_ ?_
            · rintro b a w' ⟨ha, Q_B, Q_LR, Q_C0, Q_D0, Q_M0⟩ hb_ hon hoff
              refine ⟨_, rfl, fun K hK => ?_⟩
              have e76 : a.tmps[76]? = some (.bool false) := by rw [ha]; exact (qFA rfl).trans rfl
              have e83 : a.tmps[83]? = some (.bool true) := by rw [ha]; exact qHA (e := (10, 83, .bool true)) 3 rfl rfl (hon 10 (by kernel_rfl)) rfl
              replace ha := Aside0.mk ha
              have B := Aside0.mk Q_B
              have LR := Aside0.mk Q_LR
              have C0 := Aside0.mk Q_C0
              have D0 := Aside0.mk Q_D0
              have M0 := Aside0.mk Q_M0
              refine qzA (w1 := w') (v := .bool true) (by rfl) rfl ?_ ?_
              · go_simp
                (try simp only [i64_w])
                try rfl
              refine hK.out _ _ ⟨(by rw [ha.out]; exact qCA 4 hb_ rfl rfl rfl), Q_B, Q_LR, Q_C0, Q_D0, Q_M0⟩
            refine qm ?_ ?_
            · rintro b a w' ⟨ha, Q_B, Q_LR, Q_C0, Q_D0, Q_M0⟩ hb_ hon hoff
              refine ⟨_, rfl, fun K hK => ?_⟩
              have e84 : a.tmps[84]? = some (.bool true) := by rw [ha]; exact qHA (e := (11, 84, .bool true)) 4 rfl rfl (hon 11 (by kernel_rfl)) rfl
              replace ha := Aside0.mk ha
              have B := Aside0.mk Q_B
              have LR := Aside0.mk Q_LR
              have C0 := Aside0.mk Q_C0
              have D0 := Aside0.mk Q_D0
              have M0 := Aside0.mk Q_M0
              refine qzA (w1 := w') (v := .bool true) (by rfl) rfl ?_ ?_
              · go_simp
                (try simp only [i64_w])
                try rfl
              refine hK.out _ _ ⟨(by rw [ha.out]; exact qCA 5 hb_ rfl rfl rfl), Q_B, Q_LR, Q_C0, Q_D0, Q_M0⟩
            refine qm ?_ ?_
            · rintro b a w' ⟨ha, Q_B, Q_LR, Q_C0, Q_D0, Q_M0⟩ hb_ hon hoff
              refine ⟨_, rfl, fun K hK => ?_⟩
              have e85 : a.tmps[85]? = some (.bool true) := by rw [ha]; exact qHA (e := (12, 85, .bool true)) 5 rfl rfl (hon 12 (by kernel_rfl)) rfl
              replace ha := Aside0.mk ha
              have B := Aside0.mk Q_B
              have LR := Aside0.mk Q_LR
              have C0 := Aside0.mk Q_C0
              have D0 := Aside0.mk Q_D0
              have M0 := Aside0.mk Q_M0
              refine off_ (qZC rfl rfl rfl (e85.trans (by first | rfl | (simp [*]; done)))) ?_
              refine hK.out _ _ ⟨(by rw [ha.out]; exact qCA 6 hb_ rfl rfl rfl), Q_B, Q_LR, Q_C0, Q_D0, Q_M0⟩
            refine qm ?_ ?_
            · rintro b a w' ⟨ha, Q_B, Q_LR, Q_C0, Q_D0, Q_M0⟩ hb_ hon hoff
              refine ⟨_, rfl, fun K hK => ?_⟩
              have e85 : a.tmps[85]? = some (.bool true) := by rw [ha]; exact qHA (e := (12, 85, .bool true)) 5 rfl rfl (hon 12 (by kernel_rfl)) rfl
              replace ha := Aside0.mk ha
              have B := Aside0.mk Q_B
              have LR := Aside0.mk Q_LR
              have C0 := Aside0.mk Q_C0
              have D0 := Aside0.mk Q_D0
              have M0 := Aside0.mk Q_M0
              refine off_ (qZC rfl rfl rfl (e85.trans (by first | rfl | (simp [*]; done)))) ?_
              refine hK.out _ _ ⟨(by rw [ha.out]; exact qCA 7 hb_ rfl rfl rfl), Q_B, Q_LR, Q_C0, Q_D0, Q_M0⟩
            refine qm ?_ ?_
            · rintro b a w' ⟨ha, Q_B, Q_LR, Q_C0, Q_D0, Q_M0⟩ hb_ hon hoff
              refine ⟨_, rfl, fun K hK => ?_⟩
              have e85 : a.tmps[85]? = some (.bool true) := by rw [ha]; exact qHA (e := (12, 85, .bool true)) 5 rfl rfl (hon 12 (by kernel_rfl)) rfl
              replace ha := Aside0.mk ha
              have B := Aside0.mk Q_B
              have LR := Aside0.mk Q_LR
              have C0 := Aside0.mk Q_C0
              have D0 := Aside0.mk Q_D0
              have M0 := Aside0.mk Q_M0
              refine off_ (qZC rfl rfl rfl (e85.trans (by first | rfl | (simp [*]; done)))) ?_
              refine hK.out _ _ ⟨(by rw [ha.out]; exact qCA 8 hb_ rfl rfl rfl), Q_B, Q_LR, Q_C0, Q_D0, Q_M0⟩
            refine qm ?_ ?_
            · rintro b a w' ⟨ha, Q_B, Q_LR, Q_C0, Q_D0, Q_M0⟩ hb_ hon hoff
              refine ⟨_, rfl, fun K hK => ?_⟩
              have e85 : a.tmps[85]? = some (.bool true) := by rw [ha]; exact qHA (e := (12, 85, .bool true)) 5 rfl rfl (hon 12 (by kernel_rfl)) rfl
              have e88 : a.tmps[88]? = some (undef) := by rw [ha]; exact qHA (e := (15, 88, undef)) 8 rfl rfl (hon 15 (by kernel_rfl)) rfl
              replace ha := Aside0.mk ha
              have B := Aside0.mk Q_B
              have LR := Aside0.mk Q_LR
              have C0 := Aside0.mk Q_C0
              have D0 := Aside0.mk Q_D0
              have M0 := Aside0.mk Q_M0
              refine qzA (w1 := w') (v := .bool true) (by rfl) rfl ?_ ?_
              · go_simp
                (try simp only [i64_w])
                try rfl
              refine hK.out _ _ ⟨(by rw [ha.out]; exact qCA 9 hb_ rfl rfl rfl), Q_B, Q_LR, Q_C0, Q_D0, Q_M0⟩
            exact qmB
          · rintro b a w' hall ⟨ha, Q_B, Q_LR, Q_C0, Q_D0, Q_M0⟩
            clear B C0 D0 LR M0
            have hb5_ := hall 5 (by kernel_rfl)
            have hb8_ := hall 8 (by kernel_rfl)
            have hb9_ := hall 9 (by kernel_rfl)
            have hb10_ := hall 10 (by kernel_rfl)
            have hb11_ := hall 11 (by kernel_rfl)
            have hb12_ := hall 12 (by kernel_rfl)
            have hb13_ := hall 13 (by kernel_rfl)
            have hb14_ := hall 14 (by kernel_rfl)
            have hb15_ := hall 15 (by kernel_rfl)
            have hb16_ := hall 16 (by kernel_rfl)
            subst ha
            simp only [putSel, hb5_, hb8_, hb9_, hb10_, hb11_, hb12_, hb13_, hb14_, hb15_, hb16_, if_true, Act.put, List.setIfInBounds_toArray, List.set_cons_zero, List.set_cons_succ]
            have B := Aside0.mk Q_B
            clear Q_B
            have LR := Aside0.mk Q_LR
            clear Q_LR
            have C0 := Aside0.mk Q_C0
            clear Q_C0
            have D0 := Aside0.mk Q_D0
            clear Q_D0
            have M0 := Aside0.mk Q_M0
            clear Q_M0
            clear hall hb5_ hb8_ hb9_ hb10_ hb11_ hb12_ hb13_ hb14_ hb15_ hb16_
            go_wp2
            go_ret3
            exact ⟨_, _, rfl, Kd.R_nil k61 61 _ _ _, Kd.R_nil (Kd.int .i64) 3 _ _ _, B.out⟩
      · rw [if_neg h6] at HFN
        have h6i : ¬ (s.cs.length : Int) = 6 := by omega
        have h6b : ((s.cs.length : Int) != 6) = true := bne_iff_ne.2 h6i
        have h6c : ((s.cs.length : Int) == 6) = false := beq_eq_false_iff_ne.2 h6i
        have h6d : decide ((s.cs.length : Int) = 6) = false := decide_eq_false h6i
        simp only [Option.some.injEq, Prod.mk.injEq] at HFN
        obtain ⟨rfl, rfl, rfl⟩ := HFN
        refine qwA (n := 17) (S := fun w' => True) (ds := []) #[false, false, false, false, false, false, false, false, false, false, false, false, false, false, false, false, false] (by kernel_rfl) rfl rfl trivial (fun hHeld => ?_); refine qTA sixTab17 sixBits17 (fun HT_ HW_ => ?_)
        refine pure_ (i := 0) (N := some 73) (v := ?_) (a' := ?_) #[true, false, false, false, false, false, false, false, false, false, false, false, false, false, false, false, false] rfl rfl (qKA HT_.out (by kernel_rfl)) (fun _ _ _ h => h) (Or.inl ⟨by rfl, ?_⟩) ?_ ?_
        rotate_left
        · intro w'
          go_simp
          with_reducible rfl
        rotate_left
        · simp only [Act.put, List.setIfInBounds_toArray, List.set_cons_zero, List.set_cons_succ, i64_w, i32_w]
          rfl
        refine pure_ (i := 1) (N := some 74) (v := ?_) (a' := ?_) #[true, true, false, false, false, false, false, false, false, false, false, false, false, false, false, false, false] rfl rfl (qKA HT_.out (by kernel_rfl)) (fun _ _ _ h => h) (Or.inl ⟨by rfl, ?_⟩) ?_ ?_
        rotate_left
        · intro w'
          go_simp
          with_reducible rfl
        rotate_left
        · simp only [Act.put, List.setIfInBounds_toArray, List.set_cons_zero, List.set_cons_succ, i64_w, i32_w]
          rfl
        refine pure_ (i := 2) (N := some 75) (v := ?_) (a' := ?_) #[true, true, true, false, false, false, false, false, false, false, false, false, false, false, false, false, false] rfl rfl (qKA HT_.out (by kernel_rfl)) (fun _ _ _ h => h) (Or.inl ⟨by rfl, ?_⟩) ?_ ?_
        rotate_left
        · intro w'
          go_simp
          with_reducible rfl
        rotate_left
        · simp only [Act.put, List.setIfInBounds_toArray, List.set_cons_zero, List.set_cons_succ, i64_w, i32_w]
          rfl
        refine pure_ (i := 3) (N := some 76) (v := ?_) (a' := ?_) #[true, true, true, true, false, false, false, false, false, false, false, false, false, false, false, false, false] rfl rfl (qKA HT_.out (by kernel_rfl)) (fun _ _ _ h => h) (Or.inl ⟨by rfl, ?_⟩) ?_ ?_
        rotate_left
        · intro w'
          go_simp
          with_reducible rfl
        rotate_left
        · simp only [Act.put, List.setIfInBounds_toArray, List.set_cons_zero, List.set_cons_succ, i64_w, i32_w]
          rfl
        refine pure_ (i := 4) (N := some 77) (v := undef) (a' := ?_) #[true, true, true, true, true, false, false, false, false, false, false, false, false, false, false, false, false] rfl rfl (qKA HT_.out (by kernel_rfl)) (fun _ _ _ h => h) (Or.inr ⟨by rfl, rfl⟩) ?_ ?_
        rotate_left
        · simp only [Act.put, List.setIfInBounds_toArray, List.set_cons_zero, List.set_cons_succ, i64_w, i32_w]
          rfl
        refine pure_ (i := 5) (N := some 78) (v := undef) (a' := ?_) #[true, true, true, true, true, true, false, false, false, false, false, false, false, false, false, false, false] rfl rfl (qKA HT_.out (by kernel_rfl)) (fun _ _ _ h => h) (Or.inr ⟨by rfl, rfl⟩) ?_ ?_
        rotate_left
        · simp only [Act.put, List.setIfInBounds_toArray, List.set_cons_zero, List.set_cons_succ, i64_w, i32_w]
          rfl
        refine pure_ (i := 6) (N := some 79) (v := undef) (a' := ?_) #[true, true, true, true, true, true, true, false, false, false, false, false, false, false, false, false, false] rfl rfl (qKA HT_.out (by kernel_rfl)) (fun _ _ _ h => h) (Or.inr ⟨by rfl, rfl⟩) ?_ ?_
        rotate_left
        · simp only [Act.put, List.setIfInBounds_toArray, List.set_cons_zero, List.set_cons_succ, i64_w, i32_w]
          rfl
        refine pure_ (i := 7) (N := some 80) (v := undef) (a' := ?_) #[true, true, true, true, true, true, true, true, false, false, false, false, false, false, false, false, false] rfl rfl (qKA HT_.out (by kernel_rfl)) (fun _ _ _ h => h) (Or.inr ⟨by rfl, rfl⟩) ?_ ?_
        rotate_left
        · simp only [Act.put, List.setIfInBounds_toArray, List.set_cons_zero, List.set_cons_succ, i64_w, i32_w]
          rfl
        refine pure_ (i := 8) (N := some 81) (v := undef) (a' := ?_) #[true, true, true, true, true, true, true, true, true, false, false, false, false, false, false, false, false] rfl rfl (qKA HT_.out (by kernel_rfl)) (fun _ _ _ h => h) (Or.inr ⟨by rfl, rfl⟩) ?_ ?_
        rotate_left
        · simp only [Act.put, List.setIfInBounds_toArray, List.set_cons_zero, List.set_cons_succ, i64_w, i32_w]
          rfl
        refine pure_ (i := 9) (N := some 82) (v := undef) (a' := ?_) #[true, true, true, true, true, true, true, true, true, true, false, false, false, false, false, false, false] rfl rfl (qKA HT_.out (by kernel_rfl)) (fun _ _ _ h => h) (Or.inr ⟨by rfl, rfl⟩) ?_ ?_
        rotate_left
        · simp only [Act.put, List.setIfInBounds_toArray, List.set_cons_zero, List.set_cons_succ, i64_w, i32_w]
          rfl
        refine pure_ (i := 10) (N := some 83) (v := undef) (a' := ?_) #[true, true, true, true, true, true, true, true, true, true, true, false, false, false, false, false, false] rfl rfl (qKA HT_.out (by kernel_rfl)) (fun _ _ _ h => h) (Or.inr ⟨by rfl, rfl⟩) ?_ ?_
        rotate_left
        · simp only [Act.put, List.setIfInBounds_toArray, List.set_cons_zero, List.set_cons_succ, i64_w, i32_w]
          rfl
        refine pure_ (i := 11) (N := some 84) (v := ?_) (a' := ?_) #[true, true, true, true, true, true, true, true, true, true, true, true, false, false, false, false, false] rfl rfl (qKA HT_.out (by kernel_rfl)) (fun _ _ _ h => h) (Or.inl ⟨by rfl, ?_⟩) ?_ ?_
        rotate_left
        · intro w'
          go_simp
          with_reducible rfl
        rotate_left
        · simp only [Act.put, List.setIfInBounds_toArray, List.set_cons_zero, List.set_cons_succ, i64_w, i32_w]
          rfl
        refine pure_ (i := 12) (N := some 85) (v := ?_) (a' := ?_) #[true, true, true, true, true, true, true, true, true, true, true, true, true, false, false, false, false] rfl rfl (qKA HT_.out (by kernel_rfl)) (fun _ _ _ h => h) (Or.inl ⟨by rfl, ?_⟩) ?_ ?_
        rotate_left
        · intro w'
          go_simp
          with_reducible rfl
        rotate_left
        · simp only [Act.put, List.setIfInBounds_toArray, List.set_cons_zero, List.set_cons_succ, i64_w, i32_w]
          rfl
        refine pure_ (i := 13) (N := some 86) (v := undef) (a' := ?_) #[true, true, true, true, true, true, true, true, true, true, true, true, true, true, false, false, false] rfl rfl (qKA HT_.out (by kernel_rfl)) (fun _ _ _ h => h) (Or.inr ⟨by rfl, rfl⟩) ?_ ?_
        rotate_left
        · simp only [Act.put, List.setIfInBounds_toArray, List.set_cons_zero, List.set_cons_succ, i64_w, i32_w]
          rfl
        refine pure_ (i := 14) (N := some 87) (v := undef) (a' := ?_) #[true, true, true, true, true, true, true, true, true, true, true, true, true, true, true, false, false] rfl rfl (qKA HT_.out (by kernel_rfl)) (fun _ _ _ h => h) (Or.inr ⟨by rfl, rfl⟩) ?_ ?_
        rotate_left
        · simp only [Act.put, List.setIfInBounds_toArray, List.set_cons_zero, List.set_cons_succ, i64_w, i32_w]
          rfl
        refine pure_ (i := 15) (N := some 88) (v := undef) (a' := ?_) #[true, true, true, true, true, true, true, true, true, true, true, true, true, true, true, true, false] rfl rfl (qKA HT_.out (by kernel_rfl)) (fun _ _ _ h => h) (Or.inr ⟨by rfl, rfl⟩) ?_ ?_
        rotate_left
        · simp only [Act.put, List.setIfInBounds_toArray, List.set_cons_zero, List.set_cons_succ, i64_w, i32_w]
          rfl
        refine qND [16] (fun a0_ b a w' => a = putSel a0_ b [(16, 89, .bool true)] ∧ (Below w.heap.size w w') ∧ (Kd.R Kd.string 9 w' w.heap.size (fun _ => True) (.slice (some ad) L.length cw) L) ∧ (Kd.R k61 61 w' w.heap.size (fun _ => True) (.slice Ac s.cs.length cc) s.cs) ∧ (Kd.R (Kd.int .i64) 3 w' w.heap.size (fun _ => True) vd s.ds) ∧ (mapI.Is w' g s.ms)) HT_.out HW_.out (by kernel_rfl) (by kernel_rfl) ?_ ?_ ?_
        · exact ⟨by simp only [putSel, Bool.false_eq_true, if_false], qk B.out, Kd.qH LR.out, Kd.qH C0.out, Kd.qH D0.out, M0.out.drew⟩
        · skip
          clear B C0 D0 LR M0
          refine qm ?_ ?_
          · rintro b a w' ⟨ha, Q_B, Q_LR, Q_C0, Q_D0, Q_M0⟩ hb_ hon hoff
            refine ⟨_, rfl, fun K hK => ?_⟩
            have e85 : a.tmps[85]? = some (.bool true) := by rw [ha]; exact (qFA rfl).trans rfl
            have e88 : a.tmps[88]? = some (undef) := by rw [ha]; exact (qFA rfl).trans rfl
            replace ha := Aside0.mk ha
            have B := Aside0.mk Q_B
            have LR := Aside0.mk Q_LR
            have C0 := Aside0.mk Q_C0
            have D0 := Aside0.mk Q_D0
            have M0 := Aside0.mk Q_M0
            refine qzA (w1 := w') (v := .bool true) (by rfl) rfl ?_ ?_
            · go_simp
              (try simp only [i64_w])
              try rfl
            refine hK.out _ _ ⟨(by rw [ha.out]; exact qCA 0 hb_ rfl rfl rfl), Q_B, Q_LR, Q_C0, Q_D0, Q_M0⟩
          exact qmB
        · rintro b a w' hall ⟨ha, Q_B, Q_LR, Q_C0, Q_D0, Q_M0⟩
          clear B C0 D0 LR M0
          have hb16_ := hall 16 (by kernel_rfl)
          subst ha
          simp only [putSel, hb16_, if_true, Act.put, List.setIfInBounds_toArray, List.set_cons_zero, List.set_cons_succ]
          have B := Aside0.mk Q_B
          clear Q_B
          have LR := Aside0.mk Q_LR
          clear Q_LR
          have C0 := Aside0.mk Q_C0
          clear Q_C0
          have D0 := Aside0.mk Q_D0
          clear Q_D0
          have M0 := Aside0.mk Q_M0
          clear Q_M0
          clear hall hb16_
          go_wp2
          go_ret3
          exact ⟨_, _, rfl, Kd.R_nil k61 61 _ _ _, Kd.R_nil (Kd.int .i64) 3 _ _ _, B.out⟩
end P
end Go.Proofs.YtdncpkppkafkpaaDoor
namespace Go.Proofs.YtdncpkppkafkpaaDoor.P
open Go.RowKit Go.Proofs.YtdncpkppkafkpaaDoorW.PrintWords Go.Proofs.YtdncpkppkafkpaaDoorW.PrintLast Go.Proofs.YtdncpkppkafkpaaDoorW.PrintMore
attribute [local go_sem] qz qx qJA qIA qo qn qy qw
set_option linter.unusedVariables false
set_option linter.unusedSimpArgs false
def qdB.f (k : Nat) (a0 : ByteArray) : Option ((List (S61)) × List Int × Bool) := (qUB.f k a0).bind fun bt486 => (if bt486.2.2 = true then ((qSA.f k bt486.1).bind fun t493 => (some (bt486.1, bt486.2.1, t493))) else (some (bt486.1, bt486.2.1, false)))
set_option maxHeartbeats 8000000 in
set_option maxRecDepth 100000 in
theorem qdB.calls (k : Nat) (a0 : ByteArray) (r1 : List (S61)) (r2 : List Int) (r3 : Bool) (w : World) (hL : Laid w) (h : qdB.f k a0 = some (r1, r2, r3)) :
  Calls Tryd.prog 35 #[.string a0] w fun e w' => ∃ v0_ v1_ : Value, e = .returned (.tuple #[v0_, v1_, .bool r3]) ∧ Kd.R k61 61 w' w.heap.size (fun _ => True) v0_ r1 ∧ Kd.R (Kd.int .i64) 3 w' w.heap.size (fun _ => True) v1_ r2 ∧ Below w.heap.size w w' := by
 have HLD := Aside0.mk hL
 clear hL
 have HB := Aside0.mk (Below.refl w.heap.size w)
 have H : ((qUB.f k a0).bind fun bt486 => (if bt486.2.2 = true then ((qSA.f k bt486.1).bind fun t493 => (some (bt486.1, bt486.2.1, t493))) else (some (bt486.1, bt486.2.1, false)))) = some (r1, r2, r3) := h
 clear h
 replace H := Option.bind_eq_some_iff.mp H
 obtain ⟨⟨t486, t487, t488⟩, A20, H⟩ := H
 replace H : (if t488 = true then ((qSA.f k t486).bind fun t493 => (some (t486, t487, t493))) else (some (t486, t487, false))) = some (r1, r2, r3) := H
 have A2 := Aside0.mk A20
 clear A20
 by_cases c3 : t488 = true
 ·subst c3
  have H1 : ((qSA.f k t486).bind fun t493 => (some (t486, t487, t493))) = some (r1, r2, r3) := by rw [if_pos rfl] at H; exact H
  clear H
  have H := H1
  clear H1
  replace H := Option.bind_eq_some_iff.mp H
  obtain ⟨t493, A40, H⟩ := H
  replace H : (some (t486, t487, t493)) = some (r1, r2, r3) := H
  have A4 := Aside0.mk A40
  clear A40
  simp only [Option.some.injEq, Prod.mk.injEq] at H
  obtain ⟨rfl, rfl, rfl⟩ := H
  go_enter Tryd.func35, Tryd.ntmps35
  go_wp2_with (first | ((with_reducible refine qa (f := 33) rfl ?_); refine qQA (some 10) rfl rfl Tryd.func33 (by kernel_rfl) rfl #[.string a0] rfl (by (try simp only [List.map_toArray, List.map_cons, List.map_nil]); first | done | rfl | (simp only [List.length_drop, List.length_take]; rfl)) ?_; (with_reducible refine (qUB.calls k a0 t486 t487 true _ ?side1 A2.out).mono ?_); (case side1 => first | (with_reducible exact HLD.out) | exact Laid.below HLD.out bl); rintro e w5 ⟨v489, v491, rfl, ho0, ho1, hb⟩; refine ⟨_, rfl, ?_⟩; have n0_ := Aside0.mk (Kd.qEA ho0 (qb bl)); have n1_ := Aside0.mk (Kd.qEA ho1 (qb bl)); have n2_ := Aside0.mk (qJ bl hb); clear HB; have HO490 := n0_; have HO492 := n1_; have HB := n2_; clear n0_ n1_ n2_; (try clear hb); (try clear hb2); (try clear hk); (try clear hi); (try clear ho0); (try clear ho1); obtain ⟨Ao6, co6, eo6⟩ := Kd.qr HO490.out; subst eo6) | (go_at_call 51; (with_reducible refine (qSA.calls k _ _ t486 t493 _ ?side1 ?side2 A4.out).mono ?_); (case side1 => repeat (first | exact (Kd.qS HO490.out).2.2 | (with_reducible refine Kd.qZA ?_ _) | (with_reducible refine Kd.qYA ?_ _) | (with_reducible refine Kd.qpA ?_))); (case side2 => exact (Kd.qS HO490.out).2.1); rintro e w7 ⟨rfl, hb⟩; have n0_ := Aside0.mk (Kd.qU (by (with_reducible repeat (first | apply Kd.qF | apply Kd.qG | apply Kd.qH)); exact HO490.out) hb); have n1_ := Aside0.mk (Kd.qU (by (with_reducible repeat (first | apply Kd.qF | apply Kd.qG | apply Kd.qH)); exact HO492.out) hb); have n2_ := Aside0.mk (qJ bl hb); clear HO490; clear HO492; clear HB; have HO490 := n0_; have HO492 := n1_; have HB := n2_; clear n0_ n1_ n2_; (try clear hb); (try clear hb2); (try clear hk); (try clear hi)))
  go_ret3
  exact ⟨_, _, by first | rfl | (simp [qN, qM] <;> rfl) | (simp [*, qN, qM] <;> rfl), by (with_reducible repeat (first | apply Kd.qF | apply Kd.qG | apply Kd.qH)); exact HO490.out, by (with_reducible repeat (first | apply Kd.qF | apply Kd.qG | apply Kd.qH)); exact HO492.out, bl⟩
 ·replace c3 := Bool.eq_false_iff.mpr c3
  subst c3
  have H1 : (some (t486, t487, false)) = some (r1, r2, r3) := by rw [if_neg (show ¬ (false = true) by decide)] at H; exact H
  clear H
  have H := H1
  clear H1
  simp only [Option.some.injEq, Prod.mk.injEq] at H
  obtain ⟨rfl, rfl, rfl⟩ := H
  go_enter Tryd.func35, Tryd.ntmps35
  go_wp2_with (first | ((with_reducible refine qa (f := 33) rfl ?_); refine qQA (some 10) rfl rfl Tryd.func33 (by kernel_rfl) rfl #[.string a0] rfl (by (try simp only [List.map_toArray, List.map_cons, List.map_nil]); first | done | rfl | (simp only [List.length_drop, List.length_take]; rfl)) ?_; (with_reducible refine (qUB.calls k a0 t486 t487 false _ ?side1 A2.out).mono ?_); (case side1 => first | (with_reducible exact HLD.out) | exact Laid.below HLD.out bl); rintro e w8 ⟨v489, v491, rfl, ho0, ho1, hb⟩; refine ⟨_, rfl, ?_⟩; have n0_ := Aside0.mk (Kd.qEA ho0 (qb bl)); have n1_ := Aside0.mk (Kd.qEA ho1 (qb bl)); have n2_ := Aside0.mk (qJ bl hb); clear HB; have HO490 := n0_; have HO492 := n1_; have HB := n2_; clear n0_ n1_ n2_; (try clear hb); (try clear hb2); (try clear hk); (try clear hi); (try clear ho0); (try clear ho1)))
  go_ret3
  exact ⟨_, _, by first | rfl | (simp [qN, qM] <;> rfl) | (simp [*, qN, qM] <;> rfl), by (with_reducible repeat (first | apply Kd.qF | apply Kd.qG | apply Kd.qH)); exact HO490.out, by (with_reducible repeat (first | apply Kd.qF | apply Kd.qG | apply Kd.qH)); exact HO492.out, bl⟩
def qdA.f (l0 : List Int) : Option (Int × Int × Int × Int × Int × Int) := if 0 < (l0.length : Int) then (if 1 < (l0.length : Int) then (if 2 < (l0.length : Int) then (if 3 < (l0.length : Int) then (if 4 < (l0.length : Int) then (if 5 < (l0.length : Int) then (some (rd l0 0, rd l0 1, rd l0 2, rd l0 3, rd l0 4, rd l0 5)) else (none)) else (none)) else (none)) else (none)) else (none)) else (none)
def qdA.T1 : Bool × List (List Nat × List Nat) := (true, [([], []), ([0], [0]), ([1], [1]), ([], []), ([3], [3]), ([4], [4]), ([], []), ([6], [6]), ([7], [7]), ([], []), ([9], [9]), ([10], [10]), ([], []), ([12], [12]), ([13], [13]), ([], []), ([15], [15]), ([16], [16]), ([2, 5, 8, 11, 14, 17], [2, 5, 8, 11, 14, 17]), ([18, 0, 1, 2, 3, 4, 5, 6, 7, 8, 9, 10, 11, 12, 13, 14, 15, 16, 17, 18], [18])])
def qdA.B1 : List Nat := [0, 1, 3, 0, 8, 24, 0, 64, 192, 0, 512, 1536, 0, 4096, 12288, 0, 32768, 98304, 262143, 524287]
theorem qdA.tab1 : rtab .any (opsOf Tryd.f57 1) = qdA.T1 := by kernel_rfl
theorem qdA.bits1 : waitsOk qdA.T1.2 qdA.B1 = true := by kernel_rfl
set_option maxHeartbeats 8000000 in
set_option maxRecDepth 100000 in
theorem qdA.calls (A0 : Option Addr) (c0 : Nat) (l0 : List Int) (r1 : Int) (r2 : Int) (r3 : Int) (r4 : Int) (r5 : Int) (r6 : Int) (w : World) (hr0 : Kd.C (Kd.int .i64) w A0 l0.length l0) (hc0 : l0.length ≤ c0) (h : qdA.f l0 = some (r1, r2, r3, r4, r5, r6)) :
  Calls Tryd.prog 57 #[.slice A0 l0.length c0] w fun e w' => e = .returned (.agg #[.int .i64 r1, .int .i64 r2, .int .i64 r3, .int .i64 r4, .int .i64 r5, .int .i64 r6]) ∧ Below w.heap.size w w' := by
 have hu31 := Tryd.underlying31
 have HR0 := Aside0.mk hr0
 have HC0 := Aside0.mk hc0
 clear hr0 hc0
 have HB := Aside0.mk (Below.refl w.heap.size w)
 have H : (if 0 < (l0.length : Int) then (if 1 < (l0.length : Int) then (if 2 < (l0.length : Int) then (if 3 < (l0.length : Int) then (if 4 < (l0.length : Int) then (if 5 < (l0.length : Int) then (some (rd l0 0, rd l0 1, rd l0 2, rd l0 3, rd l0 4, rd l0 5)) else (none)) else (none)) else (none)) else (none)) else (none)) else (none)) = some (r1, r2, r3, r4, r5, r6) := h
 clear h
 by_cases c2 : 0 < (l0.length : Int)
 ·rw [if_pos c2] at H
  have c2b0 : decide (0 < (l0.length : Int)) = true := decide_eq_true c2
  have c2b1 : decide (0 < l0.length) = true := decide_eq_true (by omega)
  clear c2
  by_cases c3 : 1 < (l0.length : Int)
  ·rw [if_pos c3] at H
   have c3b0 : decide (1 < (l0.length : Int)) = true := decide_eq_true c3
   have c3b1 : decide (1 < l0.length) = true := decide_eq_true (by omega)
   clear c3
   by_cases c4 : 2 < (l0.length : Int)
   ·rw [if_pos c4] at H
    have c4b0 : decide (2 < (l0.length : Int)) = true := decide_eq_true c4
    have c4b1 : decide (2 < l0.length) = true := decide_eq_true (by omega)
    clear c4
    by_cases c5 : 3 < (l0.length : Int)
    ·rw [if_pos c5] at H
     have c5b0 : decide (3 < (l0.length : Int)) = true := decide_eq_true c5
     have c5b1 : decide (3 < l0.length) = true := decide_eq_true (by omega)
     clear c5
     by_cases c6 : 4 < (l0.length : Int)
     ·rw [if_pos c6] at H
      have c6b0 : decide (4 < (l0.length : Int)) = true := decide_eq_true c6
      have c6b1 : decide (4 < l0.length) = true := decide_eq_true (by omega)
      clear c6
      by_cases c7 : 5 < (l0.length : Int)
      ·rw [if_pos c7] at H
       have c7b0 : decide (5 < (l0.length : Int)) = true := decide_eq_true c7
       have c7b1 : decide (5 < l0.length) = true := decide_eq_true (by omega)
       clear c7
       simp only [Option.some.injEq, Prod.mk.injEq] at H
       obtain ⟨rfl, rfl, rfl, rfl, rfl, rfl⟩ := H
       go_enter Tryd.func57, Tryd.ntmps57
       try go_wp2_with (first | ((with_reducible refine qX (N := 2) rfl ?_); refine qW ?hg (N := 2) ?hd (cs := #[.int .i64 0, .int .i64 0, .int .i64 0, .int .i64 0, .int .i64 0, .int .i64 0]) (t := 31) ?hr ?_; (case hd => rfl); (case hg => rfl); (case hr => first | (go_simp; done) | (go_simp; rfl)); intro gb634 hg w8 hbox hb; have n0_ := Aside0.mk (qJ bl hb); have n1_ := Aside0.mk (hbox); have n2_ := Aside0.mk ((gg hg)); have n3_ := Aside0.mk ((gg hg)); clear HB; have HB := n0_; have BK634 := n1_; have GW634 := n2_; have GE634 := n3_; clear n0_ n1_ n2_ n3_; clear hb hbox hg))
       have n0_ := Aside0.mk (qE BK634.out)
       have n1_ := Aside0.mk (qk HB.out)
       clear BK634
       clear HB
       have BK634 := n0_
       have HB := n1_
       clear n0_ n1_
       have p635 : 0 ≤ (0 : Int) := (by omega)
       have q635 : 0 < (l0.length : Int) := of_decide_eq_true (by first | (with_reducible assumption) | assumption)
       obtain ⟨ad635, e635, hx635_0⟩ := Kd.qGA HR0.out 0 p635 q635
       have hw635_0 := hx635_0
       (try rw [show ((0 : Int)).toNat = 0 from rfl] at hw635_0)
       (try rw [show 0 * 1 = 0 from rfl] at hw635_0)
       (try rw [Addr.add_zero'] at hw635_0)
       cases e635
       have qi635 : (0 < l0.length) = True := eq_true (by omega)
       (try rw [show ((0 : Int)).toNat = 0 from rfl] at hx635_0)
       (try rw [Addr.add_zero'] at hx635_0)
       replace hx635_0 := (HB.out.cell (World.block_lt_of_cell? w _ hx635_0)).trans hx635_0
       replace p635 := eq_true p635
       replace q635 := eq_true q635
       have p636 : 0 ≤ (1 : Int) := (by omega)
       have q636 : 1 < (l0.length : Int) := of_decide_eq_true (by first | (with_reducible assumption) | assumption)
       obtain ⟨ad636, e636, hx636_0⟩ := Kd.qGA HR0.out 1 p636 q636
       have hw636_0 := hx636_0
       (try rw [show ((1 : Int)).toNat = 1 from rfl] at hw636_0)
       (try rw [show 1 * 1 = 1 from rfl] at hw636_0)
       (try simp only [Nat.reduceMul, Nat.reduceEqDiff, Go.Addr.add, ↓reduceIte] at hw636_0)
       obtain rfl : ad635 = ad636 := (by injection e636)
       (try simp only [show (1 : Int).toNat = 1 from rfl, Nat.reduceMul, Nat.reduceEqDiff, Go.Addr.add, ↓reduceIte] at hx636_0)
       have qi636 : (1 < l0.length) = True := eq_true (by omega)
       (try rw [show ((1 : Int)).toNat = 1 from rfl] at hx636_0)
       replace hx636_0 := (HB.out.cell (World.block_lt_of_cell? w _ hx636_0)).trans hx636_0
       replace p636 := eq_true p636
       replace q636 := eq_true q636
       have p637 : 0 ≤ (2 : Int) := (by omega)
       have q637 : 2 < (l0.length : Int) := of_decide_eq_true (by first | (with_reducible assumption) | assumption)
       obtain ⟨ad637, e637, hx637_0⟩ := Kd.qGA HR0.out 2 p637 q637
       have hw637_0 := hx637_0
       (try rw [show ((2 : Int)).toNat = 2 from rfl] at hw637_0)
       (try rw [show 2 * 1 = 2 from rfl] at hw637_0)
       (try simp only [Nat.reduceMul, Nat.reduceEqDiff, Go.Addr.add, ↓reduceIte] at hw637_0)
       obtain rfl : ad635 = ad637 := (by injection e637)
       (try simp only [show (2 : Int).toNat = 2 from rfl, Nat.reduceMul, Nat.reduceEqDiff, Go.Addr.add, ↓reduceIte] at hx637_0)
       have qi637 : (2 < l0.length) = True := eq_true (by omega)
       (try rw [show ((2 : Int)).toNat = 2 from rfl] at hx637_0)
       replace hx637_0 := (HB.out.cell (World.block_lt_of_cell? w _ hx637_0)).trans hx637_0
       replace p637 := eq_true p637
       replace q637 := eq_true q637
       have p638 : 0 ≤ (3 : Int) := (by omega)
       have q638 : 3 < (l0.length : Int) := of_decide_eq_true (by first | (with_reducible assumption) | assumption)
       obtain ⟨ad638, e638, hx638_0⟩ := Kd.qGA HR0.out 3 p638 q638
       have hw638_0 := hx638_0
       (try rw [show ((3 : Int)).toNat = 3 from rfl] at hw638_0)
       (try rw [show 3 * 1 = 3 from rfl] at hw638_0)
       (try simp only [Nat.reduceMul, Nat.reduceEqDiff, Go.Addr.add, ↓reduceIte] at hw638_0)
       obtain rfl : ad635 = ad638 := (by injection e638)
       (try simp only [show (3 : Int).toNat = 3 from rfl, Nat.reduceMul, Nat.reduceEqDiff, Go.Addr.add, ↓reduceIte] at hx638_0)
       have qi638 : (3 < l0.length) = True := eq_true (by omega)
       (try rw [show ((3 : Int)).toNat = 3 from rfl] at hx638_0)
       replace hx638_0 := (HB.out.cell (World.block_lt_of_cell? w _ hx638_0)).trans hx638_0
       replace p638 := eq_true p638
       replace q638 := eq_true q638
       have p639 : 0 ≤ (4 : Int) := (by omega)
       have q639 : 4 < (l0.length : Int) := of_decide_eq_true (by first | (with_reducible assumption) | assumption)
       obtain ⟨ad639, e639, hx639_0⟩ := Kd.qGA HR0.out 4 p639 q639
       have hw639_0 := hx639_0
       (try rw [show ((4 : Int)).toNat = 4 from rfl] at hw639_0)
       (try rw [show 4 * 1 = 4 from rfl] at hw639_0)
       (try simp only [Nat.reduceMul, Nat.reduceEqDiff, Go.Addr.add, ↓reduceIte] at hw639_0)
       obtain rfl : ad635 = ad639 := (by injection e639)
       (try simp only [show (4 : Int).toNat = 4 from rfl, Nat.reduceMul, Nat.reduceEqDiff, Go.Addr.add, ↓reduceIte] at hx639_0)
       have qi639 : (4 < l0.length) = True := eq_true (by omega)
       (try rw [show ((4 : Int)).toNat = 4 from rfl] at hx639_0)
       replace hx639_0 := (HB.out.cell (World.block_lt_of_cell? w _ hx639_0)).trans hx639_0
       replace p639 := eq_true p639
       replace q639 := eq_true q639
       have p640 : 0 ≤ (5 : Int) := (by omega)
       have q640 : 5 < (l0.length : Int) := of_decide_eq_true (by first | (with_reducible assumption) | assumption)
       obtain ⟨ad640, e640, hx640_0⟩ := Kd.qGA HR0.out 5 p640 q640
       have hw640_0 := hx640_0
       (try rw [show ((5 : Int)).toNat = 5 from rfl] at hw640_0)
       (try rw [show 5 * 1 = 5 from rfl] at hw640_0)
       (try simp only [Nat.reduceMul, Nat.reduceEqDiff, Go.Addr.add, ↓reduceIte] at hw640_0)
       obtain rfl : ad635 = ad640 := (by injection e640)
       (try simp only [show (5 : Int).toNat = 5 from rfl, Nat.reduceMul, Nat.reduceEqDiff, Go.Addr.add, ↓reduceIte] at hx640_0)
       have qi640 : (5 < l0.length) = True := eq_true (by omega)
       (try rw [show ((5 : Int)).toNat = 5 from rfl] at hx640_0)
       replace hx640_0 := (HB.out.cell (World.block_lt_of_cell? w _ hx640_0)).trans hx640_0
       replace p640 := eq_true p640
       replace q640 := eq_true q640
       refine qwA (n := 20) (S := fun w' => w'.cell? ad635 = some (.int .i64 (rd l0 0)) ∧ w'.cell? ⟨ad635.block, ad635.off + 1, none⟩ = some (.int .i64 (rd l0 1)) ∧ w'.cell? ⟨ad635.block, ad635.off + 2, none⟩ = some (.int .i64 (rd l0 2)) ∧ w'.cell? ⟨ad635.block, ad635.off + 3, none⟩ = some (.int .i64 (rd l0 3)) ∧ w'.cell? ⟨ad635.block, ad635.off + 4, none⟩ = some (.int .i64 (rd l0 4)) ∧ w'.cell? ⟨ad635.block, ad635.off + 5, none⟩ = some (.int .i64 (rd l0 5))) (ds := []) #[false, false, false, false, false, false, false, false, false, false, false, false, false, false, false, false, false, false, false, false] (by kernel_rfl) rfl rfl ⟨((HB.out.cell (World.block_lt_of_cell? w _ hw635_0)).trans hw635_0), ((HB.out.cell (World.block_lt_of_cell? w _ hw636_0)).trans hw636_0), ((HB.out.cell (World.block_lt_of_cell? w _ hw637_0)).trans hw637_0), ((HB.out.cell (World.block_lt_of_cell? w _ hw638_0)).trans hw638_0), ((HB.out.cell (World.block_lt_of_cell? w _ hw639_0)).trans hw639_0), ((HB.out.cell (World.block_lt_of_cell? w _ hw640_0)).trans hw640_0)⟩ (fun hHeld => ?_); refine qTA qdA.tab1 qdA.bits1 (fun HT_ HW_ => ?_)
       generalize w8.drew = w9 at BK634 HB hx635_0 hx636_0 hx637_0 hx638_0 hx639_0 hx640_0 hHeld ⊢
       refine pS (i := 0) (N := some 3) #[true, false, false, false, false, false, false, false, false, false, false, false, false, false, false, false, false, false, false, false] HT_ ?_
       refine pS (i := 1) (N := some 4) #[true, true, false, false, false, false, false, false, false, false, false, false, false, false, false, false, false, false, false, false] HT_ ?_
       refine pS (i := 3) (N := some 6) #[true, true, false, true, false, false, false, false, false, false, false, false, false, false, false, false, false, false, false, false] HT_ ?_
       refine pS (i := 4) (N := some 7) #[true, true, false, true, true, false, false, false, false, false, false, false, false, false, false, false, false, false, false, false] HT_ ?_
       refine pS (i := 6) (N := some 9) #[true, true, false, true, true, false, true, false, false, false, false, false, false, false, false, false, false, false, false, false] HT_ ?_
       refine pS (i := 7) (N := some 10) #[true, true, false, true, true, false, true, true, false, false, false, false, false, false, false, false, false, false, false, false] HT_ ?_
       refine pS (i := 9) (N := some 12) #[true, true, false, true, true, false, true, true, false, true, false, false, false, false, false, false, false, false, false, false] HT_ ?_
       refine pS (i := 10) (N := some 13) #[true, true, false, true, true, false, true, true, false, true, true, false, false, false, false, false, false, false, false, false] HT_ ?_
       refine pS (i := 12) (N := some 15) #[true, true, false, true, true, false, true, true, false, true, true, false, true, false, false, false, false, false, false, false] HT_ ?_
       refine pS (i := 13) (N := some 16) #[true, true, false, true, true, false, true, true, false, true, true, false, true, true, false, false, false, false, false, false] HT_ ?_
       refine pS (i := 15) (N := some 18) #[true, true, false, true, true, false, true, true, false, true, true, false, true, true, false, true, false, false, false, false] HT_ ?_
       refine pS (i := 16) (N := some 19) #[true, true, false, true, true, false, true, true, false, true, true, false, true, true, false, true, true, false, false, false] HT_ ?_
       refine tS (i := 2) (N := some 5) #[true, true, true, true, true, false, true, true, false, true, true, false, true, true, false, true, true, false, false, false] HT_ HW_ hHeld ?_
       refine tS (i := 5) (N := some 8) #[true, true, true, true, true, true, true, true, false, true, true, false, true, true, false, true, true, false, false, false] HT_ HW_ hHeld ?_
       refine tS (i := 8) (N := some 11) #[true, true, true, true, true, true, true, true, true, true, true, false, true, true, false, true, true, false, false, false] HT_ HW_ hHeld ?_
       refine tS (i := 11) (N := some 14) #[true, true, true, true, true, true, true, true, true, true, true, true, true, true, false, true, true, false, false, false] HT_ HW_ hHeld ?_
       refine tS (i := 14) (N := some 17) #[true, true, true, true, true, true, true, true, true, true, true, true, true, true, true, true, true, false, false, false] HT_ HW_ hHeld ?_
       refine tS (i := 17) (N := some 20) #[true, true, true, true, true, true, true, true, true, true, true, true, true, true, true, true, true, true, false, false] HT_ HW_ hHeld ?_
       refine pS (i := 18) (N := some 21) #[true, true, true, true, true, true, true, true, true, true, true, true, true, true, true, true, true, true, true, false] HT_ ?_
       refine one_ (i := 19) (N := none) #[true, true, true, true, true, true, true, true, true, true, true, true, true, true, true, true, true, true, true, true] rfl rfl (qnA HT_.out (by kernel_rfl)) (by decide) (fun K hK => ?_)
       have hs10 : w9.cell? ⟨gb634, 0, none⟩ = some (.int .i64 0) := (qL BK634.out 0).trans rfl
       have hfs10 := qA BK634.out 0
       have hs11 : w9.cell? ⟨gb634, 1, none⟩ = some (.int .i64 0) := (qL BK634.out 1).trans rfl
       have hfs11 := qA BK634.out 1
       have hs12 : w9.cell? ⟨gb634, 2, none⟩ = some (.int .i64 0) := (qL BK634.out 2).trans rfl
       have hfs12 := qA BK634.out 2
       have hs13 : w9.cell? ⟨gb634, 3, none⟩ = some (.int .i64 0) := (qL BK634.out 3).trans rfl
       have hfs13 := qA BK634.out 3
       have hs14 : w9.cell? ⟨gb634, 4, none⟩ = some (.int .i64 0) := (qL BK634.out 4).trans rfl
       have hfs14 := qA BK634.out 4
       have hs15 : w9.cell? ⟨gb634, 5, none⟩ = some (.int .i64 0) := (qL BK634.out 5).trans rfl
       have hfs15 := qA BK634.out 5
       refine skip_ (w1 := ?_) (by rfl) rfl ?_ ?_
       rotate_left
       ·go_simp
        rfl
       refine hK.out _ _ ⟨((qZ (p := ⟨gb634, _, none⟩) (by first | exact Nat.ne_of_lt (Nat.lt_of_lt_of_le (by have := World.block_lt_of_cell? _ _ hw635_0; first | rwa [qB] at this | exact this) GW634.out) | (rw [qB]; exact Nat.ne_of_lt (Nat.lt_of_lt_of_le (by have := World.block_lt_of_cell? _ _ hw635_0; first | rwa [qB] at this | exact this) GW634.out)) | (show (Addr.add _ _).block ≠ _; rw [qB]; exact Nat.ne_of_lt (Nat.lt_of_lt_of_le (by have := World.block_lt_of_cell? _ _ hw635_0; first | rwa [qB] at this | exact this) GW634.out)) | (dsimp only; exact Nat.ne_of_lt (Nat.lt_of_lt_of_le (by have := World.block_lt_of_cell? _ _ hw635_0; first | rwa [qB] at this | exact this) GW634.out))) _).trans (((qZ (p := ⟨gb634, _, none⟩) (by first | exact Nat.ne_of_lt (Nat.lt_of_lt_of_le (by have := World.block_lt_of_cell? _ _ hw635_0; first | rwa [qB] at this | exact this) GW634.out) | (rw [qB]; exact Nat.ne_of_lt (Nat.lt_of_lt_of_le (by have := World.block_lt_of_cell? _ _ hw635_0; first | rwa [qB] at this | exact this) GW634.out)) | (show (Addr.add _ _).block ≠ _; rw [qB]; exact Nat.ne_of_lt (Nat.lt_of_lt_of_le (by have := World.block_lt_of_cell? _ _ hw635_0; first | rwa [qB] at this | exact this) GW634.out)) | (dsimp only; exact Nat.ne_of_lt (Nat.lt_of_lt_of_le (by have := World.block_lt_of_cell? _ _ hw635_0; first | rwa [qB] at this | exact this) GW634.out))) _).trans (((qZ (p := ⟨gb634, _, none⟩) (by first | exact Nat.ne_of_lt (Nat.lt_of_lt_of_le (by have := World.block_lt_of_cell? _ _ hw635_0; first | rwa [qB] at this | exact this) GW634.out) | (rw [qB]; exact Nat.ne_of_lt (Nat.lt_of_lt_of_le (by have := World.block_lt_of_cell? _ _ hw635_0; first | rwa [qB] at this | exact this) GW634.out)) | (show (Addr.add _ _).block ≠ _; rw [qB]; exact Nat.ne_of_lt (Nat.lt_of_lt_of_le (by have := World.block_lt_of_cell? _ _ hw635_0; first | rwa [qB] at this | exact this) GW634.out)) | (dsimp only; exact Nat.ne_of_lt (Nat.lt_of_lt_of_le (by have := World.block_lt_of_cell? _ _ hw635_0; first | rwa [qB] at this | exact this) GW634.out))) _).trans (((qZ (p := ⟨gb634, _, none⟩) (by first | exact Nat.ne_of_lt (Nat.lt_of_lt_of_le (by have := World.block_lt_of_cell? _ _ hw635_0; first | rwa [qB] at this | exact this) GW634.out) | (rw [qB]; exact Nat.ne_of_lt (Nat.lt_of_lt_of_le (by have := World.block_lt_of_cell? _ _ hw635_0; first | rwa [qB] at this | exact this) GW634.out)) | (show (Addr.add _ _).block ≠ _; rw [qB]; exact Nat.ne_of_lt (Nat.lt_of_lt_of_le (by have := World.block_lt_of_cell? _ _ hw635_0; first | rwa [qB] at this | exact this) GW634.out)) | (dsimp only; exact Nat.ne_of_lt (Nat.lt_of_lt_of_le (by have := World.block_lt_of_cell? _ _ hw635_0; first | rwa [qB] at this | exact this) GW634.out))) _).trans (((qZ (p := ⟨gb634, _, none⟩) (by first | exact Nat.ne_of_lt (Nat.lt_of_lt_of_le (by have := World.block_lt_of_cell? _ _ hw635_0; first | rwa [qB] at this | exact this) GW634.out) | (rw [qB]; exact Nat.ne_of_lt (Nat.lt_of_lt_of_le (by have := World.block_lt_of_cell? _ _ hw635_0; first | rwa [qB] at this | exact this) GW634.out)) | (show (Addr.add _ _).block ≠ _; rw [qB]; exact Nat.ne_of_lt (Nat.lt_of_lt_of_le (by have := World.block_lt_of_cell? _ _ hw635_0; first | rwa [qB] at this | exact this) GW634.out)) | (dsimp only; exact Nat.ne_of_lt (Nat.lt_of_lt_of_le (by have := World.block_lt_of_cell? _ _ hw635_0; first | rwa [qB] at this | exact this) GW634.out))) _).trans (((qZ (p := ⟨gb634, _, none⟩) (by first | exact Nat.ne_of_lt (Nat.lt_of_lt_of_le (by have := World.block_lt_of_cell? _ _ hw635_0; first | rwa [qB] at this | exact this) GW634.out) | (rw [qB]; exact Nat.ne_of_lt (Nat.lt_of_lt_of_le (by have := World.block_lt_of_cell? _ _ hw635_0; first | rwa [qB] at this | exact this) GW634.out)) | (show (Addr.add _ _).block ≠ _; rw [qB]; exact Nat.ne_of_lt (Nat.lt_of_lt_of_le (by have := World.block_lt_of_cell? _ _ hw635_0; first | rwa [qB] at this | exact this) GW634.out)) | (dsimp only; exact Nat.ne_of_lt (Nat.lt_of_lt_of_le (by have := World.block_lt_of_cell? _ _ hw635_0; first | rwa [qB] at this | exact this) GW634.out))) _).trans (hHeld.1)))))))))))), ((qZ (p := ⟨gb634, _, none⟩) (by first | exact Nat.ne_of_lt (Nat.lt_of_lt_of_le (by have := World.block_lt_of_cell? _ _ hw636_0; first | rwa [qB] at this | exact this) GW634.out) | (rw [qB]; exact Nat.ne_of_lt (Nat.lt_of_lt_of_le (by have := World.block_lt_of_cell? _ _ hw636_0; first | rwa [qB] at this | exact this) GW634.out)) | (show (Addr.add _ _).block ≠ _; rw [qB]; exact Nat.ne_of_lt (Nat.lt_of_lt_of_le (by have := World.block_lt_of_cell? _ _ hw636_0; first | rwa [qB] at this | exact this) GW634.out)) | (dsimp only; exact Nat.ne_of_lt (Nat.lt_of_lt_of_le (by have := World.block_lt_of_cell? _ _ hw636_0; first | rwa [qB] at this | exact this) GW634.out))) _).trans (((qZ (p := ⟨gb634, _, none⟩) (by first | exact Nat.ne_of_lt (Nat.lt_of_lt_of_le (by have := World.block_lt_of_cell? _ _ hw636_0; first | rwa [qB] at this | exact this) GW634.out) | (rw [qB]; exact Nat.ne_of_lt (Nat.lt_of_lt_of_le (by have := World.block_lt_of_cell? _ _ hw636_0; first | rwa [qB] at this | exact this) GW634.out)) | (show (Addr.add _ _).block ≠ _; rw [qB]; exact Nat.ne_of_lt (Nat.lt_of_lt_of_le (by have := World.block_lt_of_cell? _ _ hw636_0; first | rwa [qB] at this | exact this) GW634.out)) | (dsimp only; exact Nat.ne_of_lt (Nat.lt_of_lt_of_le (by have := World.block_lt_of_cell? _ _ hw636_0; first | rwa [qB] at this | exact this) GW634.out))) _).trans (((qZ (p := ⟨gb634, _, none⟩) (by first | exact Nat.ne_of_lt (Nat.lt_of_lt_of_le (by have := World.block_lt_of_cell? _ _ hw636_0; first | rwa [qB] at this | exact this) GW634.out) | (rw [qB]; exact Nat.ne_of_lt (Nat.lt_of_lt_of_le (by have := World.block_lt_of_cell? _ _ hw636_0; first | rwa [qB] at this | exact this) GW634.out)) | (show (Addr.add _ _).block ≠ _; rw [qB]; exact Nat.ne_of_lt (Nat.lt_of_lt_of_le (by have := World.block_lt_of_cell? _ _ hw636_0; first | rwa [qB] at this | exact this) GW634.out)) | (dsimp only; exact Nat.ne_of_lt (Nat.lt_of_lt_of_le (by have := World.block_lt_of_cell? _ _ hw636_0; first | rwa [qB] at this | exact this) GW634.out))) _).trans (((qZ (p := ⟨gb634, _, none⟩) (by first | exact Nat.ne_of_lt (Nat.lt_of_lt_of_le (by have := World.block_lt_of_cell? _ _ hw636_0; first | rwa [qB] at this | exact this) GW634.out) | (rw [qB]; exact Nat.ne_of_lt (Nat.lt_of_lt_of_le (by have := World.block_lt_of_cell? _ _ hw636_0; first | rwa [qB] at this | exact this) GW634.out)) | (show (Addr.add _ _).block ≠ _; rw [qB]; exact Nat.ne_of_lt (Nat.lt_of_lt_of_le (by have := World.block_lt_of_cell? _ _ hw636_0; first | rwa [qB] at this | exact this) GW634.out)) | (dsimp only; exact Nat.ne_of_lt (Nat.lt_of_lt_of_le (by have := World.block_lt_of_cell? _ _ hw636_0; first | rwa [qB] at this | exact this) GW634.out))) _).trans (((qZ (p := ⟨gb634, _, none⟩) (by first | exact Nat.ne_of_lt (Nat.lt_of_lt_of_le (by have := World.block_lt_of_cell? _ _ hw636_0; first | rwa [qB] at this | exact this) GW634.out) | (rw [qB]; exact Nat.ne_of_lt (Nat.lt_of_lt_of_le (by have := World.block_lt_of_cell? _ _ hw636_0; first | rwa [qB] at this | exact this) GW634.out)) | (show (Addr.add _ _).block ≠ _; rw [qB]; exact Nat.ne_of_lt (Nat.lt_of_lt_of_le (by have := World.block_lt_of_cell? _ _ hw636_0; first | rwa [qB] at this | exact this) GW634.out)) | (dsimp only; exact Nat.ne_of_lt (Nat.lt_of_lt_of_le (by have := World.block_lt_of_cell? _ _ hw636_0; first | rwa [qB] at this | exact this) GW634.out))) _).trans (((qZ (p := ⟨gb634, _, none⟩) (by first | exact Nat.ne_of_lt (Nat.lt_of_lt_of_le (by have := World.block_lt_of_cell? _ _ hw636_0; first | rwa [qB] at this | exact this) GW634.out) | (rw [qB]; exact Nat.ne_of_lt (Nat.lt_of_lt_of_le (by have := World.block_lt_of_cell? _ _ hw636_0; first | rwa [qB] at this | exact this) GW634.out)) | (show (Addr.add _ _).block ≠ _; rw [qB]; exact Nat.ne_of_lt (Nat.lt_of_lt_of_le (by have := World.block_lt_of_cell? _ _ hw636_0; first | rwa [qB] at this | exact this) GW634.out)) | (dsimp only; exact Nat.ne_of_lt (Nat.lt_of_lt_of_le (by have := World.block_lt_of_cell? _ _ hw636_0; first | rwa [qB] at this | exact this) GW634.out))) _).trans (hHeld.2.1)))))))))))), ((qZ (p := ⟨gb634, _, none⟩) (by first | exact Nat.ne_of_lt (Nat.lt_of_lt_of_le (by have := World.block_lt_of_cell? _ _ hw637_0; first | rwa [qB] at this | exact this) GW634.out) | (rw [qB]; exact Nat.ne_of_lt (Nat.lt_of_lt_of_le (by have := World.block_lt_of_cell? _ _ hw637_0; first | rwa [qB] at this | exact this) GW634.out)) | (show (Addr.add _ _).block ≠ _; rw [qB]; exact Nat.ne_of_lt (Nat.lt_of_lt_of_le (by have := World.block_lt_of_cell? _ _ hw637_0; first | rwa [qB] at this | exact this) GW634.out)) | (dsimp only; exact Nat.ne_of_lt (Nat.lt_of_lt_of_le (by have := World.block_lt_of_cell? _ _ hw637_0; first | rwa [qB] at this | exact this) GW634.out))) _).trans (((qZ (p := ⟨gb634, _, none⟩) (by first | exact Nat.ne_of_lt (Nat.lt_of_lt_of_le (by have := World.block_lt_of_cell? _ _ hw637_0; first | rwa [qB] at this | exact this) GW634.out) | (rw [qB]; exact Nat.ne_of_lt (Nat.lt_of_lt_of_le (by have := World.block_lt_of_cell? _ _ hw637_0; first | rwa [qB] at this | exact this) GW634.out)) | (show (Addr.add _ _).block ≠ _; rw [qB]; exact Nat.ne_of_lt (Nat.lt_of_lt_of_le (by have := World.block_lt_of_cell? _ _ hw637_0; first | rwa [qB] at this | exact this) GW634.out)) | (dsimp only; exact Nat.ne_of_lt (Nat.lt_of_lt_of_le (by have := World.block_lt_of_cell? _ _ hw637_0; first | rwa [qB] at this | exact this) GW634.out))) _).trans (((qZ (p := ⟨gb634, _, none⟩) (by first | exact Nat.ne_of_lt (Nat.lt_of_lt_of_le (by have := World.block_lt_of_cell? _ _ hw637_0; first | rwa [qB] at this | exact this) GW634.out) | (rw [qB]; exact Nat.ne_of_lt (Nat.lt_of_lt_of_le (by have := World.block_lt_of_cell? _ _ hw637_0; first | rwa [qB] at this | exact this) GW634.out)) | (show (Addr.add _ _).block ≠ _; rw [qB]; exact Nat.ne_of_lt (Nat.lt_of_lt_of_le (by have := World.block_lt_of_cell? _ _ hw637_0; first | rwa [qB] at this | exact this) GW634.out)) | (dsimp only; exact Nat.ne_of_lt (Nat.lt_of_lt_of_le (by have := World.block_lt_of_cell? _ _ hw637_0; first | rwa [qB] at this | exact this) GW634.out))) _).trans (((qZ (p := ⟨gb634, _, none⟩) (by first | exact Nat.ne_of_lt (Nat.lt_of_lt_of_le (by have := World.block_lt_of_cell? _ _ hw637_0; first | rwa [qB] at this | exact this) GW634.out) | (rw [qB]; exact Nat.ne_of_lt (Nat.lt_of_lt_of_le (by have := World.block_lt_of_cell? _ _ hw637_0; first | rwa [qB] at this | exact this) GW634.out)) | (show (Addr.add _ _).block ≠ _; rw [qB]; exact Nat.ne_of_lt (Nat.lt_of_lt_of_le (by have := World.block_lt_of_cell? _ _ hw637_0; first | rwa [qB] at this | exact this) GW634.out)) | (dsimp only; exact Nat.ne_of_lt (Nat.lt_of_lt_of_le (by have := World.block_lt_of_cell? _ _ hw637_0; first | rwa [qB] at this | exact this) GW634.out))) _).trans (((qZ (p := ⟨gb634, _, none⟩) (by first | exact Nat.ne_of_lt (Nat.lt_of_lt_of_le (by have := World.block_lt_of_cell? _ _ hw637_0; first | rwa [qB] at this | exact this) GW634.out) | (rw [qB]; exact Nat.ne_of_lt (Nat.lt_of_lt_of_le (by have := World.block_lt_of_cell? _ _ hw637_0; first | rwa [qB] at this | exact this) GW634.out)) | (show (Addr.add _ _).block ≠ _; rw [qB]; exact Nat.ne_of_lt (Nat.lt_of_lt_of_le (by have := World.block_lt_of_cell? _ _ hw637_0; first | rwa [qB] at this | exact this) GW634.out)) | (dsimp only; exact Nat.ne_of_lt (Nat.lt_of_lt_of_le (by have := World.block_lt_of_cell? _ _ hw637_0; first | rwa [qB] at this | exact this) GW634.out))) _).trans (((qZ (p := ⟨gb634, _, none⟩) (by first | exact Nat.ne_of_lt (Nat.lt_of_lt_of_le (by have := World.block_lt_of_cell? _ _ hw637_0; first | rwa [qB] at this | exact this) GW634.out) | (rw [qB]; exact Nat.ne_of_lt (Nat.lt_of_lt_of_le (by have := World.block_lt_of_cell? _ _ hw637_0; first | rwa [qB] at this | exact this) GW634.out)) | (show (Addr.add _ _).block ≠ _; rw [qB]; exact Nat.ne_of_lt (Nat.lt_of_lt_of_le (by have := World.block_lt_of_cell? _ _ hw637_0; first | rwa [qB] at this | exact this) GW634.out)) | (dsimp only; exact Nat.ne_of_lt (Nat.lt_of_lt_of_le (by have := World.block_lt_of_cell? _ _ hw637_0; first | rwa [qB] at this | exact this) GW634.out))) _).trans (hHeld.2.2.1)))))))))))), ((qZ (p := ⟨gb634, _, none⟩) (by first | exact Nat.ne_of_lt (Nat.lt_of_lt_of_le (by have := World.block_lt_of_cell? _ _ hw638_0; first | rwa [qB] at this | exact this) GW634.out) | (rw [qB]; exact Nat.ne_of_lt (Nat.lt_of_lt_of_le (by have := World.block_lt_of_cell? _ _ hw638_0; first | rwa [qB] at this | exact this) GW634.out)) | (show (Addr.add _ _).block ≠ _; rw [qB]; exact Nat.ne_of_lt (Nat.lt_of_lt_of_le (by have := World.block_lt_of_cell? _ _ hw638_0; first | rwa [qB] at this | exact this) GW634.out)) | (dsimp only; exact Nat.ne_of_lt (Nat.lt_of_lt_of_le (by have := World.block_lt_of_cell? _ _ hw638_0; first | rwa [qB] at this | exact this) GW634.out))) _).trans (((qZ (p := ⟨gb634, _, none⟩) (by first | exact Nat.ne_of_lt (Nat.lt_of_lt_of_le (by have := World.block_lt_of_cell? _ _ hw638_0; first | rwa [qB] at this | exact this) GW634.out) | (rw [qB]; exact Nat.ne_of_lt (Nat.lt_of_lt_of_le (by have := World.block_lt_of_cell? _ _ hw638_0; first | rwa [qB] at this | exact this) GW634.out)) | (show (Addr.add _ _).block ≠ _; rw [qB]; exact Nat.ne_of_lt (Nat.lt_of_lt_of_le (by have := World.block_lt_of_cell? _ _ hw638_0; first | rwa [qB] at this | exact this) GW634.out)) | (dsimp only; exact Nat.ne_of_lt (Nat.lt_of_lt_of_le (by have := World.block_lt_of_cell? _ _ hw638_0; first | rwa [qB] at this | exact this) GW634.out))) _).trans (((qZ (p := ⟨gb634, _, none⟩) (by first | exact Nat.ne_of_lt (Nat.lt_of_lt_of_le (by have := World.block_lt_of_cell? _ _ hw638_0; first | rwa [qB] at this | exact this) GW634.out) | (rw [qB]; exact Nat.ne_of_lt (Nat.lt_of_lt_of_le (by have := World.block_lt_of_cell? _ _ hw638_0; first | rwa [qB] at this | exact this) GW634.out)) | (show (Addr.add _ _).block ≠ _; rw [qB]; exact Nat.ne_of_lt (Nat.lt_of_lt_of_le (by have := World.block_lt_of_cell? _ _ hw638_0; first | rwa [qB] at this | exact this) GW634.out)) | (dsimp only; exact Nat.ne_of_lt (Nat.lt_of_lt_of_le (by have := World.block_lt_of_cell? _ _ hw638_0; first | rwa [qB] at this | exact this) GW634.out))) _).trans (((qZ (p := ⟨gb634, _, none⟩) (by first | exact Nat.ne_of_lt (Nat.lt_of_lt_of_le (by have := World.block_lt_of_cell? _ _ hw638_0; first | rwa [qB] at this | exact this) GW634.out) | (rw [qB]; exact Nat.ne_of_lt (Nat.lt_of_lt_of_le (by have := World.block_lt_of_cell? _ _ hw638_0; first | rwa [qB] at this | exact this) GW634.out)) | (show (Addr.add _ _).block ≠ _; rw [qB]; exact Nat.ne_of_lt (Nat.lt_of_lt_of_le (by have := World.block_lt_of_cell? _ _ hw638_0; first | rwa [qB] at this | exact this) GW634.out)) | (dsimp only; exact Nat.ne_of_lt (Nat.lt_of_lt_of_le (by have := World.block_lt_of_cell? _ _ hw638_0; first | rwa [qB] at this | exact this) GW634.out))) _).trans (((qZ (p := ⟨gb634, _, none⟩) (by first | exact Nat.ne_of_lt (Nat.lt_of_lt_of_le (by have := World.block_lt_of_cell? _ _ hw638_0; first | rwa [qB] at this | exact this) GW634.out) | (rw [qB]; exact Nat.ne_of_lt (Nat.lt_of_lt_of_le (by have := World.block_lt_of_cell? _ _ hw638_0; first | rwa [qB] at this | exact this) GW634.out)) | (show (Addr.add _ _).block ≠ _; rw [qB]; exact Nat.ne_of_lt (Nat.lt_of_lt_of_le (by have := World.block_lt_of_cell? _ _ hw638_0; first | rwa [qB] at this | exact this) GW634.out)) | (dsimp only; exact Nat.ne_of_lt (Nat.lt_of_lt_of_le (by have := World.block_lt_of_cell? _ _ hw638_0; first | rwa [qB] at this | exact this) GW634.out))) _).trans (((qZ (p := ⟨gb634, _, none⟩) (by first | exact Nat.ne_of_lt (Nat.lt_of_lt_of_le (by have := World.block_lt_of_cell? _ _ hw638_0; first | rwa [qB] at this | exact this) GW634.out) | (rw [qB]; exact Nat.ne_of_lt (Nat.lt_of_lt_of_le (by have := World.block_lt_of_cell? _ _ hw638_0; first | rwa [qB] at this | exact this) GW634.out)) | (show (Addr.add _ _).block ≠ _; rw [qB]; exact Nat.ne_of_lt (Nat.lt_of_lt_of_le (by have := World.block_lt_of_cell? _ _ hw638_0; first | rwa [qB] at this | exact this) GW634.out)) | (dsimp only; exact Nat.ne_of_lt (Nat.lt_of_lt_of_le (by have := World.block_lt_of_cell? _ _ hw638_0; first | rwa [qB] at this | exact this) GW634.out))) _).trans (hHeld.2.2.2.1)))))))))))), ((qZ (p := ⟨gb634, _, none⟩) (by first | exact Nat.ne_of_lt (Nat.lt_of_lt_of_le (by have := World.block_lt_of_cell? _ _ hw639_0; first | rwa [qB] at this | exact this) GW634.out) | (rw [qB]; exact Nat.ne_of_lt (Nat.lt_of_lt_of_le (by have := World.block_lt_of_cell? _ _ hw639_0; first | rwa [qB] at this | exact this) GW634.out)) | (show (Addr.add _ _).block ≠ _; rw [qB]; exact Nat.ne_of_lt (Nat.lt_of_lt_of_le (by have := World.block_lt_of_cell? _ _ hw639_0; first | rwa [qB] at this | exact this) GW634.out)) | (dsimp only; exact Nat.ne_of_lt (Nat.lt_of_lt_of_le (by have := World.block_lt_of_cell? _ _ hw639_0; first | rwa [qB] at this | exact this) GW634.out))) _).trans (((qZ (p := ⟨gb634, _, none⟩) (by first | exact Nat.ne_of_lt (Nat.lt_of_lt_of_le (by have := World.block_lt_of_cell? _ _ hw639_0; first | rwa [qB] at this | exact this) GW634.out) | (rw [qB]; exact Nat.ne_of_lt (Nat.lt_of_lt_of_le (by have := World.block_lt_of_cell? _ _ hw639_0; first | rwa [qB] at this | exact this) GW634.out)) | (show (Addr.add _ _).block ≠ _; rw [qB]; exact Nat.ne_of_lt (Nat.lt_of_lt_of_le (by have := World.block_lt_of_cell? _ _ hw639_0; first | rwa [qB] at this | exact this) GW634.out)) | (dsimp only; exact Nat.ne_of_lt (Nat.lt_of_lt_of_le (by have := World.block_lt_of_cell? _ _ hw639_0; first | rwa [qB] at this | exact this) GW634.out))) _).trans (((qZ (p := ⟨gb634, _, none⟩) (by first | exact Nat.ne_of_lt (Nat.lt_of_lt_of_le (by have := World.block_lt_of_cell? _ _ hw639_0; first | rwa [qB] at this | exact this) GW634.out) | (rw [qB]; exact Nat.ne_of_lt (Nat.lt_of_lt_of_le (by have := World.block_lt_of_cell? _ _ hw639_0; first | rwa [qB] at this | exact this) GW634.out)) | (show (Addr.add _ _).block ≠ _; rw [qB]; exact Nat.ne_of_lt (Nat.lt_of_lt_of_le (by have := World.block_lt_of_cell? _ _ hw639_0; first | rwa [qB] at this | exact this) GW634.out)) | (dsimp only; exact Nat.ne_of_lt (Nat.lt_of_lt_of_le (by have := World.block_lt_of_cell? _ _ hw639_0; first | rwa [qB] at this | exact this) GW634.out))) _).trans (((qZ (p := ⟨gb634, _, none⟩) (by first | exact Nat.ne_of_lt (Nat.lt_of_lt_of_le (by have := World.block_lt_of_cell? _ _ hw639_0; first | rwa [qB] at this | exact this) GW634.out) | (rw [qB]; exact Nat.ne_of_lt (Nat.lt_of_lt_of_le (by have := World.block_lt_of_cell? _ _ hw639_0; first | rwa [qB] at this | exact this) GW634.out)) | (show (Addr.add _ _).block ≠ _; rw [qB]; exact Nat.ne_of_lt (Nat.lt_of_lt_of_le (by have := World.block_lt_of_cell? _ _ hw639_0; first | rwa [qB] at this | exact this) GW634.out)) | (dsimp only; exact Nat.ne_of_lt (Nat.lt_of_lt_of_le (by have := World.block_lt_of_cell? _ _ hw639_0; first | rwa [qB] at this | exact this) GW634.out))) _).trans (((qZ (p := ⟨gb634, _, none⟩) (by first | exact Nat.ne_of_lt (Nat.lt_of_lt_of_le (by have := World.block_lt_of_cell? _ _ hw639_0; first | rwa [qB] at this | exact this) GW634.out) | (rw [qB]; exact Nat.ne_of_lt (Nat.lt_of_lt_of_le (by have := World.block_lt_of_cell? _ _ hw639_0; first | rwa [qB] at this | exact this) GW634.out)) | (show (Addr.add _ _).block ≠ _; rw [qB]; exact Nat.ne_of_lt (Nat.lt_of_lt_of_le (by have := World.block_lt_of_cell? _ _ hw639_0; first | rwa [qB] at this | exact this) GW634.out)) | (dsimp only; exact Nat.ne_of_lt (Nat.lt_of_lt_of_le (by have := World.block_lt_of_cell? _ _ hw639_0; first | rwa [qB] at this | exact this) GW634.out))) _).trans (((qZ (p := ⟨gb634, _, none⟩) (by first | exact Nat.ne_of_lt (Nat.lt_of_lt_of_le (by have := World.block_lt_of_cell? _ _ hw639_0; first | rwa [qB] at this | exact this) GW634.out) | (rw [qB]; exact Nat.ne_of_lt (Nat.lt_of_lt_of_le (by have := World.block_lt_of_cell? _ _ hw639_0; first | rwa [qB] at this | exact this) GW634.out)) | (show (Addr.add _ _).block ≠ _; rw [qB]; exact Nat.ne_of_lt (Nat.lt_of_lt_of_le (by have := World.block_lt_of_cell? _ _ hw639_0; first | rwa [qB] at this | exact this) GW634.out)) | (dsimp only; exact Nat.ne_of_lt (Nat.lt_of_lt_of_le (by have := World.block_lt_of_cell? _ _ hw639_0; first | rwa [qB] at this | exact this) GW634.out))) _).trans (hHeld.2.2.2.2.1)))))))))))), ((qZ (p := ⟨gb634, _, none⟩) (by first | exact Nat.ne_of_lt (Nat.lt_of_lt_of_le (by have := World.block_lt_of_cell? _ _ hw640_0; first | rwa [qB] at this | exact this) GW634.out) | (rw [qB]; exact Nat.ne_of_lt (Nat.lt_of_lt_of_le (by have := World.block_lt_of_cell? _ _ hw640_0; first | rwa [qB] at this | exact this) GW634.out)) | (show (Addr.add _ _).block ≠ _; rw [qB]; exact Nat.ne_of_lt (Nat.lt_of_lt_of_le (by have := World.block_lt_of_cell? _ _ hw640_0; first | rwa [qB] at this | exact this) GW634.out)) | (dsimp only; exact Nat.ne_of_lt (Nat.lt_of_lt_of_le (by have := World.block_lt_of_cell? _ _ hw640_0; first | rwa [qB] at this | exact this) GW634.out))) _).trans (((qZ (p := ⟨gb634, _, none⟩) (by first | exact Nat.ne_of_lt (Nat.lt_of_lt_of_le (by have := World.block_lt_of_cell? _ _ hw640_0; first | rwa [qB] at this | exact this) GW634.out) | (rw [qB]; exact Nat.ne_of_lt (Nat.lt_of_lt_of_le (by have := World.block_lt_of_cell? _ _ hw640_0; first | rwa [qB] at this | exact this) GW634.out)) | (show (Addr.add _ _).block ≠ _; rw [qB]; exact Nat.ne_of_lt (Nat.lt_of_lt_of_le (by have := World.block_lt_of_cell? _ _ hw640_0; first | rwa [qB] at this | exact this) GW634.out)) | (dsimp only; exact Nat.ne_of_lt (Nat.lt_of_lt_of_le (by have := World.block_lt_of_cell? _ _ hw640_0; first | rwa [qB] at this | exact this) GW634.out))) _).trans (((qZ (p := ⟨gb634, _, none⟩) (by first | exact Nat.ne_of_lt (Nat.lt_of_lt_of_le (by have := World.block_lt_of_cell? _ _ hw640_0; first | rwa [qB] at this | exact this) GW634.out) | (rw [qB]; exact Nat.ne_of_lt (Nat.lt_of_lt_of_le (by have := World.block_lt_of_cell? _ _ hw640_0; first | rwa [qB] at this | exact this) GW634.out)) | (show (Addr.add _ _).block ≠ _; rw [qB]; exact Nat.ne_of_lt (Nat.lt_of_lt_of_le (by have := World.block_lt_of_cell? _ _ hw640_0; first | rwa [qB] at this | exact this) GW634.out)) | (dsimp only; exact Nat.ne_of_lt (Nat.lt_of_lt_of_le (by have := World.block_lt_of_cell? _ _ hw640_0; first | rwa [qB] at this | exact this) GW634.out))) _).trans (((qZ (p := ⟨gb634, _, none⟩) (by first | exact Nat.ne_of_lt (Nat.lt_of_lt_of_le (by have := World.block_lt_of_cell? _ _ hw640_0; first | rwa [qB] at this | exact this) GW634.out) | (rw [qB]; exact Nat.ne_of_lt (Nat.lt_of_lt_of_le (by have := World.block_lt_of_cell? _ _ hw640_0; first | rwa [qB] at this | exact this) GW634.out)) | (show (Addr.add _ _).block ≠ _; rw [qB]; exact Nat.ne_of_lt (Nat.lt_of_lt_of_le (by have := World.block_lt_of_cell? _ _ hw640_0; first | rwa [qB] at this | exact this) GW634.out)) | (dsimp only; exact Nat.ne_of_lt (Nat.lt_of_lt_of_le (by have := World.block_lt_of_cell? _ _ hw640_0; first | rwa [qB] at this | exact this) GW634.out))) _).trans (((qZ (p := ⟨gb634, _, none⟩) (by first | exact Nat.ne_of_lt (Nat.lt_of_lt_of_le (by have := World.block_lt_of_cell? _ _ hw640_0; first | rwa [qB] at this | exact this) GW634.out) | (rw [qB]; exact Nat.ne_of_lt (Nat.lt_of_lt_of_le (by have := World.block_lt_of_cell? _ _ hw640_0; first | rwa [qB] at this | exact this) GW634.out)) | (show (Addr.add _ _).block ≠ _; rw [qB]; exact Nat.ne_of_lt (Nat.lt_of_lt_of_le (by have := World.block_lt_of_cell? _ _ hw640_0; first | rwa [qB] at this | exact this) GW634.out)) | (dsimp only; exact Nat.ne_of_lt (Nat.lt_of_lt_of_le (by have := World.block_lt_of_cell? _ _ hw640_0; first | rwa [qB] at this | exact this) GW634.out))) _).trans (((qZ (p := ⟨gb634, _, none⟩) (by first | exact Nat.ne_of_lt (Nat.lt_of_lt_of_le (by have := World.block_lt_of_cell? _ _ hw640_0; first | rwa [qB] at this | exact this) GW634.out) | (rw [qB]; exact Nat.ne_of_lt (Nat.lt_of_lt_of_le (by have := World.block_lt_of_cell? _ _ hw640_0; first | rwa [qB] at this | exact this) GW634.out)) | (show (Addr.add _ _).block ≠ _; rw [qB]; exact Nat.ne_of_lt (Nat.lt_of_lt_of_le (by have := World.block_lt_of_cell? _ _ hw640_0; first | rwa [qB] at this | exact this) GW634.out)) | (dsimp only; exact Nat.ne_of_lt (Nat.lt_of_lt_of_le (by have := World.block_lt_of_cell? _ _ hw640_0; first | rwa [qB] at this | exact this) GW634.out))) _).trans (hHeld.2.2.2.2.2))))))))))))⟩ (fun hHeld => ?_)
       clear hK K
       refine done_ (qDB HT_.out (by kernel_rfl)) ?_
       try go_wp2
       refine bodyPost_ret (results_cell_row rfl _ _ gb634 31 #[.int .i64 (rd l0 0), .int .i64 (rd l0 1), .int .i64 (rd l0 2), .int .i64 (rd l0 3), .int .i64 (rd l0 4), .int .i64 (rd l0 5)] (0, 0) _ rfl (by (with_reducible repeat (first | refine qD ?_ _ | refine qE ?_ | refine qC ?_ _)); refine qO (cs := #[.int .i64 (rd l0 0), .int .i64 (rd l0 1), .int .i64 (rd l0 2), .int .i64 (rd l0 3), .int .i64 (rd l0 4), .int .i64 0]) ?_ 5 _ rfl; (with_reducible repeat (first | refine qD ?_ _ | refine qE ?_ | refine qC ?_ _)); refine qO (cs := #[.int .i64 (rd l0 0), .int .i64 (rd l0 1), .int .i64 (rd l0 2), .int .i64 (rd l0 3), .int .i64 0, .int .i64 0]) ?_ 4 _ rfl; (with_reducible repeat (first | refine qD ?_ _ | refine qE ?_ | refine qC ?_ _)); refine qO (cs := #[.int .i64 (rd l0 0), .int .i64 (rd l0 1), .int .i64 (rd l0 2), .int .i64 0, .int .i64 0, .int .i64 0]) ?_ 3 _ rfl; (with_reducible repeat (first | refine qD ?_ _ | refine qE ?_ | refine qC ?_ _)); refine qO (cs := #[.int .i64 (rd l0 0), .int .i64 (rd l0 1), .int .i64 0, .int .i64 0, .int .i64 0, .int .i64 0]) ?_ 2 _ rfl; (with_reducible repeat (first | refine qD ?_ _ | refine qE ?_ | refine qC ?_ _)); refine qO (cs := #[.int .i64 (rd l0 0), .int .i64 0, .int .i64 0, .int .i64 0, .int .i64 0, .int .i64 0]) ?_ 1 _ rfl; (with_reducible repeat (first | refine qD ?_ _ | refine qE ?_ | refine qC ?_ _)); refine qO (cs := #[.int .i64 0, .int .i64 0, .int .i64 0, .int .i64 0, .int .i64 0, .int .i64 0]) ?_ 0 _ rfl; (with_reducible repeat (first | refine qD ?_ _ | refine qE ?_ | refine qC ?_ _)); exact BK634.out) Tryd.underlying31 rfl (by kernel_rfl)) rfl ?_
       exact ⟨by first | rfl | (simp [qN, qM] <;> rfl) | (simp [*, qN, qM] <;> rfl), bl⟩
      ·rw [if_neg c7] at H
       exact absurd H (by simp)
     ·rw [if_neg c6] at H
      exact absurd H (by simp)
    ·rw [if_neg c5] at H
     exact absurd H (by simp)
   ·rw [if_neg c4] at H
    exact absurd H (by simp)
  ·rw [if_neg c3] at H
   exact absurd H (by simp)
 ·rw [if_neg c2] at H
  exact absurd H (by simp)
def qh.l0 : Nat → List Int → List Int → List Int → Int → Int → Option (Int × Int × Int × Int × Int × Int × Bool)
 | 0, _, _, _, _, _ => none
 | k + 1, x16, x24, x26, x28, x29 => if x29 < x28 then (if 0 ≤ x29 then (if x29 < (x24.length : Int) then (if x29 < (x16.length : Int) then (if 0 ≤ (rd x24 x29) then (if (rd x24 x29) < (x26.length : Int) then (qh.l0 k x16 x24 (x26.set ((rd x24 x29) : Int).toNat (rd x16 x29)) x28 (wrap64 (x29 + 1))) else (none)) else (none)) else (none)) else (none)) else (none)) else ((qdA.f x26).bind fun bt661 => (some (bt661.1, bt661.2.1, bt661.2.2.1, bt661.2.2.2.1, bt661.2.2.2.2.1, bt661.2.2.2.2.2, true)))
def qh.f (k : Nat) (a0 : ByteArray) : Option (Int × Int × Int × Int × Int × Int × Bool) := (qdB.f k a0).bind fun bt642 => (if bt642.2.2 = true then ((qI.f k bt642.1).bind fun bt649 => (if 6 ≤ 35184372088832 then (qh.l0 k bt642.2.1 bt649.1 (List.replicate 6 0) (bt649.1.length : Int) 0) else (none))) else (some (0, 0, 0, 0, 0, 0, false)))
set_option maxHeartbeats 8000000 in
set_option maxRecDepth 100000 in
theorem qh.calls (k : Nat) (a0 : ByteArray) (r1 : Int) (r2 : Int) (r3 : Int) (r4 : Int) (r5 : Int) (r6 : Int) (r7 : Bool) (w : World) (hL : Laid w) (h : qh.f k a0 = some (r1, r2, r3, r4, r5, r6, r7)) :
  Calls Tryd.prog 41 #[.string a0] w fun e w' => e = .returned (.tuple #[.agg #[.int .i64 r1, .int .i64 r2, .int .i64 r3, .int .i64 r4, .int .i64 r5, .int .i64 r6], .bool r7]) ∧ Below w.heap.size w w' := by
 have hu31 := Tryd.underlying31
 have HLD := Aside0.mk hL
 clear hL
 have HB := Aside0.mk (Below.refl w.heap.size w)
 have H : ((qdB.f k a0).bind fun bt642 => (if bt642.2.2 = true then ((qI.f k bt642.1).bind fun bt649 => (if 6 ≤ 35184372088832 then (qh.l0 k bt642.2.1 bt649.1 (List.replicate 6 0) (bt649.1.length : Int) 0) else (none))) else (some (0, 0, 0, 0, 0, 0, false)))) = some (r1, r2, r3, r4, r5, r6, r7) := h
 clear h
 replace H := Option.bind_eq_some_iff.mp H
 obtain ⟨⟨t642, t643, t644⟩, A20, H⟩ := H
 replace H : (if t644 = true then ((qI.f k t642).bind fun bt649 => (if 6 ≤ 35184372088832 then (qh.l0 k t643 bt649.1 (List.replicate 6 0) (bt649.1.length : Int) 0) else (none))) else (some (0, 0, 0, 0, 0, 0, false))) = some (r1, r2, r3, r4, r5, r6, r7) := H
 have A2 := Aside0.mk A20
 clear A20
 by_cases c3 : t644 = true
 ·subst c3
  have H1 : ((qI.f k t642).bind fun bt649 => (if 6 ≤ 35184372088832 then (qh.l0 k t643 bt649.1 (List.replicate 6 0) (bt649.1.length : Int) 0) else (none))) = some (r1, r2, r3, r4, r5, r6, r7) := by rw [if_pos rfl] at H; exact H
  clear H
  have H := H1
  clear H1
  replace H := Option.bind_eq_some_iff.mp H
  obtain ⟨⟨t649, t650⟩, A40, H⟩ := H
  replace H : (if 6 ≤ 35184372088832 then (qh.l0 k t643 t649 (List.replicate 6 0) (t649.length : Int) 0) else (none)) = some (r1, r2, r3, r4, r5, r6, r7) := H
  have A4 := Aside0.mk A40
  clear A40
  by_cases c5 : 6 ≤ 35184372088832
  ·rw [if_pos c5] at H
   have c5b0 := eq_true c5
   have c5b1 : decide (6 ≤ 35184372088832) = true := decide_eq_true c5
   clear c5
   obtain ⟨y655, hy655⟩ : ∃ y_ : List Int, y_ = (List.replicate 6 0) := ⟨_, rfl⟩
   replace H : (qh.l0 k t643 t649 y655 (t649.length : Int) 0) = some (r1, r2, r3, r4, r5, r6, r7) := by first | (rw [hy655]; with_reducible exact H) | (have H2_ := (Option.bind_some _ _).symm.trans H; rw [hy655]; with_reducible exact H2_) | (have H2_ := (Option.bind_some _ _).symm.trans H; with_reducible exact H2_) | with_reducible exact H | (rw [hy655]; exact H) | exact H
   have Ny655 := Aside0.mk hy655
   clear hy655
   have H' := Aside0.mk H
   clear H
   go_enter Tryd.func41, Tryd.ntmps41
   go_wp2_with (first | ((with_reducible refine qX (N := 2) rfl ?_); refine qW ?hg (N := 2) ?hd (cs := #[.int .i64 0, .int .i64 0, .int .i64 0, .int .i64 0, .int .i64 0, .int .i64 0]) (t := 31) ?hr ?_; (case hd => rfl); (case hg => rfl); (case hr => first | (go_simp; done) | (go_simp; rfl)); intro gb641 hg w6 hbox hb; have n0_ := Aside0.mk (qJ bl hb); have n1_ := Aside0.mk (hbox); have n2_ := Aside0.mk ((gg hg)); have n3_ := Aside0.mk ((gg hg)); clear HB; have HB := n0_; have BK641 := n1_; have GW641 := n2_; have GE641 := n3_; clear n0_ n1_ n2_ n3_; clear hb hbox hg) | ((with_reducible refine qa (f := 35) rfl ?_); refine qQA (some 14) rfl rfl Tryd.func35 (by kernel_rfl) rfl #[.string a0] rfl (by (try simp only [List.map_toArray, List.map_cons, List.map_nil]); first | done | rfl | (simp only [List.length_drop, List.length_take]; rfl)) ?_; (with_reducible refine (qdB.calls k a0 t642 t643 true _ ?side1 A2.out).mono ?_); (case side1 => first | (with_reducible exact HLD.out) | exact Laid.below HLD.out bl); rintro e w7 ⟨v645, v647, rfl, ho0, ho1, hb⟩; refine ⟨_, rfl, ?_⟩; have n0_ := Aside0.mk (Kd.qEA ho0 (qb bl)); have n1_ := Aside0.mk (Kd.qEA ho1 (qb bl)); have n2_ := Aside0.mk (bb BK641 hb); have n3_ := Aside0.mk (qJ bl hb); clear BK641; clear HB; have HO646 := n0_; have HO648 := n1_; have BK641 := n2_; have HB := n3_; clear n0_ n1_ n2_ n3_; (try clear hb); (try clear hb2); (try clear hk); (try clear hi); (try clear ho0); (try clear ho1); obtain ⟨Ao8, co8, eo8⟩ := Kd.qr HO646.out; subst eo8) | ((with_reducible refine qa (f := 38) rfl ?_); refine qQA (some 23) rfl rfl Tryd.func38 (by kernel_rfl) rfl #[.slice Ao8 t642.length co8] rfl (by (try simp only [List.map_toArray, List.map_cons, List.map_nil]); first | done | rfl | (simp only [List.length_drop, List.length_take]; rfl)) ?_; (with_reducible refine (qI.calls k _ _ t642 t649 t650 _ ?side1 ?side2 A4.out).mono ?_); (case side1 => repeat (first | exact (Kd.qS HO646.out).2.2 | (with_reducible refine Kd.qZA ?_ _) | (with_reducible refine Kd.qYA ?_ _) | (with_reducible refine Kd.qpA ?_))); (case side2 => exact (Kd.qS HO646.out).2.1); rintro e w9 ⟨v651, v653, rfl, ho0, ho1, hb⟩; refine ⟨_, rfl, ?_⟩; have n0_ := Aside0.mk (Kd.qU (by (with_reducible repeat (first | apply Kd.qF | apply Kd.qG | apply Kd.qH)); exact HO646.out) hb); have n1_ := Aside0.mk (Kd.qd (Kd.R_told (Kd.R_told (Kd.R_old (by (with_reducible repeat (first | apply Kd.qF | apply Kd.qG | apply Kd.qH)); exact HO648.out) hb) (Kd.qLB ho0)) (Kd.qLB ho1)) (fun _ h_ => h_.1)); have n2_ := Aside0.mk (Kd.qEA (Kd.qKB ho0 (Kd.R_lt (by (with_reducible repeat (first | apply Kd.qF | apply Kd.qG | apply Kd.qH)); exact HO648.out))) (qb bl)); have n3_ := Aside0.mk (Kd.qEA (Kd.qKB ho1 (Kd.R_lt (by (with_reducible repeat (first | apply Kd.qF | apply Kd.qG | apply Kd.qH)); exact HO648.out))) (qb bl)); have n4_ := Aside0.mk (bb BK641 hb); have n5_ := Aside0.mk (qJ bl hb); clear HO646; clear HO648; clear BK641; clear HB; have HO646 := n0_; have HO648 := n1_; have HO652 := n2_; have HO654 := n3_; have BK641 := n4_; have HB := n5_; clear n0_ n1_ n2_ n3_ n4_ n5_; (try clear hb); (try clear hb2); (try clear hk); (try clear hi); (try clear ho0); (try clear ho1)) | ((with_reducible refine qX (N := 26) rfl ?_); refine Kd.qBD (Kd.int .i64) _ 3 rfl (N := 26) rfl 25 _ _ rfl 6 rfl rfl Tryd.underlying25 (.int .i64 0) 8 info3 rfl (by decide) (by omega) 0 (ok := fun _ => True) (okp := fun _ => True) rfl (fun _ hk => hk) trivial (by omega) (by omega) (Below.refl _ _) (Nat.le_refl _) ?_; intro v656 w10 ho11 hb hg_ hnew_; clear hg_ hnew_; (first | rw [← Ny655.out] at ho11 | (simp only [Int.reduceToNat] at ho11; rw [← Ny655.out] at ho11)); have n0_ := Aside0.mk (Kd.qU (by (with_reducible repeat (first | apply Kd.qF | apply Kd.qG | apply Kd.qH)); exact HO646.out) hb); have n1_ := Aside0.mk (Kd.qmA (by (with_reducible repeat (first | apply Kd.qF | apply Kd.qG | apply Kd.qH)); exact HO648.out) (Kd.qLB ho11) hb); have n2_ := Aside0.mk (Kd.qmA (by (with_reducible repeat (first | apply Kd.qF | apply Kd.qG | apply Kd.qH)); exact HO652.out) (Kd.qLB ho11) hb); have n3_ := Aside0.mk (Kd.qmA (by (with_reducible repeat (first | apply Kd.qF | apply Kd.qG | apply Kd.qH)); exact HO654.out) (Kd.qLB ho11) hb); have n4_ := Aside0.mk (Kd.qEA (Kd.qKB (Kd.qKB (Kd.qKB ho11 (Kd.R_lt (by (with_reducible repeat (first | apply Kd.qF | apply Kd.qG | apply Kd.qH)); exact HO648.out))) (Kd.R_lt (by (with_reducible repeat (first | apply Kd.qF | apply Kd.qG | apply Kd.qH)); exact HO652.out))) (Kd.R_lt (by (with_reducible repeat (first | apply Kd.qF | apply Kd.qG | apply Kd.qH)); exact HO654.out))) (qb bl)); have n5_ := Aside0.mk (bb BK641 hb); have n6_ := Aside0.mk (qJ bl hb); clear HO646; clear HO648; clear HO652; clear HO654; clear BK641; clear HB; have HO646 := n0_; have HO648 := n1_; have HO652 := n2_; have HO654 := n3_; have HO657 := n4_; have BK641 := n5_; have HB := n6_; clear n0_ n1_ n2_ n3_ n4_ n5_ n6_; clear hb ho11; obtain ⟨Ao12, co12, eo12⟩ := Kd.qr HO652.out; subst eo12))
   go_loopg [29] k (fun kq v29 w' => ∃ (x26_1 : List Int) (x29_1 : Int), v29 = .int .i64 x29_1 ∧ Aside0 (qh.l0 kq t643 t649 x26_1 (t649.length : Int) x29_1 = some (r1, r2, r3, r4, r5, r6, r7)) ∧ Aside0 (kq ≤ k) ∧ Aside0 (Kd.R (Kd.int .i64) 3 w' w.heap.size (fun k_ => some k_ ≠ ((.slice Ao12 t649.length co12) : Value).ownBlock ∧ some k_ ≠ (v656 : Value).ownBlock) v647 t643) ∧ Aside0 (Kd.R (Kd.int .i64) 3 w' w.heap.size (fun k_ => some k_ ≠ (v647 : Value).ownBlock ∧ some k_ ≠ (v656 : Value).ownBlock) (.slice Ao12 t649.length co12) t649) ∧ Aside0 (Kd.R (Kd.int .i64) 3 w' w.heap.size (fun k_ => some k_ ≠ (v647 : Value).ownBlock ∧ some k_ ≠ ((.slice Ao12 t649.length co12) : Value).ownBlock) v656 x26_1) ∧ Aside0 (w'.heap[gb641]? = some (.cells #[.int .i64 0, .int .i64 0, .int .i64 0, .int .i64 0, .int .i64 0, .int .i64 0] 31 (0, 0))) ∧ Aside0 (Below w.heap.size w w'))
   case atStart => exact ⟨(y655), (0), (by first | rfl | (simp; done) | (simp [*]; done)), H', ⟨Nat.le_refl _⟩, ⟨by (with_reducible repeat (first | apply Kd.qF | apply Kd.qG | apply Kd.qH)); exact Kd.qd HO648.out (fun _ hk => ⟨hk.1.1.2, hk.2⟩)⟩, ⟨by (with_reducible repeat (first | apply Kd.qF | apply Kd.qG | apply Kd.qH)); exact Kd.qd HO652.out (fun _ hk => ⟨hk.1.2, hk.2⟩)⟩, ⟨by (with_reducible repeat (first | apply Kd.qF | apply Kd.qG | apply Kd.qH)); exact Kd.qd HO657.out (fun _ hk => ⟨hk.1.1.2, hk.1.2⟩)⟩, ⟨by (with_reducible repeat (first | refine qD ?_ _ | refine qE ?_ | refine qC ?_ _)); exact BK641.out⟩, ⟨bl⟩⟩
   case round =>
    clear H'
    try clear p2
    try clear c3
    try clear c4
    try clear c5
    try clear c5b0
    try clear c5b1
    obtain ⟨x26_1, x29_1, rfl, HA, HK1, HO_16, HO_24, HO_26, BK641, HB⟩ := hrel
    cases gk with
    | zero => exact absurd HA.out (by simp [qh.l0])
    | succ k1 =>
     have H := HA.out
     clear HA
     simp only [qh.l0] at H
     by_cases c13 : x29_1 < (t649.length : Int)
     ·rw [if_pos c13] at H
      have c13b0 : decide (x29_1 < (t649.length : Int)) = true := decide_eq_true c13
      clear c13
      by_cases c14 : 0 ≤ x29_1
      ·rw [if_pos c14] at H
       have c14b0 : decide (0 ≤ x29_1) = true := decide_eq_true c14
       clear c14
       by_cases c15 : x29_1 < (t649.length : Int)
       ·rw [if_pos c15] at H
        have c15b0 : decide (x29_1 < (t649.length : Int)) = true := decide_eq_true c15
        clear c15
        by_cases c16 : x29_1 < (t643.length : Int)
        ·rw [if_pos c16] at H
         have c16b0 : decide (x29_1 < (t643.length : Int)) = true := decide_eq_true c16
         clear c16
         by_cases c17 : 0 ≤ (rd t649 x29_1)
         ·rw [if_pos c17] at H
          have c17b0 : decide (0 ≤ (rd t649 x29_1)) = true := decide_eq_true c17
          clear c17
          by_cases c18 : (rd t649 x29_1) < (x26_1.length : Int)
          ·rw [if_pos c18] at H
           have c18b0 : decide ((rd t649 x29_1) < (x26_1.length : Int)) = true := decide_eq_true c18
           clear c18
           obtain ⟨y660, hy660⟩ : ∃ y_ : List Int, y_ = (x26_1.set ((rd t649 x29_1) : Int).toNat (rd t643 x29_1)) := ⟨_, rfl⟩
           replace H : (qh.l0 k1 t643 t649 y660 (t649.length : Int) (wrap64 (x29_1 + 1))) = some (r1, r2, r3, r4, r5, r6, r7) := by first | (rw [hy660]; with_reducible exact H) | (have H2_ := (Option.bind_some _ _).symm.trans H; rw [hy660]; with_reducible exact H2_) | (have H2_ := (Option.bind_some _ _).symm.trans H; with_reducible exact H2_) | with_reducible exact H | (rw [hy660]; exact H) | exact H
           have Ny660 := Aside0.mk hy660
           clear hy660
           have H' := Aside0.mk H
           clear H
           have p658 : 0 ≤ (x29_1 : Int) := of_decide_eq_true (by first | (with_reducible assumption) | assumption)
           have q658 : x29_1 < (t649.length : Int) := of_decide_eq_true (by first | (with_reducible assumption) | assumption)
           obtain ⟨ad658, e658, hx658_0⟩ := Kd.qGA (Kd.qS HO_24.out).2.2 x29_1 p658 q658
           cases e658
           replace p658 := eq_true p658
           replace q658 := eq_true q658
           obtain ⟨Ao20, co20, eo20⟩ := Kd.qr HO_16.out
           subst eo20
           have p659 : 0 ≤ (x29_1 : Int) := of_decide_eq_true (by first | (with_reducible assumption) | assumption)
           have q659 : x29_1 < (t643.length : Int) := of_decide_eq_true (by first | (with_reducible assumption) | assumption)
           obtain ⟨ad659, e659, hx659_0⟩ := Kd.qGA (Kd.qS HO_16.out).2.2 x29_1 p659 q659
           cases e659
           replace p659 := eq_true p659
           replace q659 := eq_true q659
           have p19 : 0 ≤ ((rd t649 x29_1) : Int) := of_decide_eq_true (by first | (with_reducible assumption) | assumption)
           have q19 : ((rd t649 x29_1) : Int) < ((x26_1.length : Int) : Int) := of_decide_eq_true (by first | (with_reducible assumption) | assumption)
           obtain ⟨go19, co19, eo19, gb19, gl19, cl19, HG19⟩ := Kd.qtB HO_26.out (by omega)
           (first | cases eo19 | (injection eo19 with ea_ en_ ec_; (first | subst ea_ | (injection ea_ with ea_; subst ea_)); subst ec_; clear en_))
           have GB19 := Aside0.mk gb19
           have GG19 := Aside0.mk HG19
           clear gb19 gl19 HG19
           obtain ⟨hx19_0, hf19_0⟩ := Kd.quA 0 HO_26.out ((rd t649 x29_1) : Int) p19 q19
           replace p19 := eq_true p19
           replace q19 := eq_true q19
           have HP21 := Kd.qsB HO_26.out ((rd t649 x29_1) : Int) (rd t643 x29_1)
           go_wp2_with (first | ((with_reducible refine qiA (t := 3) (p := 40) rfl ?_); refine qcA (t := 3) (p := 40) (v := ?vo_w22) (w1 := (wr.setCell ⟨go19, ((rd t649 x29_1) : Int).toNat, none⟩ (.int .i64 (rd t643 x29_1)))) ?hg ?ho ?hn ?hr ?_; (case ho => rfl); (case hg => rfl); (case hn => rfl); (case hr => first | (go_simp; done) | (go_simp; rfl)); intro w22 hw; have hg : wr.grownBy w22 (some go19) := (by rw [hw]; exact HP21.2); have hp_ : Kd.R (Kd.int .i64) 3 w22 w.heap.size (fun k_ => some k_ ≠ (.slice (some ad659) t643.length co20 : Value).ownBlock ∧ some k_ ≠ (.slice (some ad658) t649.length co12 : Value).ownBlock) (.slice (some ⟨go19, 0, none⟩) x26_1.length co19) y660 := (by rw [hw, Ny660.out]; exact HP21.1); clear HP21; have n0_ := Aside0.mk (Kd.qxA (v := (.slice (some ⟨go19, 0, none⟩) x26_1.length co19)) (v1 := (.slice (some ⟨go19, 0, none⟩) x26_1.length co19)) (ok := (fun k_ => some k_ ≠ (.slice (some ad658) t649.length co12 : Value).ownBlock)) (by (with_reducible repeat (first | apply Kd.qF | apply Kd.qG | apply Kd.qH)); exact HO_16.out) hg (.inl rfl)); have n1_ := Aside0.mk (Kd.qxA (v := (.slice (some ⟨go19, 0, none⟩) x26_1.length co19)) (v1 := (.slice (some ⟨go19, 0, none⟩) x26_1.length co19)) (ok := (fun k_ => some k_ ≠ (.slice (some ad659) t643.length co20 : Value).ownBlock)) (by (with_reducible repeat (first | apply Kd.qF | apply Kd.qG | apply Kd.qH)); exact HO_24.out) hg (.inl rfl)); have n2_ := Aside0.mk (hp_); have n3_ := Aside0.mk (qfA (g := gb641) (o := .cells #[.int .i64 0, .int .i64 0, .int .i64 0, .int .i64 0, .int .i64 0, .int .i64 0] 31 (0, 0)) (by (with_reducible repeat (first | refine qD ?_ _ | refine qE ?_ | refine qC ?_ _)); exact BK641.out) hg (Kd.R_ne HO_26.out BK641.out (by decide))); have n4_ := Aside0.mk ((by rw [hw]; exact ql (HB.out) GB19.out : Below w.heap.size w w22)); clear HO_16; clear HO_24; clear HO_26; clear BK641; clear HB; have HO_16 := n0_; have HO_24 := n1_; have HO_26 := n2_; have BK641 := n3_; have HB := n4_; clear n0_ n1_ n2_ n3_ n4_; clear hg hw hp_))
           go_roundg k1
           case measure => have := HK1.out; omega
           case rel => exact ⟨(y660), (wrap64 (x29_1 + 1)), (by first | rfl | (simp; done) | (simp [*]; done)), H', ⟨by have := HK1.out; omega⟩, ⟨by (with_reducible repeat (first | apply Kd.qF | apply Kd.qG | apply Kd.qH)); exact HO_16.out⟩, ⟨by (with_reducible repeat (first | apply Kd.qF | apply Kd.qG | apply Kd.qH)); exact HO_24.out⟩, ⟨by (with_reducible repeat (first | apply Kd.qF | apply Kd.qG | apply Kd.qH)); exact HO_26.out⟩, ⟨by (with_reducible repeat (first | refine qD ?_ _ | refine qE ?_ | refine qC ?_ _)); exact BK641.out⟩, ⟨bl⟩⟩
          ·rw [if_neg c18] at H
           exact absurd H (by simp)
         ·rw [if_neg c17] at H
          exact absurd H (by simp)
        ·rw [if_neg c16] at H
         exact absurd H (by simp)
       ·rw [if_neg c15] at H
        exact absurd H (by simp)
      ·rw [if_neg c14] at H
       exact absurd H (by simp)
     ·rw [if_neg c13] at H
      have c13b0 : decide (x29_1 < (t649.length : Int)) = false := decide_eq_false c13
      clear c13
      replace H := Option.bind_eq_some_iff.mp H
      obtain ⟨⟨t661, t662, t663, t664, t665, t666⟩, A230, H⟩ := H
      replace H : (some (t661, t662, t663, t664, t665, t666, true)) = some (r1, r2, r3, r4, r5, r6, r7) := H
      have A23 := Aside0.mk A230
      clear A230
      simp only [Option.some.injEq, Prod.mk.injEq] at H
      obtain ⟨rfl, rfl, rfl, rfl, rfl, rfl, rfl⟩ := H
      obtain ⟨Ao24, co24, eo24⟩ := Kd.qr HO_26.out
      subst eo24
      go_wp2_with (first | ((with_reducible refine qa (f := 57) rfl ?_); refine qQA (some 43) rfl rfl Tryd.func57 (by kernel_rfl) rfl #[.slice Ao24 x26_1.length co24] rfl (by (try simp only [List.map_toArray, List.map_cons, List.map_nil]); first | done | rfl | (simp only [List.length_drop, List.length_take]; rfl)) ?_; (with_reducible refine (qdA.calls _ _ x26_1 t661 t662 t663 t664 t665 t666 _ ?side1 ?side2 A23.out).mono ?_); (case side1 => repeat (first | exact (Kd.qS HO_26.out).2.2 | (with_reducible refine Kd.qZA ?_ _) | (with_reducible refine Kd.qYA ?_ _) | (with_reducible refine Kd.qpA ?_))); (case side2 => exact (Kd.qS HO_26.out).2.1); rintro e w25 ⟨rfl, hb⟩; refine ⟨_, rfl, ?_⟩; have n0_ := Aside0.mk (Kd.qU (by (with_reducible repeat (first | apply Kd.qF | apply Kd.qG | apply Kd.qH)); exact HO_16.out) hb); have n1_ := Aside0.mk (Kd.qU (by (with_reducible repeat (first | apply Kd.qF | apply Kd.qG | apply Kd.qH)); exact HO_24.out) hb); have n2_ := Aside0.mk (Kd.qU (by (with_reducible repeat (first | apply Kd.qF | apply Kd.qG | apply Kd.qH)); exact HO_26.out) hb); have n3_ := Aside0.mk (bb BK641 hb); have n4_ := Aside0.mk (qJ bl hb); clear HO_16; clear HO_24; clear HO_26; clear BK641; clear HB; have HO_16 := n0_; have HO_24 := n1_; have HO_26 := n2_; have BK641 := n3_; have HB := n4_; clear n0_ n1_ n2_ n3_ n4_; (try clear hb); (try clear hb2); (try clear hk); (try clear hi); have hcz26_0 := bc BK641 0; have hcz26_1 := bc BK641 1; have hcz26_2 := bc BK641 2; have hcz26_3 := bc BK641 3; have hcz26_4 := bc BK641 4; have hcz26_5 := bc BK641 5; have hfz26_0 := qA BK641.out 0; have hfz26_1 := qA BK641.out 1; have hfz26_2 := qA BK641.out 2; have hfz26_3 := qA BK641.out 3; have hfz26_4 := qA BK641.out 4; have hfz26_5 := qA BK641.out 5))
      refine bodyPost_ret (qHB rfl _ _ gb641 31 #[.int .i64 t661, .int .i64 t662, .int .i64 t663, .int .i64 t664, .int .i64 t665, .int .i64 t666] (0, 0) _ rfl (by (with_reducible repeat (first | refine qD ?_ _ | refine qE ?_ | refine qC ?_ _)); refine qO (cs := #[.int .i64 t661, .int .i64 t662, .int .i64 t663, .int .i64 t664, .int .i64 t665, .int .i64 0]) ?_ 5 _ rfl; (with_reducible repeat (first | refine qD ?_ _ | refine qE ?_ | refine qC ?_ _)); refine qO (cs := #[.int .i64 t661, .int .i64 t662, .int .i64 t663, .int .i64 t664, .int .i64 0, .int .i64 0]) ?_ 4 _ rfl; (with_reducible repeat (first | refine qD ?_ _ | refine qE ?_ | refine qC ?_ _)); refine qO (cs := #[.int .i64 t661, .int .i64 t662, .int .i64 t663, .int .i64 0, .int .i64 0, .int .i64 0]) ?_ 3 _ rfl; (with_reducible repeat (first | refine qD ?_ _ | refine qE ?_ | refine qC ?_ _)); refine qO (cs := #[.int .i64 t661, .int .i64 t662, .int .i64 0, .int .i64 0, .int .i64 0, .int .i64 0]) ?_ 2 _ rfl; (with_reducible repeat (first | refine qD ?_ _ | refine qE ?_ | refine qC ?_ _)); refine qO (cs := #[.int .i64 t661, .int .i64 0, .int .i64 0, .int .i64 0, .int .i64 0, .int .i64 0]) ?_ 1 _ rfl; (with_reducible repeat (first | refine qD ?_ _ | refine qE ?_ | refine qC ?_ _)); refine qO (cs := #[.int .i64 0, .int .i64 0, .int .i64 0, .int .i64 0, .int .i64 0, .int .i64 0]) ?_ 0 _ rfl; (with_reducible repeat (first | refine qD ?_ _ | refine qE ?_ | refine qC ?_ _)); exact BK641.out) Tryd.underlying31 rfl (by kernel_rfl)) rfl ?_
      exact ⟨by first | rfl | (simp [qN, qM] <;> rfl) | (simp [*, qN, qM] <;> rfl), bl⟩
  ·rw [if_neg c5] at H
   exact absurd H (by simp)
 ·replace c3 := Bool.eq_false_iff.mpr c3
  subst c3
  have H1 : (some (0, 0, 0, 0, 0, 0, false)) = some (r1, r2, r3, r4, r5, r6, r7) := by rw [if_neg (show ¬ (false = true) by decide)] at H; exact H
  clear H
  have H := H1
  clear H1
  simp only [Option.some.injEq, Prod.mk.injEq] at H
  obtain ⟨rfl, rfl, rfl, rfl, rfl, rfl, rfl⟩ := H
  go_enter Tryd.func41, Tryd.ntmps41
  go_wp2_with (first | ((with_reducible refine qX (N := 2) rfl ?_); refine qW ?hg (N := 2) ?hd (cs := #[.int .i64 0, .int .i64 0, .int .i64 0, .int .i64 0, .int .i64 0, .int .i64 0]) (t := 31) ?hr ?_; (case hd => rfl); (case hg => rfl); (case hr => first | (go_simp; done) | (go_simp; rfl)); intro gb641 hg w27 hbox hb; have n0_ := Aside0.mk (qJ bl hb); have n1_ := Aside0.mk (hbox); have n2_ := Aside0.mk ((gg hg)); have n3_ := Aside0.mk ((gg hg)); clear HB; have HB := n0_; have BK641 := n1_; have GW641 := n2_; have GE641 := n3_; clear n0_ n1_ n2_ n3_; clear hb hbox hg) | ((with_reducible refine qa (f := 35) rfl ?_); refine qQA (some 14) rfl rfl Tryd.func35 (by kernel_rfl) rfl #[.string a0] rfl (by (try simp only [List.map_toArray, List.map_cons, List.map_nil]); first | done | rfl | (simp only [List.length_drop, List.length_take]; rfl)) ?_; (with_reducible refine (qdB.calls k a0 t642 t643 false _ ?side1 A2.out).mono ?_); (case side1 => first | (with_reducible exact HLD.out) | exact Laid.below HLD.out bl); rintro e w28 ⟨v645, v647, rfl, ho0, ho1, hb⟩; refine ⟨_, rfl, ?_⟩; have n0_ := Aside0.mk (Kd.qEA ho0 (qb bl)); have n1_ := Aside0.mk (Kd.qEA ho1 (qb bl)); have n2_ := Aside0.mk (bb BK641 hb); have n3_ := Aside0.mk (qJ bl hb); clear BK641; clear HB; have HO646 := n0_; have HO648 := n1_; have BK641 := n2_; have HB := n3_; clear n0_ n1_ n2_ n3_; (try clear hb); (try clear hb2); (try clear hk); (try clear hi); (try clear ho0); (try clear ho1); have hcz29_0 := bc BK641 0; have hcz29_1 := bc BK641 1; have hcz29_2 := bc BK641 2; have hcz29_3 := bc BK641 3; have hcz29_4 := bc BK641 4; have hcz29_5 := bc BK641 5; have hfz29_0 := qA BK641.out 0; have hfz29_1 := qA BK641.out 1; have hfz29_2 := qA BK641.out 2; have hfz29_3 := qA BK641.out 3; have hfz29_4 := qA BK641.out 4; have hfz29_5 := qA BK641.out 5))
  refine bodyPost_ret (qHB rfl _ _ gb641 31 #[.int .i64 0, .int .i64 0, .int .i64 0, .int .i64 0, .int .i64 0, .int .i64 0] (0, 0) _ rfl (by (with_reducible repeat (first | refine qD ?_ _ | refine qE ?_ | refine qC ?_ _)); refine qO (cs := #[.int .i64 0, .int .i64 0, .int .i64 0, .int .i64 0, .int .i64 0, .int .i64 0]) ?_ 5 _ rfl; (with_reducible repeat (first | refine qD ?_ _ | refine qE ?_ | refine qC ?_ _)); refine qO (cs := #[.int .i64 0, .int .i64 0, .int .i64 0, .int .i64 0, .int .i64 0, .int .i64 0]) ?_ 4 _ rfl; (with_reducible repeat (first | refine qD ?_ _ | refine qE ?_ | refine qC ?_ _)); refine qO (cs := #[.int .i64 0, .int .i64 0, .int .i64 0, .int .i64 0, .int .i64 0, .int .i64 0]) ?_ 3 _ rfl; (with_reducible repeat (first | refine qD ?_ _ | refine qE ?_ | refine qC ?_ _)); refine qO (cs := #[.int .i64 0, .int .i64 0, .int .i64 0, .int .i64 0, .int .i64 0, .int .i64 0]) ?_ 2 _ rfl; (with_reducible repeat (first | refine qD ?_ _ | refine qE ?_ | refine qC ?_ _)); refine qO (cs := #[.int .i64 0, .int .i64 0, .int .i64 0, .int .i64 0, .int .i64 0, .int .i64 0]) ?_ 1 _ rfl; (with_reducible repeat (first | refine qD ?_ _ | refine qE ?_ | refine qC ?_ _)); refine qO (cs := #[.int .i64 0, .int .i64 0, .int .i64 0, .int .i64 0, .int .i64 0, .int .i64 0]) ?_ 0 _ rfl; (with_reducible repeat (first | refine qD ?_ _ | refine qE ?_ | refine qC ?_ _)); exact BK641.out) Tryd.underlying31 rfl (by kernel_rfl)) rfl ?_
  exact ⟨by first | rfl | (simp [qN, qM] <;> rfl) | (simp [*, qN, qM] <;> rfl), bl⟩
def qq.l0 : Nat → ByteArray → Int → Int → Int → Int → Int → Int → Int → Int → Option (Int × Int × Int × Int × Int × Int)
 | 0, _, _, _, _, _, _, _, _, _ => none
 | k + 1, x1, x7, x8, x866000, x866001, x866002, x866003, x866004, x866005 => if x8 < x7 then (if 0 ≤ x8 then (if x8 < (x1.size : Int) then ((qMA.f x866000 x866001 x866002 x866003 x866004 x866005 (bt x1 x8)).bind fun bt867 => (qq.l0 k x1 x7 (wrap64 (x8 + 1)) bt867.1 bt867.2.1 bt867.2.2.1 bt867.2.2.2.1 bt867.2.2.2.2.1 bt867.2.2.2.2.2)) else (none)) else (none)) else (some (x866000, x866001, x866002, x866003, x866004, x866005))
def qq.f (k : Nat) (a0_0 : Int) (a0_1 : Int) (a0_2 : Int) (a0_3 : Int) (a0_4 : Int) (a0_5 : Int) (a1 : ByteArray) : Option (Int × Int × Int × Int × Int × Int) := qq.l0 k a1 (a1.size : Int) 0 a0_0 a0_1 a0_2 a0_3 a0_4 a0_5
set_option maxHeartbeats 8000000 in
set_option maxRecDepth 100000 in
theorem qq.calls (k : Nat) (a0_0 : Int) (a0_1 : Int) (a0_2 : Int) (a0_3 : Int) (a0_4 : Int) (a0_5 : Int) (a1 : ByteArray) (r1 : Int) (r2 : Int) (r3 : Int) (r4 : Int) (r5 : Int) (r6 : Int) (w : World) (h : qq.f k a0_0 a0_1 a0_2 a0_3 a0_4 a0_5 a1 = some (r1, r2, r3, r4, r5, r6)) :
  Calls Tryd.prog 62 #[.agg #[.int .i64 a0_0, .int .i64 a0_1, .int .i64 a0_2, .int .i64 a0_3, .int .i64 a0_4, .int .i64 a0_5], .string a1] w fun e w' => e = .returned (.agg #[.int .i64 r1, .int .i64 r2, .int .i64 r3, .int .i64 r4, .int .i64 r5, .int .i64 r6]) ∧ Below w.heap.size w w' := by
 have hu31 := Tryd.underlying31
 have HB := Aside0.mk (Below.refl w.heap.size w)
 have H : (qq.l0 k a1 (a1.size : Int) 0 a0_0 a0_1 a0_2 a0_3 a0_4 a0_5) = some (r1, r2, r3, r4, r5, r6) := h
 clear h
 have H' := Aside0.mk H
 clear H
 go_enter Tryd.func62, Tryd.ntmps62
 go_wp2_with (first | ((with_reducible refine qX (N := 2) rfl ?_); refine qW ?hg (N := 2) ?hd (cs := #[.int .i64 a0_0, .int .i64 a0_1, .int .i64 a0_2, .int .i64 a0_3, .int .i64 a0_4, .int .i64 a0_5]) (t := 31) ?hr ?_; (case hd => rfl); (case hg => rfl); (case hr => first | (go_simp; done) | (go_simp; rfl)); intro gb865 hg w3 hbox hb; have n0_ := Aside0.mk (qJ bl hb); have n1_ := Aside0.mk (hbox); have n2_ := Aside0.mk ((gg hg)); have n3_ := Aside0.mk ((gg hg)); clear HB; have HB := n0_; have BK865 := n1_; have GW865 := n2_; have GE865 := n3_; clear n0_ n1_ n2_ n3_; clear hb hbox hg) | ((with_reducible refine qX (N := 4) rfl ?_); refine qW ?hg (N := 4) ?hd (cs := #[.int .i64 0, .int .i64 0, .int .i64 0, .int .i64 0, .int .i64 0, .int .i64 0]) (t := 31) ?hr ?_; (case hd => rfl); (case hg => rfl); (case hr => first | (go_simp; done) | (go_simp; rfl)); intro gb866 hg w4 hbox hb; have n0_ := Aside0.mk (bb BK865 hb); have n1_ := Aside0.mk (qJ bl hb); have n2_ := Aside0.mk (hbox); have n3_ := Aside0.mk ((gg hg)); have n4_ := Aside0.mk ((gg hg)); have n5_ := Aside0.mk ((nl BK865 hg)); have n6_ := Aside0.mk ((nr BK865 hg)); clear BK865; clear HB; have BK865 := n0_; have HB := n1_; have BK866 := n2_; have GW866 := n3_; have GE866 := n4_; have NB865_866 := n5_; have NB866_865 := n6_; clear n0_ n1_ n2_ n3_ n4_ n5_ n6_; clear hb hbox hg))
 go_loopg [8] k (fun kq v8 w' => ∃ (x8_1 : Int) (x866000_1 : Int) (x866001_1 : Int) (x866002_1 : Int) (x866003_1 : Int) (x866004_1 : Int) (x866005_1 : Int), v8 = .int .i64 x8_1 ∧ Aside0 (qq.l0 kq a1 (a1.size : Int) x8_1 x866000_1 x866001_1 x866002_1 x866003_1 x866004_1 x866005_1 = some (r1, r2, r3, r4, r5, r6)) ∧ Aside0 (kq ≤ k) ∧ Aside0 (w'.heap[gb865]? = some (.cells #[.int .i64 x866000_1, .int .i64 x866001_1, .int .i64 x866002_1, .int .i64 x866003_1, .int .i64 x866004_1, .int .i64 x866005_1] 31 (0, 0))) ∧ Aside0 (w'.heap[gb866]? = some (.cells #[.int .i64 0, .int .i64 0, .int .i64 0, .int .i64 0, .int .i64 0, .int .i64 0] 31 (0, 0))) ∧ Aside0 (Below w.heap.size w w'))
 case atStart => exact ⟨(0), (a0_0), (a0_1), (a0_2), (a0_3), (a0_4), (a0_5), (by first | rfl | (simp; done) | (simp [*]; done)), H', ⟨Nat.le_refl _⟩, ⟨by (with_reducible repeat (first | refine qD ?_ _ | refine qE ?_ | refine qC ?_ _)); exact BK865.out⟩, ⟨by (with_reducible repeat (first | refine qD ?_ _ | refine qE ?_ | refine qC ?_ _)); exact BK866.out⟩, ⟨bl⟩⟩
 case round =>
  clear H'
  try clear p2
  obtain ⟨x8_1, x866000_1, x866001_1, x866002_1, x866003_1, x866004_1, x866005_1, rfl, HA, HK1, BK865, BK866, HB⟩ := hrel
  cases gk with
  | zero => exact absurd HA.out (by simp [qq.l0])
  | succ k1 =>
   have H := HA.out
   clear HA
   simp only [qq.l0] at H
   by_cases c5 : x8_1 < (a1.size : Int)
   ·rw [if_pos c5] at H
    have c5b0 : decide (x8_1 < (a1.size : Int)) = true := decide_eq_true c5
    clear c5
    by_cases c6 : 0 ≤ x8_1
    ·rw [if_pos c6] at H
     have c6b0 : decide (0 ≤ x8_1) = true := decide_eq_true c6
     clear c6
     by_cases c7 : x8_1 < (a1.size : Int)
     ·rw [if_pos c7] at H
      have c7b0 : decide (x8_1 < (a1.size : Int)) = true := decide_eq_true c7
      clear c7
      replace H := Option.bind_eq_some_iff.mp H
      obtain ⟨⟨t867, t868, t869, t870, t871, t872⟩, A90, H⟩ := H
      replace H : (qq.l0 k1 a1 (a1.size : Int) (wrap64 (x8_1 + 1)) t867 t868 t869 t870 t871 t872) = some (r1, r2, r3, r4, r5, r6) := H
      have A9 := Aside0.mk A90
      clear A90
      have H' := Aside0.mk H
      clear H
      try go_wp2
      have n0_ := Aside0.mk (qE BK865.out)
      have n1_ := Aside0.mk (qE BK866.out)
      have n2_ := Aside0.mk (qk HB.out)
      clear BK865
      clear BK866
      clear HB
      have BK865 := n0_
      have BK866 := n1_
      have HB := n2_
      clear n0_ n1_ n2_
      have p8 : 0 ≤ (x8_1 : Int) := of_decide_eq_true (by first | (with_reducible assumption) | assumption)
      have q8 : x8_1 < (a1.size : Int) := of_decide_eq_true (by first | (with_reducible assumption) | assumption)
      have hx8 := bt_at a1 x8_1
      replace p8 := eq_true p8
      replace q8 := eq_true q8
      refine qwA (n := 6) (S := fun w' => w'.cell? ⟨gb865, 0, none⟩ = some (.int .i64 x866000_1) ∧ w'.cell? ⟨gb865, 1, none⟩ = some (.int .i64 x866001_1) ∧ w'.cell? ⟨gb865, 2, none⟩ = some (.int .i64 x866002_1) ∧ w'.cell? ⟨gb865, 3, none⟩ = some (.int .i64 x866003_1) ∧ w'.cell? ⟨gb865, 4, none⟩ = some (.int .i64 x866004_1) ∧ w'.cell? ⟨gb865, 5, none⟩ = some (.int .i64 x866005_1)) (ds := [5]) #[false, false, false, false, false, false] (by kernel_rfl) rfl rfl ⟨(qL BK865.out 0).trans rfl, (qL BK865.out 1).trans rfl, (qL BK865.out 2).trans rfl, (qL BK865.out 3).trans rfl, (qL BK865.out 4).trans rfl, (qL BK865.out 5).trans rfl⟩ (fun hHeld => ?_)
      generalize wr.drew = w10 at BK865 BK866 HB hHeld ⊢
      refine pure_ (i := 1) (N := some 12) (v := ?_) (a' := ?_) #[false, true, false, false, false, false] rfl rfl (by kernel_rfl) (fun _ _ _ h => h) (Or.inl ⟨by rfl, ?_⟩) ?_ ?_
      rotate_left
      ·intro w'
       go_simp
       first | (with_reducible rfl) | (rw [if_neg (by simp only [ByteArray.size_extract, ByteArray.size_append] at * <;> omega)]; try with_reducible rfl)
      rotate_left
      ·simp only [Act.put, List.setIfInBounds_toArray, List.set_cons_zero, List.set_cons_succ, i64_w, i32_w]
       rfl
      refine pure_ (i := 2) (N := some 13) (v := ?_) (a' := ?_) #[false, true, true, false, false, false] rfl rfl (by kernel_rfl) (fun _ _ _ h => h) (Or.inl ⟨by rfl, ?_⟩) ?_ ?_
      rotate_left
      ·intro w'
       go_simp
       first | (with_reducible rfl) | (rw [if_neg (by simp only [ByteArray.size_extract, ByteArray.size_append] at * <;> omega)]; try with_reducible rfl)
      rotate_left
      ·simp only [Act.put, List.setIfInBounds_toArray, List.set_cons_zero, List.set_cons_succ, i64_w, i32_w]
       rfl
      refine take_ (i := 0) (N := some 11) (v := ?_) (a' := ?_) #[true, true, true, false, false, false] rfl rfl (by kernel_rfl) (fun _ _ _ h => h) (Or.inl ⟨by rfl, ?_⟩) hHeld ?_ ?_
      rotate_left
      ·rintro w' ⟨s0, s1, s2, s3, s4, s5⟩
       go_simp
       first | (with_reducible rfl) | (rw [if_neg (by simp only [ByteArray.size_extract, ByteArray.size_append] at * <;> omega)]; try with_reducible rfl)
      rotate_left
      ·simp only [Act.put, List.setIfInBounds_toArray, List.set_cons_zero, List.set_cons_succ, i64_w, i32_w]
       rfl
      refine take_ (i := 3) (N := some 14) (v := ?_) (a' := ?_) #[true, true, true, true, false, false] rfl rfl (by kernel_rfl) (fun _ _ _ h => h) (Or.inl ⟨by rfl, ?_⟩) hHeld ?_ ?_
      rotate_left
      ·rintro w' ⟨s0, s1, s2, s3, s4, s5⟩
       go_simp
       first | (with_reducible rfl) | (rw [if_neg (by simp only [ByteArray.size_extract, ByteArray.size_append] at * <;> omega)]; try with_reducible rfl)
      rotate_left
      ·simp only [Act.put, List.setIfInBounds_toArray, List.set_cons_zero, List.set_cons_succ, i64_w, i32_w]
       rfl
      refine one_ (i := 4) (N := some 15) #[true, true, true, true, true, false] rfl rfl (by kernel_rfl) (by decide) (fun K hK => ?_)
      refine goes_ Tryd.func55 (by kernel_rfl) rfl #[.agg #[.int .i64 x866000_1, .int .i64 x866001_1, .int .i64 x866002_1, .int .i64 x866003_1, .int .i64 x866004_1, .int .i64 x866005_1], .int .u8 (bt a1 x8_1)] (by rfl) rfl rfl (by (try simp only [List.map_toArray, List.map_cons, List.map_nil]); first | done | rfl | (simp only [List.length_drop, List.length_take]; rfl)) ?_
      with_reducible refine (qMA.calls x866000_1 x866001_1 x866002_1 x866003_1 x866004_1 x866005_1 (bt a1 x8_1) t867 t868 t869 t870 t871 t872 _ A9.out).mono ?_
      rintro e w11 ⟨rfl, hb⟩
      refine ⟨_, rfl, ?_⟩
      have n0_ := Aside0.mk (bb BK865 hb)
      have n1_ := Aside0.mk (bb BK866 hb)
      have n2_ := Aside0.mk (qJ bl hb)
      clear BK865
      clear BK866
      clear HB
      have BK865 := n0_
      have BK866 := n1_
      have HB := n2_
      clear n0_ n1_ n2_
      (try clear hb)
      (try clear hb2)
      (try clear hk)
      (try clear hi)
      refine hK.out _ _ ⟨(qL BK865.out 0).trans rfl, (qL BK865.out 1).trans rfl, (qL BK865.out 2).trans rfl, (qL BK865.out 3).trans rfl, (qL BK865.out 4).trans rfl, (qL BK865.out 5).trans rfl⟩ (fun hHeld => ?_)
      clear hK K
      refine norm_ (a' := ?_) ?_ ?_
      rotate_left
      ·show Act.put _ (some 15) _ = _
       simp only [Act.put, List.setIfInBounds_toArray, List.set_cons_zero, List.set_cons_succ, i64_w, i32_w]
       rfl
      refine last_ (i := 5) (N := none) #[true, true, true, true, true, true] rfl rfl (by kernel_rfl) (by decide) (fun K hK => ?_)
      have hs12 : w11.cell? ⟨gb865, 0, none⟩ = some (.int .i64 x866000_1) := (qL BK865.out 0).trans rfl
      have hfs12 := qA BK865.out 0
      have hns12_1 := NB866_865.out
      have hms12_1 := NB865_866.out
      have hs13 : w11.cell? ⟨gb865, 1, none⟩ = some (.int .i64 x866001_1) := (qL BK865.out 1).trans rfl
      have hfs13 := qA BK865.out 1
      have hns13_1 := NB866_865.out
      have hms13_1 := NB865_866.out
      have hs14 : w11.cell? ⟨gb865, 2, none⟩ = some (.int .i64 x866002_1) := (qL BK865.out 2).trans rfl
      have hfs14 := qA BK865.out 2
      have hns14_1 := NB866_865.out
      have hms14_1 := NB865_866.out
      have hs15 : w11.cell? ⟨gb865, 3, none⟩ = some (.int .i64 x866003_1) := (qL BK865.out 3).trans rfl
      have hfs15 := qA BK865.out 3
      have hns15_1 := NB866_865.out
      have hms15_1 := NB865_866.out
      have hs16 : w11.cell? ⟨gb865, 4, none⟩ = some (.int .i64 x866004_1) := (qL BK865.out 4).trans rfl
      have hfs16 := qA BK865.out 4
      have hns16_1 := NB866_865.out
      have hms16_1 := NB865_866.out
      have hs17 : w11.cell? ⟨gb865, 5, none⟩ = some (.int .i64 x866005_1) := (qL BK865.out 5).trans rfl
      have hfs17 := qA BK865.out 5
      have hns17_1 := NB866_865.out
      have hms17_1 := NB865_866.out
      refine skip_ (w1 := ?_) (by rfl) rfl ?_ ?_
      rotate_left
      ·go_simp
       rfl
      refine hK.out _ _ ?_
      clear hK K
      refine done_ (by kernel_rfl) ?_
      try go_wp2
      go_roundg k1
      case measure => have := HK1.out; omega
      case rel => exact ⟨(wrap64 (x8_1 + 1)), (t867), (t868), (t869), (t870), (t871), (t872), (by first | rfl | (simp; done) | (simp [*]; done)), H', ⟨by have := HK1.out; omega⟩, ⟨by (with_reducible repeat (first | refine qD ?_ _ | refine qE ?_ | refine qC ?_ _)); refine qO (cs := #[.int .i64 t867, .int .i64 t868, .int .i64 t869, .int .i64 t870, .int .i64 t871, .int .i64 x866005_1]) ?_ 5 _ rfl; (with_reducible repeat (first | refine qD ?_ _ | refine qE ?_ | refine qC ?_ _)); refine qO (cs := #[.int .i64 t867, .int .i64 t868, .int .i64 t869, .int .i64 t870, .int .i64 x866004_1, .int .i64 x866005_1]) ?_ 4 _ rfl; (with_reducible repeat (first | refine qD ?_ _ | refine qE ?_ | refine qC ?_ _)); refine qO (cs := #[.int .i64 t867, .int .i64 t868, .int .i64 t869, .int .i64 x866003_1, .int .i64 x866004_1, .int .i64 x866005_1]) ?_ 3 _ rfl; (with_reducible repeat (first | refine qD ?_ _ | refine qE ?_ | refine qC ?_ _)); refine qO (cs := #[.int .i64 t867, .int .i64 t868, .int .i64 x866002_1, .int .i64 x866003_1, .int .i64 x866004_1, .int .i64 x866005_1]) ?_ 2 _ rfl; (with_reducible repeat (first | refine qD ?_ _ | refine qE ?_ | refine qC ?_ _)); refine qO (cs := #[.int .i64 t867, .int .i64 x866001_1, .int .i64 x866002_1, .int .i64 x866003_1, .int .i64 x866004_1, .int .i64 x866005_1]) ?_ 1 _ rfl; (with_reducible repeat (first | refine qD ?_ _ | refine qE ?_ | refine qC ?_ _)); refine qO (cs := #[.int .i64 x866000_1, .int .i64 x866001_1, .int .i64 x866002_1, .int .i64 x866003_1, .int .i64 x866004_1, .int .i64 x866005_1]) ?_ 0 _ rfl; (with_reducible repeat (first | refine qD ?_ _ | refine qE ?_ | refine qC ?_ _)); exact BK865.out⟩, ⟨by (with_reducible repeat (first | refine qD ?_ _ | refine qE ?_ | refine qC ?_ _)); refine qc ?_ NB866_865.out _; (with_reducible repeat (first | refine qD ?_ _ | refine qE ?_ | refine qC ?_ _)); refine qc ?_ NB866_865.out _; (with_reducible repeat (first | refine qD ?_ _ | refine qE ?_ | refine qC ?_ _)); refine qc ?_ NB866_865.out _; (with_reducible repeat (first | refine qD ?_ _ | refine qE ?_ | refine qC ?_ _)); refine qc ?_ NB866_865.out _; (with_reducible repeat (first | refine qD ?_ _ | refine qE ?_ | refine qC ?_ _)); refine qc ?_ NB866_865.out _; (with_reducible repeat (first | refine qD ?_ _ | refine qE ?_ | refine qC ?_ _)); refine qc ?_ NB866_865.out _; (with_reducible repeat (first | refine qD ?_ _ | refine qE ?_ | refine qC ?_ _)); exact BK866.out⟩, ⟨bl⟩⟩
     ·rw [if_neg c7] at H
      exact absurd H (by simp)
    ·rw [if_neg c6] at H
     exact absurd H (by simp)
   ·rw [if_neg c5] at H
    have c5b0 : decide (x8_1 < (a1.size : Int)) = false := decide_eq_false c5
    clear c5
    simp only [Option.some.injEq, Prod.mk.injEq] at H
    obtain ⟨rfl, rfl, rfl, rfl, rfl, rfl⟩ := H
    have hnb18 := NB865_866.out
    have hnc18 := NB866_865.out
    have hcz19_0 := bc BK865 0
    have hcz19_1 := bc BK865 1
    have hcz19_2 := bc BK865 2
    have hcz19_3 := bc BK865 3
    have hcz19_4 := bc BK865 4
    have hcz19_5 := bc BK865 5
    have hfz19_0 := qA BK865.out 0
    have hfz19_1 := qA BK865.out 1
    have hfz19_2 := qA BK865.out 2
    have hfz19_3 := qA BK865.out 3
    have hfz19_4 := qA BK865.out 4
    have hfz19_5 := qA BK865.out 5
    have hcz20_0 := bc BK866 0
    have hcz20_1 := bc BK866 1
    have hcz20_2 := bc BK866 2
    have hcz20_3 := bc BK866 3
    have hcz20_4 := bc BK866 4
    have hcz20_5 := bc BK866 5
    have hfz20_0 := qA BK866.out 0
    have hfz20_1 := qA BK866.out 1
    have hfz20_2 := qA BK866.out 2
    have hfz20_3 := qA BK866.out 3
    have hfz20_4 := qA BK866.out 4
    have hfz20_5 := qA BK866.out 5
    go_wp2
    refine bodyPost_ret (results_cell_row rfl _ _ gb866 31 #[.int .i64 x866000_1, .int .i64 x866001_1, .int .i64 x866002_1, .int .i64 x866003_1, .int .i64 x866004_1, .int .i64 x866005_1] (0, 0) _ rfl (by (with_reducible repeat (first | refine qD ?_ _ | refine qE ?_ | refine qC ?_ _)); refine qO (cs := #[.int .i64 x866000_1, .int .i64 x866001_1, .int .i64 x866002_1, .int .i64 x866003_1, .int .i64 x866004_1, .int .i64 0]) ?_ 5 _ rfl; (with_reducible repeat (first | refine qD ?_ _ | refine qE ?_ | refine qC ?_ _)); refine qO (cs := #[.int .i64 x866000_1, .int .i64 x866001_1, .int .i64 x866002_1, .int .i64 x866003_1, .int .i64 0, .int .i64 0]) ?_ 4 _ rfl; (with_reducible repeat (first | refine qD ?_ _ | refine qE ?_ | refine qC ?_ _)); refine qO (cs := #[.int .i64 x866000_1, .int .i64 x866001_1, .int .i64 x866002_1, .int .i64 0, .int .i64 0, .int .i64 0]) ?_ 3 _ rfl; (with_reducible repeat (first | refine qD ?_ _ | refine qE ?_ | refine qC ?_ _)); refine qO (cs := #[.int .i64 x866000_1, .int .i64 x866001_1, .int .i64 0, .int .i64 0, .int .i64 0, .int .i64 0]) ?_ 2 _ rfl; (with_reducible repeat (first | refine qD ?_ _ | refine qE ?_ | refine qC ?_ _)); refine qO (cs := #[.int .i64 x866000_1, .int .i64 0, .int .i64 0, .int .i64 0, .int .i64 0, .int .i64 0]) ?_ 1 _ rfl; (with_reducible repeat (first | refine qD ?_ _ | refine qE ?_ | refine qC ?_ _)); refine qO (cs := #[.int .i64 0, .int .i64 0, .int .i64 0, .int .i64 0, .int .i64 0, .int .i64 0]) ?_ 0 _ rfl; (with_reducible repeat (first | refine qD ?_ _ | refine qE ?_ | refine qC ?_ _)); exact BK866.out) Tryd.underlying31 rfl (by kernel_rfl)) rfl ?_
    exact ⟨by first | rfl | (simp [qN, qM] <;> rfl) | (simp [*, qN, qM] <;> rfl), bl⟩
end Go.Proofs.YtdncpkppkafkpaaDoor.P
set_option linter.unusedSectionVars false
namespace Go.Proofs.YtdncpkppkafkpaaDoor.Bfs
section
variable {α β : Type} [DecidableEq α]
def put (L : List (α × β)) (y : Option α) (p : β) : List (α × β) := match y with
 | none => L
 | some y => if y ∈ L.map Prod.fst then L else L ++ [(y, p)]
def puts (L : List (α × β)) : List (Option α × β) → List (α × β)
 | [] => L
 | (y, p) :: r => puts (put L y p) r
variable (next : Nat → α → β → List (Option α × β))
def round (i : Nat) (L : List (α × β)) : List (α × β) := match L[i]? with
 | none => L
 | some x => puts L (next i x.1 x.2)
def run : Nat → Nat → List (α × β) → List (α × β)
 | 0, _, L => L
 | n + 1, i, L => if i < L.length then run n (i + 1) (round next i L) else L
theorem qFC {L : List (α × β)} {y : α} (h : y ∈ L.map Prod.fst) (p : β) : put L (some y) p = L := if_pos h
theorem qpB {L : List (α × β)} {y : α} (h : ¬ y ∈ L.map Prod.fst) (p : β) : put L (some y) p = L ++ [(y, p)] := if_neg h
theorem put_prefix (L : List (α × β)) (y : Option α) (p : β) : L <+: put L y p := by
 unfold put
 split
 ·exact List.prefix_refl _
 ·split
  ·exact List.prefix_refl _
  ·exact List.prefix_append _ _
theorem puts_prefix (l : List (Option α × β)) : ∀ L : List (α × β), L <+: puts L l := by
 induction l with
 | nil => intro L; exact List.prefix_refl _
 | cons x l ih => intro L; exact (put_prefix L x.1 x.2).trans (ih _)
theorem qoB (i : Nat) (L : List (α × β)) : L <+: round next i L := by
 unfold round
 split
 ·exact List.prefix_refl _
 ·exact puts_prefix _ _
theorem quB : ∀ (n i : Nat) (L : List (α × β)), L <+: run next n i L
 | 0, _, L => List.prefix_refl _
 | n + 1, i, L => by
  unfold run
  split
  ·exact (qoB next i L).trans (quB n (i + 1) _)
  ·exact List.prefix_refl _
theorem qtC {L : List (α × β)} (h : (L.map Prod.fst).Nodup) (y : Option α) (p : β) : ((put L y p).map Prod.fst).Nodup := by
 unfold put
 split
 ·exact h
 ·rename_i y
  split
  ·exact h
  ·rename_i hy
   rw [List.map_append, List.nodup_append]
   refine ⟨h, by simp, ?_⟩
   intro a ha b hb e
   simp at hb
   subst hb
   subst e
   exact hy ha
theorem puts_nodup (l : List (Option α × β)) : ∀ {L : List (α × β)}, (L.map Prod.fst).Nodup → ((puts L l).map Prod.fst).Nodup := by
 induction l with
 | nil => intro L h; exact h
 | cons x l ih => intro L h; exact ih (qtC h _ _)
theorem round_nodup {L : List (α × β)} (h : (L.map Prod.fst).Nodup) (i : Nat) : ((round next i L).map Prod.fst).Nodup := by
 unfold round
 split
 ·exact h
 ·exact puts_nodup _ h
theorem run_nodup : ∀ (n i : Nat) {L : List (α × β)}, (L.map Prod.fst).Nodup → ((run next n i L).map Prod.fst).Nodup
 | 0, _, L, h => h
 | n + 1, i, L, h => by
  unfold run
  split
  ·exact run_nodup n (i + 1) (round_nodup next h i)
  ·exact h
theorem put_all {Q : α × β → Prop} {L : List (α × β)} (h : ∀ x ∈ L, Q x) (y : Option α) (p : β) (hy : ∀ z, y = some z → Q (z, p)) : ∀ x ∈ put L y p, Q x := by
 unfold put
 split
 ·exact h
 ·rename_i z
  split
  ·exact h
  ·intro x hx
   rcases List.mem_append.1 hx with hx | hx
   ·exact h x hx
   ·simp at hx; subst hx; exact hy z rfl
theorem qDD {Q : α × β → Prop} : ∀ (l : List (Option α × β)) {L : List (α × β)}, (∀ x ∈ L, Q x) → (∀ s ∈ l, ∀ z, s.1 = some z → Q (z, s.2)) → ∀ x ∈ puts L l, Q x
 | [], L, h, _ => h
 | s :: l, L, h, hs => qDD l (put_all h s.1 s.2 (hs s (by simp))) (fun t ht => hs t (by simp [ht]))
theorem round_all {Q : α × β → Prop} (hn : ∀ i x p, Q (x, p) → ∀ s ∈ next i x p, ∀ z, s.1 = some z → Q (z, s.2)) (i : Nat) {L : List (α × β)} (h : ∀ x ∈ L, Q x) : ∀ x ∈ round next i L, Q x := by
 unfold round
 split
 ·exact h
 ·rename_i x hx
  exact qDD _ h (hn i x.1 x.2 (h x (List.mem_of_getElem? hx)))
theorem run_all {Q : α × β → Prop} (hn : ∀ i x p, Q (x, p) → ∀ s ∈ next i x p, ∀ z, s.1 = some z → Q (z, s.2)) : ∀ (n i : Nat) {L : List (α × β)}, (∀ x ∈ L, Q x) → ∀ x ∈ run next n i L, Q x
 | 0, _, L, h => h
 | n + 1, i, L, h => by
  unfold run
  split
  ·exact run_all hn n (i + 1) (round_all next hn i h)
  ·exact h
theorem qbB {U : List α} : ∀ {l : List α}, l.Nodup → (∀ x ∈ l, x ∈ U) → l.length ≤ U.length := by
 intro l
 induction l generalizing U with
 | nil => intro _ _; simp
 | cons a l ih =>
  intro hn hu
  obtain ⟨h1, h2⟩ := List.nodup_cons.1 hn
  have ha : a ∈ U := hu a (by simp)
  have := ih (U := U.erase a) h2 (fun x hx => by
   have hne : x ≠ a := fun e => h1 (e ▸ hx)
   exact (List.mem_erase_of_ne hne).2 (hu x (by simp [hx])))
  rw [List.length_erase_of_mem ha] at this
  have : 0 < U.length := List.length_pos_of_mem ha
  simp only [List.length_cons]
  omega
theorem run_stop : ∀ (n i : Nat) {L : List (α × β)}, L.length ≤ i → run next n i L = L
 | 0, _, _, _ => rfl
 | n + 1, i, L, h => by unfold run; rw [if_neg (by omega)]
theorem put_mem (L : List (α × β)) (y : α) (p : β) : y ∈ (put L (some y) p).map Prod.fst := by
 unfold put
 split
 ·cases ‹some y = none›
 ·rename_i z hz
  cases hz
  split
  ·assumption
  ·simp
theorem qdC {L M : List (α × β)} (h : L <+: M) {y : α} (hy : y ∈ L.map Prod.fst) : y ∈ M.map Prod.fst := by
 obtain ⟨t, rfl⟩ := h
 rw [List.map_append]
 exact List.mem_append_left _ hy
theorem puts_mem : ∀ (l : List (Option α × β)) (L : List (α × β)) (s : Option α × β), s ∈ l → ∀ z, s.1 = some z → z ∈ (puts L l).map Prod.fst
 | [], _, _, h, _, _ => by cases h
 | t :: l, L, s, h, z, hz => by
  rcases List.mem_cons.1 h with rfl | h
  ·have := put_mem L z s.2
   rw [← hz] at this
   exact qdC (puts_prefix l _) this
  ·exact puts_mem l _ s h z hz
theorem run_closed : ∀ (n i : Nat) (L : List (α × β)) (N : Nat), (∀ m, (run next m i L).length ≤ N) → N ≤ i + n →
  ∀ (j : Nat), i ≤ j → ∀ x, (run next n i L)[j]? = some x → ∀ s ∈ next j x.1 x.2, ∀ z, s.1 = some z → z ∈ (run next n i L).map Prod.fst
 | 0, i, L, N, hN, hn, j, hj, x, hx, s, hs, z, hz => by
  have := hN 0
  unfold run at this hx
  have := (List.getElem?_eq_some_iff.1 hx).1
  omega
 | n + 1, i, L, N, hN, hn, j, hj, x, hx, s, hs, z, hz => by
  by_cases hi : i < L.length
  ·have e : run next (n + 1) i L = run next n (i + 1) (round next i L) := by rw [run, if_pos hi]
   rw [e] at hx ⊢
   by_cases hji : j = i
   ·subst hji
    have hp := (qoB next j L).trans (quB next n (j + 1) (round next j L))
    obtain ⟨t, ht⟩ := hp
    rw [← ht, List.getElem?_append_left hi] at hx
    have hr : round next j L = puts L (next j x.1 x.2) := by unfold round; rw [hx]
    have hm := puts_mem (next j x.1 x.2) L s hs z hz
    rw [← hr] at hm
    exact qdC (quB next n (j + 1) _) hm
   ·refine run_closed n (i + 1) (round next i L) N (fun m => ?_) (by omega) j (by omega) x hx s hs z hz
    have := hN (m + 1)
    rw [run, if_pos hi] at this
    exact this
  ·rw [run_stop next _ _ (by omega)] at hx
   have := (List.getElem?_eq_some_iff.1 hx).1
   omega
end
end Go.Proofs.YtdncpkppkafkpaaDoor.Bfs
namespace Go.Proofs.YtdncpkppkafkpaaDoor
open Go.RowKit Go.Proofs.YtdncpkppkafkpaaDoor.P Go.Proofs.YtdncpkppkafkpaaDoorW.PrintWords Go.Proofs.YtdncpkppkafkpaaDoorW.PrintLast
set_option linter.unusedVariables false
set_option linter.unusedSimpArgs false
abbrev DD := S31
theorem qPD {a b : DD} (h0 : a.f0 = b.f0) (h1 : a.f1 = b.f1) (h2 : a.f2 = b.f2) (h3 : a.f3 = b.f3) (h4 : a.f4 = b.f4) (h5 : a.f5 = b.f5) : a = b := by
 cases a; cases b; simp only at h0 h1 h2 h3 h4 h5; subst h0; subst h1; subst h2; subst h3; subst h4; subst h5; rfl
instance ddDec : DecidableEq DD := fun a b =>
 if h : a.f0 = b.f0 ∧ a.f1 = b.f1 ∧ a.f2 = b.f2 ∧ a.f3 = b.f3 ∧ a.f4 = b.f4 ∧ a.f5 = b.f5 then isTrue (qPD h.1 h.2.1 h.2.2.1 h.2.2.2.1 h.2.2.2.2.1 h.2.2.2.2.2) else isFalse (fun e => h (by subst e; exact ⟨rfl, rfl, rfl, rfl, rfl, rfl⟩))
def rolD (x : DD) (d : Nat) : DD := if d = 0 then ⟨x.f3, x.f0, x.f2, x.f5, x.f4, x.f1⟩ else if d = 1 then ⟨x.f4, x.f1, x.f0, x.f3, x.f5, x.f2⟩ else if d = 2 then ⟨x.f1, x.f5, x.f2, x.f0, x.f4, x.f3⟩ else ⟨x.f2, x.f1, x.f5, x.f3, x.f0, x.f4⟩
def dirsW : ByteArray := ⟨#[110, 101, 115, 119]⟩
def dirW (d : Nat) : ByteArray := dirsW.extract d (d + 1)
theorem qWC (d : Nat) (h : d < 4) : (dirW d).size = 1 := by
 have : d = 0 ∨ d = 1 ∨ d = 2 ∨ d = 3 := by omega
 rcases this with rfl | rfl | rfl | rfl <;> decide +kernel
def stepsD (x : DD) (w : ByteArray) : Nat → Nat → List (Option DD × ByteArray)
 | 0, _ => []
 | n + 1, d => (some (rolD x d), w ++ dirW d) :: stepsD x w n (d + 1)
def nextD (_ : Nat) (x : DD) (w : ByteArray) : List (Option DD × ByteArray) := stepsD x w 4 0
def faceD (x : DD) (n : Int) : Int := if n = 0 then x.f0 else if n = 1 then x.f1 else if n = 2 then x.f2 else if n = 3 then x.f3 else if n = 4 then x.f4 else x.f5
def putD (x p : DD) : DD := ⟨faceD x p.f0, faceD x p.f1, faceD x p.f2, faceD x p.f3, faceD x p.f4, faceD x p.f5⟩
theorem putD_rol (x p : DD) (d : Nat) : rolD (putD x p) d = putD x (rolD p d) := by
 unfold rolD
 by_cases h0 : d = 0
 ·simp only [if_pos h0]; rfl
 by_cases h1 : d = 1
 ·simp only [if_neg h0, if_pos h1]; rfl
 by_cases h2 : d = 2
 ·simp only [if_neg h0, if_neg h1, if_pos h2]; rfl
 ·simp only [if_neg h0, if_neg h1, if_neg h2]; rfl
def plainD : DD := ⟨0, 1, 2, 3, 4, 5⟩
theorem putD_plain (x : DD) : putD x plainD = x := rfl
def runD (x : DD) : List (DD × ByteArray) := Bfs.run nextD 24 0 [(x, ⟨#[]⟩)]
def rots : List DD := (runD plainD).map Prod.fst
def rotWords : List ByteArray := (runD plainD).map Prod.snd
theorem rots_len : rots.length = 24 := by decide +kernel
theorem rots_closed : ∀ p ∈ rots, rolD p 0 ∈ rots ∧ rolD p 1 ∈ rots ∧ rolD p 2 ∈ rots ∧ rolD p 3 ∈ rots := by decide +kernel
theorem qvB : plainD ∈ rots := by decide +kernel
def imgs (x : DD) : List DD := rots.map (putD x)
theorem imgs_len (x : DD) : (imgs x).length = 24 := by unfold imgs; rw [List.length_map, rots_len]
theorem imgs_self (x : DD) : x ∈ imgs x := List.mem_map.2 ⟨plainD, qvB, putD_plain x⟩
theorem qnC {x y : DD} (h : y ∈ imgs x) (d : Nat) (hd : d < 4) : rolD y d ∈ imgs x := by
 obtain ⟨p, hp, rfl⟩ := List.mem_map.1 h
 rw [putD_rol]
 refine List.mem_map_of_mem ?_
 have hc := rots_closed p hp
 have : d = 0 ∨ d = 1 ∨ d = 2 ∨ d = 3 := by omega
 rcases this with rfl | rfl | rfl | rfl
 ·exact hc.1
 ·exact hc.2.1
 ·exact hc.2.2.1
 ·exact hc.2.2.2
theorem qpC (x : DD) (w : ByteArray) : ∀ (n d : Nat), d + n = 4 → ∀ s ∈ stepsD x w n d, ∃ e, e < 4 ∧ s = (some (rolD x e), w ++ dirW e)
 | 0, _, _, s, hs => by cases hs
 | n + 1, d, hd, s, hs => by
  rcases List.mem_cons.1 hs with rfl | hs
  ·exact ⟨d, by omega, rfl⟩
  ·exact qpC x w n (d + 1) (by omega) s hs
theorem mem_steps (x : DD) (w : ByteArray) (e : Nat) : ∀ (n d : Nat), d ≤ e → e < d + n → (some (rolD x e), w ++ dirW e) ∈ stepsD x w n d
 | 0, d, h1, h2 => by omega
 | n + 1, d, h1, h2 => by
  by_cases h : e = d
  ·subst h; exact List.mem_cons_self
  ·exact List.mem_cons_of_mem _ (mem_steps x w e n (d + 1) (by omega) (by omega))
structure FoundD (x : DD) (L : List (DD × ByteArray)) : Prop where
 nodup : (L.map Prod.fst).Nodup
 img : ∀ z ∈ L, z.1 ∈ imgs x
theorem FoundD.len {x : DD} {L : List (DD × ByteArray)} (h : FoundD x L) : L.length ≤ 24 := by
 have := Bfs.qbB (U := imgs x) h.nodup (fun y hy => by
  obtain ⟨z, hz, rfl⟩ := List.mem_map.1 hy
  exact h.img z hz)
 rwa [imgs_len, List.length_map] at this
theorem FoundD.put {x : DD} {L : List (DD × ByteArray)} (h : FoundD x L) (y : Option DD) (p : ByteArray) (hy : ∀ z, y = some z → z ∈ imgs x) : FoundD x (Bfs.put L y p) :=
 ⟨Bfs.qtC h.nodup y p, Bfs.put_all (Q := fun z => z.1 ∈ imgs x) h.img y p hy⟩
theorem nextD_img {x : DD} (i : Nat) (y : DD) (p : ByteArray) (h : y ∈ imgs x) : ∀ s ∈ nextD i y p, ∀ z, s.1 = some z → z ∈ imgs x := by
 intro s hs z hz
 obtain ⟨e, he, rfl⟩ := qpC y p 4 0 rfl s hs
 cases hz
 exact qnC h e he
theorem FoundD.round {x : DD} {L : List (DD × ByteArray)} (h : FoundD x L) (i : Nat) : FoundD x (Bfs.round nextD i L) :=
 ⟨Bfs.round_nodup _ h.nodup i, Bfs.round_all nextD (Q := fun z => z.1 ∈ imgs x) (fun i y p hy => nextD_img i y p hy) i h.img⟩
theorem FoundD.run {x : DD} {L : List (DD × ByteArray)} (h : FoundD x L) (n i : Nat) : FoundD x (Bfs.run nextD n i L) :=
 ⟨Bfs.run_nodup _ n i h.nodup, Bfs.run_all nextD (Q := fun z => z.1 ∈ imgs x) (fun i y p hy => nextD_img i y p hy) n i h.img⟩
theorem qeB (x : DD) : FoundD x [(x, ⟨#[]⟩)] := ⟨by simp, fun z hz => by rw [List.mem_singleton] at hz; subst hz; exact imgs_self x⟩
theorem runD_found (x : DD) : FoundD x (runD x) := (qeB x).run 24 0
theorem runD_closed (x : DD) {y : DD} (h : y ∈ (runD x).map Prod.fst) (d : Nat) (hd : d < 4) : rolD y d ∈ (runD x).map Prod.fst := by
 obtain ⟨z, hz, rfl⟩ := List.mem_map.1 h
 obtain ⟨j, hj⟩ := List.mem_iff_getElem?.1 hz
 exact Bfs.run_closed nextD 24 0 _ 24 (fun m => ((qeB x).run m 0).len) (by omega) j (by omega) z hj _ (mem_steps z.1 z.2 d 4 0 (by omega) (by omega)) _ rfl
theorem runD_self (x : DD) : x ∈ (runD x).map Prod.fst := Bfs.qdC (Bfs.quB nextD 24 0 _) (by simp)
def rolls (x : DD) (l : List Nat) : DD := l.foldl rolD x
theorem rolls_put (x : DD) : ∀ (l : List Nat) (p : DD), rolls (putD x p) l = putD x (rolls p l)
 | [], p => rfl
 | d :: l, p => by
  show rolls (rolD (putD x p) d) l = _
  rw [putD_rol]
  exact rolls_put x l (rolD p d)
theorem rolls_mem (x : DD) : ∀ (l : List Nat), (∀ d ∈ l, d < 4) → ∀ y ∈ (runD x).map Prod.fst, rolls y l ∈ (runD x).map Prod.fst
 | [], _, y, h => h
 | d :: l, hl, y, h => rolls_mem x l (fun e he => hl e (by simp [he])) (rolD y d) (runD_closed x h d (hl d (by simp)))
def dirNum (c : UInt8) : Nat := if c = 110 then 0 else if c = 101 then 1 else if c = 115 then 2 else 3
def numsW (w : ByteArray) : List Nat := w.data.toList.map dirNum
theorem dirNum_lt (c : UInt8) : dirNum c < 4 := by
 unfold dirNum
 split
 ·omega
 ·split
  ·omega
  ·split <;> omega
theorem numsW_lt (w : ByteArray) : ∀ d ∈ numsW w, d < 4 := by
 intro d hd
 obtain ⟨c, _, rfl⟩ := List.mem_map.1 hd
 exact dirNum_lt c
theorem rots_words : rots = rotWords.map fun w => rolls plainD (numsW w) := by decide +kernel
theorem imgs_words (x : DD) : imgs x = rotWords.map fun w => rolls x (numsW w) := by
 unfold imgs
 rw [rots_words, List.map_map]
 refine List.map_congr_left fun w _ => ?_
 show putD x (rolls plainD (numsW w)) = _
 rw [← rolls_put, putD_plain]
theorem mem_run (x y : DD) : y ∈ (runD x).map Prod.fst ↔ y ∈ imgs x := by
 constructor
 ·intro h
  obtain ⟨z, hz, rfl⟩ := List.mem_map.1 h
  exact (runD_found x).img z hz
 ·intro h
  rw [imgs_words] at h
  obtain ⟨w, _, rfl⟩ := List.mem_map.1 h
  exact rolls_mem x _ (numsW_lt w) x (runD_self x)
end Go.Proofs.YtdncpkppkafkpaaDoor
namespace Go.Proofs.YtdncpkppkafkpaaDoor.Sorts
section
variable {α : Type}
variable {lt : α → α → Bool}
theorem one {l l' : List α} (h : l.Pairwise (fun a b => lt b a = false)) (h' : l'.Pairwise (fun a b => lt b a = false)) (hp : l.Perm l') (ha : ∀ a ∈ l, ∀ b ∈ l, lt a b = false → lt b a = false → a = b) : l = l' :=
 List.Perm.eq_of_pairwise (le := fun a b => lt b a = false) (fun a b h1 h2 h3 h4 => ha a h1 b (hp.mem_iff.2 h2) h4 h3) h h' hp
end
theorem qgC {α : Type} {L : List α} {i : Nat} {c : α} {cs : List α} (h : L.drop i = c :: cs) : ∃ hi : i < L.length, L[i] = c ∧ L.drop (i + 1) = cs := by
 have hi : i < L.length := by
  rcases Nat.lt_or_ge i L.length with h1 | h1
  ·exact h1
  ·rw [List.drop_eq_nil_of_le h1] at h; cases h
 rw [List.drop_eq_getElem_cons hi] at h
 injection h with h1 h2
 exact ⟨hi, h1, h2⟩
theorem qzC {α : Type} {L : List α} {i : Nat} (h : L.drop i = []) : L.length ≤ i := by
 rcases Nat.lt_or_ge i L.length with h1 | h1
 ·rw [List.drop_eq_getElem_cons h1] at h; cases h
 ·exact h1
end Go.Proofs.YtdncpkppkafkpaaDoor.Sorts
namespace Go.Proofs.YtdncpkppkafkpaaDoor
open Go.RowKit Go.Proofs.YtdncpkppkafkpaaDoor.P Go.Proofs.YtdncpkppkafkpaaDoorW.PrintWords Go.Proofs.YtdncpkppkafkpaaDoorW.PrintLast
set_option linter.unusedVariables false
set_option linter.unusedSimpArgs false
def facesD (x : DD) : List Int := [x.f0, x.f1, x.f2, x.f3, x.f4, x.f5]
end Go.Proofs.YtdncpkppkafkpaaDoor
namespace Go.Proofs.YtdncpkppkafkpaaDoor
open Go Go.ChangeMaps Go.RowKit Go.Proofs.YtdncpkppkafkpaaDoor.P Go.Proofs.YtdncpkppkafkpaaDoorW.PrintWords Go.Proofs.YtdncpkppkafkpaaDoorW.PrintLast
set_option linter.unusedVariables false
set_option linter.unusedSimpArgs false
def wfD (x : DD) : Prop := ∀ n ∈ facesD x, (Lit.int .i64 n).wf = true
def encDD (x : DD) : Value := .agg #[.int .i64 x.f0, .int .i64 x.f1, .int .i64 x.f2, .int .i64 x.f3, .int .i64 x.f4, .int .i64 x.f5]
def litDD (x : DD) : Lit := .string (keyBytes [.int .i64 x.f0, .int .i64 x.f1, .int .i64 x.f2, .int .i64 x.f3, .int .i64 x.f4, .int .i64 x.f5])
theorem encDD_inj (x y : DD) (h : encDD x = encDD y) : x = y := by
 unfold encDD at h
 simp only [Value.agg.injEq, Array.mk.injEq, List.cons.injEq, Value.int.injEq, true_and, and_true] at h
 exact qPD h.1 h.2.1 h.2.2.1 h.2.2.2.1 h.2.2.2.2.1 h.2.2.2.2.2
theorem laidOutD : laidOutB Tryd.prog = true := by kernel_rfl
theorem keyedD : Go.Maps.Keyed Tryd.prog 31 := Go.Maps.Keyed.of_law (deep_law_laid laidOutD (m := 3) (by decide) (of_decide_eq_true (by kernel_rfl)) (by kernel_rfl) (by kernel_rfl))
theorem qxB (d : Nat) (n : Int) (h : (Lit.int .i64 n).wf = true) : Tryd.prog.keyLits (d + 1) 3 [.int .i64 n] = some [.int .i64 n] := by
 unfold Program.keyLits
 rw [Tryd.underlying3]
 simp only [h, and_self, if_true]
theorem keyD (x : DD) (h : wfD x) : keyOf Tryd.prog 31 (encDD x) = some (litDD x) := by
 unfold wfD facesD at h
 have h0 := h x.f0 (by simp)
 have h1 := h x.f1 (by simp)
 have h2 := h x.f2 (by simp)
 have h3 := h x.f3 (by simp)
 have h4 := h x.f4 (by simp)
 have h5 := h x.f5 (by simp)
 clear h
 have hc : Tryd.prog.cellsOf 31 = 6 := by kernel_rfl
 have hc3 : Tryd.prog.cellsOf 3 = 1 := by kernel_rfl
 have hk : Tryd.prog.keyType 31 = true := by kernel_rfl
 have hf : (encDD x).formed Tryd.prog 31 = true := by
  unfold encDD Value.formed
  rw [Tryd.underlying31]
  simp only [hc]
  rfl
 obtain ⟨m, hm⟩ : ∃ m, Tryd.prog.types.size = m + 1 := ⟨Tryd.prog.types.size - 1, by have : 0 < Tryd.prog.types.size := of_decide_eq_true (by kernel_rfl); omega⟩
 have hl : Tryd.prog.keyLits (Tryd.prog.types.size + 1) 31 [.int .i64 x.f0, .int .i64 x.f1, .int .i64 x.f2, .int .i64 x.f3, .int .i64 x.f4, .int .i64 x.f5] = some [.int .i64 x.f0, .int .i64 x.f1, .int .i64 x.f2, .int .i64 x.f3, .int .i64 x.f4, .int .i64 x.f5] := by
  unfold Program.keyLits
  rw [Tryd.underlying31, hm]
  simp [hc, hc3, List.mapM_cons, List.mapM_nil, qxB m x.f0 h0, qxB m x.f1 h1, qxB m x.f2 h2, qxB m x.f3 h3, qxB m x.f4 h4, qxB m x.f5 h5]
 unfold keyOf
 rw [Tryd.underlying31]
 simp only [hk, hf, Bool.and_self, if_true]
 show (Tryd.prog.keyLits (Tryd.prog.types.size + 1) 31 [.int .i64 x.f0, .int .i64 x.f1, .int .i64 x.f2, .int .i64 x.f3, .int .i64 x.f4, .int .i64 x.f5]).map _ = _
 rw [hl]
 rfl
noncomputable def mapD : MapKit Tryd.prog DD Bool where
 t := 99
 k := 31
 e := 4
 law := keyedD
 ht := Tryd.underlying99
 okK := wfD
 key := encDD
 lit := litDD
 hkey := keyD
 inj := encDD_inj
 okV := fun _ => True
 val := .bool
 dat := fun v => .lit (.bool v)
 R := plainElem Tryd.prog 4
 hval := (qVC Tryd.underlying4).1
 hdat := (qVC Tryd.underlying4).2
 zero := false
 okz := trivial
 hz := Tryd.zeroValue4
theorem wf_rots : ∀ p ∈ rots, wfD p := by
 have h : (rots.all fun p => (facesD p).all fun n => (Lit.int .i64 n).wf) = true := by decide +kernel
 intro p hp n hn
 exact List.all_eq_true.1 (List.all_eq_true.1 h p hp) n hn
def metL (L : List (DD × ByteArray)) : List (DD × Bool) := (L.map fun x => (x.1, true)).reverse
theorem metL_append (L : List (DD × ByteArray)) (x : DD) (w : ByteArray) : metL (L ++ [(x, w)]) = (x, true) :: metL L := by simp [metL]
theorem look_metL (L : List (DD × ByteArray)) (x : DD) : mapD.look (metL L) x = decide (x ∈ L.map Prod.fst) := by
 unfold MapKit.look
 by_cases h : x ∈ L.map Prod.fst
 ·rw [decide_eq_true h]
  obtain ⟨z, hz, rfl⟩ := List.mem_map.1 h
  cases hf : (metL L).find? (fun y => decide (y.1 = z.1)) with
  | none =>
   rw [List.find?_eq_none] at hf
   have := hf (z.1, true) (by unfold metL; rw [List.mem_reverse]; exact List.mem_map.2 ⟨z, hz, rfl⟩)
   simp at this
  | some y =>
   have hm := List.mem_of_find?_eq_some hf
   unfold metL at hm
   rw [List.mem_reverse] at hm
   obtain ⟨u, _, rfl⟩ := List.mem_map.1 hm
   rfl
 ·rw [decide_eq_false h]
  cases hf : (metL L).find? (fun y => decide (y.1 = x)) with
  | none => rfl
  | some y =>
   have hm := List.mem_of_find?_eq_some hf
   have hy := List.find?_some hf
   unfold metL at hm
   rw [List.mem_reverse] at hm
   obtain ⟨u, hu, rfl⟩ := List.mem_map.1 hm
   simp only [decide_eq_true_eq] at hy
   exact absurd (hy ▸ List.mem_map_of_mem hu) h
end Go.Proofs.YtdncpkppkafkpaaDoor
namespace Go.Proofs.YtdncpkppkafkpaaDoor
open Go.RowKit Go.Proofs.YtdncpkppkafkpaaDoor.P Go.Proofs.YtdncpkppkafkpaaDoorW.PrintWords Go.Proofs.YtdncpkppkafkpaaDoorW.PrintLast
set_option linter.unusedVariables false
set_option linter.unusedSimpArgs false
def tupDD (x : DD) : Int × Int × Int × Int × Int × Int := (x.f0, x.f1, x.f2, x.f3, x.f4, x.f5)
theorem dieRoll_num (x : DD) (c : UInt8) : qMA.f x.f0 x.f1 x.f2 x.f3 x.f4 x.f5 (c.toNat : Int) = some (tupDD (rolD x (dirNum c))) := by
 have hn : ∀ n : Nat, n < 256 → (((c.toNat : Int) = (n : Int)) ↔ c = UInt8.ofNat n) := by
  intro n hn
  constructor
  ·intro h
   have : c.toNat = n := by omega
   rw [← this]; simp
  ·intro h
   subst h
   simp; omega
 unfold qMA.f dirNum
 by_cases h1 : c = 110
 ·subst h1; rfl
 by_cases h2 : c = 101
 ·subst h2; rfl
 by_cases h3 : c = 115
 ·subst h3; rfl
 have a1 : ¬ (c.toNat : Int) = 110 := fun e => h1 ((hn 110 (by decide)).1 e)
 have a2 : ¬ (c.toNat : Int) = 101 := fun e => h2 ((hn 101 (by decide)).1 e)
 have a3 : ¬ (c.toNat : Int) = 115 := fun e => h3 ((hn 115 (by decide)).1 e)
 rw [if_neg a1, if_neg a2, if_neg a3, if_neg h1, if_neg h2, if_neg h3]
 rfl
theorem btW (s : ByteArray) (i : Nat) (h : i < s.data.toList.length) : bt s (i : Int) = ((s.data.toList[i]).toNat : Int) := by
 have h' : i < s.size := by
  rw [Array.length_toList] at h
  exact h
 unfold bt
 rw [dif_pos (by simpa using h')]
 simp only [Int.toNat_natCast, Array.getElem_toList]
 rfl
theorem rolled_loop (s : ByteArray) (hs : s.size ≤ 1048576) : ∀ (cs : List UInt8) (i : Nat) (x : DD), s.data.toList.drop i = cs → i ≤ s.size →
  Ev (fun k => qq.l0 k s (s.size : Int) (i : Int) x.f0 x.f1 x.f2 x.f3 x.f4 x.f5) (tupDD (rolls x (cs.map dirNum)))
 | [], i, x, hd, hi => by
  have hl : s.data.toList.length = s.size := by rw [Array.length_toList]; rfl
  have h1 : s.size ≤ i := by
   rcases Nat.lt_or_ge i s.data.toList.length with h | h
   ·rw [List.drop_eq_getElem_cons h] at hd; cases hd
   ·omega
  refine Ev.step (f := fun k => _) (fun k => by rw [qq.l0]) ?_
  exact Ev.neg (by omega) (Ev.now _)
 | c :: cs, i, x, hd, hi => by
  have hl : s.data.toList.length = s.size := by rw [Array.length_toList]; rfl
  have hlt : i < s.data.toList.length := by
   rcases Nat.lt_or_ge i s.data.toList.length with h | h
   ·exact h
   ·rw [List.drop_eq_nil_of_le h] at hd; cases hd
  have hb := btW s i hlt
  rw [List.drop_eq_getElem_cons hlt] at hd
  injection hd with h1 h2
  rw [h1] at hb
  have ih := rolled_loop s hs cs (i + 1) (rolD x (dirNum c)) h2 (by omega)
  have w : wrap64 ((i : Int) + 1) = ((i + 1 : Nat) : Int) := by unfold wrap64; omega
  have HB := Lib.hid hb
  clear hb h1 h2
  refine Ev.step (f := fun k => _) (fun k => by rw [qq.l0]) ?_
  rw [w, HB.out]
  exact Ev.pos (by omega) (Ev.pos (by omega) (Ev.pos (by omega) (Ev.bindc (dieRoll_num x c) ih)))
theorem rolled_ev (x : DD) (s : ByteArray) (hs : s.size ≤ 1048576) : Ev (fun k => qq.f k x.f0 x.f1 x.f2 x.f3 x.f4 x.f5 s) (tupDD (rolls x (numsW s))) :=
 rolled_loop s hs s.data.toList 0 x rfl (by omega)
theorem numsW_append (w v : ByteArray) : numsW (w ++ v) = numsW w ++ numsW v := by
 unfold numsW
 rw [ByteArray.data_append, Array.toList_append, List.map_append]
theorem numsW_dir (d : Nat) (h : d < 4) : numsW (dirW d) = [d] := by
 have : d = 0 ∨ d = 1 ∨ d = 2 ∨ d = 3 := by omega
 rcases this with rfl | rfl | rfl | rfl <;> decide +kernel
theorem rolls_append (x : DD) (l m : List Nat) : rolls x (l ++ m) = rolls (rolls x l) m := List.foldl_append
theorem rdDD (l : List DD) (t : DD) (i : Nat) (h : l[i]? = some t) : qP l (i : Int) = t := by
 unfold qP
 rw [Int.toNat_natCast, List.getD_eq_getElem?_getD, h]; rfl
theorem rdWD (l : List ByteArray) (t : ByteArray) (i : Nat) (h : l[i]? = some t) : rdOf ByteArray.empty l (i : Int) = t := by
 unfold rdOf
 rw [Int.toNat_natCast, List.getD_eq_getElem?_getD, h]; rfl
abbrev dds (L : List (DD × ByteArray)) : List DD := L.map Prod.fst
abbrev wsd (L : List (DD × ByteArray)) : List ByteArray := L.map Prod.snd
theorem putD_get {L : List (DD × ByteArray)} {i : Nat} {x : DD × ByteArray} (h : L[i]? = some x) (y : Option DD) (p : ByteArray) : (Bfs.put L y p)[i]? = some x := by
 obtain ⟨t, ht⟩ := Bfs.put_prefix L y p
 rw [← ht, List.getElem?_append_left (List.getElem?_eq_some_iff.1 h).1]
 exact h
theorem specDie_rol (x : DD) (d : Nat) (h : d < 4) : qjA.f x.f0 x.f1 x.f2 x.f3 x.f4 x.f5 (d : Int) = some ((rolD x d).f0, (rolD x d).f1, (rolD x d).f2, (rolD x d).f3, (rolD x d).f4, (rolD x d).f5) := by
 have : d = 0 ∨ d = 1 ∨ d = 2 ∨ d = 3 := by omega
 rcases this with rfl | rfl | rfl | rfl <;> simp [qjA.f, rolD]
theorem qCD (b z : DD) : (b.f0 == z.f0 && (b.f1 == z.f1 && (b.f2 == z.f2 && (b.f3 == z.f3 && (b.f4 == z.f4 && (b.f5 == z.f5)))))) = decide (z = b) := by
 by_cases hzb : z = b
 ·subst hzb; simp
 ·rw [decide_eq_false hzb]
  cases hx : (b.f0 == z.f0 && (b.f1 == z.f1 && (b.f2 == z.f2 && (b.f3 == z.f3 && (b.f4 == z.f4 && (b.f5 == z.f5)))))) with
  | false => rfl
  | true =>
   simp only [Bool.and_eq_true, beq_iff_eq] at hx
   exact absurd (qPD hx.1.symm hx.2.1.symm hx.2.2.1.symm hx.2.2.2.1.symm hx.2.2.2.2.1.symm hx.2.2.2.2.2.symm) hzb
theorem search_found (at_ d : Int) (B : List DD) (hB : B.length ≤ 24) (ws : List ByteArray) (z : DD) (R : List DD × List ByteArray) :
  ∀ (l : List DD) (j : Nat) (f : Bool), B.drop j = l → j ≤ B.length →
   (∀ f', (f' = (f || decide (z ∈ l))) → Ev (fun k => qR.l2 k B ws at_ d f' (B.length : Int) (B.length : Int) z.f0 z.f1 z.f2 z.f3 z.f4 z.f5) R) →
   Ev (fun k => qR.l2 k B ws at_ d f (B.length : Int) (j : Int) z.f0 z.f1 z.f2 z.f3 z.f4 z.f5) R
 | [], j, f, hd, hj, h => by
  have := Sorts.qzC hd
  obtain rfl : j = B.length := by omega
  exact h f (by simp)
 | b :: l, j, f, hd, hj, h => by
  obtain ⟨hlt, hc, hd'⟩ := Sorts.qgC hd
  have e := rdDD B b j (by rw [← hc]; exact List.getElem?_eq_getElem hlt)
  have ih := fun f' hf => search_found at_ d B hB ws z R l (j + 1) f' hd' (by omega) hf
  have w : wrap64 ((j : Int) + 1) = ((j + 1 : Nat) : Int) := by unfold wrap64; omega
  clear hd hd' hc
  refine Ev.step (f := fun k => _) (fun k => by rw [qR.l2]) ?_
  rw [w, e]
  refine Ev.pos (by omega) (Ev.pos (by omega) (Ev.pos (by omega) ?_))
  cases f with
  | true =>
   refine Ev.pos rfl (ih true fun f' hf => h f' ?_)
   rw [hf]; rfl
  | false =>
   refine Ev.neg (by decide) ?_
   rw [qCD]
   refine ih _ fun f' hf => h f' ?_
   rw [hf, Bool.false_or]
   by_cases hzb : z = b
   ·subst hzb; simp
   ·simp [hzb]
theorem qDC (x : DD) (at_ : Nat) (R : List DD × List ByteArray) : ∀ (n d : Nat) (L : List (DD × ByteArray)) (b : DD) (w : ByteArray), d + n = 4 → L[at_]? = some (b, w) → FoundD x L → w.size ≤ 147 →
  (Ev (fun k => qR.l0 k (dds (Bfs.puts L (stepsD b w n d))) (wsd (Bfs.puts L (stepsD b w n d))) ((at_ + 1 : Nat) : Int)) R) →
  Ev (fun k => qR.l1 k (dds L) (wsd L) (at_ : Int) (d : Int)) R
 | 0, d, L, b, w, hd, hat, hF, hw, h => by
  have hl := hF.len
  have hlt := (List.getElem?_eq_some_iff.1 hat).1
  have w1 : wrap64 ((at_ : Int) + 1) = ((at_ + 1 : Nat) : Int) := by unfold wrap64; omega
  refine Ev.step (f := fun k => _) (fun k => by rw [qR.l1]) ?_
  rw [w1]
  exact Ev.neg (by omega) h
 | n + 1, d, L, b, w, hd, hat, hF, hw, h => by
  have hl := hF.len
  have hlt := (List.getElem?_eq_some_iff.1 hat).1
  have w1 : wrap64 ((d : Int) + 1) = ((d + 1 : Nat) : Int) := by unfold wrap64; omega
  have eb := rdDD (dds L) b at_ (by rw [List.getElem?_map, hat]; rfl)
  have ew := rdWD (wsd L) w at_ (by rw [List.getElem?_map, hat]; rfl)
  have h1 := qWC d (by omega)
  have hlen : (dds L).length = L.length := List.length_map _
  have hlen2 : (wsd L).length = L.length := List.length_map _
  have him : b ∈ imgs x := hF.img (b, w) (List.mem_of_getElem? hat)
  refine Ev.step (f := fun k => _) (fun k => by rw [qR.l1]) ?_
  rw [eb]
  refine Ev.pos (by omega) (Ev.pos (by omega) (Ev.pos (by omega) (Ev.bindc (specDie_rol b d (by omega)) ?_)))
  rw [stepsD] at h
  show Ev (fun k => qR.l2 k (dds L) (wsd L) (at_ : Int) (d : Int) false ((dds L).length : Int) ((0 : Nat) : Int) (rolD b d).f0 (rolD b d).f1 (rolD b d).f2 (rolD b d).f3 (rolD b d).f4 (rolD b d).f5) R
  refine search_found _ _ (dds L) (by omega) (wsd L) (rolD b d) R (dds L) 0 false rfl (by omega) fun f' hf => ?_
  rw [Bool.false_or] at hf
  refine Ev.step (f := fun k => _) (fun k => by rw [qR.l2]) ?_
  rw [w1, ew]
  refine Ev.neg (by omega) ?_
  by_cases hm : rolD b d ∈ dds L
  ·rw [decide_eq_true hm] at hf
   subst hf
   have e : Bfs.put L (some (rolD b d)) (w ++ dirW d) = L := Bfs.qFC hm _
   rw [Bfs.puts, e] at h
   exact Ev.pos rfl (qDC x at_ R n (d + 1) L b w (by omega) hat hF hw h)
  ·rw [decide_eq_false hm] at hf
   subst hf
   have e : Bfs.put L (some (rolD b d)) (w ++ dirW d) = L ++ [(rolD b d, w ++ dirW d)] := Bfs.qpB hm _
   have hF2 := hF.put (some (rolD b d)) (w ++ dirW d) (fun z hz => by cases hz; exact qnC him d (by omega))
   have hg2 := putD_get hat (some (rolD b d)) (w ++ dirW d)
   rw [Bfs.puts, e] at h
   rw [e] at hF2 hg2
   refine Ev.neg (by decide) (Ev.pos (by omega) (Ev.pos (by omega) (Ev.pos (by omega) (Ev.bindc (show qGB.f = some dirsW from rfl) (Ev.pos (by omega) (Ev.pos (by omega) (Ev.pos (by rw [show dirsW.size = 4 from rfl]; omega) ?_)))))))
   rw [Int.toNat_natCast, Int.toNat_natCast]
   refine Ev.pos (by show w.size + (dirW d).size ≤ _; omega) (Ev.pos (by omega) ?_)
   have := qDC x at_ R n (d + 1) (L ++ [(rolD b d, w ++ dirW d)]) b w (by omega) hg2 hF2 hw h
   rw [show dds (L ++ [(rolD b d, w ++ dirW d)]) = dds L ++ [rolD b d] by simp [dds], show wsd (L ++ [(rolD b d, w ++ dirW d)]) = wsd L ++ [w ++ dirW d] by simp [wsd]] at this
   exact this
def ShortD (L : List (DD × ByteArray)) (n : Nat) : Prop := ∀ x ∈ L, x.2.size ≤ n
theorem ShortD.round {L : List (DD × ByteArray)} {i : Nat} (h : ShortD L i) : ShortD (Bfs.round nextD i L) (i + 1) := by
 unfold Bfs.round
 split
 ·exact fun x hx => Nat.le_succ_of_le (h x hx)
 ·rename_i x hx
  have hxs := h x (List.mem_of_getElem? hx)
  refine Bfs.qDD (Q := fun y => y.2.size ≤ i + 1) _ (fun y hy => Nat.le_succ_of_le (h y hy)) ?_
  intro s hs z hz
  obtain ⟨e, he, rfl⟩ := qpC x.1 x.2 4 0 rfl s hs
  show (x.2 ++ dirW e).size ≤ _
  rw [ByteArray.size_append, qWC e he]
  omega
theorem qsC {L : List (DD × ByteArray)} {i : Nat} {b : DD} {w : ByteArray} (h : L[i]? = some (b, w)) : Bfs.round nextD i L = Bfs.puts L (stepsD b w 4 0) := by
 unfold Bfs.round; rw [h]; rfl
theorem search_run (x : DD) : ∀ (n i : Nat) (L : List (DD × ByteArray)), FoundD x L → ShortD L i → i ≤ L.length → 24 ≤ i + n →
  Ev (fun k => qR.l0 k (dds L) (wsd L) (i : Int)) (dds (Bfs.run nextD n i L), wsd (Bfs.run nextD n i L))
 | 0, i, L, hF, hS, hi, hn => by
  have hl := hF.len
  refine Ev.step (f := fun k => _) (fun k => by rw [qR.l0]) ?_
  exact Ev.neg (by rw [List.length_map]; omega) (Ev.now _)
 | n + 1, i, L, hF, hS, hi, hn => by
  have hl := hF.len
  refine Ev.step (f := fun k => _) (fun k => by rw [qR.l0]) ?_
  rw [Bfs.run]
  by_cases hlt : i < L.length
  ·rw [if_pos hlt]
   refine Ev.pos (by rw [List.length_map]; omega) ?_
   have hat : L[i]? = some (L[i].1, L[i].2) := List.getElem?_eq_getElem hlt
   have ih := search_run x n (i + 1) (Bfs.round nextD i L) (hF.round i) hS.round (by have := (Bfs.qoB nextD i L).length_le; omega) (by omega)
   rw [qsC hat] at ih
   rw [qsC hat]
   exact qDC x i _ 4 0 L _ _ rfl hat hF (by have := hS _ (List.getElem_mem hlt); omega) ih
  ·rw [if_neg hlt]
   exact Ev.neg (by rw [List.length_map]; omega) (Ev.now _)
theorem diSearch_ev (x : DD) : Ev (fun k => qR.f k x.f0 x.f1 x.f2 x.f3 x.f4 x.f5) (dds (runD x), wsd (runD x)) :=
 search_run x 24 0 [(x, ⟨#[]⟩)] (qeB x) (fun z hz => by rw [List.mem_singleton] at hz; subst hz; exact Nat.le_refl _) (by simp) (by omega)
theorem rd_getW (l : List ByteArray) (j : Nat) (h : j < l.length) : rdOf ByteArray.empty l (j : Int) = l[j] := by
 unfold rdOf
 rw [Int.toNat_natCast, List.getD_eq_getElem?_getD, List.getElem?_eq_getElem h]; rfl
def WordsOk (L : List (DD × ByteArray)) : Prop := ∀ x ∈ L, rolls plainD (numsW x.2) = x.1
theorem WordsOk.add {L : List (DD × ByteArray)} (h : WordsOk L) {b : DD} {w : ByteArray} (hm : (b, w) ∈ L) (d : Nat) (hd : d < 4) : WordsOk (L ++ [(rolD b d, w ++ dirW d)]) := by
 intro x hx
 rcases List.mem_append.1 hx with hx | hx
 ·exact h x hx
 ·rw [List.mem_singleton] at hx
  subst hx
  show rolls plainD (numsW (w ++ dirW d)) = rolD b d
  rw [numsW_append, numsW_dir d hd, rolls_append, h _ hm]
  rfl
structure ShO (L : List (DD × ByteArray)) (i : Nat) : Prop where
 found : FoundD plainD L
 words : WordsOk L
 short : ShortD L i
 le : i ≤ L.length
 fin : Bfs.run nextD (24 - i) i L = runD plainD
theorem ShO.start : ShO [(plainD, ⟨#[]⟩)] 0 := ⟨qeB plainD, fun x hx => by rw [List.mem_singleton] at hx; subst hx; rfl, fun z hz => by rw [List.mem_singleton] at hz; subst hz; exact Nat.le_refl _, by simp, rfl⟩
structure ShN (L : List (DD × ByteArray)) (i d : Nat) (b : DD) (v : ByteArray) (T : List (DD × ByteArray)) : Prop where
 found : FoundD plainD L
 words : WordsOk L
 short : ShortD L (i + 1)
 at_ : L[i]? = some (b, v)
 size : v.size ≤ i
 i24 : i < 24
 d4 : d ≤ 4
 fin : Bfs.puts L (stepsD b v (4 - d) d) = T
theorem ShO.inner {L : List (DD × ByteArray)} {i : Nat} (h : ShO L i) (hi : i < L.length) : ShN L i 0 L[i].1 L[i].2 (Bfs.round nextD i L) :=
 ⟨h.found, h.words, fun x hx => Nat.le_succ_of_le (h.short x hx), List.getElem?_eq_getElem hi, h.short _ (List.getElem_mem hi), by have := h.found.len; omega, by omega, (qsC (List.getElem?_eq_getElem hi)).symm⟩
theorem ShN.outer {L L0 : List (DD × ByteArray)} {i : Nat} {b : DD} {v : ByteArray} (h : ShN L i 4 b v (Bfs.round nextD i L0)) (h0 : ShO L0 i) (hi : i < L0.length) : ShO L (i + 1) := by
 have e : L = Bfs.round nextD i L0 := h.fin
 have h24 := h.i24
 refine ⟨h.found, h.words, h.short, ?_, ?_⟩
 ·have := (List.getElem?_eq_some_iff.1 h.at_).1; omega
 ·rw [e]
  have hf := h0.fin
  rw [show 24 - i = (24 - (i + 1)) + 1 by omega, Bfs.run, if_pos hi] at hf
  exact hf
theorem ShN.mem {L : List (DD × ByteArray)} {i d : Nat} {b : DD} {v : ByteArray} {T : List (DD × ByteArray)} (h : ShN L i d b v T) : (b, v) ∈ L := List.mem_of_getElem? h.at_
theorem ShN.met {L : List (DD × ByteArray)} {i d : Nat} {b : DD} {v : ByteArray} {T : List (DD × ByteArray)} (h : ShN L i d b v T) (hd : d < 4) (hm : rolD b d ∈ dds L) : ShN L i (d + 1) b v T := by
 refine ⟨h.found, h.words, h.short, h.at_, h.size, h.i24, by omega, ?_⟩
 have hf := h.fin
 rw [show 4 - d = (4 - (d + 1)) + 1 by omega, stepsD, Bfs.puts, Bfs.qFC hm] at hf
 exact hf
theorem ShN.new {L : List (DD × ByteArray)} {i d : Nat} {b : DD} {v : ByteArray} {T : List (DD × ByteArray)} (h : ShN L i d b v T) (hd : d < 4) (hm : ¬ rolD b d ∈ dds L) : ShN (L ++ [(rolD b d, v ++ dirW d)]) i (d + 1) b v T := by
 have e : Bfs.put L (some (rolD b d)) (v ++ dirW d) = L ++ [(rolD b d, v ++ dirW d)] := Bfs.qpB hm _
 have him : b ∈ imgs plainD := h.found.img _ h.mem
 have hF := h.found.put (some (rolD b d)) (v ++ dirW d) (fun z hz => by cases hz; exact qnC him d hd)
 rw [e] at hF
 refine ⟨hF, h.words.add h.mem d hd, ?_, ?_, h.size, h.i24, by omega, ?_⟩
 ·intro x hx
  rcases List.mem_append.1 hx with hx | hx
  ·exact h.short x hx
  ·rw [List.mem_singleton] at hx
   subst hx
   show (v ++ dirW d).size ≤ _
   have := h.size
   rw [ByteArray.size_append, qWC d hd]; omega
 ·rw [List.getElem?_append_left (List.getElem?_eq_some_iff.1 h.at_).1]
  exact h.at_
 ·have hf := h.fin
  rw [show 4 - d = (4 - (d + 1)) + 1 by omega, stepsD, Bfs.puts, e] at hf
  exact hf
theorem ShN.die {L : List (DD × ByteArray)} {i d : Nat} {b : DD} {v : ByteArray} {T : List (DD × ByteArray)} (h : ShN L i d b v T) (hd : d < 4) : ∃ k, qq.f k 0 1 2 3 4 5 (v ++ dirW d) = some (tupDD (rolD b d)) := by
 have hs := h.size
 have h24 := h.i24
 obtain ⟨k, hk⟩ := rolled_ev plainD (v ++ dirW d) (by rw [ByteArray.size_append, qWC d hd]; omega)
 have e : rolls plainD (numsW (v ++ dirW d)) = rolD b d := by
  rw [numsW_append, numsW_dir d hd, rolls_append, h.words _ h.mem]; rfl
 rw [e] at hk
 exact ⟨k, hk k (Nat.le_refl k)⟩
theorem ShN.wf {L : List (DD × ByteArray)} {i d : Nat} {b : DD} {v : ByteArray} {T : List (DD × ByteArray)} (h : ShN L i d b v T) (hd : d < 4) : wfD (rolD b d) := by
 have him : b ∈ imgs plainD := h.found.img _ h.mem
 obtain ⟨p, hp, he⟩ := List.mem_map.1 (qnC him d hd)
 rw [← he]
 have hw := wf_rots p hp
 intro n hn
 have hc : ∀ p ∈ rots, putD plainD p = p := by decide +kernel
 rw [hc p hp] at hn
 exact hw n hn
def swT1 : Bool × List (List Nat × List Nat) := (true, [([], []), ([], []), ([], []), ([1, 2], [1, 2]), ([1, 2, 3], [1]), ([0, 2, 0], [0]), ([4, 5, 0, 1, 2, 3, 4, 5], [4])])
def swB1 : List Nat := [0, 0, 0, 6, 14, 5, 63]
theorem swTab1 : rtab .any (opsOf Tryd.f61 1) = swT1 := by kernel_rfl
theorem swBits1 : waitsOk swT1.2 swB1 = true := by kernel_rfl
def swI (w : World) (b : Nat → Bool) (a : Act) (w' : World) : Prop := ∃ s1 s2 s7 s8 s9 s10 : Value, a = { tmps := #[.slice none 0 0, s1, s2, undef, undef, undef, undef, s7, s8, s9, s10, undef, undef, undef, undef, undef, undef, undef, undef, undef, undef, undef, undef, undef, undef, undef, undef, undef, undef, undef, undef, undef, undef, undef, undef, undef, undef, undef, undef, undef, undef, undef, undef, undef], defers := [] } ∧ Below w.heap.size w w' ∧
 (b 0 = true → Kd.R Kd.string 9 w' w.heap.size (fun _ => True) s7 [⟨#[]⟩]) ∧
 (b 1 = true → ∃ g, s8 = .map (some g) ∧ w.heap.size ≤ g ∧ mapD.Is w' g (if b 3 = true then [(plainD, true)] else [])) ∧
 (b 2 = true → s9 = encDD plainD) ∧ (b 4 = true → s10 = s8) ∧ (b 5 = true → s1 = s7) ∧ (b 6 = true → s2 = s10)
set_option maxHeartbeats 4000000 in
set_option maxRecDepth 100000 in
theorem shortWords.calls (w : World) : Calls Tryd.prog 61 #[] w fun e w' => ∃ v : Value, e = .returned v ∧ Kd.R Kd.string 9 w' w.heap.size (fun _ => True) v rotWords ∧ Below w.heap.size w w' := by
 have HB := Aside0.mk (Below.refl w.heap.size w)
 go_enter Tryd.func61, Tryd.ntmps61
 go_wp2
 refine qwA (n := 7) (S := fun _ => True) (ds := []) #[false, false, false, false, false, false, false] (by kernel_rfl) rfl rfl trivial (fun _ => ?_)
 refine qTA swTab1 swBits1 (fun HT_ HW_ => ?_)
 refine inv_ (B := swB1) [0, 1, 2, 3, 4, 5, 6] (swI w) HT_.out HW_.out (by kernel_rfl) (by kernel_rfl) ?h0 (qm ?s0 (qm ?s1 (qm ?s2 (qm ?s3 (qm ?s4 (qm ?s5 (qm ?s6 qmB))))))) ?hend
 case h0 => exact ⟨_, _, _, _, _, _, rfl, by repeat (first | exact HB.out | apply qhC), by simp, by simp, by simp, by simp, by simp, by simp⟩
 case s0 =>
  rintro b a w' ⟨s1, s2, s7, s8, s9, s10, rfl, hb, h0, h1, h2, h4, h5, h6⟩ hi hp hn
  have n5 := hn 5 (by decide)
  refine ⟨_, rfl, fun K hK => ?_⟩
  refine Kd.qzB Kd.string (w0 := w) w.heap.size 9 rfl (N := 7) rfl (xs := [(⟨#[]⟩ : ByteArray)]) (inner := [.string ⟨#[]⟩]) (ok := fun _ => True) (okp := fun _ => True) ?hr ?hp (fun _ hk => hk) trivial hb hb.size (by simp) ?_
  case hr => first | (go_simp; done) | (go_simp; rfl)
  case hp => exact (Reps.one (show Kd.M Kd.string _ _ _ (⟨#[]⟩ : ByteArray) [.string (⟨#[]⟩ : ByteArray)] from rfl) (Reps.none _ _))
  intro v1 w1 hR hb1 hg _
  refine hK _ _ ⟨s1, s2, v1, s8, s9, s10, by rfl, hb1, fun _ => hR, fun h => ?_, fun h => h2 (by simpa [up] using h), fun h => h4 (by simpa [up] using h), fun h => ?_, fun h => h6 (by simpa [up] using h)⟩
  ·obtain ⟨g, e, hg1, hM⟩ := h1 (by simpa [up] using h)
   refine ⟨g, e, hg1, ?_⟩
   rw [show up b 0 3 = b 3 from rfl]
   exact hM.qXB (hg.block g hM.lt (by simp))
  ·rw [show up b 0 5 = b 5 from rfl, n5] at h; cases h
 case s1 =>
  rintro b a w' ⟨s1, s2, s7, s8, s9, s10, rfl, hb, h0, h1, h2, h4, h5, h6⟩ hi hp hn
  have n3 := hn 3 (by decide)
  have n4 := hn 4 (by decide)
  have hmm := @run_makeMap Tryd.prog
  refine ⟨_, rfl, fun K hK => ?_⟩
  refine qzA (w1 := w'.alloc (.map #[] 0)) (v := .map (some w'.heap.size)) rfl rfl ?hr ?_
  case hr => first | (go_simp; done) | (go_simp; rfl)
  refine hK _ _ ⟨s1, s2, s7, .map (some w'.heap.size), s9, s10, by rfl, qBA hb _, fun h => Kd.qF (h0 (by simpa [up] using h)) _, fun _ => ⟨_, rfl, hb.size, ?_⟩, fun h => h2 (by simpa [up] using h), fun h => ?_, fun h => h5 (by simpa [up] using h), fun h => h6 (by simpa [up] using h)⟩
  ·rw [show up b 1 3 = b 3 from rfl, n3, if_neg (by decide)]
   exact MapKit.Is.made w'
  ·rw [show up b 1 4 = b 4 from rfl, n4] at h; cases h
 case s2 =>
  rintro b a w' ⟨s1, s2, s7, s8, s9, s10, rfl, hb, h0, h1, h2, h4, h5, h6⟩ hi hp hn
  refine ⟨_, rfl, fun K hK => ?_⟩
  refine goes_ Tryd.func52 (by kernel_rfl) rfl #[] (by rfl) rfl rfl (by (try simp only [List.map_toArray, List.map_cons, List.map_nil]); first | done | rfl | simp) ?_
  refine (qIB.calls 0 1 2 3 4 5 w' rfl).mono ?_
  rintro e w1 ⟨rfl, hb1⟩
  refine ⟨_, rfl, hK _ _ ⟨s1, s2, s7, s8, encDD plainD, s10, by rfl, qaA hb hb.size hb1, fun h => Kd.qU (h0 (by simpa [up] using h)) hb1, fun h => ?_, fun _ => rfl, fun h => h4 (by simpa [up] using h), fun h => h5 (by simpa [up] using h), fun h => h6 (by simpa [up] using h)⟩⟩
  obtain ⟨g, e, hg1, hM⟩ := h1 (by simpa [up] using h)
  refine ⟨g, e, hg1, ?_⟩
  rw [show up b 2 3 = b 3 from rfl]
  exact hM.below hb1
 case s3 =>
  rintro b a w' ⟨s1, s2, s7, s8, s9, s10, rfl, hb, h0, h1, h2, h4, h5, h6⟩ hi hp hn
  have p1 := hp 1 (by decide)
  have p2 := hp 2 (by decide)
  obtain ⟨g, rfl, hg1, hM⟩ := h1 p1
  obtain rfl := h2 p2
  rw [hi, if_neg (by decide)] at hM
  obtain ⟨w1, hrun, hM1, hgr⟩ := hM.qJD (by decide) (x := plainD) (wf_rots _ qvB) (v := true) trivial
  refine ⟨_, rfl, fun K hK => ?_⟩
  refine skip_ (w1 := w1) rfl rfl ?hr ?_
  case hr =>
   have hrun2 : (Instr.mapUpdate 99 (.map (some g)) (encDD plainD) (.bool true)).run Tryd.prog w' = .ok () w1 := hrun
   unfold execOp
   simp [Act.eval, hrun2, Result.andThen]
  refine hK _ _ ⟨s1, s2, s7, .map (some g), encDD plainD, s10, rfl, hb.grown hgr hb.size (fun k e => by cases e; exact hg1), fun h => hM.row (h0 (by simpa [up] using h)) hgr, fun _ => ⟨g, rfl, hg1, ?_⟩, fun _ => rfl, fun h => h4 (by simpa [up] using h), fun h => h5 (by simpa [up] using h), fun h => h6 (by simpa [up] using h)⟩
  rw [qfB, if_pos rfl]
  exact hM1
 case s4 =>
  rintro b a w' ⟨s1, s2, s7, s8, s9, s10, rfl, hb, h0, h1, h2, h4, h5, h6⟩ hi hp hn
  have n6 := hn 6 (by decide)
  refine ⟨_, rfl, fun K hK => ?_⟩
  refine qzA (w1 := w') (v := s8) rfl rfl ?hr ?_
  case hr => first | (go_simp; done) | (go_simp; rfl)
  refine hK _ _ ⟨s1, s2, s7, s8, s9, s8, by rfl, hb, fun h => h0 (by simpa [up] using h), fun h => ?_, fun h => h2 (by simpa [up] using h), fun _ => rfl, fun h => h5 (by simpa [up] using h), fun h => ?_⟩
  ·rw [show up b 4 3 = b 3 from rfl]
   exact h1 (by simpa [up] using h)
  ·rw [show up b 4 6 = b 6 from rfl, n6] at h; cases h
 case s5 =>
  rintro b a w' ⟨s1, s2, s7, s8, s9, s10, rfl, hb, h0, h1, h2, h4, h5, h6⟩ hi hp hn
  refine ⟨_, rfl, fun K hK => ?_⟩
  refine qzA (w1 := w') (v := s7) rfl rfl ?hr ?_
  case hr => first | (go_simp; done) | (go_simp; rfl)
  refine hK _ _ ⟨s7, s2, s7, s8, s9, s10, by rfl, hb, fun h => h0 (by simpa [up] using h), fun h => ?_, fun h => h2 (by simpa [up] using h), fun h => h4 (by simpa [up] using h), fun _ => rfl, fun h => h6 (by simpa [up] using h)⟩
  rw [show up b 5 3 = b 3 from rfl]
  exact h1 (by simpa [up] using h)
 case s6 =>
  rintro b a w' ⟨s1, s2, s7, s8, s9, s10, rfl, hb, h0, h1, h2, h4, h5, h6⟩ hi hp hn
  refine ⟨_, rfl, fun K hK => ?_⟩
  refine qzA (w1 := w') (v := s10) rfl rfl ?hr ?_
  case hr => first | (go_simp; done) | (go_simp; rfl)
  refine hK _ _ ⟨s1, s10, s7, s8, s9, s10, by rfl, hb, fun h => h0 (by simpa [up] using h), fun h => ?_, fun h => h2 (by simpa [up] using h), fun h => h4 (by simpa [up] using h), fun h => h5 (by simpa [up] using h), fun _ => rfl⟩
  rw [show up b 6 3 = b 3 from rfl]
  exact h1 (by simpa [up] using h)
 case hend =>
  rintro b a w1 hall ⟨s1, s2, s7, s8, s9, s10, rfl, hb, h0, h1, h2, h4, h5, h6⟩
  have HO := Aside0.mk (h0 (hall 0 (by decide)))
  obtain ⟨g, rfl, hg1, hM⟩ := h1 (hall 1 (by decide))
  rw [hall 3 (by decide), if_pos rfl] at hM
  obtain rfl := h6 (hall 6 (by decide))
  obtain rfl := h4 (hall 4 (by decide))
  obtain rfl := h5 (hall 5 (by decide))
  have HM := Aside0.mk hM
  have HB1 := Aside0.mk hb
  have HG := Aside0.mk hg1
  clear h0 h1 h2 h4 h5 h6 hall HB hb hM hg1
  go_wp2
  go_loopg [1, 3] 24 (fun gg v1 v3 wq => ∃ (L : List (DD × ByteArray)) (i : Nat), v3 = .int .i64 i ∧ 24 - i ≤ gg ∧ Aside0 (ShO L i) ∧ Aside0 (Kd.R Kd.string 9 wq w.heap.size (fun _ => True) v1 (wsd L)) ∧ Aside0 (mapD.Is wq g (metL L)) ∧ Aside0 (Below w.heap.size w wq))
  case atStart => exact ⟨[(plainD, ⟨#[]⟩)], 0, rfl, by omega, ⟨ShO.start⟩, ⟨HO.out⟩, ⟨HM.out⟩, ⟨HB1.out⟩⟩
  case round =>
   clear HO HM HB1
   obtain ⟨L, i, rfl, hgk, HS, HO, HM, HB⟩ := hrel
   rename World => wr
   have hlen : (wsd L).length = L.length := List.length_map _
   have hL := HS.out.found.len
   have hle := HS.out.le
   obtain ⟨A1, c1, rfl, lc1, C1⟩ := Kd.qAD HO.out
   clear C1 lc1
   generalize hn1 : (wsd L).length = n1 at HO
   have hln : n1 = L.length := by rw [← hn1]; exact hlen
   have HN1 := Aside0.mk hn1
   clear hn1 hlen
   by_cases hlt : i < L.length
   ·have hltz : (i : Int) < (n1 : Int) := by omega
    clear hln
    go_wp2
    go_loopg [1, 17] 4 (fun gg v1 v17 wq => ∃ (L1 : List (DD × ByteArray)) (d : Nat), v17 = .int .i64 d ∧ 4 - d ≤ gg ∧ Aside0 (ShN L1 i d L[i].1 L[i].2 (Bfs.round nextD i L)) ∧ Aside0 (Kd.R Kd.string 9 wq w.heap.size (fun _ => True) v1 (wsd L1)) ∧ Aside0 (mapD.Is wq g (metL L1)) ∧ Aside0 (Below w.heap.size w wq))
    case atStart => exact ⟨L, 0, rfl, by omega, ⟨HS.out.inner hlt⟩, HO, HM, HB⟩
    case round =>
     clear HO HM HB
     obtain ⟨L1, d, rfl, hgk1, HN, HO, HM, HB⟩ := hrel
     rename World => wq
     generalize hbv : L[i].1 = bb at HN
     generalize hvv : L[i].2 = vv at HN
     have lenq : (wsd L1).length = L1.length := List.length_map _
     obtain ⟨A2, c2, rfl, lc2, C2⟩ := Kd.qAD HO.out
     generalize hn2 : (wsd L1).length = n2 at HO C2
     have lenq2 : n2 = L1.length := by rw [← hn2]; exact lenq
     by_cases hd : d < 4
     ·have hdz : (d : Int) < 4 := by omega
      have hat := HN.out.at_
      have hil : i < L1.length := (List.getElem?_eq_some_iff.1 hat).1
      obtain ⟨ad, e, hcell⟩ := Kd.qPB C2 (i : Int) (by omega) (by omega)
      cases e
      have hin2 : (i : Int) < (n2 : Int) := by omega
      clear lenq2
      go_wp2
      have hrd : rdOf ByteArray.empty (wsd L1) (i : Int) = vv := by
       rw [rd_getW (wsd L1) i (by rw [lenq]; exact hil)]
       unfold wsd
       rw [List.getElem_map, (List.getElem?_eq_some_iff.1 hat).2]
      rw [hrd, Int.toNat_natCast] at hcell
      have hsz := HN.out.size
      have h24 := HN.out.i24
      have hwr : IntKind.i64.wrap ((d : Int) + 1) = (d : Int) + 1 := by rw [IntKind.wrap_i64]; omega
      have hd0 : (0 : Int) ≤ (d : Int) := by omega
      have hd1 : (d : Int) ≤ (d : Int) + 1 := by omega
      have hd2 : (d : Int) + 1 ≤ 4 := by omega
      go_quiet (fail)
      clear hwr hd0 hd1 hd2 hcell C2 hin2
      obtain ⟨kr, hkr⟩ := HN.out.die hd
      have hkr2 := Aside0.mk hkr
      clear hkr
      have ewd : vv ++ (⟨#[110, 101, 115, 119]⟩ : ByteArray).extract d (d + 1) = vv ++ dirW d := rfl
      rw [ewd]
      generalize hun : vv ++ dirW d = un at hkr2
      generalize hnd : rolD bb d = nd at hkr2
      have HUN := Aside0.mk hun
      have HND := Aside0.mk hnd
      clear hun hnd ewd
      have HO3 := Aside0.mk (Kd.qG HO.out nq)
      have HM3 := Aside0.mk (HM.out.drewN nq)
      have HB3 := Aside0.mk (qWA HB.out nq)
      clear HO HM HB lenq hn2 lc2 hil hat hrd
      generalize wq.drewN nq = wd at HO3 HM3 HB3
      go_wp2_with (first
       | ((with_reducible refine qa (f := 52) rfl ?_); refine qQA (some 29) rfl rfl Tryd.func52 (by kernel_rfl) rfl #[] rfl (by (try simp only [List.map_toArray, List.map_cons, List.map_nil]); first | done | rfl | simp) ?_; refine (qIB.calls 0 1 2 3 4 5 _ rfl).mono ?_; rintro e w1 ⟨rfl, hb1⟩; refine ⟨_, rfl, ?_⟩; have HO4 := Aside0.mk (Kd.qU HO3.out hb1); have HM4 := Aside0.mk (HM3.out.below hb1); have HB4 := Aside0.mk (qaA HB3.out HB3.out.size hb1); clear HO3 HM3 HB3 hb1)
       | ((with_reducible refine qa (f := 62) rfl ?_); refine qQA (some 31) rfl rfl Tryd.func62 (by kernel_rfl) rfl #[encDD plainD, .string un] rfl (by (try simp only [List.map_toArray, List.map_cons, List.map_nil]); first | done | rfl | simp) ?_; refine (qq.calls kr 0 1 2 3 4 5 un _ _ _ _ _ _ _ hkr2.out).mono ?_; rintro e w2 ⟨rfl, hb2⟩; refine ⟨_, rfl, ?_⟩; have HO5 := Aside0.mk (Kd.qU HO4.out hb2); have HM5 := Aside0.mk (HM4.out.below hb2); have HB5 := Aside0.mk (qaA HB4.out HB4.out.size hb2); clear HO4 HM4 HB4 hb2))
      have HW := Aside0.mk (HN.out.wf hd)
      rw [HND.out] at HW
      have hrun : ∀ W, mapD.Is W g (metL L1) → (Instr.lookup 99 (.map (some g)) (encDD nd) false).run Tryd.prog W = .ok (.bool (decide (nd ∈ L1.map Prod.fst))) W := fun W hW => by
       have h := hW.run_look (x := nd) HW.out
       rw [look_metL] at h
       exact h
      have hr := fun o => hrun _ (HM5.out.below (qBA (Below.refl _ _) o))
      unfold encDD at hr
      rw [hr]
      clear hr hrun
      by_cases hmet : nd ∈ L1.map Prod.fst
      ·rw [decide_eq_true hmet]
       have HMET := Aside0.mk hmet
       clear hmet
       go_wp2
       go_roundg (4 - (d + 1))
       case measure => omega
       case rel =>
        exact ⟨L1, d + 1, by push_cast; rfl, by omega, ⟨by rw [hbv, hvv]; exact HN.out.met hd (by rw [HND.out]; exact HMET.out)⟩, ⟨Kd.qF HO5.out _⟩, ⟨HM5.out.below (qBA (Below.refl _ _) _)⟩, ⟨qBA HB5.out _⟩⟩
      ·rw [decide_eq_false hmet]
       have HMET := Aside0.mk hmet
       clear hmet
       have hlenm : (metL L1).length < maxLen := by
        have := HN.out.found.len
        unfold metL maxLen
        simp only [List.length_reverse, List.length_map]
        omega
       have hIs := HM5.out.below (qBA (Below.refl _ w2) (.cells #[.int .i64 nd.f0, .int .i64 nd.f1, .int .i64 nd.f2, .int .i64 nd.f3, .int .i64 nd.f4, .int .i64 nd.f5] 31))
       obtain ⟨w3, hrun, hM3, hgr⟩ := hIs.qJD hlenm HW.out (v := true) trivial
       have HO7 := Aside0.mk (hIs.row (Kd.qF HO5.out _) hgr)
       have HB7 := Aside0.mk ((qBA HB5.out _).grown hgr (qBA HB5.out _).size (fun k e => by cases e; exact HG.out))
       have HM7 := Aside0.mk hM3
       have HR7 := Aside0.mk (show (Instr.mapUpdate 99 (.map (some g)) (.agg #[.int .i64 nd.f0, .int .i64 nd.f1, .int .i64 nd.f2, .int .i64 nd.f3, .int .i64 nd.f4, .int .i64 nd.f5]) (.bool true)).run Tryd.prog (w2.alloc (.cells #[.int .i64 nd.f0, .int .i64 nd.f1, .int .i64 nd.f2, .int .i64 nd.f3, .int .i64 nd.f4, .int .i64 nd.f5] 31)) = .ok () w3 from hrun)
       clear hIs hrun hM3 hgr hlenm
       go_wp2
       rw [HR7.out]
       clear HR7
       have HL7 := Aside0.mk HN.out.found.len
       go_wp2_with (first
        | ((with_reducible refine qJB (b := .append) (xs := #[.tmp 38, .tmp 40]) rfl ?_); at_builtin; refine Kd.qAC Kd.string (w0 := w) w.heap.size rfl (.tmp 38) (.tmp 40) 35 9 (.string ⟨#[]⟩) 16 rfl Tryd.underlying35 info9 rfl (by decide) (by omega) (.slice (some ad) n2 c2) (wsd L1) un [.string un] (fun _ => True) (fun _ => False) rfl rfl ?aP (fun _ hk => hk.elim) ?aF ?aO ?aB ?aS ?aL ?_; (case aP => exact rfl); (case aB => exact (by repeat (first | (with_reducible first | exact HB7.out | apply qBA | apply qWA | apply qk) | exact HB7.out))); (case aF => exact (fun _ _ => trivial)); (case aO => exact (by (with_reducible repeat (first | apply Kd.qF | apply Kd.qG | apply Kd.qH)); exact HO7.out)); (case aS => exact (qb (by repeat (first | (with_reducible first | exact HB7.out | apply qBA | apply qWA | apply qk) | exact HB7.out)))); (case aL => have := HL7.out; rw [show (wsd L1).length = L1.length from List.length_map _]; omega); intro v4 w4 ho hb hg hat; have HM8 := Aside0.mk (HM7.out.qXB (hg.block g HM7.out.lt (HM7.out.ne HO7.out))); have HO8 := Aside0.mk ho; have HB8 := Aside0.mk hb; clear ho hb hg hat HO7 HM7 HB7))
       go_roundg (4 - (d + 1))
       case measure => omega
       case rel =>
        refine ⟨L1 ++ [(nd, un)], d + 1, by push_cast; rfl, by omega, ⟨?_⟩, ⟨?_⟩, ⟨?_⟩, HB8⟩
        ·rw [hbv, hvv, ← HND.out, ← HUN.out]
         exact HN.out.new hd (by rw [HND.out]; exact HMET.out)
        ·have h := HO8.out
         rw [show wsd (L1 ++ [(nd, un)]) = wsd L1 ++ [un] from by simp [wsd]]
         exact h
        ·rw [metL_append]
         exact HM8.out
     ·have hdz : ¬ (d : Int) < 4 := by omega
      clear lenq2 lenq hn2 C2
      go_wp2
      go_roundg (24 - (i + 1))
      case measure => omega
      case rel =>
       have e4 : d = 4 := by have := HN.out.d4; omega
       subst e4
       have HN4 := HN.out
       subst hbv hvv
       exact ⟨L1, i + 1, by push_cast; rfl, by omega, ⟨HN4.outer HS.out hlt⟩, HO, HM, HB⟩
   ·have hltz : ¬ (i : Int) < (n1 : Int) := by omega
    clear hln
    go_wp2
    have HO1 := HO.out
    rw [show wsd L = rotWords by
     have := HS.out.fin
     rw [Bfs.run_stop nextD _ _ (by omega)] at this
     rw [this]; rfl] at HO1
    go_ret
    exact ⟨_, rfl, HO1, HB.out⟩
end Go.Proofs.YtdncpkppkafkpaaDoor
namespace Go.Proofs.YtdncpkppkafkpaaDoor
open Go.RowKit Go.Proofs.YtdncpkppkafkpaaDoor.P Go.Proofs.YtdncpkppkafkpaaDoorW.PrintWords Go.Proofs.YtdncpkppkafkpaaDoorW.PrintLast
namespace P
def qtA.f : Option (List ByteArray) := some rotWords
theorem qtA.calls (r : List ByteArray) (w : World) (h : qtA.f = some r) :
  Calls Tryd.prog 61 #[] w fun e w' => ∃ v0_ : Value, e = .returned v0_ ∧ Kd.R Kd.string 9 w' w.heap.size (fun _ => True) v0_ r ∧ Below w.heap.size w w' := by
 obtain rfl := Option.some.inj h
 exact shortWords.calls w
end P
end Go.Proofs.YtdncpkppkafkpaaDoor
namespace Go.Proofs.YtdncpkppkafkpaaDoor.P
open Go.RowKit Go.Proofs.YtdncpkppkafkpaaDoorW.PrintWords Go.Proofs.YtdncpkppkafkpaaDoorW.PrintLast Go.Proofs.YtdncpkppkafkpaaDoorW.PrintMore
attribute [local go_sem] qz qx qJA qIA qo qn qy qw
set_option linter.unusedVariables false
set_option linter.unusedSimpArgs false
attribute [local go_sem high] eqA31
def qp.l0 : Nat → List ByteArray → Int → Int → Int → Int → Int → Int → Int → Int → Int → Int → Int → Int → Int → Int → Option (ByteArray × Bool)
 | 0, _, _, _, _, _, _, _, _, _, _, _, _, _, _, _ => none
 | k + 1, x8, x9, x10, x874000, x874001, x874002, x874003, x874004, x874005, x875000, x875001, x875002, x875003, x875004, x875005 => if x10 < x9 then (if 0 ≤ x10 then (if x10 < (x8.length : Int) then ((qq.f k x874000 x874001 x874002 x874003 x874004 x874005 (rdOf ByteArray.empty x8 x10)).bind fun bt879 => (if (bt879.1 == x875000 && (bt879.2.1 == x875001 && (bt879.2.2.1 == x875002 && (bt879.2.2.2.1 == x875003 && (bt879.2.2.2.2.1 == x875004 && (bt879.2.2.2.2.2 == x875005)))))) = true then (some (rdOf ByteArray.empty x8 x10, true)) else (qp.l0 k x8 x9 (wrap64 (x10 + 1)) x874000 x874001 x874002 x874003 x874004 x874005 x875000 x875001 x875002 x875003 x875004 x875005))) else (none)) else (none)) else (some ((⟨#[]⟩ : ByteArray), false))
def qp.f (k : Nat) (a0_0 : Int) (a0_1 : Int) (a0_2 : Int) (a0_3 : Int) (a0_4 : Int) (a0_5 : Int) (a1_0 : Int) (a1_1 : Int) (a1_2 : Int) (a1_3 : Int) (a1_4 : Int) (a1_5 : Int) : Option (ByteArray × Bool) := (qtA.f).bind fun t875 => (qp.l0 k t875 (t875.length : Int) 0 a0_0 a0_1 a0_2 a0_3 a0_4 a0_5 a1_0 a1_1 a1_2 a1_3 a1_4 a1_5)
set_option maxHeartbeats 8000000 in
set_option maxRecDepth 100000 in
theorem qp.calls (k : Nat) (a0_0 : Int) (a0_1 : Int) (a0_2 : Int) (a0_3 : Int) (a0_4 : Int) (a0_5 : Int) (a1_0 : Int) (a1_1 : Int) (a1_2 : Int) (a1_3 : Int) (a1_4 : Int) (a1_5 : Int) (r1 : ByteArray) (r2 : Bool) (w : World) (h : qp.f k a0_0 a0_1 a0_2 a0_3 a0_4 a0_5 a1_0 a1_1 a1_2 a1_3 a1_4 a1_5 = some (r1, r2)) :
  Calls Tryd.prog 45 #[.agg #[.int .i64 a0_0, .int .i64 a0_1, .int .i64 a0_2, .int .i64 a0_3, .int .i64 a0_4, .int .i64 a0_5], .agg #[.int .i64 a1_0, .int .i64 a1_1, .int .i64 a1_2, .int .i64 a1_3, .int .i64 a1_4, .int .i64 a1_5]] w fun e w' => e = .returned (.tuple #[.string r1, .bool r2]) ∧ Below w.heap.size w w' := by
 have hu31 := Tryd.underlying31
 have HB := Aside0.mk (Below.refl w.heap.size w)
 have H : ((qtA.f).bind fun t875 => (qp.l0 k t875 (t875.length : Int) 0 a0_0 a0_1 a0_2 a0_3 a0_4 a0_5 a1_0 a1_1 a1_2 a1_3 a1_4 a1_5)) = some (r1, r2) := h
 clear h
 replace H := Option.bind_eq_some_iff.mp H
 obtain ⟨t875, A30, H⟩ := H
 replace H : (qp.l0 k t875 (t875.length : Int) 0 a0_0 a0_1 a0_2 a0_3 a0_4 a0_5 a1_0 a1_1 a1_2 a1_3 a1_4 a1_5) = some (r1, r2) := H
 have A3 := Aside0.mk A30
 clear A30
 have H' := Aside0.mk H
 clear H
 go_enter Tryd.func45, Tryd.ntmps45
 go_wp2_with (first | ((with_reducible refine qX (N := 2) rfl ?_); refine qW ?hg (N := 2) ?hd (cs := #[.int .i64 a0_0, .int .i64 a0_1, .int .i64 a0_2, .int .i64 a0_3, .int .i64 a0_4, .int .i64 a0_5]) (t := 31) ?hr ?_; (case hd => rfl); (case hg => rfl); (case hr => first | (go_simp; done) | (go_simp; rfl)); intro gb873 hg w4 hbox hb; have n0_ := Aside0.mk (qJ bl hb); have n1_ := Aside0.mk (hbox); have n2_ := Aside0.mk ((gg hg)); have n3_ := Aside0.mk ((gg hg)); clear HB; have HB := n0_; have BK873 := n1_; have GW873 := n2_; have GE873 := n3_; clear n0_ n1_ n2_ n3_; clear hb hbox hg) | ((with_reducible refine qX (N := 3) rfl ?_); refine qW ?hg (N := 3) ?hd (cs := #[.int .i64 a1_0, .int .i64 a1_1, .int .i64 a1_2, .int .i64 a1_3, .int .i64 a1_4, .int .i64 a1_5]) (t := 31) ?hr ?_; (case hd => rfl); (case hg => rfl); (case hr => first | (go_simp; done) | (go_simp; rfl)); intro gb874 hg w5 hbox hb; have n0_ := Aside0.mk (bb BK873 hb); have n1_ := Aside0.mk (qJ bl hb); have n2_ := Aside0.mk (hbox); have n3_ := Aside0.mk ((gg hg)); have n4_ := Aside0.mk ((gg hg)); have n5_ := Aside0.mk ((nl BK873 hg)); have n6_ := Aside0.mk ((nr BK873 hg)); clear BK873; clear HB; have BK873 := n0_; have HB := n1_; have BK874 := n2_; have GW874 := n3_; have GE874 := n4_; have NB873_874 := n5_; have NB874_873 := n6_; clear n0_ n1_ n2_ n3_ n4_ n5_ n6_; clear hb hbox hg) | ((with_reducible refine qa (f := 61) rfl ?_); refine qQA (some 8) rfl rfl Tryd.func61 (by kernel_rfl) rfl #[] rfl (by (try simp only [List.map_toArray, List.map_cons, List.map_nil]); first | done | rfl | (simp only [List.length_drop, List.length_take]; rfl)) ?_; (with_reducible refine (qtA.calls  t875 _ A3.out).mono ?_); rintro e w6 ⟨v876, rfl, ho0, hb⟩; refine ⟨_, rfl, ?_⟩; have n0_ := Aside0.mk (Kd.qEA ho0 (qb bl)); have n1_ := Aside0.mk (bb BK873 hb); have n2_ := Aside0.mk (bb BK874 hb); have n3_ := Aside0.mk (qJ bl hb); clear BK873; clear BK874; clear HB; have HO877 := n0_; have BK873 := n1_; have BK874 := n2_; have HB := n3_; clear n0_ n1_ n2_ n3_; (try clear hb); (try clear hb2); (try clear hk); (try clear hi); (try clear ho0); obtain ⟨Ao7, co7, eo7⟩ := Kd.qr HO877.out; subst eo7))
 go_loopg [10] k (fun kq v10 w' => ∃ (x10_1 : Int), v10 = .int .i64 x10_1 ∧ Aside0 (qp.l0 kq t875 (t875.length : Int) x10_1 a0_0 a0_1 a0_2 a0_3 a0_4 a0_5 a1_0 a1_1 a1_2 a1_3 a1_4 a1_5 = some (r1, r2)) ∧ Aside0 (kq ≤ k) ∧ Aside0 (Kd.R Kd.string 9 w' w.heap.size (fun _ => True) (.slice Ao7 t875.length co7) t875) ∧ Aside0 (w'.heap[gb873]? = some (.cells #[.int .i64 a0_0, .int .i64 a0_1, .int .i64 a0_2, .int .i64 a0_3, .int .i64 a0_4, .int .i64 a0_5] 31 (0, 0))) ∧ Aside0 (w'.heap[gb874]? = some (.cells #[.int .i64 a1_0, .int .i64 a1_1, .int .i64 a1_2, .int .i64 a1_3, .int .i64 a1_4, .int .i64 a1_5] 31 (0, 0))) ∧ Aside0 (Below w.heap.size w w'))
 case atStart => exact ⟨(0), (by first | rfl | (simp; done) | (simp [*]; done)), H', ⟨Nat.le_refl _⟩, ⟨by (with_reducible repeat (first | apply Kd.qF | apply Kd.qG | apply Kd.qH)); exact HO877.out⟩, ⟨by (with_reducible repeat (first | refine qD ?_ _ | refine qE ?_ | refine qC ?_ _)); exact BK873.out⟩, ⟨by (with_reducible repeat (first | refine qD ?_ _ | refine qE ?_ | refine qC ?_ _)); exact BK874.out⟩, ⟨bl⟩⟩
 case round =>
  clear H'
  try clear p2
  try clear c4
  try clear c6
  obtain ⟨x10_1, rfl, HA, HK1, HO_8, BK873, BK874, HB⟩ := hrel
  cases gk with
  | zero => exact absurd HA.out (by simp [qp.l0])
  | succ k1 =>
   have H := HA.out
   clear HA
   simp only [qp.l0] at H
   by_cases c8 : x10_1 < (t875.length : Int)
   ·rw [if_pos c8] at H
    have c8b0 : decide (x10_1 < (t875.length : Int)) = true := decide_eq_true c8
    clear c8
    by_cases c9 : 0 ≤ x10_1
    ·rw [if_pos c9] at H
     have c9b0 : decide (0 ≤ x10_1) = true := decide_eq_true c9
     clear c9
     by_cases c10 : x10_1 < (t875.length : Int)
     ·rw [if_pos c10] at H
      have c10b0 : decide (x10_1 < (t875.length : Int)) = true := decide_eq_true c10
      clear c10
      replace H := Option.bind_eq_some_iff.mp H
      obtain ⟨⟨t879, t880, t881, t882, t883, t884⟩, A110, H⟩ := H
      replace H : (if (t879 == a1_0 && (t880 == a1_1 && (t881 == a1_2 && (t882 == a1_3 && (t883 == a1_4 && (t884 == a1_5)))))) = true then (some (rdOf ByteArray.empty t875 x10_1, true)) else (qp.l0 k1 t875 (t875.length : Int) (wrap64 (x10_1 + 1)) a0_0 a0_1 a0_2 a0_3 a0_4 a0_5 a1_0 a1_1 a1_2 a1_3 a1_4 a1_5)) = some (r1, r2) := H
      have A11 := Aside0.mk A110
      clear A110
      by_cases c12 : (t879 == a1_0 && (t880 == a1_1 && (t881 == a1_2 && (t882 == a1_3 && (t883 == a1_4 && (t884 == a1_5)))))) = true
      ·rw [if_pos c12] at H
       have c12b0 : (t879 == a1_0 && (t880 == a1_1 && (t881 == a1_2 && (t882 == a1_3 && (t883 == a1_4 && (t884 == a1_5)))))) = true := c12
       (try (have c12b1 : decide (t879 = a1_0 && (t880 == a1_1 && (t881 == a1_2 && (t882 == a1_3 && (t883 == a1_4 && (t884 == a1_5)))))) = true := by simpa using c12))
       (try (have c12b2 : (t879 == a1_0 && (t880 == a1_1 && (t881 == a1_2 && (t882 == a1_3 && (t883 == a1_4 && (t884 == a1_5)))))) = true := by simpa using c12))
       clear c12
       simp only [Option.some.injEq, Prod.mk.injEq] at H
       obtain ⟨rfl, rfl⟩ := H
       have p878 : 0 ≤ (x10_1 : Int) := of_decide_eq_true (by first | (with_reducible assumption) | assumption)
       have q878 : x10_1 < (t875.length : Int) := of_decide_eq_true (by first | (with_reducible assumption) | assumption)
       obtain ⟨ad878, e878, hx878_0⟩ := Kd.qPB (Kd.qS HO_8.out).2.2 x10_1 p878 q878
       cases e878
       replace p878 := eq_true p878
       replace q878 := eq_true q878
       try go_wp2
       have n0_ := Aside0.mk (Kd.qH HO_8.out)
       have n1_ := Aside0.mk (qE BK873.out)
       have n2_ := Aside0.mk (qE BK874.out)
       have n3_ := Aside0.mk (qk HB.out)
       clear HO_8
       clear BK873
       clear BK874
       clear HB
       have HO_8 := n0_
       have BK873 := n1_
       have BK874 := n2_
       have HB := n3_
       clear n0_ n1_ n2_ n3_
       refine qwA (n := 5) (S := fun w' => w'.cell? ⟨gb873, 0, none⟩ = some (.int .i64 a0_0) ∧ w'.cell? ⟨gb873, 1, none⟩ = some (.int .i64 a0_1) ∧ w'.cell? ⟨gb873, 2, none⟩ = some (.int .i64 a0_2) ∧ w'.cell? ⟨gb873, 3, none⟩ = some (.int .i64 a0_3) ∧ w'.cell? ⟨gb873, 4, none⟩ = some (.int .i64 a0_4) ∧ w'.cell? ⟨gb873, 5, none⟩ = some (.int .i64 a0_5) ∧ w'.cell? ⟨gb874, 0, none⟩ = some (.int .i64 a1_0) ∧ w'.cell? ⟨gb874, 1, none⟩ = some (.int .i64 a1_1) ∧ w'.cell? ⟨gb874, 2, none⟩ = some (.int .i64 a1_2) ∧ w'.cell? ⟨gb874, 3, none⟩ = some (.int .i64 a1_3) ∧ w'.cell? ⟨gb874, 4, none⟩ = some (.int .i64 a1_4) ∧ w'.cell? ⟨gb874, 5, none⟩ = some (.int .i64 a1_5)) (ds := []) #[false, false, false, false, false] (by kernel_rfl) rfl rfl ⟨(qL BK873.out 0).trans rfl, (qL BK873.out 1).trans rfl, (qL BK873.out 2).trans rfl, (qL BK873.out 3).trans rfl, (qL BK873.out 4).trans rfl, (qL BK873.out 5).trans rfl, (qL BK874.out 0).trans rfl, (qL BK874.out 1).trans rfl, (qL BK874.out 2).trans rfl, (qL BK874.out 3).trans rfl, (qL BK874.out 4).trans rfl, (qL BK874.out 5).trans rfl⟩ (fun hHeld => ?_)
       generalize wr.drew = w13 at HO_8 BK873 BK874 HB hHeld ⊢
       refine pure_ (i := 1) (N := some 15) (v := ?_) (a' := ?_) #[false, true, false, false, false] rfl rfl (by kernel_rfl) (fun _ _ _ h => h) (Or.inl ⟨by rfl, ?_⟩) ?_ ?_
       rotate_left
       ·intro w'
        go_simp
        first | (with_reducible rfl) | (rw [if_neg (by simp only [ByteArray.size_extract, ByteArray.size_append] at * <;> omega)]; try with_reducible rfl)
       rotate_left
       ·simp only [Act.put, List.setIfInBounds_toArray, List.set_cons_zero, List.set_cons_succ, i64_w, i32_w]
        rfl
       refine take_ (i := 0) (N := some 14) (v := ?_) (a' := ?_) #[true, true, false, false, false] rfl rfl (by kernel_rfl) (fun _ _ _ h => h) (Or.inl ⟨by rfl, ?_⟩) hHeld ?_ ?_
       rotate_left
       ·rintro w' ⟨s0, s1, s2, s3, s4, s5, s6, s7, s8, s9, s10, s11⟩
        go_simp
        first | (with_reducible rfl) | (rw [if_neg (by simp only [ByteArray.size_extract, ByteArray.size_append] at * <;> omega)]; try with_reducible rfl)
       rotate_left
       ·simp only [Act.put, List.setIfInBounds_toArray, List.set_cons_zero, List.set_cons_succ, i64_w, i32_w]
        rfl
       refine take_ (i := 3) (N := some 17) (v := ?_) (a' := ?_) #[true, true, false, true, false] rfl rfl (by kernel_rfl) (fun _ _ _ h => h) (Or.inl ⟨by rfl, ?_⟩) hHeld ?_ ?_
       rotate_left
       ·rintro w' ⟨s0, s1, s2, s3, s4, s5, s6, s7, s8, s9, s10, s11⟩
        go_simp
        first | (with_reducible rfl) | (rw [if_neg (by simp only [ByteArray.size_extract, ByteArray.size_append] at * <;> omega)]; try with_reducible rfl)
       rotate_left
       ·simp only [Act.put, List.setIfInBounds_toArray, List.set_cons_zero, List.set_cons_succ, i64_w, i32_w]
        rfl
       refine one_ (i := 2) (N := some 16) #[true, true, true, true, false] rfl rfl (by kernel_rfl) (by decide) (fun K hK => ?_)
       refine goes_ Tryd.func62 (by kernel_rfl) rfl #[.agg #[.int .i64 a0_0, .int .i64 a0_1, .int .i64 a0_2, .int .i64 a0_3, .int .i64 a0_4, .int .i64 a0_5], .string (rdOf ByteArray.empty t875 x10_1)] (by rfl) rfl rfl (by (try simp only [List.map_toArray, List.map_cons, List.map_nil]); first | done | rfl | (simp only [List.length_drop, List.length_take]; rfl)) ?_
       with_reducible refine (qq.calls k1 a0_0 a0_1 a0_2 a0_3 a0_4 a0_5 (rdOf ByteArray.empty t875 x10_1) t879 t880 t881 t882 t883 t884 _ A11.out).mono ?_
       rintro e w14 ⟨rfl, hb⟩
       refine ⟨_, rfl, ?_⟩
       have n0_ := Aside0.mk (Kd.qU (by (with_reducible repeat (first | apply Kd.qF | apply Kd.qG | apply Kd.qH)); exact HO_8.out) hb)
       have n1_ := Aside0.mk (bb BK873 hb)
       have n2_ := Aside0.mk (bb BK874 hb)
       have n3_ := Aside0.mk (qJ bl hb)
       clear HO_8
       clear BK873
       clear BK874
       clear HB
       have HO_8 := n0_
       have BK873 := n1_
       have BK874 := n2_
       have HB := n3_
       clear n0_ n1_ n2_ n3_
       (try clear hb)
       (try clear hb2)
       (try clear hk)
       (try clear hi)
       refine hK.out _ _ ⟨(qL BK873.out 0).trans rfl, (qL BK873.out 1).trans rfl, (qL BK873.out 2).trans rfl, (qL BK873.out 3).trans rfl, (qL BK873.out 4).trans rfl, (qL BK873.out 5).trans rfl, (qL BK874.out 0).trans rfl, (qL BK874.out 1).trans rfl, (qL BK874.out 2).trans rfl, (qL BK874.out 3).trans rfl, (qL BK874.out 4).trans rfl, (qL BK874.out 5).trans rfl⟩ (fun hHeld => ?_)
       clear hK K
       refine norm_ (a' := ?_) ?_ ?_
       rotate_left
       ·show Act.put _ (some 16) _ = _
        simp only [Act.put, List.setIfInBounds_toArray, List.set_cons_zero, List.set_cons_succ, i64_w, i32_w]
        rfl
       refine pure_ (i := 4) (N := some 18) (v := ?_) (a' := ?_) #[true, true, true, true, true] rfl rfl (by kernel_rfl) (fun _ _ _ h => h) (Or.inl ⟨by rfl, ?_⟩) ?_ ?_
       rotate_left
       ·intro w'
        go_simp
        first | (with_reducible rfl) | (rw [if_neg (by simp only [ByteArray.size_extract, ByteArray.size_append] at * <;> omega)]; try with_reducible rfl)
       rotate_left
       ·simp only [Act.put, List.setIfInBounds_toArray, List.set_cons_zero, List.set_cons_succ, i64_w, i32_w]
        rfl
       refine done_ (by kernel_rfl) ?_
       try go_wp2
       go_ret2
       exact ⟨by first | rfl | (simp [qN, qM] <;> rfl) | (simp [*, qN, qM] <;> rfl), bl⟩
      ·rw [if_neg c12] at H
       have c12b0 : (t879 == a1_0 && (t880 == a1_1 && (t881 == a1_2 && (t882 == a1_3 && (t883 == a1_4 && (t884 == a1_5)))))) = false := by simpa using c12
       (try (have c12b1 : decide (t879 = a1_0 && (t880 == a1_1 && (t881 == a1_2 && (t882 == a1_3 && (t883 == a1_4 && (t884 == a1_5)))))) = false := by simpa using c12))
       (try (have c12b2 : (t879 == a1_0 && (t880 == a1_1 && (t881 == a1_2 && (t882 == a1_3 && (t883 == a1_4 && (t884 == a1_5)))))) = false := by simpa using c12))
       (try (have c12b3 : ¬ (t879 = a1_0 && (t880 == a1_1 && (t881 == a1_2 && (t882 == a1_3 && (t883 == a1_4 && (t884 == a1_5)))))) := by simpa using c12))
       clear c12
       have H' := Aside0.mk H
       clear H
       have p878 : 0 ≤ (x10_1 : Int) := of_decide_eq_true (by first | (with_reducible assumption) | assumption)
       have q878 : x10_1 < (t875.length : Int) := of_decide_eq_true (by first | (with_reducible assumption) | assumption)
       obtain ⟨ad878, e878, hx878_0⟩ := Kd.qPB (Kd.qS HO_8.out).2.2 x10_1 p878 q878
       cases e878
       replace p878 := eq_true p878
       replace q878 := eq_true q878
       try go_wp2
       have n0_ := Aside0.mk (Kd.qH HO_8.out)
       have n1_ := Aside0.mk (qE BK873.out)
       have n2_ := Aside0.mk (qE BK874.out)
       have n3_ := Aside0.mk (qk HB.out)
       clear HO_8
       clear BK873
       clear BK874
       clear HB
       have HO_8 := n0_
       have BK873 := n1_
       have BK874 := n2_
       have HB := n3_
       clear n0_ n1_ n2_ n3_
       refine qwA (n := 5) (S := fun w' => w'.cell? ⟨gb873, 0, none⟩ = some (.int .i64 a0_0) ∧ w'.cell? ⟨gb873, 1, none⟩ = some (.int .i64 a0_1) ∧ w'.cell? ⟨gb873, 2, none⟩ = some (.int .i64 a0_2) ∧ w'.cell? ⟨gb873, 3, none⟩ = some (.int .i64 a0_3) ∧ w'.cell? ⟨gb873, 4, none⟩ = some (.int .i64 a0_4) ∧ w'.cell? ⟨gb873, 5, none⟩ = some (.int .i64 a0_5) ∧ w'.cell? ⟨gb874, 0, none⟩ = some (.int .i64 a1_0) ∧ w'.cell? ⟨gb874, 1, none⟩ = some (.int .i64 a1_1) ∧ w'.cell? ⟨gb874, 2, none⟩ = some (.int .i64 a1_2) ∧ w'.cell? ⟨gb874, 3, none⟩ = some (.int .i64 a1_3) ∧ w'.cell? ⟨gb874, 4, none⟩ = some (.int .i64 a1_4) ∧ w'.cell? ⟨gb874, 5, none⟩ = some (.int .i64 a1_5)) (ds := []) #[false, false, false, false, false] (by kernel_rfl) rfl rfl ⟨(qL BK873.out 0).trans rfl, (qL BK873.out 1).trans rfl, (qL BK873.out 2).trans rfl, (qL BK873.out 3).trans rfl, (qL BK873.out 4).trans rfl, (qL BK873.out 5).trans rfl, (qL BK874.out 0).trans rfl, (qL BK874.out 1).trans rfl, (qL BK874.out 2).trans rfl, (qL BK874.out 3).trans rfl, (qL BK874.out 4).trans rfl, (qL BK874.out 5).trans rfl⟩ (fun hHeld => ?_)
       generalize wr.drew = w15 at HO_8 BK873 BK874 HB hHeld ⊢
       refine pure_ (i := 1) (N := some 15) (v := ?_) (a' := ?_) #[false, true, false, false, false] rfl rfl (by kernel_rfl) (fun _ _ _ h => h) (Or.inl ⟨by rfl, ?_⟩) ?_ ?_
       rotate_left
       ·intro w'
        go_simp
        first | (with_reducible rfl) | (rw [if_neg (by simp only [ByteArray.size_extract, ByteArray.size_append] at * <;> omega)]; try with_reducible rfl)
       rotate_left
       ·simp only [Act.put, List.setIfInBounds_toArray, List.set_cons_zero, List.set_cons_succ, i64_w, i32_w]
        rfl
       refine take_ (i := 0) (N := some 14) (v := ?_) (a' := ?_) #[true, true, false, false, false] rfl rfl (by kernel_rfl) (fun _ _ _ h => h) (Or.inl ⟨by rfl, ?_⟩) hHeld ?_ ?_
       rotate_left
       ·rintro w' ⟨s0, s1, s2, s3, s4, s5, s6, s7, s8, s9, s10, s11⟩
        go_simp
        first | (with_reducible rfl) | (rw [if_neg (by simp only [ByteArray.size_extract, ByteArray.size_append] at * <;> omega)]; try with_reducible rfl)
       rotate_left
       ·simp only [Act.put, List.setIfInBounds_toArray, List.set_cons_zero, List.set_cons_succ, i64_w, i32_w]
        rfl
       refine take_ (i := 3) (N := some 17) (v := ?_) (a' := ?_) #[true, true, false, true, false] rfl rfl (by kernel_rfl) (fun _ _ _ h => h) (Or.inl ⟨by rfl, ?_⟩) hHeld ?_ ?_
       rotate_left
       ·rintro w' ⟨s0, s1, s2, s3, s4, s5, s6, s7, s8, s9, s10, s11⟩
        go_simp
        first | (with_reducible rfl) | (rw [if_neg (by simp only [ByteArray.size_extract, ByteArray.size_append] at * <;> omega)]; try with_reducible rfl)
       rotate_left
       ·simp only [Act.put, List.setIfInBounds_toArray, List.set_cons_zero, List.set_cons_succ, i64_w, i32_w]
        rfl
       refine one_ (i := 2) (N := some 16) #[true, true, true, true, false] rfl rfl (by kernel_rfl) (by decide) (fun K hK => ?_)
       refine goes_ Tryd.func62 (by kernel_rfl) rfl #[.agg #[.int .i64 a0_0, .int .i64 a0_1, .int .i64 a0_2, .int .i64 a0_3, .int .i64 a0_4, .int .i64 a0_5], .string (rdOf ByteArray.empty t875 x10_1)] (by rfl) rfl rfl (by (try simp only [List.map_toArray, List.map_cons, List.map_nil]); first | done | rfl | (simp only [List.length_drop, List.length_take]; rfl)) ?_
       with_reducible refine (qq.calls k1 a0_0 a0_1 a0_2 a0_3 a0_4 a0_5 (rdOf ByteArray.empty t875 x10_1) t879 t880 t881 t882 t883 t884 _ A11.out).mono ?_
       rintro e w16 ⟨rfl, hb⟩
       refine ⟨_, rfl, ?_⟩
       have n0_ := Aside0.mk (Kd.qU (by (with_reducible repeat (first | apply Kd.qF | apply Kd.qG | apply Kd.qH)); exact HO_8.out) hb)
       have n1_ := Aside0.mk (bb BK873 hb)
       have n2_ := Aside0.mk (bb BK874 hb)
       have n3_ := Aside0.mk (qJ bl hb)
       clear HO_8
       clear BK873
       clear BK874
       clear HB
       have HO_8 := n0_
       have BK873 := n1_
       have BK874 := n2_
       have HB := n3_
       clear n0_ n1_ n2_ n3_
       (try clear hb)
       (try clear hb2)
       (try clear hk)
       (try clear hi)
       refine hK.out _ _ ⟨(qL BK873.out 0).trans rfl, (qL BK873.out 1).trans rfl, (qL BK873.out 2).trans rfl, (qL BK873.out 3).trans rfl, (qL BK873.out 4).trans rfl, (qL BK873.out 5).trans rfl, (qL BK874.out 0).trans rfl, (qL BK874.out 1).trans rfl, (qL BK874.out 2).trans rfl, (qL BK874.out 3).trans rfl, (qL BK874.out 4).trans rfl, (qL BK874.out 5).trans rfl⟩ (fun hHeld => ?_)
       clear hK K
       refine norm_ (a' := ?_) ?_ ?_
       rotate_left
       ·show Act.put _ (some 16) _ = _
        simp only [Act.put, List.setIfInBounds_toArray, List.set_cons_zero, List.set_cons_succ, i64_w, i32_w]
        rfl
       refine pure_ (i := 4) (N := some 18) (v := ?_) (a' := ?_) #[true, true, true, true, true] rfl rfl (by kernel_rfl) (fun _ _ _ h => h) (Or.inl ⟨by rfl, ?_⟩) ?_ ?_
       rotate_left
       ·intro w'
        go_simp
        first | (with_reducible rfl) | (rw [if_neg (by simp only [ByteArray.size_extract, ByteArray.size_append] at * <;> omega)]; try with_reducible rfl)
       rotate_left
       ·simp only [Act.put, List.setIfInBounds_toArray, List.set_cons_zero, List.set_cons_succ, i64_w, i32_w]
        rfl
       refine done_ (by kernel_rfl) ?_
       try go_wp2
       go_roundg k1
       case measure => have := HK1.out; omega
       case rel => exact ⟨(wrap64 (x10_1 + 1)), (by first | rfl | (simp; done) | (simp [*]; done)), H', ⟨by have := HK1.out; omega⟩, ⟨by (with_reducible repeat (first | apply Kd.qF | apply Kd.qG | apply Kd.qH)); exact HO_8.out⟩, ⟨by (with_reducible repeat (first | refine qD ?_ _ | refine qE ?_ | refine qC ?_ _)); exact BK873.out⟩, ⟨by (with_reducible repeat (first | refine qD ?_ _ | refine qE ?_ | refine qC ?_ _)); exact BK874.out⟩, ⟨bl⟩⟩
     ·rw [if_neg c10] at H
      exact absurd H (by simp)
    ·rw [if_neg c9] at H
     exact absurd H (by simp)
   ·rw [if_neg c8] at H
    have c8b0 : decide (x10_1 < (t875.length : Int)) = false := decide_eq_false c8
    clear c8
    simp only [Option.some.injEq, Prod.mk.injEq] at H
    obtain ⟨rfl, rfl⟩ := H
    go_wp2
    go_ret2
    exact ⟨by first | rfl | (simp [qN, qM] <;> rfl) | (simp [*, qN, qM] <;> rfl), bl⟩
end Go.Proofs.YtdncpkppkafkpaaDoor.P
