/- Plain laws on directions and words, and what the printed functions on directions come to. -/
import Derived.Test.YthnheffndhbebaaP1
import Derived.Lib.Strings
namespace Go.Proofs.Ythnheffndhbebaa
open Go.RowKit Go.Proofs.Ythnheffndhbebaa.P Go.Proofs.YthnheffndhbebaaW.PrintWords Go.Proofs.YthnheffndhbebaaW.PrintLast
set_option linter.unusedVariables false
set_option linter.unusedSimpArgs false

theorem Ev.at_ {α : Type} {g : Nat → Option α} {r : α} (n : Nat) (h : ∀ k, g (k + n) = some r) : Ev g r := ⟨n, fun k hk => by
  obtain ⟨m, rfl⟩ : ∃ m, k = m + n := ⟨k - n, by omega⟩
  exact h m⟩
theorem Ev.pos {α : Type} {c : Prop} [Decidable c] {g f : Nat → Option α} {r : α} (hc : c) (h : Ev g r) : Ev (fun k => if c then g k else f k) r := h.congr fun k => if_pos hc
theorem Ev.neg {α : Type} {c : Prop} [Decidable c] {g f : Nat → Option α} {r : α} (hc : ¬ c) (h : Ev f r) : Ev (fun k => if c then g k else f k) r := h.congr fun k => if_neg hc
theorem Ev.some_ {α : Type} {a r : α} (h : a = r) : Ev (fun _ => some a) r := ⟨0, fun _ _ => by rw [h]⟩
theorem Ev.bindc {α β : Type} {o : Option α} {f : Nat → α → Option β} {a : α} {r : β} (h : o = some a) (k : Ev (fun n => f n a) r) : Ev (fun n => o.bind (f n)) r := k.congr fun n => by rw [h]; rfl
theorem w64 {i : Int} (h0 : -9223372036854775808 ≤ i) (h1 : i ≤ 9223372036854775807) : wrap64 i = i := by unfold wrap64; omega

/-- The index of a direction, or -1. -/
def dirI (l : List UInt8) : Int := if l = [110] then 0 else if l = [101] then 1 else if l = [115] then 2 else if l = [119] then 3 else -1

theorem spec_diDir_ev (a : ByteArray) : Ev (fun k => spec_diDir.f k a) (dirI a.data.toList) := by
  refine Ev.at_ 5 fun k => ?_
  have e0 : ((⟨#[110, 101, 115, 119]⟩ : ByteArray).extract 0 1).toList = [110] := by decide +kernel
  have e1 : ((⟨#[110, 101, 115, 119]⟩ : ByteArray).extract 1 2).toList = [101] := by decide +kernel
  have e2 : ((⟨#[110, 101, 115, 119]⟩ : ByteArray).extract 2 3).toList = [115] := by decide +kernel
  have e3 : ((⟨#[110, 101, 115, 119]⟩ : ByteArray).extract 3 4).toList = [119] := by decide +kernel
  have hz : ((⟨#[110, 101, 115, 119]⟩ : ByteArray).size : Int) = 4 := rfl
  simp [spec_diDir.f, spec_diDir.l0, spec_diDirs.f, dirI, wrap64, Go.Lib.toList_data a, e0, e1, e2, e3, hz]
  repeat (split; rfl)
  rfl
theorem dlen (s : ByteArray) : s.data.toList.length = s.size := by rw [Array.length_toList]; rfl
theorem bt_get (s : ByteArray) (i : Nat) (h : i < s.data.toList.length) : bt s (i : Int) = ((s.data.toList[i]).toNat : Int) := by
  have h' : i < s.size := by rw [← dlen]; exact h
  unfold bt
  rw [dif_pos (by simpa using h')]
  simp only [Int.toNat_natCast, Array.getElem_toList]
  rfl
theorem ext1 (s : ByteArray) (i : Nat) (h : i < s.data.toList.length) : (s.extract i (i + 1)).data.toList = [s.data.toList[i]] := by
  rw [Go.Lib.extract_data, show i + 1 - i = 1 by omega, List.drop_eq_getElem_cons h]
  rfl
theorem spec_diDir_at (s : ByteArray) (i : Nat) (h : i < s.data.toList.length) : Ev (fun k => spec_diDir.f k (s.extract i (i + 1))) (dirI [s.data.toList[i]]) := by
  have := spec_diDir_ev (s.extract i (i + 1))
  rwa [ext1 s i h] at this
theorem dirI_one (c : UInt8) : (dirI [c] < 0) = (¬ (c = 110 ∨ c = 101 ∨ c = 115 ∨ c = 119)) := by
  unfold dirI
  by_cases h1 : c = 110
  · simp [h1]
  by_cases h2 : c = 101
  · simp [h2]
  by_cases h3 : c = 115
  · simp [h3]
  by_cases h4 : c = 119
  · simp [h4]
  simp [h1, h2, h3, h4]
end Go.Proofs.Ythnheffndhbebaa
