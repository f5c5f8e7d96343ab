/- Plans: what the program's and the reference's IsPlan come to. -/
import Derived.Test.YthnheffndhbebaaQWord
import Derived.Test.YthnheffndhbebaaP4
namespace Go.Proofs.Ythnheffndhbebaa
open Go.RowKit Go.Proofs.Ythnheffndhbebaa.P Go.Proofs.YthnheffndhbebaaW.PrintWords Go.Proofs.YthnheffndhbebaaW.PrintLast
set_option linter.unusedVariables false
set_option linter.unusedSimpArgs false

def isDirB (c : UInt8) : Bool := decide (c = 110 ∨ c = 101 ∨ c = 115 ∨ c = 119)
def planOk : List UInt8 → Bool
  | c :: d :: r => decide (48 ≤ c.toNat ∧ c.toNat ≤ 50) && isDirB d && planOk r
  | _ => true
def isPlanB (l : List UInt8) : Bool := decide (l.length % 2 = 0) && decide (l.length ≤ 120) && planOk l

theorem drop2 {l : List UInt8} {i : Nat} (h : i + 1 < l.length) : l.drop i = l[i] :: l[i + 1] :: l.drop (i + 2) := by
  rw [List.drop_eq_getElem_cons (by omega), List.drop_eq_getElem_cons h]

theorem myPlan_loop (a : ByteArray) (hs : a.size ≤ 1048576) (he : a.size % 2 = 0) (d : Nat) : ∀ i : Nat, i ≤ a.size → i % 2 = 0 → a.size - i ≤ d → Ev (fun k => spec_myPlan.l0 k a (i : Int)) (planOk (a.data.toList.drop i)) := by
  induction d using Nat.strongRecOn with
  | _ d ih =>
    intro i hi h2 hd
    have hl := dlen a
    refine Ev.step (f := fun k => _) (fun k => by rw [spec_myPlan.l0]) ?_
    by_cases hlt : i < a.size
    · have hp : i + 1 < a.data.toList.length := by omega
      have b0 := bt_get a i (by omega)
      have hdd := spec_diDir_at a (i + 1) hp
      rw [drop2 hp]
      have w1 : wrap64 ((i : Int) + 1) = ((i + 1 : Nat) : Int) := by unfold wrap64; omega
      have w2 : wrap64 ((i : Int) + 2) = ((i + 2 : Nat) : Int) := by unfold wrap64; omega
      rw [w1, w2]
      refine Ev.pos (by omega) (Ev.pos (by omega) ?_)
      rw [b0]
      simp only [Int.toNat_natCast]
      generalize a.data.toList[i] = c
      generalize a.data.toList[i + 1] = e at hdd ⊢
      simp only [planOk]
      by_cases c1 : (c.toNat : Int) < 48
      · refine Ev.pos c1 (Ev.some_ ?_)
        rw [decide_eq_false (by omega)]; rfl
      refine Ev.neg c1 ?_
      by_cases c2 : (c.toNat : Int) ≥ 51
      · refine Ev.pos c2 (Ev.some_ ?_)
        rw [decide_eq_false (by omega)]; rfl
      refine Ev.neg c2 (Ev.pos (by omega) (Ev.pos (by omega) (Ev.pos (by omega) ?_)))
      rw [decide_eq_true (by omega)]
      refine Ev.bind hdd ?_
      by_cases c3 : e = 110 ∨ e = 101 ∨ e = 115 ∨ e = 119
      · refine Ev.neg (by rw [dirI_one]; exact fun h => h c3) ?_
        rw [show isDirB e = true from decide_eq_true c3]
        exact (ih (d - 2) (by omega) (i + 2) (by omega) (by omega) (by omega))
      · refine Ev.pos (by rw [dirI_one]; exact c3) (Ev.some_ ?_)
        rw [show isDirB e = false from decide_eq_false c3]; rfl
    · refine Ev.neg (by omega) (Ev.some_ ?_)
      rw [List.drop_eq_nil_of_le (by omega)]
      rfl
theorem spec_IsPlan_ev (a : ByteArray) (hs : a.size ≤ 1048576) : Ev (fun k => spec_IsPlan.f k a) (isPlanB a.data.toList) := by
  have hl := dlen a
  unfold spec_IsPlan.f spec_myPlan.f
  refine Ev.bind (a := isPlanB a.data.toList) ?_ (Ev.now _)
  unfold isPlanB
  have hj : ∀ b : Bool, Ev (fun k => spec_myPlan.j0 k a b) (if b = true then false else planOk a.data.toList) ∨ a.size % 2 = 1 := by
    intro b
    rcases Nat.mod_two_eq_zero_or_one a.size with h | h
    · refine .inl (Ev.step (f := fun k => _) (fun k => by rw [spec_myPlan.j0]) ?_)
      cases b
      · exact Ev.neg (by decide) (myPlan_loop a (by omega) h _ 0 (by omega) (by omega) (Nat.le_refl _))
      · exact Ev.pos rfl (Ev.now _)
    · exact .inr h
  by_cases h : a.size % 2 = 0
  · rcases hj (decide ((a.size : Int) > 120)) with hj | hj
    · refine Ev.pos (by omega) ?_
      rw [hl, decide_eq_true h, Bool.true_and]
      by_cases h2 : a.size ≤ 120
      · rw [decide_eq_true h2]
        rw [decide_eq_false (by omega)] at hj ⊢
        exact hj
      · rw [decide_eq_false h2]
        rw [decide_eq_true (by omega)] at hj ⊢
        exact hj
    · omega
  · refine Ev.neg (by omega) (Ev.step (f := fun k => _) (fun k => by rw [spec_myPlan.j0]) (Ev.pos rfl (Ev.some_ ?_)))
    rw [hl, decide_eq_false h]; rfl

theorem ix_lt (c : UInt8) : (Lib.indexByte [110, 101, 115, 119] c < 0) = (¬ (c = 110 ∨ c = 101 ∨ c = 115 ∨ c = 119)) := by
  by_cases h : c = 110 ∨ c = 101 ∨ c = 115 ∨ c = 119
  · rcases h with rfl | rfl | rfl | rfl <;> decide +kernel
  · simp only [not_or] at h
    obtain ⟨h1, h2, h3, h4⟩ := h
    have e : Lib.indexByte [110, 101, 115, 119] c = -1 := by
      simp only [Lib.indexByte, beq_iff_eq, Ne.symm h1, Ne.symm h2, Ne.symm h3, Ne.symm h4, if_false]
      decide
    rw [e]
    simp [h1, h2, h3, h4]

theorem impl_IsPlan_loop (a : ByteArray) (hs : a.size ≤ 1048576) (d : Nat) : ∀ i : Nat, i ≤ a.size + 1 → i % 2 = 0 → a.size + 1 - i ≤ d →
    Ev (fun k => impl_IsPlan.l0 k a (i : Int)) (planOk (a.data.toList.drop i) && (decide (a.size % 2 = 0) && decide (a.size ≤ 120))) := by
  induction d using Nat.strongRecOn with
  | _ d ih =>
    intro i hi h2 hd
    have hl := dlen a
    refine Ev.step (f := fun k => _) (fun k => by rw [impl_IsPlan.l0]) ?_
    have w1 : wrap64 ((i : Int) + 1) = ((i + 1 : Nat) : Int) := by unfold wrap64; omega
    have w2 : wrap64 ((i : Int) + 2) = ((i + 2 : Nat) : Int) := by unfold wrap64; omega
    rw [w1, w2]
    by_cases hp : i + 1 < a.data.toList.length
    · have b0 := bt_get a i (by omega)
      have b1 := bt_get a (i + 1) hp
      rw [drop2 hp]
      refine Ev.pos (by omega) (Ev.pos (by omega) (Ev.pos (by omega) ?_))
      rw [b0, b1]
      simp only [strings_IndexByte.f, Option.bind_some]
      generalize a.data.toList[i] = c
      generalize a.data.toList[i + 1] = e
      simp only [planOk]
      by_cases c1 : (c.toNat : Int) < 48
      · refine Ev.pos c1 (Ev.some_ ?_)
        rw [decide_eq_false (by omega)]; rfl
      refine Ev.neg c1 ?_
      by_cases c2 : (c.toNat : Int) > 50
      · refine Ev.pos c2 (Ev.some_ ?_)
        rw [decide_eq_false (by omega)]; rfl
      refine Ev.neg c2 (Ev.pos (by omega) ?_)
      rw [decide_eq_true (by omega)]
      have hu : ((e.toNat : Int).toNat).toUInt8 = e := by simp
      rw [hu]
      by_cases c3 : e = 110 ∨ e = 101 ∨ e = 115 ∨ e = 119
      · refine Ev.neg (by rw [ix_lt]; exact fun h => h c3) ?_
        rw [show isDirB e = true from decide_eq_true c3]
        exact (ih (d - 2) (by omega) (i + 2) (by omega) (by omega) (by omega))
      · refine Ev.pos (by rw [ix_lt]; exact c3) (Ev.some_ ?_)
        rw [show isDirB e = false from decide_eq_false c3]; rfl
    · have hpk : planOk (a.data.toList.drop i) = true := by
        rcases Nat.lt_or_ge i a.data.toList.length with h | h
        · rw [List.drop_eq_getElem_cons h, List.drop_eq_nil_of_le (by omega)]; rfl
        · rw [List.drop_eq_nil_of_le h]; rfl
      rw [hpk]
      refine Ev.neg (by omega) ?_
      by_cases h : a.size % 2 = 0
      · refine Ev.pos (by omega) (Ev.some_ ?_)
        rw [decide_eq_true h]
        simp only [Bool.true_and]
        by_cases h2 : a.size ≤ 120
        · rw [decide_eq_true h2, decide_eq_true (by omega)]
        · rw [decide_eq_false h2, decide_eq_false (by omega)]
      · refine Ev.neg (by omega) (Ev.some_ ?_)
        rw [decide_eq_false h]; rfl

theorem impl_IsPlan_ev (a : ByteArray) (hs : a.size ≤ 1048576) : Ev (fun k => impl_IsPlan.f k a) (isPlanB a.data.toList) := by
  have := impl_IsPlan_loop a hs _ 0 (by omega) (by omega) (Nat.le_refl _)
  unfold impl_IsPlan.f isPlanB
  rw [dlen]
  rw [List.drop_zero, Bool.and_comm] at this
  exact this
end Go.Proofs.Ythnheffndhbebaa
