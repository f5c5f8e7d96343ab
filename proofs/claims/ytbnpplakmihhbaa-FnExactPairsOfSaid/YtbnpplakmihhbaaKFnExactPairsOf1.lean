/- The program's PairsOf returns what the reference's returns, for every die. No further condition. -/
import Derived.Test.YtbnpplakmihhbaaKFnExactPairsOf0

namespace Go.Proofs.Ytbnpplakmihhbaa.Pure
open Go.RowKit Go.Proofs.Ytbnpplakmihhbaa Go.Proofs.Ytbnpplakmihhbaa.P Go.Proofs.YtbnpplakmihhbaaW.PrintWords Go.Proofs.YtbnpplakmihhbaaW.PrintLast
set_option linter.unusedVariables false
set_option linter.unusedSimpArgs false
theorem clPair_eq (a b : Int) : qP.f a b = some (pr2 a b) := by
 unfold qP.f pr2
 split
 ·rw [Int.min_eq_right (by omega), Int.max_eq_left (by omega)]
 ·rw [Int.min_eq_left (by omega), Int.max_eq_right (by omega)]
theorem spec_PairsOf_ev (a b c d e f : Int) : Ev (fun k => qn.f k a b c d e f) (if dieB a b c d e f = true then pairsL ⟨a, b, c, d, e, f⟩ else [], dieB a b c d e f) := by
 unfold qn.f
 refine Ev.bind (spec_diGood_ev a b c d e f) ?_
 cases dieB a b c d e f
 ·exact Ev.neg (by simp) (Ev.now _)
 ·refine Ev.pos rfl ?_
  unfold qK.f
  simp only [clPair_eq, Option.bind_some]
  exact Ev.now _
theorem eqSS3 (p q r s t u : Int) : qI.f 9 [[p, q], [r, s], [t, u]] [[p, q], [r, s], [t, u]] = some true := by
 simp [qI.f, qI.l0, qL.f, qL.l0, rd_L1, rd, rdOf, wrap64, IntKind.wrap_i64]
theorem mkSS3 (p q r s t u : Int) : mkSS 9 9 [[p, q], [r, s], [t, u]] 1 0 = some (7, [[1, 2], [3, 4], [5, 6]]) := by kernel_rfl
theorem FnExactPairsOf (a b c d e f : Int) : ∃ (k1 k2 k3 K k4 k5 : Nat) (g : Bool) (r1 r2 : List (List Int)) (m : Int), qn.f k1 a b c d e f = some (r1, g) ∧ qp.f k2 a b c d e f = some g ∧ (r1 = if g = true then pairsL ⟨a, b, c, d, e, f⟩ else []) ∧ qI.f k3 r1 r1 = some true ∧ mkSS K k4 r1 1 0 = some (m, r2) ∧ r2.length = r1.length ∧ qJ.f k5 r2 1 = some m ∧ ¬ m < 0 := by
 obtain ⟨k1, h1⟩ := Ev.rounds (spec_PairsOf_ev a b c d e f)
 obtain ⟨k2, h2⟩ := Ev.rounds (impl_IsDie_ev a b c d e f)
 cases hb : dieB a b c d e f
 ·rw [hb] at h1 h2
  exact ⟨k1, k2, 9, 9, 9, 9, false, [], [], 1, h1, h2, rfl, by kernel_rfl, by kernel_rfl, rfl, by kernel_rfl, by decide⟩
 ·rw [hb] at h1 h2
  exact ⟨k1, k2, 9, 9, 9, 9, true, _, [[1, 2], [3, 4], [5, 6]], 7, h1, h2, rfl, eqSS3 _ _ _ _ _ _, mkSS3 _ _ _ _ _ _, rfl, by kernel_rfl, by decide⟩
end Go.Proofs.Ytbnpplakmihhbaa.Pure
