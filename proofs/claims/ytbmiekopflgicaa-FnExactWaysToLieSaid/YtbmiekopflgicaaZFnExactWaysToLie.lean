/- The program's WaysToLie returns what the reference's returns, for every die, and leaves no shared memory behind. No further condition. -/
import Derived.Test.YtbmiekopflgicaaKFnExactWaysToLie0
import Derived.Test.YtbmiekopflgicaaRows
import Derived.WalkKit
import Derived.ProofKit
import Derived.OpenShut
import Derived.ShutString
import Derived.ChangeOld
import Derived.Below
import Derived.SizedLaws
import Derived.Carry

namespace Go.Proofs.Ytbmiekopflgicaa.fnExactWaysToLie
open Go.ChangeShapes Go.WideShapes Go.ChangeAt Go.RowKit Go.Proofs.YtbmiekopflgicaaW.PrintWords Go.Proofs.Ytbmiekopflgicaa.P
open Go.ChangeMaps (open_string shut_string)
set_option linter.unusedVariables false
theorem own : ownKnob Try.prog.godebug = none := by kernel_rfl
theorem laidOut : laidOutB Try.prog = true := by kernel_rfl
set_option maxRecDepth 100000 in
theorem lifted (os : Os) (started : os.Started) (H : Type) (enc : TypeId × Value → H) :
  ReturnsInHanded {} Try.checked os 8 .any (Rows.fnExactWaysToLieSpec.pre6 enc Try.prog Try.f8 Rows.fnExactWaysToLieRow.domain false) (Rows.fnExactWaysToLieSpec.post enc Try.prog Try.f8 false true false false) := by
 refine returnsInHanded_of_change_sized (C := Try.checked) own started (by kernel_rfl) Try.func8
  (ChangeSpec.witness6 (enc := enc) (C := Try.checked) false ⟨#[], #[.agg #[.int .i64 0, .int .i64 0, .int .i64 0, .int .i64 0, .int .i64 0, .int .i64 0]], []⟩ 8 (by kernel_rfl) (by kernel_rfl) (by kernel_rfl) (by kernel_rfl)) ?_
 intro W base args ds gs before hval0 hW hcnd hsz0 _
 have hsz : (DataW.weightsEach Try.prog (Try.f8.params.toList ++ Rows.fnExactWaysToLieSpec.plain.varTypes Try.prog) (ds ++ gs)).all (· ≤ reachBytes) = true := hsz0
 have hval : ∀ (j : Nat) t v, Try.f8.params[j]? = some t → args[j]? = some v → Value.okWide Try.prog W .any base t v := hval0
 have hW' := hW
 obtain ⟨p, q, hA0, hV, rfl, hfz, hnd⟩ := hW
 have hA : DataW.TrodAll enc Try.prog W 0 (fun _ => true) true Try.f8.params.toList args.toList ds p := hA0
 rw [Try.params8] at hA hval hsz
 obtain ⟨v0, vs0, d0, ds0, p0, q0, hargs, rfl, rfl, h0, r0⟩ := trodAll_cons hA
 obtain ⟨rfl, rfl, rfl⟩ := trodAll_nil r0
 obtain rfl : args = #[v0] := by cases args; simp_all
 obtain ⟨rfl, rfl⟩ := trodVars_none hV
 have k0 := h0
 have lt0 : ∀ x ∈ p0, x.block < W.heap.size := by obtain ⟨m, hm⟩ := k0; exact DataW.trod_lt m _ _ _ hm
 obtain ⟨zs0, rfl, hlen0, hwz0⟩ := Go.Proofs.Ytbmiekopflgicaa.qtB (m := 5) Try.underlying25 (by kernel_rfl) (hval 0 25 v0 rfl rfl) h0
 have hcs0 : Try.prog.cellsOf 25 = 6 := by kernel_rfl
 rw [hcs0] at hlen0
 obtain ⟨a0_0, a0_1, a0_2, a0_3, a0_4, a0_5, rfl⟩ := Go.Proofs.Ytbmiekopflgicaa.quB zs0 hlen0
 clear hA0 hval0 hsz0 hsz
 obtain ⟨k, hk⟩ := Go.Proofs.Ytbmiekopflgicaa.Pure.FnExactWaysToLie a0_0 a0_1 a0_2 a0_3 a0_4 a0_5 (hwz0 _ (by simp)) (hwz0 _ (by simp)) (hwz0 _ (by simp)) (hwz0 _ (by simp)) (hwz0 _ (by simp)) (hwz0 _ (by simp))
 refine (qJ.calls k a0_0 a0_1 a0_2 a0_3 a0_4 a0_5 true W  hk).mono fun e W' ⟨he, bel0⟩ => ?_
 have bel : Below W.heap.size W W' := bel0
 subst he
 exact ⟨_, rfl, _, _, _, [], _, [], hW', trodAll_mk1 (shut_bool Try.underlying4 _), (trodAll_cons_mk (Below.trod laidOut (by kernel_rfl) (of_decide_eq_true (by kernel_rfl)) k0 bel lt0) trodAll_mk0), rfl, bel.frame _, fun h => by cases h⟩
theorem over : Rows.fnExactWaysToLieRow.holds Try.pinned (OpenSpec.ofChange Rows.fnExactWaysToLieSpec) :=
 OpenClaim.holds_of_wide 8 Try.f8 rfl rfl rfl rfl rfl rfl rfl ⟨rfl, rfl, rfl, rfl, rfl⟩ rfl rfl rfl rfl rfl (by kernel_rfl) Try.func8 (by kernel_rfl)
  (of_decide_eq_true (by kernel_rfl)) (by unfold Func.isWrapper; first | (rw [if_pos (by decide +kernel)]; kernel_rfl) | (rw [if_neg (by decide +kernel)]; exact ⟨rfl, rfl⟩))
  (fun os started H enc _ => lifted os started H enc)
theorem proved : Rows.FnExactWaysToLieSaid := over
end Go.Proofs.Ytbmiekopflgicaa.fnExactWaysToLie
namespace Go.Proofs.Ytbmiekopflgicaa
theorem fnExactWaysToLie_holds : Rows.FnExactWaysToLieSaid := fnExactWaysToLie.proved
end Go.Proofs.Ytbmiekopflgicaa
