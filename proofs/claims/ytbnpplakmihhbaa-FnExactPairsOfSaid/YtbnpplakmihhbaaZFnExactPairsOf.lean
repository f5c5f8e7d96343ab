/- The program's PairsOf returns what the reference's returns, for every die. No further condition. -/
import Derived.Test.YtbnpplakmihhbaaKFnExactPairsOf1
import Derived.Test.YtbnpplakmihhbaaRows
import Derived.WalkKit
import Derived.ProofKit
import Derived.OpenShut
import Derived.ShutString
import Derived.ChangeOld
import Derived.Below
import Derived.SizedLaws
import Derived.Carry

namespace Go.Proofs.Ytbnpplakmihhbaa.fnExactPairsOf
open Go.ChangeShapes Go.WideShapes Go.ChangeAt Go.RowKit Go.Proofs.YtbnpplakmihhbaaW.PrintWords Go.Proofs.Ytbnpplakmihhbaa.P
open Go.ChangeMaps (open_string shut_string)
set_option linter.unusedVariables false
theorem own : ownKnob Try.prog.godebug = none := by kernel_rfl
theorem laidOut : laidOutB Try.prog = true := by kernel_rfl
set_option maxRecDepth 100000 in
theorem lifted (os : Os) (started : os.Started) (H : Type) (enc : TypeId × Value → H) :
  ReturnsInHanded {} Try.checked os 4 .any (Rows.fnExactPairsOfSpec.pre6 enc Try.prog Try.f4 Rows.fnExactPairsOfRow.domain false) (Rows.fnExactPairsOfSpec.post enc Try.prog Try.f4 false true false false) := by
 refine returnsInHanded_of_change_sized (C := Try.checked) own started (by kernel_rfl) Try.func4
  (ChangeSpec.witness6 (enc := enc) (C := Try.checked) false ⟨#[], #[.agg #[.int .i64 0, .int .i64 0, .int .i64 0, .int .i64 0, .int .i64 0, .int .i64 0]], []⟩ 8 (by kernel_rfl) (by kernel_rfl) (by kernel_rfl) (by kernel_rfl)) ?_
 intro W base args ds gs before hval0 hW hcnd hsz0 _
 have hsz : (DataW.weightsEach Try.prog (Try.f4.params.toList ++ Rows.fnExactPairsOfSpec.plain.varTypes Try.prog) (ds ++ gs)).all (· ≤ reachBytes) = true := hsz0
 have hval : ∀ (j : Nat) t v, Try.f4.params[j]? = some t → args[j]? = some v → Value.okWide Try.prog W .any base t v := hval0
 have hW' := hW
 obtain ⟨p, q, hA0, hV, rfl, hfz, hnd⟩ := hW
 have hA : DataW.TrodAll enc Try.prog W 0 (fun _ => true) true Try.f4.params.toList args.toList ds p := hA0
 rw [Try.params4] at hA hval hsz
 obtain ⟨v0, vs0, d0, ds0, p0, q0, hargs, rfl, rfl, h0, r0⟩ := trodAll_cons hA
 obtain ⟨rfl, rfl, rfl⟩ := trodAll_nil r0
 obtain rfl : args = #[v0] := by cases args; simp_all
 obtain ⟨rfl, rfl⟩ := trodVars_none hV
 have k0 := h0
 have lt0 : ∀ x ∈ p0, x.block < W.heap.size := by obtain ⟨m, hm⟩ := k0; exact DataW.trod_lt m _ _ _ hm
 obtain ⟨zs0, rfl, hlen0, hwz0⟩ := Go.Proofs.Ytbnpplakmihhbaa.open_flat (m := 5) Try.underlying25 (by kernel_rfl) (hval 0 25 v0 rfl rfl) h0
 have hcs0 : Try.prog.cellsOf 25 = 6 := by kernel_rfl
 rw [hcs0] at hlen0
 obtain ⟨a0, a1, a2, a3, a4, a5, rfl⟩ := Go.Proofs.Ytbnpplakmihhbaa.list_of_6 zs0 hlen0
 clear hA0 hval0 hsz0 hsz
 obtain ⟨k1, k2, k3, K, k4, k5, g, r1, r2, m, h1, h2, h3, h4, h5, h6, h7, h8⟩ := Go.Proofs.Ytbnpplakmihhbaa.Pure.FnExactPairsOf a0 a1 a2 a3 a4 a5
 refine (Go.Proofs.Ytbnpplakmihhbaa.pairsLaw_calls k1 k2 k3 K k4 k5 a0 a1 a2 a3 a4 a5 g r1 r2 m W h1 h2 h3 h4 h5 h6 h7 h8).mono fun e W' ⟨he, bel0⟩ => ?_
 have bel : Below W.heap.size W W' := bel0
 subst he
 exact ⟨_, rfl, _, _, _, [], _, [], hW', trodAll_mk1 (shut_bool Try.underlying4 _), (trodAll_cons_mk (Below.trod laidOut (by kernel_rfl) (of_decide_eq_true (by kernel_rfl)) k0 bel lt0) trodAll_mk0), rfl, bel.frame _, fun h => by cases h⟩
theorem over : Rows.fnExactPairsOfRow.holds Try.pinned (OpenSpec.ofChange Rows.fnExactPairsOfSpec) :=
 OpenClaim.holds_of_wide 4 Try.f4 rfl rfl rfl rfl rfl rfl rfl ⟨rfl, rfl, rfl, rfl, rfl⟩ rfl rfl rfl rfl rfl (by kernel_rfl) Try.func4 (by kernel_rfl)
  (of_decide_eq_true (by kernel_rfl)) (by unfold Func.isWrapper; first | (rw [if_pos (by decide +kernel)]; kernel_rfl) | (rw [if_neg (by decide +kernel)]; exact ⟨rfl, rfl⟩))
  (fun os started H enc _ => lifted os started H enc)
theorem proved : Rows.FnExactPairsOfSaid := over
end Go.Proofs.Ytbnpplakmihhbaa.fnExactPairsOf
namespace Go.Proofs.Ytbnpplakmihhbaa
theorem fnExactPairsOf_holds : Rows.FnExactPairsOfSaid := fnExactPairsOf.proved
end Go.Proofs.Ytbnpplakmihhbaa
