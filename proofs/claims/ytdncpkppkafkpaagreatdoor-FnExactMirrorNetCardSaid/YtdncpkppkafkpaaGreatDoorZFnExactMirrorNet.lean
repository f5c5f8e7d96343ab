/- The program's MirrorNet returns what the reference's returns, for all texts (the law lets longer texts by). No further condition. -/
import Derived.Test.YtdncpkppkafkpaaGreatDoorKFnExactMirrorNet5
import Derived.Test.YtdncpkppkafkpaaGreatDoorCards
import Derived.Test.YtdncpkppkafkpaaGreatDoorTie
import Derived.Test.YtdncpkppkafkpaaGreatDoorRows
import Derived.WalkKit
import Derived.ProofKit
import Derived.OpenShut
import Derived.ShutString
import Derived.ChangeOld
import Derived.Below
import Derived.SizedLaws
import Derived.Carry

namespace Go.Proofs.YtdncpkppkafkpaaGreatDoor.fnExactMirrorNet
open Go.ChangeShapes Go.WideShapes Go.ChangeAt Go.RowKit Go.Proofs.YtdncpkppkafkpaaGreatDoorW.PrintWords Go.Proofs.YtdncpkppkafkpaaGreatDoor.P
open Go.ChangeMaps (open_string shut_string)
set_option linter.unusedVariables false
theorem own : ownKnob Tryz.prog.godebug = none := by kernel_rfl
theorem laidOut : laidOutB Tryz.prog = true := by kernel_rfl
set_option maxRecDepth 100000 in
theorem lifted (os : Os) (started : os.Started) (H : Type) (enc : TypeId × Value → H) :
  ReturnsInHanded {} Tryz.checked os 3 .any (fun w args => (Rows.fnExactMirrorNetSpec.pre enc Tryz.prog Tryz.f3 [] false w args ∧ laidMetH Tryz.prog Rows.fnExactMirrorNetRow.laid w) ∧ sizedMet enc Tryz.prog Tryz.f3 (OpenSpec.ofChange Rows.fnExactMirrorNetSpec) false w args) (Rows.fnExactMirrorNetSpec.post enc Tryz.prog Tryz.f3 false true false false) := by
 refine returns_laid_shaped (C := Tryz.checked) (X := fun w _ => laidMetH Tryz.prog Rows.fnExactMirrorNetRow.laid w) own started (by kernel_rfl) Tryz.func3
  (ChangeSpec.witness_shaped (enc := enc) (C := Tryz.checked) (os := os) (X := fun w _ => laidMetH Tryz.prog Rows.fnExactMirrorNetRow.laid w) false (startW os) #[.string ByteArray.empty] 8 rfl (door_shaped os _) (by kernel_rfl) (by kernel_rfl) (by kernel_rfl) (door_met os _)) ?_
 intro W base args ds gs before hval0 hW hcnd hsz0 hsh
 have hsz : (DataW.weightsEach Tryz.prog (Tryz.f3.params.toList ++ Rows.fnExactMirrorNetSpec.plain.varTypes Tryz.prog) (ds ++ gs)).all (· ≤ reachBytes) = true := hsz0
 have hval : ∀ (j : Nat) t v, Tryz.f3.params[j]? = some t → args[j]? = some v → Value.okWide Tryz.prog W .any base t v := hval0
 have hW' := hW
 obtain ⟨p, q, hA0, hV, rfl, hfz, hnd⟩ := hW
 have hA : DataW.TrodAll enc Tryz.prog W 0 (fun _ => true) true Tryz.f3.params.toList args.toList ds p := hA0
 rw [Tryz.params3] at hA hval hsz
 obtain ⟨v0, vs0, d0, ds0, p0, q0, hargs, rfl, rfl, h0, r0⟩ := trodAll_cons hA
 obtain ⟨rfl, rfl, rfl⟩ := trodAll_nil r0
 obtain rfl : args = #[v0] := by cases args; simp_all
 obtain ⟨rfl, rfl⟩ := trodVars_none hV
 obtain ⟨a0, rfl, rfl, rfl, y0⟩ := open_string Tryz.underlying9 (hval 0 9 v0 rfl rfl) h0
 have w0 : a0.size ≤ 140737488351232 := by
  have z := sized_string hsz (j := 0) (t := 9) rfl rfl
  rw [Array.length_toList] at z
  exact z
 clear hA0 hval0 hsz0 hsz
 obtain ⟨k, hk⟩ := Go.Proofs.YtdncpkppkafkpaaGreatDoor.Pure.FnExactMirrorNet a0 w0
 refine (qDA.calls k a0 true W  (laid_of_shape hsh) hk).mono fun e W' ⟨he, bel0⟩ => ?_
 have bel : Below W.heap.size W W' := bel0
 subst he
 exact ⟨_, rfl, _, _, _, [], _, [], hW', trodAll_mk1 (shut_bool Tryz.underlying4 _), (trodAll_cons_mk (shut_string Tryz.underlying9 y0) trodAll_mk0), rfl, bel.frame _, fun h => by cases h⟩
theorem jf : joinedFacts Tryz.prog 3 Tryz.f3 Rows.fnExactMirrorNetSpec Rows.fnExactMirrorNetRow = true := by
 unfold joinedFacts
 rw [mayEnter_eq, liftsFinal_eq, make_eq]
 kernel_rfl
theorem over : Rows.fnExactMirrorNetRow.holds Tryz.pinned (OpenSpec.ofChange Rows.fnExactMirrorNetSpec) :=
 OpenClaim.holds_of_wide 3 Tryz.f3 rfl rfl rfl rfl rfl rfl rfl ⟨rfl, rfl, rfl, rfl, rfl⟩ rfl rfl rfl rfl rfl (by kernel_rfl) Tryz.func3 jf
  (of_decide_eq_true (by kernel_rfl)) (by unfold Func.isWrapper; first | (rw [if_pos (by decide +kernel)]; kernel_rfl) | (rw [if_neg (by decide +kernel)]; exact ⟨rfl, rfl⟩))
  (fun os started H enc _ => lifted os started H enc)
theorem proved : Rows.FnExactMirrorNetCardSaid :=
 Claim7.holds_tied_plain_at .later [] [.data, .pinned] true (true, "99ecf99e1aeb132ac988bd2066f7c309917e315585d86e9f02ed96367290dedf") false
  over (fun _ h => by cases h) (by kernel_rfl) (fun _ h => by cases h) fnExactMirrorNet_row_tie rfl ⟨rfl, rfl⟩ mainIs_eq rfl
  (fun f fn hf hfn => by
   obtain rfl : f = 3 := Option.some.inj ((show Tryz.prog.funcNamed "loop.example/g01207/laws.FnExactMirrorNet" = some 3 by kernel_rfl).symm.trans hf) |>.symm
   obtain rfl : fn = Tryz.f3 := (Option.some.inj (Tryz.func3.symm.trans hfn)).symm
   exact ⟨by kernel_rfl, fun j t ht => by
    rw [Tryz.params3] at ht
    have hm : t ∈ [9] := by simpa using Array.mem_of_getElem? ht
    have hall : ([9].all fun u => !Tryz.prog.wantsStandIn u) = true := by kernel_rfl
    exact (show Tryz.prog.wantsStandIn t = false by simpa using List.all_eq_true.1 hall t hm)⟩)
  (by kernel_rfl)
end Go.Proofs.YtdncpkppkafkpaaGreatDoor.fnExactMirrorNet
namespace Go.Proofs.YtdncpkppkafkpaaGreatDoor
theorem fnExactMirrorNet_holds : Rows.FnExactMirrorNetCardSaid := fnExactMirrorNet.proved
end Go.Proofs.YtdncpkppkafkpaaGreatDoor
