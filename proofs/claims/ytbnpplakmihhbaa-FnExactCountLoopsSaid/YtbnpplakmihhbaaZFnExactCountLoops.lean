/- The program's CountLoops returns what the reference's returns, for all lists of dice (the law lets longer lists by). No further condition. -/
import Derived.Test.YtbnpplakmihhbaaKFnExactCountLoops2
import Derived.Test.YtbnpplakmihhbaaRows
import Derived.WalkKit
import Derived.ProofKit
import Derived.OpenShut
import Derived.ShutString
import Derived.ChangeOld
import Derived.Below
import Derived.SizedLaws
import Derived.Carry

namespace Go.Proofs.Ytbnpplakmihhbaa.fnExactCountLoops
open Go.ChangeShapes Go.WideShapes Go.ChangeAt Go.RowKit Go.Proofs.YtbnpplakmihhbaaW.PrintWords Go.Proofs.Ytbnpplakmihhbaa.P
open Go.ChangeMaps (open_string shut_string)
set_option linter.unusedVariables false
theorem own : ownKnob Try.prog.godebug = none := by kernel_rfl
theorem laidOut : laidOutB Try.prog = true := by kernel_rfl
set_option maxRecDepth 100000 in
theorem lifted (os : Os) (started : os.Started) (H : Type) (enc : TypeId × Value → H) :
  ReturnsInHanded {} Try.checked os 5 .any (Rows.fnExactCountLoopsSpec.pre6 enc Try.prog Try.f5 Rows.fnExactCountLoopsRow.domain false) (Rows.fnExactCountLoopsSpec.post enc Try.prog Try.f5 false true false false) := by
 refine returnsInHanded_of_change_sized (C := Try.checked) own started (by kernel_rfl) Try.func5
  (ChangeSpec.witness6 (enc := enc) (C := Try.checked) false ⟨#[], #[.slice none 0 0], []⟩ 8 (by kernel_rfl) (by kernel_rfl) (by kernel_rfl) (by kernel_rfl)) ?_
 intro W base args ds gs before hval0 hW hcnd hsz0 _
 have hsz : (DataW.weightsEach Try.prog (Try.f5.params.toList ++ Rows.fnExactCountLoopsSpec.plain.varTypes Try.prog) (ds ++ gs)).all (· ≤ reachBytes) = true := hsz0
 have hval : ∀ (j : Nat) t v, Try.f5.params[j]? = some t → args[j]? = some v → Value.okWide Try.prog W .any base t v := hval0
 have hW' := hW
 obtain ⟨p, q, hA0, hV, rfl, hfz, hnd⟩ := hW
 have hA : DataW.TrodAll enc Try.prog W 0 (fun _ => true) true Try.f5.params.toList args.toList ds p := hA0
 rw [Try.params5] at hA hval hsz
 obtain ⟨v0, vs0, d0, ds0, p0, q0, hargs, rfl, rfl, h0, r0⟩ := trodAll_cons hA
 obtain ⟨rfl, rfl, rfl⟩ := trodAll_nil r0
 obtain rfl : args = #[v0] := by cases args; simp_all
 obtain ⟨rfl, rfl⟩ := trodVars_none hV
 obtain ⟨a0, len0, cap0, rfl⟩ := okWide_slice Try.underlying34 (hval 0 34 v0 rfl rfl)
 have k0 := h0
 have lt0 : ∀ x ∈ p0, x.block < W.heap.size := by obtain ⟨m, hm⟩ := k0; exact DataW.trod_lt m _ _ _ hm
 have y0 : len0 * 48 ≤ 140737488351232 := Go.Proofs.Ytbnpplakmihhbaa.sized_flats hsz (j := 0) (t := 34) rfl rfl Try.underlying34 (by kernel_rfl) h0
 obtain ⟨hc0, hm0, L0, hL0, hlen0, hcell0⟩ := Go.Proofs.Ytbnpplakmihhbaa.open_flats (m := 5) (r := .any) (b0 := base) Try.underlying34 (by kernel_rfl) h0
 have hcs0 : Try.prog.cellsOf 25 = 6 := by kernel_rfl
 rw [hcs0] at hlen0 hcell0
 obtain ⟨l0, hl0, hr0⟩ : ∃ l : List S25, l.length = len0 ∧ Kd.C k25 W a0 l.length l := by
  refine ⟨L0.map fun zs => (⟨zs.getD 0 0, zs.getD 1 0, zs.getD 2 0, zs.getD 3 0, zs.getD 4 0, zs.getD 5 0⟩ : S25), by rw [List.length_map, hL0], rfl, by rw [List.length_map, hL0]; unfold maxLen at hm0; omega, fun hp => ?_⟩
  rw [List.length_map, hL0] at hp
  obtain ⟨ad, he, hcc⟩ := hcell0 hp
  refine ⟨ad, he, fun j p hj => ?_⟩
  rw [List.getElem?_map, Option.map_eq_some_iff] at hj
  obtain ⟨zs, hzs, rfl⟩ := hj
  have hz := hlen0 zs (List.mem_of_getElem? hzs)
  have hc' := hcc j zs hzs
  obtain ⟨x0, x1, x2, x3, x4, x5, rfl⟩ := Go.Proofs.Ytbnpplakmihhbaa.list_of_6 zs hz
  exact ⟨_, rfl, k25_mk W _, fun i u hu => hc' i u hu⟩
 subst hl0
 clear hA0 hval0 hsz0 hsz
 obtain ⟨k, hk⟩ := Go.Proofs.Ytbnpplakmihhbaa.Pure.FnExactCountLoops l0 y0
 refine (qG.calls k _ _ l0 true W hr0 hc0 hk).mono fun e W' ⟨he, bel0⟩ => ?_
 have bel : Below W.heap.size W W' := bel0
 subst he
 exact ⟨_, rfl, _, _, _, [], _, [], hW', trodAll_mk1 (shut_bool Try.underlying4 _), (trodAll_cons_mk (Below.trod laidOut (by kernel_rfl) (of_decide_eq_true (by kernel_rfl)) k0 bel lt0) trodAll_mk0), rfl, bel.frame _, fun h => by cases h⟩
theorem over : Rows.fnExactCountLoopsRow.holds Try.pinned (OpenSpec.ofChange Rows.fnExactCountLoopsSpec) :=
 OpenClaim.holds_of_wide 5 Try.f5 rfl rfl rfl rfl rfl rfl rfl ⟨rfl, rfl, rfl, rfl, rfl⟩ rfl rfl rfl rfl rfl (by kernel_rfl) Try.func5 (by kernel_rfl)
  (of_decide_eq_true (by kernel_rfl)) (by unfold Func.isWrapper; first | (rw [if_pos (by decide +kernel)]; kernel_rfl) | (rw [if_neg (by decide +kernel)]; exact ⟨rfl, rfl⟩))
  (fun os started H enc _ => lifted os started H enc)
theorem proved : Rows.FnExactCountLoopsSaid := over
end Go.Proofs.Ytbnpplakmihhbaa.fnExactCountLoops
namespace Go.Proofs.Ytbnpplakmihhbaa
theorem fnExactCountLoops_holds : Rows.FnExactCountLoopsSaid := fnExactCountLoops.proved
end Go.Proofs.Ytbnpplakmihhbaa
