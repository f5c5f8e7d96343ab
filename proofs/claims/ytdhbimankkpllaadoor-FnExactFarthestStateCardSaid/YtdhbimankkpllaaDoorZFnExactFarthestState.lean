/- The program's FarthestState and the reference's: the same, at all texts and states. -/
import Derived.Test.YtdhbimankkpllaaDoorKFnExactFarthestState4
import Derived.Test.YtdhbimankkpllaaDoorCards
import Derived.Test.YtdhbimankkpllaaDoorTie
import Derived.Test.YtdhbimankkpllaaDoorRows
import Derived.WalkKit
import Derived.ProofKit
import Derived.OpenShut
import Derived.ShutString
import Derived.ChangeOld
import Derived.Below
import Derived.SizedLaws
import Derived.Carry

namespace Go.Proofs.YtdhbimankkpllaaDoor.fnExactFarthestState
open Go.ChangeShapes Go.WideShapes Go.ChangeAt Go.RowKit Go.Proofs.YtdhbimankkpllaaDoorW.PrintWords Go.Proofs.YtdhbimankkpllaaDoor.P
open Go.ChangeMaps (open_string shut_string)
set_option linter.unusedVariables false
theorem own : ownKnob Tryd.prog.godebug = none := by kernel_rfl
theorem laidOut : laidOutB Tryd.prog = true := by kernel_rfl
set_option maxRecDepth 100000 in
theorem lifted (os : Os) (started : os.Started) (H : Type) (enc : TypeId × Value → H) :
  ReturnsInHanded {} Tryd.checked os 3 .any (fun w args => (Rows.fnExactFarthestStateSpec.pre enc Tryd.prog Tryd.f3 [] false w args ∧ laidMetH Tryd.prog Rows.fnExactFarthestStateRow.laid w) ∧ sizedMet enc Tryd.prog Tryd.f3 (OpenSpec.ofChange Rows.fnExactFarthestStateSpec) false w args) (Rows.fnExactFarthestStateSpec.post enc Tryd.prog Tryd.f3 false true false false) := by
 refine returns_laid_shaped (C := Tryd.checked) (X := fun w _ => laidMetH Tryd.prog Rows.fnExactFarthestStateRow.laid w) own started (by kernel_rfl) Tryd.func3
  (ChangeSpec.witness_shaped (enc := enc) (C := Tryd.checked) (os := os) (X := fun w _ => laidMetH Tryd.prog Rows.fnExactFarthestStateRow.laid w) false (startW os) #[.string ByteArray.empty, .agg #[.int .i64 0, .int .i64 0, .int .i64 0, .int .i64 0, .int .i64 0, .int .i64 0, .int .i64 0, .int .i64 0]] 8 rfl (door_shaped os _) (by kernel_rfl) (by kernel_rfl) (by kernel_rfl) (door_met os _)) ?_
 intro W base args ds gs before hval0 hW hcnd hsz0 hsh
 have hsz : (DataW.weightsEach Tryd.prog (Tryd.f3.params.toList ++ Rows.fnExactFarthestStateSpec.plain.varTypes Tryd.prog) (ds ++ gs)).all (· ≤ reachBytes) = true := hsz0
 have hval : ∀ (j : Nat) t v, Tryd.f3.params[j]? = some t → args[j]? = some v → Value.okWide Tryd.prog W .any base t v := hval0
 have hW' := hW
 obtain ⟨p, q, hA0, hV, rfl, hfz, hnd⟩ := hW
 have hA : DataW.TrodAll enc Tryd.prog W 0 (fun _ => true) true Tryd.f3.params.toList args.toList ds p := hA0
 rw [Tryd.params3] at hA hval hsz
 obtain ⟨v0, vs0, d0, ds0, p0, q0, hargs, rfl, rfl, h0, r0⟩ := trodAll_cons hA
 obtain ⟨v1, vs1, d1, ds1, p1, q1, rfl, rfl, rfl, h1, r1⟩ := trodAll_cons r0
 obtain ⟨rfl, rfl, rfl⟩ := trodAll_nil r1
 obtain rfl : args = #[v0, v1] := by cases args; simp_all
 obtain ⟨rfl, rfl⟩ := trodVars_none hV
 obtain ⟨a0, rfl, rfl, rfl, y0⟩ := open_string Tryd.underlying9 (hval 0 9 v0 rfl rfl) h0
 have w0 : a0.size ≤ 140737488351232 := by
  have z := sized_string hsz (j := 0) (t := 9) rfl rfl
  rw [Array.length_toList] at z
  exact z
 have k1 := h1
 have lt1 : ∀ x ∈ p1, x.block < W.heap.size := by obtain ⟨m, hm⟩ := k1; exact DataW.trod_lt m _ _ _ hm
 obtain ⟨zs1, rfl, hlen1, hwz1⟩ := Go.Proofs.YtdhbimankkpllaaDoor.open_flat (m := 5) Tryd.underlying25 (by kernel_rfl) (hval 1 25 v1 rfl rfl) h1
 have hcs1 : Tryd.prog.cellsOf 25 = 8 := by kernel_rfl
 rw [hcs1] at hlen1
 obtain ⟨a1_0, a1_1, a1_2, a1_3, a1_4, a1_5, a1_6, a1_7, rfl⟩ := Go.Proofs.YtdhbimankkpllaaDoor.list_of_8 zs1 hlen1
 clear hA0 hval0 hsz0 hsz
 obtain ⟨k, hk⟩ := Go.Proofs.YtdhbimankkpllaaDoor.Pure.FnExactFarthestState a0 a1_0 a1_1 a1_2 a1_3 a1_4 a1_5 a1_6 a1_7 w0 (hwz1 _ (by simp)) (hwz1 _ (by simp)) (hwz1 _ (by simp)) (hwz1 _ (by simp)) (hwz1 _ (by simp)) (hwz1 _ (by simp)) (hwz1 _ (by simp)) (hwz1 _ (by simp))
 refine (qv.calls k a0 a1_0 a1_1 a1_2 a1_3 a1_4 a1_5 a1_6 a1_7 true W  (laid_of_shape hsh) hk).mono fun e W' ⟨he, bel0⟩ => ?_
 have bel : Below W.heap.size W W' := bel0
 subst he
 exact ⟨_, rfl, _, _, _, [], _, [], hW', trodAll_mk1 (shut_bool Tryd.underlying4 _), (trodAll_cons_mk (shut_string Tryd.underlying9 y0) (trodAll_cons_mk (Below.trod laidOut (by kernel_rfl) (of_decide_eq_true (by kernel_rfl)) k1 bel lt1) trodAll_mk0)), rfl, bel.frame _, fun h => by cases h⟩
theorem jf : joinedFacts Tryd.prog 3 Tryd.f3 Rows.fnExactFarthestStateSpec Rows.fnExactFarthestStateRow = true := by
 unfold joinedFacts
 rw [mayEnter_eq, liftsFinal_eq, make_eq]
 kernel_rfl
theorem over : Rows.fnExactFarthestStateRow.holds Tryd.pinned (OpenSpec.ofChange Rows.fnExactFarthestStateSpec) :=
 OpenClaim.holds_of_wide 3 Tryd.f3 rfl rfl rfl rfl rfl rfl rfl ⟨rfl, rfl, rfl, rfl, rfl⟩ rfl rfl rfl rfl rfl (by kernel_rfl) Tryd.func3 jf
  (of_decide_eq_true (by kernel_rfl)) (by unfold Func.isWrapper; first | (rw [if_pos (by decide +kernel)]; kernel_rfl) | (rw [if_neg (by decide +kernel)]; exact ⟨rfl, rfl⟩))
  (fun os started H enc _ => lifted os started H enc)
theorem proved : Rows.FnExactFarthestStateCardSaid :=
 Claim7.holds_tied_plain_at .later [] [.data, .pinned] true (true, "23ef6bb3c14cce518482075de4c68087be6020587edae1ddad893591998ed173") false
  over (fun _ h => by cases h) (by kernel_rfl) (fun _ h => by cases h) fnExactFarthestState_row_tie rfl ⟨rfl, rfl⟩ mainIs_eq rfl
  (fun f fn hf hfn => by
   obtain rfl : f = 3 := Option.some.inj ((show Tryd.prog.funcNamed "loop.example/g01207/laws.FnExactFarthestState" = some 3 by kernel_rfl).symm.trans hf) |>.symm
   obtain rfl : fn = Tryd.f3 := (Option.some.inj (Tryd.func3.symm.trans hfn)).symm
   exact ⟨by kernel_rfl, fun j t ht => by
    rw [Tryd.params3] at ht
    have hm : t ∈ [9, 25] := by simpa using Array.mem_of_getElem? ht
    have hall : ([9, 25].all fun u => !Tryd.prog.wantsStandIn u) = true := by kernel_rfl
    exact (show Tryd.prog.wantsStandIn t = false by simpa using List.all_eq_true.1 hall t hm)⟩)
  (by kernel_rfl)
end Go.Proofs.YtdhbimankkpllaaDoor.fnExactFarthestState
namespace Go.Proofs.YtdhbimankkpllaaDoor
theorem fnExactFarthestState_holds : Rows.FnExactFarthestStateCardSaid := fnExactFarthestState.proved
end Go.Proofs.YtdhbimankkpllaaDoor
