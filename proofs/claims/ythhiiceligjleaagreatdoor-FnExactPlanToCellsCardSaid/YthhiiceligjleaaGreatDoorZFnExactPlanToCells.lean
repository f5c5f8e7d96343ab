/- The program's PlanToCells returns what the reference's returns, for all texts, dice and cells (the law lets longer ones by). No further condition. -/
import Derived.Test.YthhiiceligjleaaGreatDoorKFnExactPlanToCells5
import Derived.Test.YthhiiceligjleaaGreatDoorCards
import Derived.Test.YthhiiceligjleaaGreatDoorTie
import Derived.Test.YthhiiceligjleaaGreatDoorRows
import Derived.WalkKit
import Derived.ProofKit
import Derived.OpenShut
import Derived.ShutString
import Derived.ChangeOld
import Derived.Below
import Derived.SizedLaws
import Derived.Carry

namespace Go.Proofs.YthhiiceligjleaaGreatDoor.fnExactPlanToCells
open Go.ChangeShapes Go.WideShapes Go.ChangeAt Go.RowKit Go.Proofs.YthhiiceligjleaaGreatDoorW.PrintWords Go.Proofs.YthhiiceligjleaaGreatDoor.P
open Go.ChangeMaps (open_string shut_string)
set_option linter.unusedVariables false
theorem own : ownKnob Tryz.prog.godebug = none := by kernel_rfl
theorem laidOut : laidOutB Tryz.prog = true := by kernel_rfl
set_option maxRecDepth 100000 in
theorem lifted (os : Os) (started : os.Started) (H : Type) (enc : TypeId × Value → H) :
  ReturnsInHanded {} Tryz.checked os 5 .any (fun w args => (Rows.fnExactPlanToCellsSpec.pre enc Tryz.prog Tryz.f5 [] false w args ∧ laidMetH Tryz.prog Rows.fnExactPlanToCellsRow.laid w) ∧ sizedMet enc Tryz.prog Tryz.f5 (OpenSpec.ofChange Rows.fnExactPlanToCellsSpec) false w args) (Rows.fnExactPlanToCellsSpec.post enc Tryz.prog Tryz.f5 false true false false) := by
 refine returns_laid_shaped (C := Tryz.checked) (X := fun w _ => laidMetH Tryz.prog Rows.fnExactPlanToCellsRow.laid w) own started (by kernel_rfl) Tryz.func5
  (ChangeSpec.witness_shaped (enc := enc) (C := Tryz.checked) (os := os) (X := fun w _ => laidMetH Tryz.prog Rows.fnExactPlanToCellsRow.laid w) false (startW os) #[.string ByteArray.empty, .slice none 0 0, .slice none 0 0] 8 rfl (door_shaped os _) (by kernel_rfl) (by kernel_rfl) (by kernel_rfl) (door_met os _)) ?_
 intro W base args ds gs before hval0 hW hcnd hsz0 hsh
 have hsz : (DataW.weightsEach Tryz.prog (Tryz.f5.params.toList ++ Rows.fnExactPlanToCellsSpec.plain.varTypes Tryz.prog) (ds ++ gs)).all (· ≤ reachBytes) = true := hsz0
 have hval : ∀ (j : Nat) t v, Tryz.f5.params[j]? = some t → args[j]? = some v → Value.okWide Tryz.prog W .any base t v := hval0
 have hW' := hW
 obtain ⟨p, q, hA0, hV, rfl, hfz, hnd⟩ := hW
 have hA : DataW.TrodAll enc Tryz.prog W 0 (fun _ => true) true Tryz.f5.params.toList args.toList ds p := hA0
 rw [Tryz.params5] at hA hval hsz
 obtain ⟨v0, vs0, d0, ds0, p0, q0, hargs, rfl, rfl, h0, r0⟩ := trodAll_cons hA
 obtain ⟨v1, vs1, d1, ds1, p1, q1, rfl, rfl, rfl, h1, r1⟩ := trodAll_cons r0
 obtain ⟨v2, vs2, d2, ds2, p2, q2, rfl, rfl, rfl, h2, r2⟩ := trodAll_cons r1
 obtain ⟨rfl, rfl, rfl⟩ := trodAll_nil r2
 obtain rfl : args = #[v0, v1, v2] := by cases args; simp_all
 obtain ⟨rfl, rfl⟩ := trodVars_none hV
 obtain ⟨a0, rfl, rfl, rfl, y0⟩ := open_string Tryz.underlying9 (hval 0 9 v0 rfl rfl) h0
 have w0 : a0.size ≤ 140737488351232 := by
  have z := sized_string hsz (j := 0) (t := 9) rfl rfl
  rw [Array.length_toList] at z
  exact z
 obtain ⟨a1, len1, cap1, rfl⟩ := okWide_slice Tryz.underlying22 (hval 1 22 v1 rfl rfl)
 have k1 := h1
 have lt1 : ∀ x ∈ p1, x.block < W.heap.size := by obtain ⟨m, hm⟩ := k1; exact DataW.trod_lt m _ _ _ hm
 have y1 : len1 * 64 ≤ 140737488351232 := Go.Proofs.YthhiiceligjleaaGreatDoor.sized_flats hsz (j := 1) (t := 22) rfl rfl Tryz.underlying22 (by kernel_rfl) h1
 obtain ⟨hc1, hm1, L1, hL1, hlen1, hcell1⟩ := Go.Proofs.YthhiiceligjleaaGreatDoor.open_flats (m := 5) (r := .any) (b0 := base) Tryz.underlying22 (by kernel_rfl) h1
 have hcs1 : Tryz.prog.cellsOf 57 = 8 := by kernel_rfl
 rw [hcs1] at hlen1 hcell1
 obtain ⟨l1, hl1, hr1⟩ : ∃ l : List S57, l.length = len1 ∧ Kd.C k57 W a1 l.length l := by
  refine ⟨L1.map fun zs => (⟨zs.getD 0 0, zs.getD 1 0, ⟨zs.getD 2 0, zs.getD 3 0, zs.getD 4 0, zs.getD 5 0, zs.getD 6 0, zs.getD 7 0⟩⟩ : S57), by rw [List.length_map, hL1], rfl, by rw [List.length_map, hL1]; unfold maxLen at hm1; omega, fun hp => ?_⟩
  rw [List.length_map, hL1] at hp
  obtain ⟨ad, he, hcc⟩ := hcell1 hp
  refine ⟨ad, he, fun j p hj => ?_⟩
  rw [List.getElem?_map, Option.map_eq_some_iff] at hj
  obtain ⟨zs, hzs, rfl⟩ := hj
  have hz := hlen1 zs (List.mem_of_getElem? hzs)
  have hc' := hcc j zs hzs
  obtain ⟨x0, x1, x2, x3, x4, x5, x6, x7, rfl⟩ := Go.Proofs.YthhiiceligjleaaGreatDoor.list_of_8 zs hz
  exact ⟨_, rfl, k57_mk W _, fun i u hu => hc' i u hu⟩
 subst hl1
 obtain ⟨a2, len2, cap2, rfl⟩ := okWide_slice Tryz.underlying32 (hval 2 32 v2 rfl rfl)
 have k2 := h2
 have lt2 : ∀ x ∈ p2, x.block < W.heap.size := by obtain ⟨m, hm⟩ := k2; exact DataW.trod_lt m _ _ _ hm
 obtain ⟨hc2, l2, hl2, hr2⟩ := Go.Proofs.YthhiiceligjleaaGreatDoor.open_rows Tryz.underlying32 Tryz.underlying69 Tryz.underlying3 (by kernel_rfl) (by kernel_rfl) h2
 subst hl2
 clear hA0 hval0 hsz0 hsz
 obtain ⟨k, hk⟩ := Go.Proofs.YthhiiceligjleaaGreatDoor.Pure.FnExactPlanToCells a0 l1 l2 w0 y1 hr2.2.1 (Go.Proofs.YthhiiceligjleaaGreatDoor.rows_len hr2)
 refine (ql.calls k a0 _ _ l1 _ _ l2 true W hr1 hc1 hr2 hc2 (laid_of_shape hsh) hk).mono fun e W' ⟨he, bel0⟩ => ?_
 have bel : Below W.heap.size W W' := bel0
 subst he
 exact ⟨_, rfl, _, _, _, [], _, [], hW', trodAll_mk1 (shut_bool Tryz.underlying4 _), (trodAll_cons_mk (shut_string Tryz.underlying9 y0) (trodAll_cons_mk (Below.trod laidOut (by kernel_rfl) (of_decide_eq_true (by kernel_rfl)) k1 bel lt1) (trodAll_cons_mk (Below.trod laidOut (by kernel_rfl) (of_decide_eq_true (by kernel_rfl)) k2 bel lt2) trodAll_mk0))), rfl, bel.frame _, fun h => by cases h⟩
theorem jf : joinedFacts Tryz.prog 5 Tryz.f5 Rows.fnExactPlanToCellsSpec Rows.fnExactPlanToCellsRow = true := by
 unfold joinedFacts
 rw [mayEnter_eq, liftsFinal_eq, make_eq]
 kernel_rfl
theorem over : Rows.fnExactPlanToCellsRow.holds Tryz.pinned (OpenSpec.ofChange Rows.fnExactPlanToCellsSpec) :=
 OpenClaim.holds_of_wide 5 Tryz.f5 rfl rfl rfl rfl rfl rfl rfl ⟨rfl, rfl, rfl, rfl, rfl⟩ rfl rfl rfl rfl rfl (by kernel_rfl) Tryz.func5 jf
  (of_decide_eq_true (by kernel_rfl)) (by unfold Func.isWrapper; first | (rw [if_pos (by decide +kernel)]; kernel_rfl) | (rw [if_neg (by decide +kernel)]; exact ⟨rfl, rfl⟩))
  (fun os started H enc _ => lifted os started H enc)
theorem proved : Rows.FnExactPlanToCellsCardSaid :=
 Claim7.holds_tied_plain_at .later [] [.data, .pinned] true (true, "01a9013e141ec8ccb1cbddd90a007022f0ce0dc19e6e1603b1be258da972ee2b") false
  over (fun _ h => by cases h) (by kernel_rfl) (fun _ h => by cases h) fnExactPlanToCells_row_tie rfl ⟨rfl, rfl⟩ mainIs_eq rfl
  (fun f fn hf hfn => by
   obtain rfl : f = 5 := Option.some.inj ((show Tryz.prog.funcNamed "loop.example/g01207/laws.FnExactPlanToCells" = some 5 by kernel_rfl).symm.trans hf) |>.symm
   obtain rfl : fn = Tryz.f5 := (Option.some.inj (Tryz.func5.symm.trans hfn)).symm
   exact ⟨by kernel_rfl, fun j t ht => by
    rw [Tryz.params5] at ht
    have hm : t ∈ [9, 22, 32] := by simpa using Array.mem_of_getElem? ht
    have hall : ([9, 22, 32].all fun u => !Tryz.prog.wantsStandIn u) = true := by kernel_rfl
    exact (show Tryz.prog.wantsStandIn t = false by simpa using List.all_eq_true.1 hall t hm)⟩)
  (by kernel_rfl)
end Go.Proofs.YthhiiceligjleaaGreatDoor.fnExactPlanToCells
namespace Go.Proofs.YthhiiceligjleaaGreatDoor
theorem fnExactPlanToCells_holds : Rows.FnExactPlanToCellsCardSaid := fnExactPlanToCells.proved
end Go.Proofs.YthhiiceligjleaaGreatDoor
