/- The program's RollBox returns what the reference's returns, for all texts, boxes and directions (the law lets longer texts by). No further condition. -/
import Derived.Test.YtbpfhpjbeomfcaaDoorKFnExactRollBox2
import Derived.ChangeArms
import Derived.ChangeSame
import Derived.Deep.Slices
import Derived.ProofKit
import Derived.OpenShut
import Derived.SizedLaws
import Derived.Test.YtbpfhpjbeomfcaaDoorProg
import Derived.Lib.Strings
import Derived.Lib.SplitLaws

namespace Go.Proofs.YtbpfhpjbeomfcaaDoor.P
open Go.RowKit Go.Proofs.YtbpfhpjbeomfcaaDoorW.PrintWords Go.Proofs.YtbpfhpjbeomfcaaDoorW.PrintLast Go.Proofs.YtbpfhpjbeomfcaaDoorW.PrintMore
attribute [local go_sem] qm qk qx qw qg qf ql qj   -- for this text's walks alone
set_option linter.unusedVariables false
set_option linter.unusedSimpArgs false
def qa.j0 : Nat → ByteArray → List ByteArray → Bool → Int → Int → Int → Option (Int × Int × Int × Bool)
 | 0, _, _, _, _, _, _ => none
 | k + 1, x2, x8, x24, x379000, x379001, x379002 => if x24 = true then (some (0, 0, 0, false)) else (if 0 < (x2.size : Int) then ((qu.f k x8 x379000 x379001 x379002 (bt x2 0)).bind fun bt385 => (if bt385.2.2.2 = true then (some (bt385.1, bt385.2.1, bt385.2.2.1, true)) else (some (0, 0, 0, false)))) else (none))
def qa.f (k : Nat) (a0 : ByteArray) (a1_0 : Int) (a1_1 : Int) (a1_2 : Int) (a2 : ByteArray) : Option (Int × Int × Int × Bool) := (qOA.f k a0 a1_0 a1_1 a1_2).bind fun bt380 => (if bt380.2 = true then ((qWA.f a2).bind fun t384 => (qa.j0 k a2 bt380.1 (!t384) a1_0 a1_1 a1_2)) else (qa.j0 k a2 bt380.1 true a1_0 a1_1 a1_2))
def qa.T4 : Bool × List (List Nat × List Nat) := (true, [([], []), ([], []), ([], []), ([2], [2]), ([0, 1, 3], [0, 1, 3]), ([4], [4]), ([5], [5]), ([5], [5]), ([], []), ([8, 6, 4, 0, 1, 2, 3, 4, 5, 6, 8], [6, 8]), ([7, 9, 0, 1, 2, 3, 4, 5, 6, 7, 8, 9], [7])])
def qa.B4 : List Nat := [0, 0, 0, 4, 15, 31, 63, 63, 0, 383, 1023]
theorem qa.tab4 : rtab .any (opsOf Tryd.f30 4) = qa.T4 := by kernel_rfl
theorem qa.bits4 : waitsOk qa.T4.2 qa.B4 = true := by kernel_rfl
set_option maxHeartbeats 8000000 in
set_option maxRecDepth 100000 in
theorem qa.calls (k : Nat) (a0 : ByteArray) (a1_0 : Int) (a1_1 : Int) (a1_2 : Int) (a2 : ByteArray) (r1 : Int) (r2 : Int) (r3 : Int) (r4 : Bool) (w : World) (hL : Laid w) (h : qa.f k a0 a1_0 a1_1 a1_2 a2 = some (r1, r2, r3, r4)) :
  Calls Tryd.prog 30 #[.string a0, .agg #[.int .i64 a1_0, .int .i64 a1_1, .int .i64 a1_2], .string a2] w fun e w' => e = .returned (.tuple #[.agg #[.int .i64 r1, .int .i64 r2, .int .i64 r3], .bool r4]) ∧ Below w.heap.size w w' := by
 have hu27 := Tryd.underlying27
 have HLD := Aside0.mk hL
 clear hL
 have HB := Aside0.mk (Below.refl w.heap.size w)
 have H : ((qOA.f k a0 a1_0 a1_1 a1_2).bind fun bt380 => (if bt380.2 = true then ((qWA.f a2).bind fun t384 => (qa.j0 k a2 bt380.1 (!t384) a1_0 a1_1 a1_2)) else (qa.j0 k a2 bt380.1 true a1_0 a1_1 a1_2))) = some (r1, r2, r3, r4) := h
 clear h
 replace H := Option.bind_eq_some_iff.mp H
 obtain ⟨⟨t380, t383⟩, A40, H⟩ := H
 replace H : (if t383 = true then ((qWA.f a2).bind fun t384 => (qa.j0 k a2 t380 (!t384) a1_0 a1_1 a1_2)) else (qa.j0 k a2 t380 true a1_0 a1_1 a1_2)) = some (r1, r2, r3, r4) := H
 have A4 := Aside0.mk A40
 clear A40
 have HC5 := Aside0.mk H
 clear H
 go_enter Tryd.func30, Tryd.ntmps30
 go_upto_region 2 with (first | ((with_reducible refine qW (N := 4) rfl ?_); refine qV ?hg (N := 4) ?hd (cs := #[.int .i64 a1_0, .int .i64 a1_1, .int .i64 a1_2]) (t := 27) ?hr ?_; (case hd => rfl); (case hg => rfl); (case hr => first | (go_simp; done) | (go_simp; rfl)); intro gb378 hg w6 hbox hb; have n0_ := Aside0.mk (qN (by repeat (first | (with_reducible first | exact HB.out | apply qE | apply qA | apply qF) | exact HB.out)) hb); have n1_ := Aside0.mk (hbox); have n2_ := Aside0.mk ((by rw [hg]; exact (qJ (by repeat (first | (with_reducible first | exact HB.out | apply qE | apply qA | apply qF) | exact HB.out))) : w.heap.size ≤ gb378)); have n3_ := Aside0.mk ((by rw [hg]; exact (qJ (by repeat (first | (with_reducible first | exact HB.out | apply qE | apply qA | apply qF) | exact HB.out))) : w.heap.size ≤ gb378)); clear HB; have HB := n0_; have BK378 := n1_; have GW378 := n2_; have GE378 := n3_; clear n0_ n1_ n2_ n3_; clear hb hbox hg) | ((with_reducible refine qW (N := 6) rfl ?_); refine qV ?hg (N := 6) ?hd (cs := #[.int .i64 0, .int .i64 0, .int .i64 0]) (t := 27) ?hr ?_; (case hd => rfl); (case hg => rfl); (case hr => first | (go_simp; done) | (go_simp; rfl)); intro gb379 hg w7 hbox hb; have n0_ := Aside0.mk (qK (g := gb378) (o := .cells #[.int .i64 a1_0, .int .i64 a1_1, .int .i64 a1_2] 27 (0, 0)) (by (with_reducible repeat (first | refine qC ?_ _ | refine qD ?_ | refine qB ?_ _)); exact BK378.out) hb); have n1_ := Aside0.mk (qN (by repeat (first | (with_reducible first | exact HB.out | apply qE | apply qA | apply qF | refine qH ?_ GE378.out) | exact HB.out)) hb); have n2_ := Aside0.mk (hbox); have n3_ := Aside0.mk ((by rw [hg]; exact (qJ (by repeat (first | (with_reducible first | exact HB.out | apply qE | apply qA | apply qF | refine qH ?_ GE378.out) | exact HB.out))) : w.heap.size ≤ gb379)); have n4_ := Aside0.mk ((by rw [hg]; exact (qJ (by repeat (first | (with_reducible first | exact HB.out | apply qE | apply qA | apply qF | refine qH ?_ GE378.out) | exact HB.out))) : w.heap.size ≤ gb379)); have n5_ := Aside0.mk ((by rw [hg]; exact Nat.ne_of_lt (qZ (g := gb378) (o := .cells #[.int .i64 a1_0, .int .i64 a1_1, .int .i64 a1_2] 27 (0, 0)) (by (with_reducible repeat (first | refine qC ?_ _ | refine qD ?_ | refine qB ?_ _)); exact BK378.out)) : gb378 ≠ gb379)); have n6_ := Aside0.mk ((by rw [hg]; exact Nat.ne_of_gt (qZ (g := gb378) (o := .cells #[.int .i64 a1_0, .int .i64 a1_1, .int .i64 a1_2] 27 (0, 0)) (by (with_reducible repeat (first | refine qC ?_ _ | refine qD ?_ | refine qB ?_ _)); exact BK378.out)) : gb379 ≠ gb378)); clear BK378; clear HB; have BK378 := n0_; have HB := n1_; have BK379 := n2_; have GW379 := n3_; have GE379 := n4_; have NB378_379 := n5_; have NB379_378 := n6_; clear n0_ n1_ n2_ n3_ n4_ n5_ n6_; clear hb hbox hg; have hnb8 := NB378_379.out; have hnc8 := NB379_378.out; have hcz9_0 : w7.cell? ⟨gb378, 0, none⟩ = some (.int .i64 a1_0) := (qI BK378.out 0).trans rfl; have hcz9_1 : w7.cell? ⟨gb378, 1, none⟩ = some (.int .i64 a1_1) := (qI BK378.out 1).trans rfl; have hcz9_2 : w7.cell? ⟨gb378, 2, none⟩ = some (.int .i64 a1_2) := (qI BK378.out 2).trans rfl; have hfz9_0 := qG BK378.out 0; have hfz9_1 := qG BK378.out 1; have hfz9_2 := qG BK378.out 2) | ((with_reducible refine qU (f := 58) rfl ?_); refine qo (some 15) rfl rfl Tryd.func58 (by kernel_rfl) rfl #[.string a0, .agg #[.int .i64 a1_0, .int .i64 a1_1, .int .i64 a1_2]] rfl (by (try simp only [List.map_toArray, List.map_cons, List.map_nil]); first | done | rfl | (simp only [List.length_drop, List.length_take]; rfl)) ?_; (with_reducible refine (qOA.calls k a0 a1_0 a1_1 a1_2 t380 t383 _ ?side1 A4.out).mono ?_); (case side1 => first | exact HLD.out | exact Laid.below HLD.out (by repeat (first | (with_reducible first | exact HB.out | apply qE | apply qA | apply qF) | exact HB.out))); rintro e w10 ⟨v381, rfl, ho0, hb⟩; refine ⟨_, rfl, ?_⟩; have n0_ := Aside0.mk (Kd.qLA ho0 (qJ (by repeat (first | (with_reducible first | exact HB.out | apply qE | apply qA | apply qF | refine qH ?_ GE378.out | refine qH ?_ GE379.out) | exact HB.out)))); have n1_ := Aside0.mk (qK (g := gb378) (o := .cells #[.int .i64 a1_0, .int .i64 a1_1, .int .i64 a1_2] 27 (0, 0)) (by (with_reducible repeat (first | refine qC ?_ _ | refine qD ?_ | refine qB ?_ _)); exact BK378.out) hb); have n2_ := Aside0.mk (qK (g := gb379) (o := .cells #[.int .i64 0, .int .i64 0, .int .i64 0] 27 (0, 0)) (by (with_reducible repeat (first | refine qC ?_ _ | refine qD ?_ | refine qB ?_ _)); exact BK379.out) hb); have n3_ := Aside0.mk (qN (by repeat (first | (with_reducible first | exact HB.out | apply qE | apply qA | apply qF | refine qH ?_ GE378.out | refine qH ?_ GE379.out) | exact HB.out)) hb); clear BK378; clear BK379; clear HB; have HO382 := n0_; have BK378 := n1_; have BK379 := n2_; have HB := n3_; clear n0_ n1_ n2_ n3_; (try clear hb); (try clear hb2); (try clear hk); (try clear hi); (try clear ho0)))
 (try simp only [Act.put, List.setIfInBounds_toArray, List.set_cons_zero, List.set_cons_succ])
 go_cut [24] (fun v24 wc => ∃ (kq : Nat) (x24_4 : Bool), v24 = .bool x24_4 ∧ Aside0 (qa.j0 kq a2 t380 x24_4 a1_0 a1_1 a1_2 = some (r1, r2, r3, r4)) ∧ Aside0 (kq ≤ k) ∧ Aside0 (Kd.R Kd.string 9 wc w.heap.size (fun _ => True) v381 t380) ∧ Aside0 (wc.heap[gb378]? = some (.cells #[.int .i64 a1_0, .int .i64 a1_1, .int .i64 a1_2] 27 (0, 0))) ∧ Aside0 (wc.heap[gb379]? = some (.cells #[.int .i64 0, .int .i64 0, .int .i64 0] 27 (0, 0))) ∧ Aside0 (Below w.heap.size w wc))
 case first =>
  have H := HC5.out
  clear HC5
  by_cases c11 : t383 = true
  ·subst c11
   have H1 : ((qWA.f a2).bind fun t384 => (qa.j0 k a2 t380 (!t384) a1_0 a1_1 a1_2)) = some (r1, r2, r3, r4) := by rw [if_pos rfl] at H; exact H
   clear H
   have H := H1
   clear H1
   replace H := Option.bind_eq_some_iff.mp H
   obtain ⟨t384, A120, H⟩ := H
   replace H : (qa.j0 k a2 t380 (!t384) a1_0 a1_1 a1_2) = some (r1, r2, r3, r4) := H
   have A12 := Aside0.mk A120
   clear A120
   have H' := Aside0.mk H
   clear H
   go_wp2_with (first | (go_at_call 64; (with_reducible refine (qWA.calls a2 t384 _ A12.out).mono ?_); rintro e w' ⟨rfl, ⟨nd, rfl⟩⟩))
   go_meet
   case rel => exact ⟨_, (!t384), (by first | rfl | (simp; done) | (simp [*]; done)), H', ⟨by first | omega | exact Nat.le_refl _⟩, ⟨by (with_reducible repeat (first | apply Kd.qd | apply Kd.qc | apply Kd.qe)); exact HO382.out⟩, ⟨by (with_reducible repeat (first | refine qC ?_ _ | refine qD ?_ | refine qB ?_ _)); exact BK378.out⟩, ⟨by (with_reducible repeat (first | refine qC ?_ _ | refine qD ?_ | refine qB ?_ _)); exact BK379.out⟩, ⟨by repeat (first | (with_reducible first | exact HB.out | apply qE | apply qA | apply qF | refine qH ?_ GE378.out | refine qH ?_ GE379.out) | exact HB.out)⟩⟩
  ·replace c11 := Bool.eq_false_iff.mpr c11
   subst c11
   have H1 : (qa.j0 k a2 t380 true a1_0 a1_1 a1_2) = some (r1, r2, r3, r4) := by rw [if_neg (show ¬ (false = true) by decide)] at H; exact H
   clear H
   have H := H1
   clear H1
   have H' := Aside0.mk H
   clear H
   go_wp2
   go_meet
   case rel => exact ⟨_, (true), (by first | rfl | (simp; done) | (simp [*]; done)), H', ⟨by first | omega | exact Nat.le_refl _⟩, ⟨by (with_reducible repeat (first | apply Kd.qd | apply Kd.qc | apply Kd.qe)); exact HO382.out⟩, ⟨by (with_reducible repeat (first | refine qC ?_ _ | refine qD ?_ | refine qB ?_ _)); exact BK378.out⟩, ⟨by (with_reducible repeat (first | refine qC ?_ _ | refine qD ?_ | refine qB ?_ _)); exact BK379.out⟩, ⟨by repeat (first | (with_reducible first | exact HB.out | apply qE | apply qA | apply qF | refine qH ?_ GE378.out | refine qH ?_ GE379.out) | exact HB.out)⟩⟩
 case rest =>
  clear HC5
  try clear c1
  try clear p2
  try clear c3
  try clear c5
  try clear c8
  try clear c11
  try clear hcz9_0
  try clear hcz9_1
  try clear hcz9_2
  try clear hfz9_0
  try clear hfz9_1
  try clear hfz9_2
  obtain ⟨kq, x24_4, rfl, HA, HJ4, HO_8, BK378, BK379, HB⟩ := hcut
  cases kq with
  | zero => exact absurd HA.out (by simp [qa.j0])
  | succ kj4 =>
   have H := HA.out
   clear HA
   simp only [qa.j0] at H
   by_cases c13 : x24_4 = true
   ·subst c13
    have H1 : (some (0, 0, 0, false)) = some (r1, r2, r3, r4) := by rw [if_pos rfl] at H; exact H
    clear H
    have H := H1
    clear H1
    simp only [Option.some.injEq, Prod.mk.injEq] at H
    obtain ⟨rfl, rfl, rfl, rfl⟩ := H
    have hnb14 := NB379_378.out
    have hnc14 := NB378_379.out
    have hcz15_0 : wc.cell? ⟨gb379, 0, none⟩ = some (.int .i64 0) := (qI BK379.out 0).trans rfl
    have hcz15_1 : wc.cell? ⟨gb379, 1, none⟩ = some (.int .i64 0) := (qI BK379.out 1).trans rfl
    have hcz15_2 : wc.cell? ⟨gb379, 2, none⟩ = some (.int .i64 0) := (qI BK379.out 2).trans rfl
    have hfz15_0 := qG BK379.out 0
    have hfz15_1 := qG BK379.out 1
    have hfz15_2 := qG BK379.out 2
    go_wp2
    refine bodyPost_ret (qv rfl _ _ gb379 27 #[.int .i64 0, .int .i64 0, .int .i64 0] (0, 0) _ rfl (by (with_reducible repeat (first | refine qC ?_ _ | refine qD ?_ | refine qB ?_ _)); refine qO (cs := #[.int .i64 0, .int .i64 0, .int .i64 0]) ?_ 2 _ rfl; (with_reducible repeat (first | refine qC ?_ _ | refine qD ?_ | refine qB ?_ _)); refine qO (cs := #[.int .i64 0, .int .i64 0, .int .i64 0]) ?_ 1 _ rfl; (with_reducible repeat (first | refine qC ?_ _ | refine qD ?_ | refine qB ?_ _)); refine qO (cs := #[.int .i64 0, .int .i64 0, .int .i64 0]) ?_ 0 _ rfl; (with_reducible repeat (first | refine qC ?_ _ | refine qD ?_ | refine qB ?_ _)); exact BK379.out) Tryd.underlying27 rfl (by kernel_rfl)) rfl ?_
    exact ⟨by first | rfl | (simp [qM, qL] <;> rfl) | (simp [*, qM, qL] <;> rfl), by repeat (first | (with_reducible first | exact HB.out | apply qE | apply qA | apply qF | refine qH ?_ GE378.out | refine qH ?_ GE379.out) | exact HB.out)⟩
   ·replace c13 := Bool.eq_false_iff.mpr c13
    subst c13
    have H1 : (if 0 < (a2.size : Int) then ((qu.f kj4 t380 a1_0 a1_1 a1_2 (bt a2 0)).bind fun bt385 => (if bt385.2.2.2 = true then (some (bt385.1, bt385.2.1, bt385.2.2.1, true)) else (some (0, 0, 0, false)))) else (none)) = some (r1, r2, r3, r4) := by rw [if_neg (show ¬ (false = true) by decide)] at H; exact H
    clear H
    have H := H1
    clear H1
    by_cases c16 : 0 < (a2.size : Int)
    ·rw [if_pos c16] at H
     have c16b0 : decide (0 < (a2.size : Int)) = true := decide_eq_true c16
     have c16b1 : decide (0 < a2.size) = true := decide_eq_true (by omega)
     clear c16
     replace H := Option.bind_eq_some_iff.mp H
     obtain ⟨⟨t385, t386, t387, t388⟩, A180, H⟩ := H
     replace H : (if t388 = true then (some (t385, t386, t387, true)) else (some (0, 0, 0, false))) = some (r1, r2, r3, r4) := H
     have A18 := Aside0.mk A180
     clear A180
     by_cases c19 : t388 = true
     ·subst c19
      have H1 : (some (t385, t386, t387, true)) = some (r1, r2, r3, r4) := by rw [if_pos rfl] at H; exact H
      clear H
      have H := H1
      clear H1
      simp only [Option.some.injEq, Prod.mk.injEq] at H
      obtain ⟨rfl, rfl, rfl, rfl⟩ := H
      obtain ⟨Ao20, co20, eo20⟩ := Kd.qKA HO_8.out
      subst eo20
      try go_wp2
      have n0_ := Aside0.mk (Kd.qe HO_8.out)
      have n1_ := Aside0.mk (qD BK378.out)
      have n2_ := Aside0.mk (qD BK379.out)
      have n3_ := Aside0.mk (qF HB.out)
      clear HO_8
      clear BK378
      clear BK379
      clear HB
      have HO_8 := n0_
      have BK378 := n1_
      have BK379 := n2_
      have HB := n3_
      clear n0_ n1_ n2_ n3_
      have p17 : 0 ≤ (0 : Int) := (by omega)
      have q17 : 0 < a2.size := (by have : (0 : Int) < (a2.size : Int) := of_decide_eq_true (by first | (with_reducible assumption) | assumption); omega)
      have hx17 : ∀ h : 0 < a2.size, ((a2[0]'h).toNat : Int) = bt a2 0 := bt_at a2 0
      clear p17
      have qi17 : (0 < (a2.size : Int)) = True := eq_true (of_decide_eq_true (by first | (with_reducible assumption) | assumption))
      replace q17 := eq_true q17
      refine qrA (n := 11) (S := fun w' => w'.cell? ⟨gb378, 0, none⟩ = some (.int .i64 a1_0) ∧ w'.cell? ⟨gb378, 1, none⟩ = some (.int .i64 a1_1) ∧ w'.cell? ⟨gb378, 2, none⟩ = some (.int .i64 a1_2)) (ds := []) #[false, false, false, false, false, false, false, false, false, false, false] (by kernel_rfl) rfl rfl ⟨(qI BK378.out 0).trans rfl, (qI BK378.out 1).trans rfl, (qI BK378.out 2).trans rfl⟩ (fun hHeld => ?_); refine qYA qa.tab4 qa.bits4 (fun HT_ HW_ => ?_)
      generalize wc.drew = w21 at HO_8 BK378 BK379 HB hHeld ⊢
      refine pS (i := 0) (N := some 27) #[true, false, false, false, false, false, false, false, false, false, false] HT_ ?_
      refine pS (i := 2) (N := some 29) #[true, false, true, false, false, false, false, false, false, false, false] HT_ ?_
      refine take_ (i := 1) (N := some 28) (v := ?_) (a' := ?_) #[true, true, true, false, false, false, false, false, false, false, false] rfl rfl (qp HT_.out HW_.out (by kernel_rfl)) (fun _ _ _ h => h) (Or.inl ⟨by rfl, ?_⟩) hHeld ?_ ?_
      rotate_left
      ·rintro w' ⟨s0, s1, s2⟩
       go_simp
       first | (with_reducible rfl) | (rw [if_neg (by simp only [ByteArray.size_extract, ByteArray.size_append] at * <;> omega)]; try with_reducible rfl)
      rotate_left
      ·simp only [Act.put, List.setIfInBounds_toArray, List.set_cons_zero, List.set_cons_succ, i64_w, i32_w]
       rfl
      refine take_ (i := 3) (N := some 30) (v := ?_) (a' := ?_) #[true, true, true, true, false, false, false, false, false, false, false] rfl rfl (qp HT_.out HW_.out (by kernel_rfl)) (fun _ _ _ h => h) (Or.inl ⟨by rfl, ?_⟩) hHeld ?_ ?_
      rotate_left
      ·rintro w' ⟨s0, s1, s2⟩
       go_simp
       first | (with_reducible rfl) | (rw [if_neg (by simp only [ByteArray.size_extract, ByteArray.size_append] at * <;> omega)]; try with_reducible rfl)
      rotate_left
      ·simp only [Act.put, List.setIfInBounds_toArray, List.set_cons_zero, List.set_cons_succ, i64_w, i32_w]
       rfl
      refine join_ (σ := Nat) 2 #[true, true, true, true, true, true, true, true, true, false, false] (fun s_ => [(31, .tuple #[.agg #[.int .i64 t385, .int .i64 t386, .int .i64 t387], .bool true]), (10, .pointer (some ⟨s_, 0, none⟩)), (26, .tuple #[.agg #[.int .i64 t385, .int .i64 t386, .int .i64 t387], .bool true]), (32, .agg #[.int .i64 t385, .int .i64 t386, .int .i64 t387]), (33, .bool true)]) (fun s_ w' => (w'.cell? ⟨gb378, 0, none⟩ = some (.int .i64 a1_0) ∧ w'.cell? ⟨gb378, 1, none⟩ = some (.int .i64 a1_1) ∧ w'.cell? ⟨gb378, 2, none⟩ = some (.int .i64 a1_2)) ∧ (Kd.R Kd.string 9 w' w.heap.size (fun _ => True) (.slice Ao20 t380.length co20) t380) ∧ (w'.heap[gb378]? = some (.cells #[.int .i64 a1_0, .int .i64 a1_1, .int .i64 a1_2] 27 (0, 0))) ∧ (w'.heap[gb379]? = some (.cells #[.int .i64 0, .int .i64 0, .int .i64 0] 27 (0, 0))) ∧ (w'.heap[s_]? = some (.cells #[.int .i64 0, .int .i64 0, .int .i64 0] 27 (0, 0))) ∧ (w.heap.size ≤ s_) ∧ (w.heap.size ≤ s_) ∧ (gb378 ≠ s_) ∧ (s_ ≠ gb378) ∧ (gb379 ≠ s_) ∧ (s_ ≠ gb379) ∧ (Below w.heap.size w w')) ?_ ?_
      rotate_left
      ·intro hCont
       refine two_ (i := 4) (j := 8) (Ni := some 31) (Nj := some 10) #[true, true, true, true, true, false, false, false, false, false, false] #[true, true, true, true, false, false, false, false, true, false, false] rfl rfl rfl rfl (two_of HT_.out (by kernel_rfl)) (by decide) (by decide) (fun K hK => ?_) (fun K hK => ?_)
       ·skip
        refine goes_ Tryd.func62 (by kernel_rfl) rfl #[.slice Ao20 t380.length co20, .agg #[.int .i64 a1_0, .int .i64 a1_1, .int .i64 a1_2], .int .u8 (bt a2 0)] (by rfl) rfl rfl (by (try simp only [List.map_toArray, List.map_cons, List.map_nil]); first | done | rfl | (simp only [List.length_drop, List.length_take]; rfl)) ?_
        with_reducible refine (qu.calls kj4 _ _ t380 a1_0 a1_1 a1_2 (bt a2 0) t385 t386 t387 true _ ?side1 ?side2 A18.out).mono ?_
        (case side1 => repeat (first | exact (Kd.qr HO_8.out).2.2 | (with_reducible refine Kd.qJA ?_ _) | (with_reducible refine Kd.qIA ?_ _) | (with_reducible refine Kd.qaA ?_)))
        (case side2 => exact (Kd.qr HO_8.out).2.1)
        rintro e w22 ⟨rfl, hb⟩
        refine ⟨_, rfl, ?_⟩
        have n0_ := Aside0.mk (Kd.qFA (by (with_reducible repeat (first | apply Kd.qd | apply Kd.qc | apply Kd.qe)); exact HO_8.out) hb)
        have n1_ := Aside0.mk (qK (g := gb378) (o := .cells #[.int .i64 a1_0, .int .i64 a1_1, .int .i64 a1_2] 27 (0, 0)) (by (with_reducible repeat (first | refine qC ?_ _ | refine qD ?_ | refine qB ?_ _)); exact BK378.out) hb)
        have n2_ := Aside0.mk (qK (g := gb379) (o := .cells #[.int .i64 0, .int .i64 0, .int .i64 0] 27 (0, 0)) (by (with_reducible repeat (first | refine qC ?_ _ | refine qD ?_ | refine qB ?_ _)); exact BK379.out) hb)
        have n3_ := Aside0.mk (qN (by repeat (first | (with_reducible first | exact HB.out | apply qE | apply qA | apply qF | refine qH ?_ GE378.out | refine qH ?_ GE379.out) | exact HB.out)) hb)
        clear HO_8
        clear BK378
        clear BK379
        clear HB
        have HO_8 := n0_
        have BK378 := n1_
        have BK379 := n2_
        have HB := n3_
        clear n0_ n1_ n2_ n3_
        (try clear hb)
        (try clear hb2)
        (try clear hk)
        (try clear hi)
        refine hK.out _ _ ⟨(qI BK378.out 0).trans rfl, (qI BK378.out 1).trans rfl, (qI BK378.out 2).trans rfl⟩ (fun hHeld => ?_)
        clear hK K
        refine norm_ (a' := ?_) ?_ ?_
        rotate_left
        ·show Act.put _ (some 31) _ = _
         simp only [Act.put, List.setIfInBounds_toArray, List.set_cons_zero, List.set_cons_succ, i64_w, i32_w]
         rfl
        refine pS (i := 5) (N := some 26) #[true, true, true, true, true, true, false, false, false, false, false] HT_ ?_
        refine pS (i := 6) (N := some 32) #[true, true, true, true, true, true, true, false, false, false, false] HT_ ?_
        refine pS (i := 7) (N := some 33) #[true, true, true, true, true, true, true, true, false, false, false] HT_ ?_
        refine one_ (i := 8) (N := some 10) #[true, true, true, true, true, true, true, true, true, false, false] rfl rfl (qTA HT_.out (by kernel_rfl)) (by decide) (fun K hK => ?_)
        refine qHB ?hg (N := 10) ?hd (cs := #[.int .i64 0, .int .i64 0, .int .i64 0]) (t := 27) ?hr ?_; (case hd => rfl); (case hg => rfl); (case hr => first | (go_simp; done) | (go_simp; rfl))
        intro gb389 hg w23 hbox hb
        have n0_ := Aside0.mk (Kd.qFA (by (with_reducible repeat (first | apply Kd.qd | apply Kd.qc | apply Kd.qe)); exact HO_8.out) hb)
        have n1_ := Aside0.mk (qK (g := gb378) (o := .cells #[.int .i64 a1_0, .int .i64 a1_1, .int .i64 a1_2] 27 (0, 0)) (by (with_reducible repeat (first | refine qC ?_ _ | refine qD ?_ | refine qB ?_ _)); exact BK378.out) hb)
        have n2_ := Aside0.mk (qK (g := gb379) (o := .cells #[.int .i64 0, .int .i64 0, .int .i64 0] 27 (0, 0)) (by (with_reducible repeat (first | refine qC ?_ _ | refine qD ?_ | refine qB ?_ _)); exact BK379.out) hb)
        have n3_ := Aside0.mk (qN (by repeat (first | (with_reducible first | exact HB.out | apply qE | apply qA | apply qF | refine qH ?_ GE378.out | refine qH ?_ GE379.out) | exact HB.out)) hb)
        have n4_ := Aside0.mk (hbox)
        have n5_ := Aside0.mk ((by rw [hg]; exact (qJ (by repeat (first | (with_reducible first | exact HB.out | apply qE | apply qA | apply qF | refine qH ?_ GE378.out | refine qH ?_ GE379.out) | exact HB.out))) : w.heap.size ≤ gb389))
        have n6_ := Aside0.mk ((by rw [hg]; exact (qJ (by repeat (first | (with_reducible first | exact HB.out | apply qE | apply qA | apply qF | refine qH ?_ GE378.out | refine qH ?_ GE379.out) | exact HB.out))) : w.heap.size ≤ gb389))
        have n7_ := Aside0.mk ((by rw [hg]; exact Nat.ne_of_lt (qZ (g := gb378) (o := .cells #[.int .i64 a1_0, .int .i64 a1_1, .int .i64 a1_2] 27 (0, 0)) (by (with_reducible repeat (first | refine qC ?_ _ | refine qD ?_ | refine qB ?_ _)); exact BK378.out)) : gb378 ≠ gb389))
        have n8_ := Aside0.mk ((by rw [hg]; exact Nat.ne_of_gt (qZ (g := gb378) (o := .cells #[.int .i64 a1_0, .int .i64 a1_1, .int .i64 a1_2] 27 (0, 0)) (by (with_reducible repeat (first | refine qC ?_ _ | refine qD ?_ | refine qB ?_ _)); exact BK378.out)) : gb389 ≠ gb378))
        have n9_ := Aside0.mk ((by rw [hg]; exact Nat.ne_of_lt (qZ (g := gb379) (o := .cells #[.int .i64 0, .int .i64 0, .int .i64 0] 27 (0, 0)) (by (with_reducible repeat (first | refine qC ?_ _ | refine qD ?_ | refine qB ?_ _)); exact BK379.out)) : gb379 ≠ gb389))
        have n10_ := Aside0.mk ((by rw [hg]; exact Nat.ne_of_gt (qZ (g := gb379) (o := .cells #[.int .i64 0, .int .i64 0, .int .i64 0] 27 (0, 0)) (by (with_reducible repeat (first | refine qC ?_ _ | refine qD ?_ | refine qB ?_ _)); exact BK379.out)) : gb389 ≠ gb379))
        clear HO_8
        clear BK378
        clear BK379
        clear HB
        have HO_8 := n0_
        have BK378 := n1_
        have BK379 := n2_
        have HB := n3_
        have BK389 := n4_
        have GW389 := n5_
        have GE389 := n6_
        have NB378_389 := n7_
        have NB389_378 := n8_
        have NB379_389 := n9_
        have NB389_379 := n10_
        clear n0_ n1_ n2_ n3_ n4_ n5_ n6_ n7_ n8_ n9_ n10_
        clear hb hbox hg
        refine hK.out _ _ ⟨(qI BK378.out 0).trans rfl, (qI BK378.out 1).trans rfl, (qI BK378.out 2).trans rfl⟩ (fun hHeld => ?_)
        clear hK K
        refine norm_ (a' := ?_) ?_ ?_
        rotate_left
        ·show Act.put _ (some 10) _ = _
         simp only [Act.put, List.setIfInBounds_toArray, List.set_cons_zero, List.set_cons_succ, i64_w, i32_w]
         rfl
        exact norm_ (by simp only [putAll, Act.put, List.setIfInBounds_toArray, List.set_cons_zero, List.set_cons_succ]) (hCont (gb389) _ ⟨hHeld, (by (with_reducible repeat (first | apply Kd.qd | apply Kd.qc | apply Kd.qe)); exact HO_8.out), (by (with_reducible repeat (first | refine qC ?_ _ | refine qD ?_ | refine qB ?_ _)); exact BK378.out), (by (with_reducible repeat (first | refine qC ?_ _ | refine qD ?_ | refine qB ?_ _)); exact BK379.out), (by (with_reducible repeat (first | refine qC ?_ _ | refine qD ?_ | refine qB ?_ _)); exact BK389.out), GW389.out, GE389.out, NB378_389.out, NB389_378.out, NB379_389.out, NB389_379.out, (by repeat (first | (with_reducible first | exact HB.out | apply qE | apply qA | apply qF | refine qH ?_ GE378.out | refine qH ?_ GE379.out | refine qH ?_ GE389.out) | exact HB.out))⟩)
       ·skip
        refine qHB ?hg (N := 10) ?hd (cs := #[.int .i64 0, .int .i64 0, .int .i64 0]) (t := 27) ?hr ?_; (case hd => rfl); (case hg => rfl); (case hr => first | (go_simp; done) | (go_simp; rfl))
        intro gb389 hg w22 hbox hb
        have n0_ := Aside0.mk (Kd.qFA (by (with_reducible repeat (first | apply Kd.qd | apply Kd.qc | apply Kd.qe)); exact HO_8.out) hb)
        have n1_ := Aside0.mk (qK (g := gb378) (o := .cells #[.int .i64 a1_0, .int .i64 a1_1, .int .i64 a1_2] 27 (0, 0)) (by (with_reducible repeat (first | refine qC ?_ _ | refine qD ?_ | refine qB ?_ _)); exact BK378.out) hb)
        have n2_ := Aside0.mk (qK (g := gb379) (o := .cells #[.int .i64 0, .int .i64 0, .int .i64 0] 27 (0, 0)) (by (with_reducible repeat (first | refine qC ?_ _ | refine qD ?_ | refine qB ?_ _)); exact BK379.out) hb)
        have n3_ := Aside0.mk (qN (by repeat (first | (with_reducible first | exact HB.out | apply qE | apply qA | apply qF | refine qH ?_ GE378.out | refine qH ?_ GE379.out) | exact HB.out)) hb)
        have n4_ := Aside0.mk (hbox)
        have n5_ := Aside0.mk ((by rw [hg]; exact (qJ (by repeat (first | (with_reducible first | exact HB.out | apply qE | apply qA | apply qF | refine qH ?_ GE378.out | refine qH ?_ GE379.out) | exact HB.out))) : w.heap.size ≤ gb389))
        have n6_ := Aside0.mk ((by rw [hg]; exact (qJ (by repeat (first | (with_reducible first | exact HB.out | apply qE | apply qA | apply qF | refine qH ?_ GE378.out | refine qH ?_ GE379.out) | exact HB.out))) : w.heap.size ≤ gb389))
        have n7_ := Aside0.mk ((by rw [hg]; exact Nat.ne_of_lt (qZ (g := gb378) (o := .cells #[.int .i64 a1_0, .int .i64 a1_1, .int .i64 a1_2] 27 (0, 0)) (by (with_reducible repeat (first | refine qC ?_ _ | refine qD ?_ | refine qB ?_ _)); exact BK378.out)) : gb378 ≠ gb389))
        have n8_ := Aside0.mk ((by rw [hg]; exact Nat.ne_of_gt (qZ (g := gb378) (o := .cells #[.int .i64 a1_0, .int .i64 a1_1, .int .i64 a1_2] 27 (0, 0)) (by (with_reducible repeat (first | refine qC ?_ _ | refine qD ?_ | refine qB ?_ _)); exact BK378.out)) : gb389 ≠ gb378))
        have n9_ := Aside0.mk ((by rw [hg]; exact Nat.ne_of_lt (qZ (g := gb379) (o := .cells #[.int .i64 0, .int .i64 0, .int .i64 0] 27 (0, 0)) (by (with_reducible repeat (first | refine qC ?_ _ | refine qD ?_ | refine qB ?_ _)); exact BK379.out)) : gb379 ≠ gb389))
        have n10_ := Aside0.mk ((by rw [hg]; exact Nat.ne_of_gt (qZ (g := gb379) (o := .cells #[.int .i64 0, .int .i64 0, .int .i64 0] 27 (0, 0)) (by (with_reducible repeat (first | refine qC ?_ _ | refine qD ?_ | refine qB ?_ _)); exact BK379.out)) : gb389 ≠ gb379))
        clear HO_8
        clear BK378
        clear BK379
        clear HB
        have HO_8 := n0_
        have BK378 := n1_
        have BK379 := n2_
        have HB := n3_
        have BK389 := n4_
        have GW389 := n5_
        have GE389 := n6_
        have NB378_389 := n7_
        have NB389_378 := n8_
        have NB379_389 := n9_
        have NB389_379 := n10_
        clear n0_ n1_ n2_ n3_ n4_ n5_ n6_ n7_ n8_ n9_ n10_
        clear hb hbox hg
        refine hK.out _ _ ⟨(qI BK378.out 0).trans rfl, (qI BK378.out 1).trans rfl, (qI BK378.out 2).trans rfl⟩ (fun hHeld => ?_)
        clear hK K
        refine norm_ (a' := ?_) ?_ ?_
        rotate_left
        ·show Act.put _ (some 10) _ = _
         simp only [Act.put, List.setIfInBounds_toArray, List.set_cons_zero, List.set_cons_succ, i64_w, i32_w]
         rfl
        refine one_ (i := 4) (N := some 31) #[true, true, true, true, true, false, false, false, true, false, false] rfl rfl (qTA HT_.out (by kernel_rfl)) (by decide) (fun K hK => ?_)
        refine goes_ Tryd.func62 (by kernel_rfl) rfl #[.slice Ao20 t380.length co20, .agg #[.int .i64 a1_0, .int .i64 a1_1, .int .i64 a1_2], .int .u8 (bt a2 0)] (by rfl) rfl rfl (by (try simp only [List.map_toArray, List.map_cons, List.map_nil]); first | done | rfl | (simp only [List.length_drop, List.length_take]; rfl)) ?_
        with_reducible refine (qu.calls kj4 _ _ t380 a1_0 a1_1 a1_2 (bt a2 0) t385 t386 t387 true _ ?side1 ?side2 A18.out).mono ?_
        (case side1 => repeat (first | exact (Kd.qr HO_8.out).2.2 | (with_reducible refine Kd.qJA ?_ _) | (with_reducible refine Kd.qIA ?_ _) | (with_reducible refine Kd.qaA ?_)))
        (case side2 => exact (Kd.qr HO_8.out).2.1)
        rintro e w23 ⟨rfl, hb⟩
        refine ⟨_, rfl, ?_⟩
        have n0_ := Aside0.mk (Kd.qFA (by (with_reducible repeat (first | apply Kd.qd | apply Kd.qc | apply Kd.qe)); exact HO_8.out) hb)
        have n1_ := Aside0.mk (qK (g := gb378) (o := .cells #[.int .i64 a1_0, .int .i64 a1_1, .int .i64 a1_2] 27 (0, 0)) (by (with_reducible repeat (first | refine qC ?_ _ | refine qD ?_ | refine qB ?_ _)); exact BK378.out) hb)
        have n2_ := Aside0.mk (qK (g := gb379) (o := .cells #[.int .i64 0, .int .i64 0, .int .i64 0] 27 (0, 0)) (by (with_reducible repeat (first | refine qC ?_ _ | refine qD ?_ | refine qB ?_ _)); exact BK379.out) hb)
        have n3_ := Aside0.mk (qK (g := gb389) (o := .cells #[.int .i64 0, .int .i64 0, .int .i64 0] 27 (0, 0)) (by (with_reducible repeat (first | refine qC ?_ _ | refine qD ?_ | refine qB ?_ _)); exact BK389.out) hb)
        have n4_ := Aside0.mk (qN (by repeat (first | (with_reducible first | exact HB.out | apply qE | apply qA | apply qF | refine qH ?_ GE378.out | refine qH ?_ GE379.out | refine qH ?_ GE389.out) | exact HB.out)) hb)
        clear HO_8
        clear BK378
        clear BK379
        clear BK389
        clear HB
        have HO_8 := n0_
        have BK378 := n1_
        have BK379 := n2_
        have BK389 := n3_
        have HB := n4_
        clear n0_ n1_ n2_ n3_ n4_
        (try clear hb)
        (try clear hb2)
        (try clear hk)
        (try clear hi)
        refine hK.out _ _ ⟨(qI BK378.out 0).trans rfl, (qI BK378.out 1).trans rfl, (qI BK378.out 2).trans rfl⟩ (fun hHeld => ?_)
        clear hK K
        refine norm_ (a' := ?_) ?_ ?_
        rotate_left
        ·show Act.put _ (some 31) _ = _
         simp only [Act.put, List.setIfInBounds_toArray, List.set_cons_zero, List.set_cons_succ, i64_w, i32_w]
         rfl
        refine pS (i := 5) (N := some 26) #[true, true, true, true, true, true, false, false, true, false, false] HT_ ?_
        refine pS (i := 6) (N := some 32) #[true, true, true, true, true, true, true, false, true, false, false] HT_ ?_
        refine pS (i := 7) (N := some 33) #[true, true, true, true, true, true, true, true, true, false, false] HT_ ?_
        exact norm_ (by simp only [putAll, Act.put, List.setIfInBounds_toArray, List.set_cons_zero, List.set_cons_succ]) (hCont (gb389) _ ⟨hHeld, (by (with_reducible repeat (first | apply Kd.qd | apply Kd.qc | apply Kd.qe)); exact HO_8.out), (by (with_reducible repeat (first | refine qC ?_ _ | refine qD ?_ | refine qB ?_ _)); exact BK378.out), (by (with_reducible repeat (first | refine qC ?_ _ | refine qD ?_ | refine qB ?_ _)); exact BK379.out), (by (with_reducible repeat (first | refine qC ?_ _ | refine qD ?_ | refine qB ?_ _)); exact BK389.out), GW389.out, GE389.out, NB378_389.out, NB389_378.out, NB379_389.out, NB389_379.out, (by repeat (first | (with_reducible first | exact HB.out | apply qE | apply qA | apply qF | refine qH ?_ GE378.out | refine qH ?_ GE379.out | refine qH ?_ GE389.out) | exact HB.out))⟩)
      rintro gb389 w24 ⟨hS_, h0_, h1_, h2_, h3_, h4_, h5_, h6_, h7_, h8_, h9_, h10_⟩
      have n0_ : Aside0 (Kd.R Kd.string 9 w24 w.heap.size (fun _ => True) (.slice Ao20 t380.length co20) t380) := ⟨h0_⟩
      have n1_ : Aside0 (w24.heap[gb378]? = some (.cells #[.int .i64 a1_0, .int .i64 a1_1, .int .i64 a1_2] 27 (0, 0))) := ⟨h1_⟩
      have n2_ : Aside0 (w24.heap[gb379]? = some (.cells #[.int .i64 0, .int .i64 0, .int .i64 0] 27 (0, 0))) := ⟨h2_⟩
      have n3_ : Aside0 (w24.heap[gb389]? = some (.cells #[.int .i64 0, .int .i64 0, .int .i64 0] 27 (0, 0))) := ⟨h3_⟩
      have n4_ : Aside0 (w.heap.size ≤ gb389) := ⟨h4_⟩
      have n5_ : Aside0 (w.heap.size ≤ gb389) := ⟨h5_⟩
      have n6_ : Aside0 (gb378 ≠ gb389) := ⟨h6_⟩
      have n7_ : Aside0 (gb389 ≠ gb378) := ⟨h7_⟩
      have n8_ : Aside0 (gb379 ≠ gb389) := ⟨h8_⟩
      have n9_ : Aside0 (gb389 ≠ gb379) := ⟨h9_⟩
      have n10_ : Aside0 (Below w.heap.size w w24) := ⟨h10_⟩
      clear HO_8
      clear BK378
      clear BK379
      clear HB
      clear h0_ h1_ h2_ h3_ h4_ h5_ h6_ h7_ h8_ h9_ h10_
      have HO_8 := n0_
      have BK378 := n1_
      have BK379 := n2_
      have BK389 := n3_
      have GW389 := n4_
      have GE389 := n5_
      have NB378_389 := n6_
      have NB389_378 := n7_
      have NB379_389 := n8_
      have NB389_379 := n9_
      have HB := n10_
      clear n0_ n1_ n2_ n3_ n4_ n5_ n6_ n7_ n8_ n9_ n10_
      have hHeld : w24.cell? ⟨gb378, 0, none⟩ = some (.int .i64 a1_0) ∧ w24.cell? ⟨gb378, 1, none⟩ = some (.int .i64 a1_1) ∧ w24.cell? ⟨gb378, 2, none⟩ = some (.int .i64 a1_2) := hS_
      refine norm_ (a' := ?_) ?_ ?_
      rotate_left
      ·simp only [putAll, Act.put, List.setIfInBounds_toArray, List.set_cons_zero, List.set_cons_succ]
       rfl
      refine one_ (i := 9) (N := none) #[true, true, true, true, true, true, true, true, true, true, false] rfl rfl (qTA HT_.out (by kernel_rfl)) (by decide) (fun K hK => ?_)
      have hs25 : w24.cell? ⟨gb389, 0, none⟩ = some (.int .i64 0) := (qI BK389.out 0).trans rfl
      have hfs25 := qG BK389.out 0
      have hns25_0 := NB378_389.out
      have hns25_1 := NB379_389.out
      have hms25_0 := NB389_378.out
      have hms25_1 := NB389_379.out
      have hs26 : w24.cell? ⟨gb389, 1, none⟩ = some (.int .i64 0) := (qI BK389.out 1).trans rfl
      have hfs26 := qG BK389.out 1
      have hns26_0 := NB378_389.out
      have hns26_1 := NB379_389.out
      have hms26_0 := NB389_378.out
      have hms26_1 := NB389_379.out
      have hs27 : w24.cell? ⟨gb389, 2, none⟩ = some (.int .i64 0) := (qI BK389.out 2).trans rfl
      have hfs27 := qG BK389.out 2
      have hns27_0 := NB378_389.out
      have hns27_1 := NB379_389.out
      have hms27_0 := NB389_378.out
      have hms27_1 := NB389_379.out
      refine skip_ (w1 := ?_) (by rfl) rfl ?_ ?_
      rotate_left
      ·go_simp
       rfl
      refine hK.out _ _ ⟨((qY (p := ⟨gb389, _, none⟩) NB378_389.out _).trans (((qY (p := ⟨gb389, _, none⟩) NB378_389.out _).trans (((qY (p := ⟨gb389, _, none⟩) NB378_389.out _).trans (hHeld.1)))))), ((qY (p := ⟨gb389, _, none⟩) NB378_389.out _).trans (((qY (p := ⟨gb389, _, none⟩) NB378_389.out _).trans (((qY (p := ⟨gb389, _, none⟩) NB378_389.out _).trans (hHeld.2.1)))))), ((qY (p := ⟨gb389, _, none⟩) NB378_389.out _).trans (((qY (p := ⟨gb389, _, none⟩) NB378_389.out _).trans (((qY (p := ⟨gb389, _, none⟩) NB378_389.out _).trans (hHeld.2.2))))))⟩ (fun hHeld => ?_)
      clear hK K
      refine pS (i := 10) (N := some 11) #[true, true, true, true, true, true, true, true, true, true, true] HT_ ?_
      refine done_ (qkA HT_.out (by kernel_rfl)) ?_
      have hnb28 := NB389_378.out
      have hnc28 := NB378_389.out
      have hnb29 := NB389_379.out
      have hnc29 := NB379_389.out
      have hcz30_0 : w24.cell? ⟨gb389, 0, none⟩ = some (.int .i64 0) := (qI BK389.out 0).trans rfl
      have hcz30_1 : w24.cell? ⟨gb389, 1, none⟩ = some (.int .i64 0) := (qI BK389.out 1).trans rfl
      have hcz30_2 : w24.cell? ⟨gb389, 2, none⟩ = some (.int .i64 0) := (qI BK389.out 2).trans rfl
      have hfz30_0 := qG BK389.out 0
      have hfz30_1 := qG BK389.out 1
      have hfz30_2 := qG BK389.out 2
      have hnb31 := NB379_378.out
      have hnc31 := NB378_379.out
      have hcz32_0 : w24.cell? ⟨gb379, 0, none⟩ = some (.int .i64 0) := (qI BK379.out 0).trans rfl
      have hcz32_1 : w24.cell? ⟨gb379, 1, none⟩ = some (.int .i64 0) := (qI BK379.out 1).trans rfl
      have hcz32_2 : w24.cell? ⟨gb379, 2, none⟩ = some (.int .i64 0) := (qI BK379.out 2).trans rfl
      have hfz32_0 := qG BK379.out 0
      have hfz32_1 := qG BK379.out 1
      have hfz32_2 := qG BK379.out 2
      try go_wp2
      refine bodyPost_ret (qv rfl _ _ gb379 27 #[.int .i64 t385, .int .i64 t386, .int .i64 t387] (0, 0) _ rfl (by (with_reducible repeat (first | refine qC ?_ _ | refine qD ?_ | refine qB ?_ _)); refine qO (cs := #[.int .i64 t385, .int .i64 t386, .int .i64 0]) ?_ 2 _ rfl; (with_reducible repeat (first | refine qC ?_ _ | refine qD ?_ | refine qB ?_ _)); refine qO (cs := #[.int .i64 t385, .int .i64 0, .int .i64 0]) ?_ 1 _ rfl; (with_reducible repeat (first | refine qC ?_ _ | refine qD ?_ | refine qB ?_ _)); refine qO (cs := #[.int .i64 0, .int .i64 0, .int .i64 0]) ?_ 0 _ rfl; (with_reducible repeat (first | refine qC ?_ _ | refine qD ?_ | refine qB ?_ _)); refine qT ?_ NB379_389.out _; (with_reducible repeat (first | refine qC ?_ _ | refine qD ?_ | refine qB ?_ _)); refine qT ?_ NB379_389.out _; (with_reducible repeat (first | refine qC ?_ _ | refine qD ?_ | refine qB ?_ _)); refine qT ?_ NB379_389.out _; (with_reducible repeat (first | refine qC ?_ _ | refine qD ?_ | refine qB ?_ _)); exact BK379.out) Tryd.underlying27 rfl (by kernel_rfl)) rfl ?_
      exact ⟨by first | rfl | (simp [qM, qL] <;> rfl) | (simp [*, qM, qL] <;> rfl), by repeat (first | (with_reducible first | exact HB.out | apply qE | apply qA | apply qF | refine qH ?_ GE378.out | refine qH ?_ GE379.out | refine qH ?_ GE389.out) | exact HB.out)⟩
     ·replace c19 := Bool.eq_false_iff.mpr c19
      subst c19
      have H1 : (some (0, 0, 0, false)) = some (r1, r2, r3, r4) := by rw [if_neg (show ¬ (false = true) by decide)] at H; exact H
      clear H
      have H := H1
      clear H1
      simp only [Option.some.injEq, Prod.mk.injEq] at H
      obtain ⟨rfl, rfl, rfl, rfl⟩ := H
      obtain ⟨Ao33, co33, eo33⟩ := Kd.qKA HO_8.out
      subst eo33
      try go_wp2
      have n0_ := Aside0.mk (Kd.qe HO_8.out)
      have n1_ := Aside0.mk (qD BK378.out)
      have n2_ := Aside0.mk (qD BK379.out)
      have n3_ := Aside0.mk (qF HB.out)
      clear HO_8
      clear BK378
      clear BK379
      clear HB
      have HO_8 := n0_
      have BK378 := n1_
      have BK379 := n2_
      have HB := n3_
      clear n0_ n1_ n2_ n3_
      have p17 : 0 ≤ (0 : Int) := (by omega)
      have q17 : 0 < a2.size := (by have : (0 : Int) < (a2.size : Int) := of_decide_eq_true (by first | (with_reducible assumption) | assumption); omega)
      have hx17 : ∀ h : 0 < a2.size, ((a2[0]'h).toNat : Int) = bt a2 0 := bt_at a2 0
      clear p17
      have qi17 : (0 < (a2.size : Int)) = True := eq_true (of_decide_eq_true (by first | (with_reducible assumption) | assumption))
      replace q17 := eq_true q17
      refine qrA (n := 11) (S := fun w' => w'.cell? ⟨gb378, 0, none⟩ = some (.int .i64 a1_0) ∧ w'.cell? ⟨gb378, 1, none⟩ = some (.int .i64 a1_1) ∧ w'.cell? ⟨gb378, 2, none⟩ = some (.int .i64 a1_2)) (ds := []) #[false, false, false, false, false, false, false, false, false, false, false] (by kernel_rfl) rfl rfl ⟨(qI BK378.out 0).trans rfl, (qI BK378.out 1).trans rfl, (qI BK378.out 2).trans rfl⟩ (fun hHeld => ?_); refine qYA qa.tab4 qa.bits4 (fun HT_ HW_ => ?_)
      generalize wc.drew = w34 at HO_8 BK378 BK379 HB hHeld ⊢
      refine pS (i := 0) (N := some 27) #[true, false, false, false, false, false, false, false, false, false, false] HT_ ?_
      refine pS (i := 2) (N := some 29) #[true, false, true, false, false, false, false, false, false, false, false] HT_ ?_
      refine take_ (i := 1) (N := some 28) (v := ?_) (a' := ?_) #[true, true, true, false, false, false, false, false, false, false, false] rfl rfl (qp HT_.out HW_.out (by kernel_rfl)) (fun _ _ _ h => h) (Or.inl ⟨by rfl, ?_⟩) hHeld ?_ ?_
      rotate_left
      ·rintro w' ⟨s0, s1, s2⟩
       go_simp
       first | (with_reducible rfl) | (rw [if_neg (by simp only [ByteArray.size_extract, ByteArray.size_append] at * <;> omega)]; try with_reducible rfl)
      rotate_left
      ·simp only [Act.put, List.setIfInBounds_toArray, List.set_cons_zero, List.set_cons_succ, i64_w, i32_w]
       rfl
      refine take_ (i := 3) (N := some 30) (v := ?_) (a' := ?_) #[true, true, true, true, false, false, false, false, false, false, false] rfl rfl (qp HT_.out HW_.out (by kernel_rfl)) (fun _ _ _ h => h) (Or.inl ⟨by rfl, ?_⟩) hHeld ?_ ?_
      rotate_left
      ·rintro w' ⟨s0, s1, s2⟩
       go_simp
       first | (with_reducible rfl) | (rw [if_neg (by simp only [ByteArray.size_extract, ByteArray.size_append] at * <;> omega)]; try with_reducible rfl)
      rotate_left
      ·simp only [Act.put, List.setIfInBounds_toArray, List.set_cons_zero, List.set_cons_succ, i64_w, i32_w]
       rfl
      refine join_ (σ := Nat) 2 #[true, true, true, true, true, true, true, true, true, false, false] (fun s_ => [(31, .tuple #[.agg #[.int .i64 t385, .int .i64 t386, .int .i64 t387], .bool false]), (10, .pointer (some ⟨s_, 0, none⟩)), (26, .tuple #[.agg #[.int .i64 t385, .int .i64 t386, .int .i64 t387], .bool false]), (32, .agg #[.int .i64 t385, .int .i64 t386, .int .i64 t387]), (33, .bool false)]) (fun s_ w' => (w'.cell? ⟨gb378, 0, none⟩ = some (.int .i64 a1_0) ∧ w'.cell? ⟨gb378, 1, none⟩ = some (.int .i64 a1_1) ∧ w'.cell? ⟨gb378, 2, none⟩ = some (.int .i64 a1_2)) ∧ (Kd.R Kd.string 9 w' w.heap.size (fun _ => True) (.slice Ao33 t380.length co33) t380) ∧ (w'.heap[gb378]? = some (.cells #[.int .i64 a1_0, .int .i64 a1_1, .int .i64 a1_2] 27 (0, 0))) ∧ (w'.heap[gb379]? = some (.cells #[.int .i64 0, .int .i64 0, .int .i64 0] 27 (0, 0))) ∧ (w'.heap[s_]? = some (.cells #[.int .i64 0, .int .i64 0, .int .i64 0] 27 (0, 0))) ∧ (w.heap.size ≤ s_) ∧ (w.heap.size ≤ s_) ∧ (gb378 ≠ s_) ∧ (s_ ≠ gb378) ∧ (gb379 ≠ s_) ∧ (s_ ≠ gb379) ∧ (Below w.heap.size w w')) ?_ ?_
      rotate_left
      ·intro hCont
       refine two_ (i := 4) (j := 8) (Ni := some 31) (Nj := some 10) #[true, true, true, true, true, false, false, false, false, false, false] #[true, true, true, true, false, false, false, false, true, false, false] rfl rfl rfl rfl (two_of HT_.out (by kernel_rfl)) (by decide) (by decide) (fun K hK => ?_) (fun K hK => ?_)
       ·skip
        refine goes_ Tryd.func62 (by kernel_rfl) rfl #[.slice Ao33 t380.length co33, .agg #[.int .i64 a1_0, .int .i64 a1_1, .int .i64 a1_2], .int .u8 (bt a2 0)] (by rfl) rfl rfl (by (try simp only [List.map_toArray, List.map_cons, List.map_nil]); first | done | rfl | (simp only [List.length_drop, List.length_take]; rfl)) ?_
        with_reducible refine (qu.calls kj4 _ _ t380 a1_0 a1_1 a1_2 (bt a2 0) t385 t386 t387 false _ ?side1 ?side2 A18.out).mono ?_
        (case side1 => repeat (first | exact (Kd.qr HO_8.out).2.2 | (with_reducible refine Kd.qJA ?_ _) | (with_reducible refine Kd.qIA ?_ _) | (with_reducible refine Kd.qaA ?_)))
        (case side2 => exact (Kd.qr HO_8.out).2.1)
        rintro e w35 ⟨rfl, hb⟩
        refine ⟨_, rfl, ?_⟩
        have n0_ := Aside0.mk (Kd.qFA (by (with_reducible repeat (first | apply Kd.qd | apply Kd.qc | apply Kd.qe)); exact HO_8.out) hb)
        have n1_ := Aside0.mk (qK (g := gb378) (o := .cells #[.int .i64 a1_0, .int .i64 a1_1, .int .i64 a1_2] 27 (0, 0)) (by (with_reducible repeat (first | refine qC ?_ _ | refine qD ?_ | refine qB ?_ _)); exact BK378.out) hb)
        have n2_ := Aside0.mk (qK (g := gb379) (o := .cells #[.int .i64 0, .int .i64 0, .int .i64 0] 27 (0, 0)) (by (with_reducible repeat (first | refine qC ?_ _ | refine qD ?_ | refine qB ?_ _)); exact BK379.out) hb)
        have n3_ := Aside0.mk (qN (by repeat (first | (with_reducible first | exact HB.out | apply qE | apply qA | apply qF | refine qH ?_ GE378.out | refine qH ?_ GE379.out) | exact HB.out)) hb)
        clear HO_8
        clear BK378
        clear BK379
        clear HB
        have HO_8 := n0_
        have BK378 := n1_
        have BK379 := n2_
        have HB := n3_
        clear n0_ n1_ n2_ n3_
        (try clear hb)
        (try clear hb2)
        (try clear hk)
        (try clear hi)
        refine hK.out _ _ ⟨(qI BK378.out 0).trans rfl, (qI BK378.out 1).trans rfl, (qI BK378.out 2).trans rfl⟩ (fun hHeld => ?_)
        clear hK K
        refine norm_ (a' := ?_) ?_ ?_
        rotate_left
        ·show Act.put _ (some 31) _ = _
         simp only [Act.put, List.setIfInBounds_toArray, List.set_cons_zero, List.set_cons_succ, i64_w, i32_w]
         rfl
        refine pS (i := 5) (N := some 26) #[true, true, true, true, true, true, false, false, false, false, false] HT_ ?_
        refine pS (i := 6) (N := some 32) #[true, true, true, true, true, true, true, false, false, false, false] HT_ ?_
        refine pS (i := 7) (N := some 33) #[true, true, true, true, true, true, true, true, false, false, false] HT_ ?_
        refine one_ (i := 8) (N := some 10) #[true, true, true, true, true, true, true, true, true, false, false] rfl rfl (qTA HT_.out (by kernel_rfl)) (by decide) (fun K hK => ?_)
        refine qHB ?hg (N := 10) ?hd (cs := #[.int .i64 0, .int .i64 0, .int .i64 0]) (t := 27) ?hr ?_; (case hd => rfl); (case hg => rfl); (case hr => first | (go_simp; done) | (go_simp; rfl))
        intro gb389 hg w36 hbox hb
        have n0_ := Aside0.mk (Kd.qFA (by (with_reducible repeat (first | apply Kd.qd | apply Kd.qc | apply Kd.qe)); exact HO_8.out) hb)
        have n1_ := Aside0.mk (qK (g := gb378) (o := .cells #[.int .i64 a1_0, .int .i64 a1_1, .int .i64 a1_2] 27 (0, 0)) (by (with_reducible repeat (first | refine qC ?_ _ | refine qD ?_ | refine qB ?_ _)); exact BK378.out) hb)
        have n2_ := Aside0.mk (qK (g := gb379) (o := .cells #[.int .i64 0, .int .i64 0, .int .i64 0] 27 (0, 0)) (by (with_reducible repeat (first | refine qC ?_ _ | refine qD ?_ | refine qB ?_ _)); exact BK379.out) hb)
        have n3_ := Aside0.mk (qN (by repeat (first | (with_reducible first | exact HB.out | apply qE | apply qA | apply qF | refine qH ?_ GE378.out | refine qH ?_ GE379.out) | exact HB.out)) hb)
        have n4_ := Aside0.mk (hbox)
        have n5_ := Aside0.mk ((by rw [hg]; exact (qJ (by repeat (first | (with_reducible first | exact HB.out | apply qE | apply qA | apply qF | refine qH ?_ GE378.out | refine qH ?_ GE379.out) | exact HB.out))) : w.heap.size ≤ gb389))
        have n6_ := Aside0.mk ((by rw [hg]; exact (qJ (by repeat (first | (with_reducible first | exact HB.out | apply qE | apply qA | apply qF | refine qH ?_ GE378.out | refine qH ?_ GE379.out) | exact HB.out))) : w.heap.size ≤ gb389))
        have n7_ := Aside0.mk ((by rw [hg]; exact Nat.ne_of_lt (qZ (g := gb378) (o := .cells #[.int .i64 a1_0, .int .i64 a1_1, .int .i64 a1_2] 27 (0, 0)) (by (with_reducible repeat (first | refine qC ?_ _ | refine qD ?_ | refine qB ?_ _)); exact BK378.out)) : gb378 ≠ gb389))
        have n8_ := Aside0.mk ((by rw [hg]; exact Nat.ne_of_gt (qZ (g := gb378) (o := .cells #[.int .i64 a1_0, .int .i64 a1_1, .int .i64 a1_2] 27 (0, 0)) (by (with_reducible repeat (first | refine qC ?_ _ | refine qD ?_ | refine qB ?_ _)); exact BK378.out)) : gb389 ≠ gb378))
        have n9_ := Aside0.mk ((by rw [hg]; exact Nat.ne_of_lt (qZ (g := gb379) (o := .cells #[.int .i64 0, .int .i64 0, .int .i64 0] 27 (0, 0)) (by (with_reducible repeat (first | refine qC ?_ _ | refine qD ?_ | refine qB ?_ _)); exact BK379.out)) : gb379 ≠ gb389))
        have n10_ := Aside0.mk ((by rw [hg]; exact Nat.ne_of_gt (qZ (g := gb379) (o := .cells #[.int .i64 0, .int .i64 0, .int .i64 0] 27 (0, 0)) (by (with_reducible repeat (first | refine qC ?_ _ | refine qD ?_ | refine qB ?_ _)); exact BK379.out)) : gb389 ≠ gb379))
        clear HO_8
        clear BK378
        clear BK379
        clear HB
        have HO_8 := n0_
        have BK378 := n1_
        have BK379 := n2_
        have HB := n3_
        have BK389 := n4_
        have GW389 := n5_
        have GE389 := n6_
        have NB378_389 := n7_
        have NB389_378 := n8_
        have NB379_389 := n9_
        have NB389_379 := n10_
        clear n0_ n1_ n2_ n3_ n4_ n5_ n6_ n7_ n8_ n9_ n10_
        clear hb hbox hg
        refine hK.out _ _ ⟨(qI BK378.out 0).trans rfl, (qI BK378.out 1).trans rfl, (qI BK378.out 2).trans rfl⟩ (fun hHeld => ?_)
        clear hK K
        refine norm_ (a' := ?_) ?_ ?_
        rotate_left
        ·show Act.put _ (some 10) _ = _
         simp only [Act.put, List.setIfInBounds_toArray, List.set_cons_zero, List.set_cons_succ, i64_w, i32_w]
         rfl
        exact norm_ (by simp only [putAll, Act.put, List.setIfInBounds_toArray, List.set_cons_zero, List.set_cons_succ]) (hCont (gb389) _ ⟨hHeld, (by (with_reducible repeat (first | apply Kd.qd | apply Kd.qc | apply Kd.qe)); exact HO_8.out), (by (with_reducible repeat (first | refine qC ?_ _ | refine qD ?_ | refine qB ?_ _)); exact BK378.out), (by (with_reducible repeat (first | refine qC ?_ _ | refine qD ?_ | refine qB ?_ _)); exact BK379.out), (by (with_reducible repeat (first | refine qC ?_ _ | refine qD ?_ | refine qB ?_ _)); exact BK389.out), GW389.out, GE389.out, NB378_389.out, NB389_378.out, NB379_389.out, NB389_379.out, (by repeat (first | (with_reducible first | exact HB.out | apply qE | apply qA | apply qF | refine qH ?_ GE378.out | refine qH ?_ GE379.out | refine qH ?_ GE389.out) | exact HB.out))⟩)
       ·skip
        refine qHB ?hg (N := 10) ?hd (cs := #[.int .i64 0, .int .i64 0, .int .i64 0]) (t := 27) ?hr ?_; (case hd => rfl); (case hg => rfl); (case hr => first | (go_simp; done) | (go_simp; rfl))
        intro gb389 hg w35 hbox hb
        have n0_ := Aside0.mk (Kd.qFA (by (with_reducible repeat (first | apply Kd.qd | apply Kd.qc | apply Kd.qe)); exact HO_8.out) hb)
        have n1_ := Aside0.mk (qK (g := gb378) (o := .cells #[.int .i64 a1_0, .int .i64 a1_1, .int .i64 a1_2] 27 (0, 0)) (by (with_reducible repeat (first | refine qC ?_ _ | refine qD ?_ | refine qB ?_ _)); exact BK378.out) hb)
        have n2_ := Aside0.mk (qK (g := gb379) (o := .cells #[.int .i64 0, .int .i64 0, .int .i64 0] 27 (0, 0)) (by (with_reducible repeat (first | refine qC ?_ _ | refine qD ?_ | refine qB ?_ _)); exact BK379.out) hb)
        have n3_ := Aside0.mk (qN (by repeat (first | (with_reducible first | exact HB.out | apply qE | apply qA | apply qF | refine qH ?_ GE378.out | refine qH ?_ GE379.out) | exact HB.out)) hb)
        have n4_ := Aside0.mk (hbox)
        have n5_ := Aside0.mk ((by rw [hg]; exact (qJ (by repeat (first | (with_reducible first | exact HB.out | apply qE | apply qA | apply qF | refine qH ?_ GE378.out | refine qH ?_ GE379.out) | exact HB.out))) : w.heap.size ≤ gb389))
        have n6_ := Aside0.mk ((by rw [hg]; exact (qJ (by repeat (first | (with_reducible first | exact HB.out | apply qE | apply qA | apply qF | refine qH ?_ GE378.out | refine qH ?_ GE379.out) | exact HB.out))) : w.heap.size ≤ gb389))
        have n7_ := Aside0.mk ((by rw [hg]; exact Nat.ne_of_lt (qZ (g := gb378) (o := .cells #[.int .i64 a1_0, .int .i64 a1_1, .int .i64 a1_2] 27 (0, 0)) (by (with_reducible repeat (first | refine qC ?_ _ | refine qD ?_ | refine qB ?_ _)); exact BK378.out)) : gb378 ≠ gb389))
        have n8_ := Aside0.mk ((by rw [hg]; exact Nat.ne_of_gt (qZ (g := gb378) (o := .cells #[.int .i64 a1_0, .int .i64 a1_1, .int .i64 a1_2] 27 (0, 0)) (by (with_reducible repeat (first | refine qC ?_ _ | refine qD ?_ | refine qB ?_ _)); exact BK378.out)) : gb389 ≠ gb378))
        have n9_ := Aside0.mk ((by rw [hg]; exact Nat.ne_of_lt (qZ (g := gb379) (o := .cells #[.int .i64 0, .int .i64 0, .int .i64 0] 27 (0, 0)) (by (with_reducible repeat (first | refine qC ?_ _ | refine qD ?_ | refine qB ?_ _)); exact BK379.out)) : gb379 ≠ gb389))
        have n10_ := Aside0.mk ((by rw [hg]; exact Nat.ne_of_gt (qZ (g := gb379) (o := .cells #[.int .i64 0, .int .i64 0, .int .i64 0] 27 (0, 0)) (by (with_reducible repeat (first | refine qC ?_ _ | refine qD ?_ | refine qB ?_ _)); exact BK379.out)) : gb389 ≠ gb379))
        clear HO_8
        clear BK378
        clear BK379
        clear HB
        have HO_8 := n0_
        have BK378 := n1_
        have BK379 := n2_
        have HB := n3_
        have BK389 := n4_
        have GW389 := n5_
        have GE389 := n6_
        have NB378_389 := n7_
        have NB389_378 := n8_
        have NB379_389 := n9_
        have NB389_379 := n10_
        clear n0_ n1_ n2_ n3_ n4_ n5_ n6_ n7_ n8_ n9_ n10_
        clear hb hbox hg
        refine hK.out _ _ ⟨(qI BK378.out 0).trans rfl, (qI BK378.out 1).trans rfl, (qI BK378.out 2).trans rfl⟩ (fun hHeld => ?_)
        clear hK K
        refine norm_ (a' := ?_) ?_ ?_
        rotate_left
        ·show Act.put _ (some 10) _ = _
         simp only [Act.put, List.setIfInBounds_toArray, List.set_cons_zero, List.set_cons_succ, i64_w, i32_w]
         rfl
        refine one_ (i := 4) (N := some 31) #[true, true, true, true, true, false, false, false, true, false, false] rfl rfl (qTA HT_.out (by kernel_rfl)) (by decide) (fun K hK => ?_)
        refine goes_ Tryd.func62 (by kernel_rfl) rfl #[.slice Ao33 t380.length co33, .agg #[.int .i64 a1_0, .int .i64 a1_1, .int .i64 a1_2], .int .u8 (bt a2 0)] (by rfl) rfl rfl (by (try simp only [List.map_toArray, List.map_cons, List.map_nil]); first | done | rfl | (simp only [List.length_drop, List.length_take]; rfl)) ?_
        with_reducible refine (qu.calls kj4 _ _ t380 a1_0 a1_1 a1_2 (bt a2 0) t385 t386 t387 false _ ?side1 ?side2 A18.out).mono ?_
        (case side1 => repeat (first | exact (Kd.qr HO_8.out).2.2 | (with_reducible refine Kd.qJA ?_ _) | (with_reducible refine Kd.qIA ?_ _) | (with_reducible refine Kd.qaA ?_)))
        (case side2 => exact (Kd.qr HO_8.out).2.1)
        rintro e w36 ⟨rfl, hb⟩
        refine ⟨_, rfl, ?_⟩
        have n0_ := Aside0.mk (Kd.qFA (by (with_reducible repeat (first | apply Kd.qd | apply Kd.qc | apply Kd.qe)); exact HO_8.out) hb)
        have n1_ := Aside0.mk (qK (g := gb378) (o := .cells #[.int .i64 a1_0, .int .i64 a1_1, .int .i64 a1_2] 27 (0, 0)) (by (with_reducible repeat (first | refine qC ?_ _ | refine qD ?_ | refine qB ?_ _)); exact BK378.out) hb)
        have n2_ := Aside0.mk (qK (g := gb379) (o := .cells #[.int .i64 0, .int .i64 0, .int .i64 0] 27 (0, 0)) (by (with_reducible repeat (first | refine qC ?_ _ | refine qD ?_ | refine qB ?_ _)); exact BK379.out) hb)
        have n3_ := Aside0.mk (qK (g := gb389) (o := .cells #[.int .i64 0, .int .i64 0, .int .i64 0] 27 (0, 0)) (by (with_reducible repeat (first | refine qC ?_ _ | refine qD ?_ | refine qB ?_ _)); exact BK389.out) hb)
        have n4_ := Aside0.mk (qN (by repeat (first | (with_reducible first | exact HB.out | apply qE | apply qA | apply qF | refine qH ?_ GE378.out | refine qH ?_ GE379.out | refine qH ?_ GE389.out) | exact HB.out)) hb)
        clear HO_8
        clear BK378
        clear BK379
        clear BK389
        clear HB
        have HO_8 := n0_
        have BK378 := n1_
        have BK379 := n2_
        have BK389 := n3_
        have HB := n4_
        clear n0_ n1_ n2_ n3_ n4_
        (try clear hb)
        (try clear hb2)
        (try clear hk)
        (try clear hi)
        refine hK.out _ _ ⟨(qI BK378.out 0).trans rfl, (qI BK378.out 1).trans rfl, (qI BK378.out 2).trans rfl⟩ (fun hHeld => ?_)
        clear hK K
        refine norm_ (a' := ?_) ?_ ?_
        rotate_left
        ·show Act.put _ (some 31) _ = _
         simp only [Act.put, List.setIfInBounds_toArray, List.set_cons_zero, List.set_cons_succ, i64_w, i32_w]
         rfl
        refine pS (i := 5) (N := some 26) #[true, true, true, true, true, true, false, false, true, false, false] HT_ ?_
        refine pS (i := 6) (N := some 32) #[true, true, true, true, true, true, true, false, true, false, false] HT_ ?_
        refine pS (i := 7) (N := some 33) #[true, true, true, true, true, true, true, true, true, false, false] HT_ ?_
        exact norm_ (by simp only [putAll, Act.put, List.setIfInBounds_toArray, List.set_cons_zero, List.set_cons_succ]) (hCont (gb389) _ ⟨hHeld, (by (with_reducible repeat (first | apply Kd.qd | apply Kd.qc | apply Kd.qe)); exact HO_8.out), (by (with_reducible repeat (first | refine qC ?_ _ | refine qD ?_ | refine qB ?_ _)); exact BK378.out), (by (with_reducible repeat (first | refine qC ?_ _ | refine qD ?_ | refine qB ?_ _)); exact BK379.out), (by (with_reducible repeat (first | refine qC ?_ _ | refine qD ?_ | refine qB ?_ _)); exact BK389.out), GW389.out, GE389.out, NB378_389.out, NB389_378.out, NB379_389.out, NB389_379.out, (by repeat (first | (with_reducible first | exact HB.out | apply qE | apply qA | apply qF | refine qH ?_ GE378.out | refine qH ?_ GE379.out | refine qH ?_ GE389.out) | exact HB.out))⟩)
      rintro gb389 w37 ⟨hS_, h0_, h1_, h2_, h3_, h4_, h5_, h6_, h7_, h8_, h9_, h10_⟩
      have n0_ : Aside0 (Kd.R Kd.string 9 w37 w.heap.size (fun _ => True) (.slice Ao33 t380.length co33) t380) := ⟨h0_⟩
      have n1_ : Aside0 (w37.heap[gb378]? = some (.cells #[.int .i64 a1_0, .int .i64 a1_1, .int .i64 a1_2] 27 (0, 0))) := ⟨h1_⟩
      have n2_ : Aside0 (w37.heap[gb379]? = some (.cells #[.int .i64 0, .int .i64 0, .int .i64 0] 27 (0, 0))) := ⟨h2_⟩
      have n3_ : Aside0 (w37.heap[gb389]? = some (.cells #[.int .i64 0, .int .i64 0, .int .i64 0] 27 (0, 0))) := ⟨h3_⟩
      have n4_ : Aside0 (w.heap.size ≤ gb389) := ⟨h4_⟩
      have n5_ : Aside0 (w.heap.size ≤ gb389) := ⟨h5_⟩
      have n6_ : Aside0 (gb378 ≠ gb389) := ⟨h6_⟩
      have n7_ : Aside0 (gb389 ≠ gb378) := ⟨h7_⟩
      have n8_ : Aside0 (gb379 ≠ gb389) := ⟨h8_⟩
      have n9_ : Aside0 (gb389 ≠ gb379) := ⟨h9_⟩
      have n10_ : Aside0 (Below w.heap.size w w37) := ⟨h10_⟩
      clear HO_8
      clear BK378
      clear BK379
      clear HB
      clear h0_ h1_ h2_ h3_ h4_ h5_ h6_ h7_ h8_ h9_ h10_
      have HO_8 := n0_
      have BK378 := n1_
      have BK379 := n2_
      have BK389 := n3_
      have GW389 := n4_
      have GE389 := n5_
      have NB378_389 := n6_
      have NB389_378 := n7_
      have NB379_389 := n8_
      have NB389_379 := n9_
      have HB := n10_
      clear n0_ n1_ n2_ n3_ n4_ n5_ n6_ n7_ n8_ n9_ n10_
      have hHeld : w37.cell? ⟨gb378, 0, none⟩ = some (.int .i64 a1_0) ∧ w37.cell? ⟨gb378, 1, none⟩ = some (.int .i64 a1_1) ∧ w37.cell? ⟨gb378, 2, none⟩ = some (.int .i64 a1_2) := hS_
      refine norm_ (a' := ?_) ?_ ?_
      rotate_left
      ·simp only [putAll, Act.put, List.setIfInBounds_toArray, List.set_cons_zero, List.set_cons_succ]
       rfl
      refine one_ (i := 9) (N := none) #[true, true, true, true, true, true, true, true, true, true, false] rfl rfl (qTA HT_.out (by kernel_rfl)) (by decide) (fun K hK => ?_)
      have hs38 : w37.cell? ⟨gb389, 0, none⟩ = some (.int .i64 0) := (qI BK389.out 0).trans rfl
      have hfs38 := qG BK389.out 0
      have hns38_0 := NB378_389.out
      have hns38_1 := NB379_389.out
      have hms38_0 := NB389_378.out
      have hms38_1 := NB389_379.out
      have hs39 : w37.cell? ⟨gb389, 1, none⟩ = some (.int .i64 0) := (qI BK389.out 1).trans rfl
      have hfs39 := qG BK389.out 1
      have hns39_0 := NB378_389.out
      have hns39_1 := NB379_389.out
      have hms39_0 := NB389_378.out
      have hms39_1 := NB389_379.out
      have hs40 : w37.cell? ⟨gb389, 2, none⟩ = some (.int .i64 0) := (qI BK389.out 2).trans rfl
      have hfs40 := qG BK389.out 2
      have hns40_0 := NB378_389.out
      have hns40_1 := NB379_389.out
      have hms40_0 := NB389_378.out
      have hms40_1 := NB389_379.out
      refine skip_ (w1 := ?_) (by rfl) rfl ?_ ?_
      rotate_left
      ·go_simp
       rfl
      refine hK.out _ _ ⟨((qY (p := ⟨gb389, _, none⟩) NB378_389.out _).trans (((qY (p := ⟨gb389, _, none⟩) NB378_389.out _).trans (((qY (p := ⟨gb389, _, none⟩) NB378_389.out _).trans (hHeld.1)))))), ((qY (p := ⟨gb389, _, none⟩) NB378_389.out _).trans (((qY (p := ⟨gb389, _, none⟩) NB378_389.out _).trans (((qY (p := ⟨gb389, _, none⟩) NB378_389.out _).trans (hHeld.2.1)))))), ((qY (p := ⟨gb389, _, none⟩) NB378_389.out _).trans (((qY (p := ⟨gb389, _, none⟩) NB378_389.out _).trans (((qY (p := ⟨gb389, _, none⟩) NB378_389.out _).trans (hHeld.2.2))))))⟩ (fun hHeld => ?_)
      clear hK K
      refine pS (i := 10) (N := some 11) #[true, true, true, true, true, true, true, true, true, true, true] HT_ ?_
      refine done_ (qkA HT_.out (by kernel_rfl)) ?_
      have hnb41 := NB379_378.out
      have hnc41 := NB378_379.out
      have hnb42 := NB379_389.out
      have hnc42 := NB389_379.out
      have hcz43_0 : w37.cell? ⟨gb379, 0, none⟩ = some (.int .i64 0) := (qI BK379.out 0).trans rfl
      have hcz43_1 : w37.cell? ⟨gb379, 1, none⟩ = some (.int .i64 0) := (qI BK379.out 1).trans rfl
      have hcz43_2 : w37.cell? ⟨gb379, 2, none⟩ = some (.int .i64 0) := (qI BK379.out 2).trans rfl
      have hfz43_0 := qG BK379.out 0
      have hfz43_1 := qG BK379.out 1
      have hfz43_2 := qG BK379.out 2
      try go_wp2
      refine bodyPost_ret (qv rfl _ _ gb379 27 #[.int .i64 0, .int .i64 0, .int .i64 0] (0, 0) _ rfl (by (with_reducible repeat (first | refine qC ?_ _ | refine qD ?_ | refine qB ?_ _)); refine qO (cs := #[.int .i64 0, .int .i64 0, .int .i64 0]) ?_ 2 _ rfl; (with_reducible repeat (first | refine qC ?_ _ | refine qD ?_ | refine qB ?_ _)); refine qO (cs := #[.int .i64 0, .int .i64 0, .int .i64 0]) ?_ 1 _ rfl; (with_reducible repeat (first | refine qC ?_ _ | refine qD ?_ | refine qB ?_ _)); refine qO (cs := #[.int .i64 0, .int .i64 0, .int .i64 0]) ?_ 0 _ rfl; (with_reducible repeat (first | refine qC ?_ _ | refine qD ?_ | refine qB ?_ _)); refine qT ?_ NB379_389.out _; (with_reducible repeat (first | refine qC ?_ _ | refine qD ?_ | refine qB ?_ _)); refine qT ?_ NB379_389.out _; (with_reducible repeat (first | refine qC ?_ _ | refine qD ?_ | refine qB ?_ _)); refine qT ?_ NB379_389.out _; (with_reducible repeat (first | refine qC ?_ _ | refine qD ?_ | refine qB ?_ _)); exact BK379.out) Tryd.underlying27 rfl (by kernel_rfl)) rfl ?_
      exact ⟨by first | rfl | (simp [qM, qL] <;> rfl) | (simp [*, qM, qL] <;> rfl), by repeat (first | (with_reducible first | exact HB.out | apply qE | apply qA | apply qF | refine qH ?_ GE378.out | refine qH ?_ GE379.out | refine qH ?_ GE389.out) | exact HB.out)⟩
    ·rw [if_neg c16] at H
     exact absurd H (by simp)
end Go.Proofs.YtbpfhpjbeomfcaaDoor.P
namespace Go.Proofs.YtbpfhpjbeomfcaaDoor.P
open Go.RowKit Go.Proofs.YtbpfhpjbeomfcaaDoorW.PrintWords Go.Proofs.YtbpfhpjbeomfcaaDoorW.PrintLast Go.Proofs.YtbpfhpjbeomfcaaDoorW.PrintMore
attribute [local go_sem] qm qk qx qw qg qf ql qj   -- for this text's walks alone
set_option linter.unusedVariables false
set_option linter.unusedSimpArgs false
def qy.f (k : Nat) (a0 : ByteArray) (a1_0 : Int) (a1_1 : Int) (a1_2 : Int) (a2 : ByteArray) : Option (Bool) := if (a0.size : Int) > 1048576 then (some true) else (if (a2.size : Int) > 1048576 then (some true) else ((qAA.f a1_0 a1_1 a1_2).bind fun bt391 => ((qb.f k a0 bt391.1 bt391.2.1 bt391.2.2 a2).bind fun bt394 => ((qAA.f a1_0 a1_1 a1_2).bind fun bt399 => ((qa.f k a0 bt399.1 bt399.2.1 bt399.2.2 a2).bind fun bt402 => ((qEA.f bt402.1 bt402.2.1 bt402.2.2.1 bt394.1 bt394.2.1 bt394.2.2.1).bind fun t407 => (if t407 = true then (if (bt402.2.2.2 != bt394.2.2.2) = true then (some false) else (some true)) else (some false))))))))
set_option maxHeartbeats 8000000 in
set_option maxRecDepth 100000 in
theorem qy.calls (k : Nat) (a0 : ByteArray) (a1_0 : Int) (a1_1 : Int) (a1_2 : Int) (a2 : ByteArray) (r : Bool) (w : World) (hL : Laid w) (h : qy.f k a0 a1_0 a1_1 a1_2 a2 = some r) :
  Calls Tryd.prog 8 #[.string a0, .agg #[.int .i64 a1_0, .int .i64 a1_1, .int .i64 a1_2], .string a2] w fun e w' => e = .returned (.bool r) ∧ Below w.heap.size w w' := by
 have hu24 := Tryd.underlying24
 have hu27 := Tryd.underlying27
 have HLD := Aside0.mk hL
 clear hL
 have HB := Aside0.mk (Below.refl w.heap.size w)
 have H : (if (a0.size : Int) > 1048576 then (some true) else (if (a2.size : Int) > 1048576 then (some true) else ((qAA.f a1_0 a1_1 a1_2).bind fun bt391 => ((qb.f k a0 bt391.1 bt391.2.1 bt391.2.2 a2).bind fun bt394 => ((qAA.f a1_0 a1_1 a1_2).bind fun bt399 => ((qa.f k a0 bt399.1 bt399.2.1 bt399.2.2 a2).bind fun bt402 => ((qEA.f bt402.1 bt402.2.1 bt402.2.2.1 bt394.1 bt394.2.1 bt394.2.2.1).bind fun t407 => (if t407 = true then (if (bt402.2.2.2 != bt394.2.2.2) = true then (some false) else (some true)) else (some false))))))))) = some r := h
 clear h
 by_cases c4 : (a0.size : Int) > 1048576
 ·rw [if_pos c4] at H
  have c4b0 : decide (1048576 < (a0.size : Int)) = true := decide_eq_true c4
  have c4b1 : decide (1048576 < a0.size) = true := decide_eq_true (by omega)
  clear c4
  obtain rfl := Option.some.inj H
  go_enter Tryd.func8, Tryd.ntmps8
  go_wp2_with (first | ((with_reducible refine qW (N := 4) rfl ?_); refine qV ?hg (N := 4) ?hd (cs := #[.int .i64 a1_0, .int .i64 a1_1, .int .i64 a1_2]) (t := 24) ?hr ?_; (case hd => rfl); (case hg => rfl); (case hr => first | (go_simp; done) | (go_simp; rfl)); intro gb390 hg w5 hbox hb; have n0_ := Aside0.mk (qN (by repeat (first | (with_reducible first | exact HB.out | apply qE | apply qA | apply qF) | exact HB.out)) hb); have n1_ := Aside0.mk (hbox); have n2_ := Aside0.mk ((by rw [hg]; exact (qJ (by repeat (first | (with_reducible first | exact HB.out | apply qE | apply qA | apply qF) | exact HB.out))) : w.heap.size ≤ gb390)); have n3_ := Aside0.mk ((by rw [hg]; exact (qJ (by repeat (first | (with_reducible first | exact HB.out | apply qE | apply qA | apply qF) | exact HB.out))) : w.heap.size ≤ gb390)); clear HB; have HB := n0_; have BK390 := n1_; have GW390 := n2_; have GE390 := n3_; clear n0_ n1_ n2_ n3_; clear hb hbox hg))
  go_ret
  exact ⟨by first | rfl | (simp [qM, qL] <;> rfl) | (simp [*, qM, qL] <;> rfl), by repeat (first | (with_reducible first | exact HB.out | apply qE | apply qA | apply qF | refine qH ?_ GE390.out) | exact HB.out)⟩
 ·rw [if_neg c4] at H
  have c4b0 : decide (1048576 < (a0.size : Int)) = false := decide_eq_false c4
  have c4b1 : decide (1048576 < a0.size) = false := decide_eq_false (by omega)
  clear c4
  by_cases c6 : (a2.size : Int) > 1048576
  ·rw [if_pos c6] at H
   have c6b0 : decide (1048576 < (a2.size : Int)) = true := decide_eq_true c6
   have c6b1 : decide (1048576 < a2.size) = true := decide_eq_true (by omega)
   clear c6
   obtain rfl := Option.some.inj H
   go_enter Tryd.func8, Tryd.ntmps8
   go_wp2_with (first | ((with_reducible refine qW (N := 4) rfl ?_); refine qV ?hg (N := 4) ?hd (cs := #[.int .i64 a1_0, .int .i64 a1_1, .int .i64 a1_2]) (t := 24) ?hr ?_; (case hd => rfl); (case hg => rfl); (case hr => first | (go_simp; done) | (go_simp; rfl)); intro gb390 hg w7 hbox hb; have n0_ := Aside0.mk (qN (by repeat (first | (with_reducible first | exact HB.out | apply qE | apply qA | apply qF) | exact HB.out)) hb); have n1_ := Aside0.mk (hbox); have n2_ := Aside0.mk ((by rw [hg]; exact (qJ (by repeat (first | (with_reducible first | exact HB.out | apply qE | apply qA | apply qF) | exact HB.out))) : w.heap.size ≤ gb390)); have n3_ := Aside0.mk ((by rw [hg]; exact (qJ (by repeat (first | (with_reducible first | exact HB.out | apply qE | apply qA | apply qF) | exact HB.out))) : w.heap.size ≤ gb390)); clear HB; have HB := n0_; have BK390 := n1_; have GW390 := n2_; have GE390 := n3_; clear n0_ n1_ n2_ n3_; clear hb hbox hg))
   go_ret
   exact ⟨by first | rfl | (simp [qM, qL] <;> rfl) | (simp [*, qM, qL] <;> rfl), by repeat (first | (with_reducible first | exact HB.out | apply qE | apply qA | apply qF | refine qH ?_ GE390.out) | exact HB.out)⟩
  ·rw [if_neg c6] at H
   have c6b0 : decide (1048576 < (a2.size : Int)) = false := decide_eq_false c6
   have c6b1 : decide (1048576 < a2.size) = false := decide_eq_false (by omega)
   clear c6
   replace H := Option.bind_eq_some_iff.mp H
   obtain ⟨⟨t391, t392, t393⟩, A80, H⟩ := H
   replace H : ((qb.f k a0 t391 t392 t393 a2).bind fun bt394 => ((qAA.f a1_0 a1_1 a1_2).bind fun bt399 => ((qa.f k a0 bt399.1 bt399.2.1 bt399.2.2 a2).bind fun bt402 => ((qEA.f bt402.1 bt402.2.1 bt402.2.2.1 bt394.1 bt394.2.1 bt394.2.2.1).bind fun t407 => (if t407 = true then (if (bt402.2.2.2 != bt394.2.2.2) = true then (some false) else (some true)) else (some false)))))) = some r := H
   have A8 := Aside0.mk A80
   clear A80
   replace H := Option.bind_eq_some_iff.mp H
   obtain ⟨⟨t394, t395, t396, t397⟩, A90, H⟩ := H
   replace H : ((qAA.f a1_0 a1_1 a1_2).bind fun bt399 => ((qa.f k a0 bt399.1 bt399.2.1 bt399.2.2 a2).bind fun bt402 => ((qEA.f bt402.1 bt402.2.1 bt402.2.2.1 t394 t395 t396).bind fun t407 => (if t407 = true then (if (bt402.2.2.2 != t397) = true then (some false) else (some true)) else (some false))))) = some r := H
   have A9 := Aside0.mk A90
   clear A90
   replace H := Option.bind_eq_some_iff.mp H
   obtain ⟨⟨t399, t400, t401⟩, A100, H⟩ := H
   replace H : ((qa.f k a0 t399 t400 t401 a2).bind fun bt402 => ((qEA.f bt402.1 bt402.2.1 bt402.2.2.1 t394 t395 t396).bind fun t407 => (if t407 = true then (if (bt402.2.2.2 != t397) = true then (some false) else (some true)) else (some false)))) = some r := H
   have A10 := Aside0.mk A100
   clear A100
   replace H := Option.bind_eq_some_iff.mp H
   obtain ⟨⟨t402, t403, t404, t405⟩, A110, H⟩ := H
   replace H : ((qEA.f t402 t403 t404 t394 t395 t396).bind fun t407 => (if t407 = true then (if (t405 != t397) = true then (some false) else (some true)) else (some false))) = some r := H
   have A11 := Aside0.mk A110
   clear A110
   replace H := Option.bind_eq_some_iff.mp H
   obtain ⟨t407, A120, H⟩ := H
   replace H : (if t407 = true then (if (t405 != t397) = true then (some false) else (some true)) else (some false)) = some r := H
   have A12 := Aside0.mk A120
   clear A120
   by_cases c13 : t407 = true
   ·subst c13
    have H1 : (if (t405 != t397) = true then (some false) else (some true)) = some r := by rw [if_pos rfl] at H; exact H
    clear H
    have H := H1
    clear H1
    by_cases c14 : (t405 != t397) = true
    ·rw [if_pos c14] at H
     have c14b0 : (t405 != t397) = true := c14
     (try (have c14b1 : decide (t405 = t397) = false := by simpa using c14))
     (try (have c14b2 : (t405 == t397) = false := by simpa using c14))
     (try (have c14b3 : ¬ (t405 = t397) := by simpa using c14))
     clear c14
     obtain rfl := Option.some.inj H
     go_enter Tryd.func8, Tryd.ntmps8
     go_wp2_with (first | ((with_reducible refine qW (N := 4) rfl ?_); refine qV ?hg (N := 4) ?hd (cs := #[.int .i64 a1_0, .int .i64 a1_1, .int .i64 a1_2]) (t := 24) ?hr ?_; (case hd => rfl); (case hg => rfl); (case hr => first | (go_simp; done) | (go_simp; rfl)); intro gb390 hg w15 hbox hb; have n0_ := Aside0.mk (qN (by repeat (first | (with_reducible first | exact HB.out | apply qE | apply qA | apply qF) | exact HB.out)) hb); have n1_ := Aside0.mk (hbox); have n2_ := Aside0.mk ((by rw [hg]; exact (qJ (by repeat (first | (with_reducible first | exact HB.out | apply qE | apply qA | apply qF) | exact HB.out))) : w.heap.size ≤ gb390)); have n3_ := Aside0.mk ((by rw [hg]; exact (qJ (by repeat (first | (with_reducible first | exact HB.out | apply qE | apply qA | apply qF) | exact HB.out))) : w.heap.size ≤ gb390)); clear HB; have HB := n0_; have BK390 := n1_; have GW390 := n2_; have GE390 := n3_; clear n0_ n1_ n2_ n3_; clear hb hbox hg; have hcz16_0 : w15.cell? ⟨gb390, 0, none⟩ = some (.int .i64 a1_0) := (qI BK390.out 0).trans rfl; have hcz16_1 : w15.cell? ⟨gb390, 1, none⟩ = some (.int .i64 a1_1) := (qI BK390.out 1).trans rfl; have hcz16_2 : w15.cell? ⟨gb390, 2, none⟩ = some (.int .i64 a1_2) := (qI BK390.out 2).trans rfl; have hfz16_0 := qG BK390.out 0; have hfz16_1 := qG BK390.out 1; have hfz16_2 := qG BK390.out 2) | ((with_reducible refine qU (f := 20) rfl ?_); refine qo (some 20) rfl rfl Tryd.func20 (by kernel_rfl) rfl #[.agg #[.int .i64 a1_0, .int .i64 a1_1, .int .i64 a1_2]] rfl (by (try simp only [List.map_toArray, List.map_cons, List.map_nil]); first | done | rfl | (simp only [List.length_drop, List.length_take]; rfl)) ?_; (with_reducible refine (qAA.calls a1_0 a1_1 a1_2 t391 t392 t393 _ A8.out).mono ?_); rintro e w17 ⟨rfl, hb⟩; refine ⟨_, rfl, ?_⟩; have n0_ := Aside0.mk (qK (g := gb390) (o := .cells #[.int .i64 a1_0, .int .i64 a1_1, .int .i64 a1_2] 24 (0, 0)) (by (with_reducible repeat (first | refine qC ?_ _ | refine qD ?_ | refine qB ?_ _)); exact BK390.out) hb); have n1_ := Aside0.mk (qN (by repeat (first | (with_reducible first | exact HB.out | apply qE | apply qA | apply qF | refine qH ?_ GE390.out) | exact HB.out)) hb); clear BK390; clear HB; have BK390 := n0_; have HB := n1_; clear n0_ n1_; (try clear hb); (try clear hb2); (try clear hk); (try clear hi)) | ((with_reducible refine qU (f := 29) rfl ?_); refine qo (some 22) rfl rfl Tryd.func29 (by kernel_rfl) rfl #[.string a0, .agg #[.int .i64 t391, .int .i64 t392, .int .i64 t393], .string a2] rfl (by (try simp only [List.map_toArray, List.map_cons, List.map_nil]); first | done | rfl | (simp only [List.length_drop, List.length_take]; rfl)) ?_; (with_reducible refine (qb.calls k a0 t391 t392 t393 a2 t394 t395 t396 t397 _ A9.out).mono ?_); rintro e w18 ⟨rfl, hb⟩; refine ⟨_, rfl, ?_⟩; have n0_ := Aside0.mk (qK (g := gb390) (o := .cells #[.int .i64 a1_0, .int .i64 a1_1, .int .i64 a1_2] 24 (0, 0)) (by (with_reducible repeat (first | refine qC ?_ _ | refine qD ?_ | refine qB ?_ _)); exact BK390.out) hb); have n1_ := Aside0.mk (qN (by repeat (first | (with_reducible first | exact HB.out | apply qE | apply qA | apply qF | refine qH ?_ GE390.out) | exact HB.out)) hb); clear BK390; clear HB; have BK390 := n0_; have HB := n1_; clear n0_ n1_; (try clear hb); (try clear hb2); (try clear hk); (try clear hi)) | ((with_reducible refine qW (N := 7) rfl ?_); refine qV ?hg (N := 7) ?hd (cs := #[.int .i64 0, .int .i64 0, .int .i64 0]) (t := 27) ?hr ?_; (case hd => rfl); (case hg => rfl); (case hr => first | (go_simp; done) | (go_simp; rfl)); intro gb398 hg w19 hbox hb; have n0_ := Aside0.mk (qK (g := gb390) (o := .cells #[.int .i64 a1_0, .int .i64 a1_1, .int .i64 a1_2] 24 (0, 0)) (by (with_reducible repeat (first | refine qC ?_ _ | refine qD ?_ | refine qB ?_ _)); exact BK390.out) hb); have n1_ := Aside0.mk (qN (by repeat (first | (with_reducible first | exact HB.out | apply qE | apply qA | apply qF | refine qH ?_ GE390.out) | exact HB.out)) hb); have n2_ := Aside0.mk (hbox); have n3_ := Aside0.mk ((by rw [hg]; exact (qJ (by repeat (first | (with_reducible first | exact HB.out | apply qE | apply qA | apply qF | refine qH ?_ GE390.out) | exact HB.out))) : w.heap.size ≤ gb398)); have n4_ := Aside0.mk ((by rw [hg]; exact (qJ (by repeat (first | (with_reducible first | exact HB.out | apply qE | apply qA | apply qF | refine qH ?_ GE390.out) | exact HB.out))) : w.heap.size ≤ gb398)); have n5_ := Aside0.mk ((by rw [hg]; exact Nat.ne_of_lt (qZ (g := gb390) (o := .cells #[.int .i64 a1_0, .int .i64 a1_1, .int .i64 a1_2] 24 (0, 0)) (by (with_reducible repeat (first | refine qC ?_ _ | refine qD ?_ | refine qB ?_ _)); exact BK390.out)) : gb390 ≠ gb398)); have n6_ := Aside0.mk ((by rw [hg]; exact Nat.ne_of_gt (qZ (g := gb390) (o := .cells #[.int .i64 a1_0, .int .i64 a1_1, .int .i64 a1_2] 24 (0, 0)) (by (with_reducible repeat (first | refine qC ?_ _ | refine qD ?_ | refine qB ?_ _)); exact BK390.out)) : gb398 ≠ gb390)); clear BK390; clear HB; have BK390 := n0_; have HB := n1_; have BK398 := n2_; have GW398 := n3_; have GE398 := n4_; have NB390_398 := n5_; have NB398_390 := n6_; clear n0_ n1_ n2_ n3_ n4_ n5_ n6_; clear hb hbox hg; have hnb20 := NB398_390.out; have hnc20 := NB390_398.out; have hcz21_0 : w19.cell? ⟨gb398, 0, none⟩ = some (.int .i64 0) := (qI BK398.out 0).trans rfl; have hcz21_1 : w19.cell? ⟨gb398, 1, none⟩ = some (.int .i64 0) := (qI BK398.out 1).trans rfl; have hcz21_2 : w19.cell? ⟨gb398, 2, none⟩ = some (.int .i64 0) := (qI BK398.out 2).trans rfl; have hfz21_0 := qG BK398.out 0; have hfz21_1 := qG BK398.out 1; have hfz21_2 := qG BK398.out 2; have hcz22_0 : w19.cell? ⟨gb390, 0, none⟩ = some (.int .i64 a1_0) := (qI BK390.out 0).trans rfl; have hcz22_1 : w19.cell? ⟨gb390, 1, none⟩ = some (.int .i64 a1_1) := (qI BK390.out 1).trans rfl; have hcz22_2 : w19.cell? ⟨gb390, 2, none⟩ = some (.int .i64 a1_2) := (qI BK390.out 2).trans rfl; have hfz22_0 := qG BK390.out 0; have hfz22_1 := qG BK390.out 1; have hfz22_2 := qG BK390.out 2) | ((with_reducible refine qU (f := 20) rfl ?_); refine qo (some 28) rfl rfl Tryd.func20 (by kernel_rfl) rfl #[.agg #[.int .i64 a1_0, .int .i64 a1_1, .int .i64 a1_2]] rfl (by (try simp only [List.map_toArray, List.map_cons, List.map_nil]); first | done | rfl | (simp only [List.length_drop, List.length_take]; rfl)) ?_; (with_reducible refine (qAA.calls a1_0 a1_1 a1_2 t399 t400 t401 _ A10.out).mono ?_); rintro e w23 ⟨rfl, hb⟩; refine ⟨_, rfl, ?_⟩; have n0_ := Aside0.mk (qK (g := gb390) (o := .cells #[.int .i64 a1_0, .int .i64 a1_1, .int .i64 a1_2] 24 (0, 0)) (by (with_reducible repeat (first | refine qC ?_ _ | refine qD ?_ | refine qB ?_ _)); refine qT ?_ NB390_398.out _; (with_reducible repeat (first | refine qC ?_ _ | refine qD ?_ | refine qB ?_ _)); refine qT ?_ NB390_398.out _; (with_reducible repeat (first | refine qC ?_ _ | refine qD ?_ | refine qB ?_ _)); refine qT ?_ NB390_398.out _; (with_reducible repeat (first | refine qC ?_ _ | refine qD ?_ | refine qB ?_ _)); exact BK390.out) hb); have n1_ := Aside0.mk (qK (g := gb398) (o := .cells #[.int .i64 t394, .int .i64 t395, .int .i64 t396] 27 (0, 0)) (by (with_reducible repeat (first | refine qC ?_ _ | refine qD ?_ | refine qB ?_ _)); refine qO (cs := #[.int .i64 t394, .int .i64 t395, .int .i64 0]) ?_ 2 _ rfl; (with_reducible repeat (first | refine qC ?_ _ | refine qD ?_ | refine qB ?_ _)); refine qO (cs := #[.int .i64 t394, .int .i64 0, .int .i64 0]) ?_ 1 _ rfl; (with_reducible repeat (first | refine qC ?_ _ | refine qD ?_ | refine qB ?_ _)); refine qO (cs := #[.int .i64 0, .int .i64 0, .int .i64 0]) ?_ 0 _ rfl; (with_reducible repeat (first | refine qC ?_ _ | refine qD ?_ | refine qB ?_ _)); exact BK398.out) hb); have n2_ := Aside0.mk (qN (by repeat (first | (with_reducible first | exact HB.out | apply qE | apply qA | apply qF | refine qH ?_ GE390.out | refine qH ?_ GE398.out) | exact HB.out)) hb); clear BK390; clear BK398; clear HB; have BK390 := n0_; have BK398 := n1_; have HB := n2_; clear n0_ n1_ n2_; (try clear hb); (try clear hb2); (try clear hk); (try clear hi)) | ((with_reducible refine qU (f := 30) rfl ?_); refine qo (some 30) rfl rfl Tryd.func30 (by kernel_rfl) rfl #[.string a0, .agg #[.int .i64 t399, .int .i64 t400, .int .i64 t401], .string a2] rfl (by (try simp only [List.map_toArray, List.map_cons, List.map_nil]); first | done | rfl | (simp only [List.length_drop, List.length_take]; rfl)) ?_; (with_reducible refine (qa.calls k a0 t399 t400 t401 a2 t402 t403 t404 t405 _ ?side1 A11.out).mono ?_); (case side1 => first | exact HLD.out | exact Laid.below HLD.out (by repeat (first | (with_reducible first | exact HB.out | apply qE | apply qA | apply qF) | exact HB.out))); rintro e w24 ⟨rfl, hb⟩; refine ⟨_, rfl, ?_⟩; have n0_ := Aside0.mk (qK (g := gb390) (o := .cells #[.int .i64 a1_0, .int .i64 a1_1, .int .i64 a1_2] 24 (0, 0)) (by (with_reducible repeat (first | refine qC ?_ _ | refine qD ?_ | refine qB ?_ _)); exact BK390.out) hb); have n1_ := Aside0.mk (qK (g := gb398) (o := .cells #[.int .i64 t394, .int .i64 t395, .int .i64 t396] 27 (0, 0)) (by (with_reducible repeat (first | refine qC ?_ _ | refine qD ?_ | refine qB ?_ _)); exact BK398.out) hb); have n2_ := Aside0.mk (qN (by repeat (first | (with_reducible first | exact HB.out | apply qE | apply qA | apply qF | refine qH ?_ GE390.out | refine qH ?_ GE398.out) | exact HB.out)) hb); clear BK390; clear BK398; clear HB; have BK390 := n0_; have BK398 := n1_; have HB := n2_; clear n0_ n1_ n2_; (try clear hb); (try clear hb2); (try clear hk); (try clear hi)) | ((with_reducible refine qW (N := 9) rfl ?_); refine qV ?hg (N := 9) ?hd (cs := #[.int .i64 0, .int .i64 0, .int .i64 0]) (t := 27) ?hr ?_; (case hd => rfl); (case hg => rfl); (case hr => first | (go_simp; done) | (go_simp; rfl)); intro gb406 hg w25 hbox hb; have n0_ := Aside0.mk (qK (g := gb390) (o := .cells #[.int .i64 a1_0, .int .i64 a1_1, .int .i64 a1_2] 24 (0, 0)) (by (with_reducible repeat (first | refine qC ?_ _ | refine qD ?_ | refine qB ?_ _)); exact BK390.out) hb); have n1_ := Aside0.mk (qK (g := gb398) (o := .cells #[.int .i64 t394, .int .i64 t395, .int .i64 t396] 27 (0, 0)) (by (with_reducible repeat (first | refine qC ?_ _ | refine qD ?_ | refine qB ?_ _)); exact BK398.out) hb); have n2_ := Aside0.mk (qN (by repeat (first | (with_reducible first | exact HB.out | apply qE | apply qA | apply qF | refine qH ?_ GE390.out | refine qH ?_ GE398.out) | exact HB.out)) hb); have n3_ := Aside0.mk (hbox); have n4_ := Aside0.mk ((by rw [hg]; exact (qJ (by repeat (first | (with_reducible first | exact HB.out | apply qE | apply qA | apply qF | refine qH ?_ GE390.out | refine qH ?_ GE398.out) | exact HB.out))) : w.heap.size ≤ gb406)); have n5_ := Aside0.mk ((by rw [hg]; exact (qJ (by repeat (first | (with_reducible first | exact HB.out | apply qE | apply qA | apply qF | refine qH ?_ GE390.out | refine qH ?_ GE398.out) | exact HB.out))) : w.heap.size ≤ gb406)); have n6_ := Aside0.mk ((by rw [hg]; exact Nat.ne_of_lt (qZ (g := gb390) (o := .cells #[.int .i64 a1_0, .int .i64 a1_1, .int .i64 a1_2] 24 (0, 0)) (by (with_reducible repeat (first | refine qC ?_ _ | refine qD ?_ | refine qB ?_ _)); exact BK390.out)) : gb390 ≠ gb406)); have n7_ := Aside0.mk ((by rw [hg]; exact Nat.ne_of_gt (qZ (g := gb390) (o := .cells #[.int .i64 a1_0, .int .i64 a1_1, .int .i64 a1_2] 24 (0, 0)) (by (with_reducible repeat (first | refine qC ?_ _ | refine qD ?_ | refine qB ?_ _)); exact BK390.out)) : gb406 ≠ gb390)); have n8_ := Aside0.mk ((by rw [hg]; exact Nat.ne_of_lt (qZ (g := gb398) (o := .cells #[.int .i64 t394, .int .i64 t395, .int .i64 t396] 27 (0, 0)) (by (with_reducible repeat (first | refine qC ?_ _ | refine qD ?_ | refine qB ?_ _)); exact BK398.out)) : gb398 ≠ gb406)); have n9_ := Aside0.mk ((by rw [hg]; exact Nat.ne_of_gt (qZ (g := gb398) (o := .cells #[.int .i64 t394, .int .i64 t395, .int .i64 t396] 27 (0, 0)) (by (with_reducible repeat (first | refine qC ?_ _ | refine qD ?_ | refine qB ?_ _)); exact BK398.out)) : gb406 ≠ gb398)); clear BK390; clear BK398; clear HB; have BK390 := n0_; have BK398 := n1_; have HB := n2_; have BK406 := n3_; have GW406 := n4_; have GE406 := n5_; have NB390_406 := n6_; have NB406_390 := n7_; have NB398_406 := n8_; have NB406_398 := n9_; clear n0_ n1_ n2_ n3_ n4_ n5_ n6_ n7_ n8_ n9_; clear hb hbox hg; have hnb26 := NB406_390.out; have hnc26 := NB390_406.out; have hnb27 := NB406_398.out; have hnc27 := NB398_406.out; have hcz28_0 : w25.cell? ⟨gb406, 0, none⟩ = some (.int .i64 0) := (qI BK406.out 0).trans rfl; have hcz28_1 : w25.cell? ⟨gb406, 1, none⟩ = some (.int .i64 0) := (qI BK406.out 1).trans rfl; have hcz28_2 : w25.cell? ⟨gb406, 2, none⟩ = some (.int .i64 0) := (qI BK406.out 2).trans rfl; have hfz28_0 := qG BK406.out 0; have hfz28_1 := qG BK406.out 1; have hfz28_2 := qG BK406.out 2; have hcz29_0 : w25.cell? ⟨gb398, 0, none⟩ = some (.int .i64 t394) := (qI BK398.out 0).trans rfl; have hcz29_1 : w25.cell? ⟨gb398, 1, none⟩ = some (.int .i64 t395) := (qI BK398.out 1).trans rfl; have hcz29_2 : w25.cell? ⟨gb398, 2, none⟩ = some (.int .i64 t396) := (qI BK398.out 2).trans rfl; have hfz29_0 := qG BK398.out 0; have hfz29_1 := qG BK398.out 1; have hfz29_2 := qG BK398.out 2) | ((with_reducible refine qU (f := 26) rfl ?_); refine qo (some 35) rfl rfl Tryd.func26 (by kernel_rfl) rfl #[.agg #[.int .i64 t402, .int .i64 t403, .int .i64 t404], .agg #[.int .i64 t394, .int .i64 t395, .int .i64 t396]] rfl (by (try simp only [List.map_toArray, List.map_cons, List.map_nil]); first | done | rfl | (simp only [List.length_drop, List.length_take]; rfl)) ?_; (with_reducible refine (qEA.calls t402 t403 t404 t394 t395 t396 true _ A12.out).mono ?_); rintro e w30 ⟨rfl, hb⟩; refine ⟨_, rfl, ?_⟩; have n0_ := Aside0.mk (qK (g := gb390) (o := .cells #[.int .i64 a1_0, .int .i64 a1_1, .int .i64 a1_2] 24 (0, 0)) (by (with_reducible repeat (first | refine qC ?_ _ | refine qD ?_ | refine qB ?_ _)); refine qT ?_ NB390_406.out _; (with_reducible repeat (first | refine qC ?_ _ | refine qD ?_ | refine qB ?_ _)); refine qT ?_ NB390_406.out _; (with_reducible repeat (first | refine qC ?_ _ | refine qD ?_ | refine qB ?_ _)); refine qT ?_ NB390_406.out _; (with_reducible repeat (first | refine qC ?_ _ | refine qD ?_ | refine qB ?_ _)); exact BK390.out) hb); have n1_ := Aside0.mk (qK (g := gb398) (o := .cells #[.int .i64 t394, .int .i64 t395, .int .i64 t396] 27 (0, 0)) (by (with_reducible repeat (first | refine qC ?_ _ | refine qD ?_ | refine qB ?_ _)); refine qT ?_ NB398_406.out _; (with_reducible repeat (first | refine qC ?_ _ | refine qD ?_ | refine qB ?_ _)); refine qT ?_ NB398_406.out _; (with_reducible repeat (first | refine qC ?_ _ | refine qD ?_ | refine qB ?_ _)); refine qT ?_ NB398_406.out _; (with_reducible repeat (first | refine qC ?_ _ | refine qD ?_ | refine qB ?_ _)); exact BK398.out) hb); have n2_ := Aside0.mk (qK (g := gb406) (o := .cells #[.int .i64 t402, .int .i64 t403, .int .i64 t404] 27 (0, 0)) (by (with_reducible repeat (first | refine qC ?_ _ | refine qD ?_ | refine qB ?_ _)); refine qO (cs := #[.int .i64 t402, .int .i64 t403, .int .i64 0]) ?_ 2 _ rfl; (with_reducible repeat (first | refine qC ?_ _ | refine qD ?_ | refine qB ?_ _)); refine qO (cs := #[.int .i64 t402, .int .i64 0, .int .i64 0]) ?_ 1 _ rfl; (with_reducible repeat (first | refine qC ?_ _ | refine qD ?_ | refine qB ?_ _)); refine qO (cs := #[.int .i64 0, .int .i64 0, .int .i64 0]) ?_ 0 _ rfl; (with_reducible repeat (first | refine qC ?_ _ | refine qD ?_ | refine qB ?_ _)); exact BK406.out) hb); have n3_ := Aside0.mk (qN (by repeat (first | (with_reducible first | exact HB.out | apply qE | apply qA | apply qF | refine qH ?_ GE390.out | refine qH ?_ GE398.out | refine qH ?_ GE406.out) | exact HB.out)) hb); clear BK390; clear BK398; clear BK406; clear HB; have BK390 := n0_; have BK398 := n1_; have BK406 := n2_; have HB := n3_; clear n0_ n1_ n2_ n3_; (try clear hb); (try clear hb2); (try clear hk); (try clear hi)))
     go_ret
     exact ⟨by first | rfl | (simp [qM, qL] <;> rfl) | (simp [*, qM, qL] <;> rfl), by repeat (first | (with_reducible first | exact HB.out | apply qE | apply qA | apply qF | refine qH ?_ GE390.out | refine qH ?_ GE398.out | refine qH ?_ GE406.out) | exact HB.out)⟩
    ·rw [if_neg c14] at H
     have c14b0 : (t405 != t397) = false := by simpa using c14
     (try (have c14b1 : decide (t405 = t397) = true := by simpa using c14))
     (try (have c14b2 : (t405 == t397) = true := by simpa using c14))
     clear c14
     obtain rfl := Option.some.inj H
     go_enter Tryd.func8, Tryd.ntmps8
     go_wp2_with (first | ((with_reducible refine qW (N := 4) rfl ?_); refine qV ?hg (N := 4) ?hd (cs := #[.int .i64 a1_0, .int .i64 a1_1, .int .i64 a1_2]) (t := 24) ?hr ?_; (case hd => rfl); (case hg => rfl); (case hr => first | (go_simp; done) | (go_simp; rfl)); intro gb390 hg w31 hbox hb; have n0_ := Aside0.mk (qN (by repeat (first | (with_reducible first | exact HB.out | apply qE | apply qA | apply qF) | exact HB.out)) hb); have n1_ := Aside0.mk (hbox); have n2_ := Aside0.mk ((by rw [hg]; exact (qJ (by repeat (first | (with_reducible first | exact HB.out | apply qE | apply qA | apply qF) | exact HB.out))) : w.heap.size ≤ gb390)); have n3_ := Aside0.mk ((by rw [hg]; exact (qJ (by repeat (first | (with_reducible first | exact HB.out | apply qE | apply qA | apply qF) | exact HB.out))) : w.heap.size ≤ gb390)); clear HB; have HB := n0_; have BK390 := n1_; have GW390 := n2_; have GE390 := n3_; clear n0_ n1_ n2_ n3_; clear hb hbox hg; have hcz32_0 : w31.cell? ⟨gb390, 0, none⟩ = some (.int .i64 a1_0) := (qI BK390.out 0).trans rfl; have hcz32_1 : w31.cell? ⟨gb390, 1, none⟩ = some (.int .i64 a1_1) := (qI BK390.out 1).trans rfl; have hcz32_2 : w31.cell? ⟨gb390, 2, none⟩ = some (.int .i64 a1_2) := (qI BK390.out 2).trans rfl; have hfz32_0 := qG BK390.out 0; have hfz32_1 := qG BK390.out 1; have hfz32_2 := qG BK390.out 2) | ((with_reducible refine qU (f := 20) rfl ?_); refine qo (some 20) rfl rfl Tryd.func20 (by kernel_rfl) rfl #[.agg #[.int .i64 a1_0, .int .i64 a1_1, .int .i64 a1_2]] rfl (by (try simp only [List.map_toArray, List.map_cons, List.map_nil]); first | done | rfl | (simp only [List.length_drop, List.length_take]; rfl)) ?_; (with_reducible refine (qAA.calls a1_0 a1_1 a1_2 t391 t392 t393 _ A8.out).mono ?_); rintro e w33 ⟨rfl, hb⟩; refine ⟨_, rfl, ?_⟩; have n0_ := Aside0.mk (qK (g := gb390) (o := .cells #[.int .i64 a1_0, .int .i64 a1_1, .int .i64 a1_2] 24 (0, 0)) (by (with_reducible repeat (first | refine qC ?_ _ | refine qD ?_ | refine qB ?_ _)); exact BK390.out) hb); have n1_ := Aside0.mk (qN (by repeat (first | (with_reducible first | exact HB.out | apply qE | apply qA | apply qF | refine qH ?_ GE390.out) | exact HB.out)) hb); clear BK390; clear HB; have BK390 := n0_; have HB := n1_; clear n0_ n1_; (try clear hb); (try clear hb2); (try clear hk); (try clear hi)) | ((with_reducible refine qU (f := 29) rfl ?_); refine qo (some 22) rfl rfl Tryd.func29 (by kernel_rfl) rfl #[.string a0, .agg #[.int .i64 t391, .int .i64 t392, .int .i64 t393], .string a2] rfl (by (try simp only [List.map_toArray, List.map_cons, List.map_nil]); first | done | rfl | (simp only [List.length_drop, List.length_take]; rfl)) ?_; (with_reducible refine (qb.calls k a0 t391 t392 t393 a2 t394 t395 t396 t397 _ A9.out).mono ?_); rintro e w34 ⟨rfl, hb⟩; refine ⟨_, rfl, ?_⟩; have n0_ := Aside0.mk (qK (g := gb390) (o := .cells #[.int .i64 a1_0, .int .i64 a1_1, .int .i64 a1_2] 24 (0, 0)) (by (with_reducible repeat (first | refine qC ?_ _ | refine qD ?_ | refine qB ?_ _)); exact BK390.out) hb); have n1_ := Aside0.mk (qN (by repeat (first | (with_reducible first | exact HB.out | apply qE | apply qA | apply qF | refine qH ?_ GE390.out) | exact HB.out)) hb); clear BK390; clear HB; have BK390 := n0_; have HB := n1_; clear n0_ n1_; (try clear hb); (try clear hb2); (try clear hk); (try clear hi)) | ((with_reducible refine qW (N := 7) rfl ?_); refine qV ?hg (N := 7) ?hd (cs := #[.int .i64 0, .int .i64 0, .int .i64 0]) (t := 27) ?hr ?_; (case hd => rfl); (case hg => rfl); (case hr => first | (go_simp; done) | (go_simp; rfl)); intro gb398 hg w35 hbox hb; have n0_ := Aside0.mk (qK (g := gb390) (o := .cells #[.int .i64 a1_0, .int .i64 a1_1, .int .i64 a1_2] 24 (0, 0)) (by (with_reducible repeat (first | refine qC ?_ _ | refine qD ?_ | refine qB ?_ _)); exact BK390.out) hb); have n1_ := Aside0.mk (qN (by repeat (first | (with_reducible first | exact HB.out | apply qE | apply qA | apply qF | refine qH ?_ GE390.out) | exact HB.out)) hb); have n2_ := Aside0.mk (hbox); have n3_ := Aside0.mk ((by rw [hg]; exact (qJ (by repeat (first | (with_reducible first | exact HB.out | apply qE | apply qA | apply qF | refine qH ?_ GE390.out) | exact HB.out))) : w.heap.size ≤ gb398)); have n4_ := Aside0.mk ((by rw [hg]; exact (qJ (by repeat (first | (with_reducible first | exact HB.out | apply qE | apply qA | apply qF | refine qH ?_ GE390.out) | exact HB.out))) : w.heap.size ≤ gb398)); have n5_ := Aside0.mk ((by rw [hg]; exact Nat.ne_of_lt (qZ (g := gb390) (o := .cells #[.int .i64 a1_0, .int .i64 a1_1, .int .i64 a1_2] 24 (0, 0)) (by (with_reducible repeat (first | refine qC ?_ _ | refine qD ?_ | refine qB ?_ _)); exact BK390.out)) : gb390 ≠ gb398)); have n6_ := Aside0.mk ((by rw [hg]; exact Nat.ne_of_gt (qZ (g := gb390) (o := .cells #[.int .i64 a1_0, .int .i64 a1_1, .int .i64 a1_2] 24 (0, 0)) (by (with_reducible repeat (first | refine qC ?_ _ | refine qD ?_ | refine qB ?_ _)); exact BK390.out)) : gb398 ≠ gb390)); clear BK390; clear HB; have BK390 := n0_; have HB := n1_; have BK398 := n2_; have GW398 := n3_; have GE398 := n4_; have NB390_398 := n5_; have NB398_390 := n6_; clear n0_ n1_ n2_ n3_ n4_ n5_ n6_; clear hb hbox hg; have hnb36 := NB398_390.out; have hnc36 := NB390_398.out; have hcz37_0 : w35.cell? ⟨gb398, 0, none⟩ = some (.int .i64 0) := (qI BK398.out 0).trans rfl; have hcz37_1 : w35.cell? ⟨gb398, 1, none⟩ = some (.int .i64 0) := (qI BK398.out 1).trans rfl; have hcz37_2 : w35.cell? ⟨gb398, 2, none⟩ = some (.int .i64 0) := (qI BK398.out 2).trans rfl; have hfz37_0 := qG BK398.out 0; have hfz37_1 := qG BK398.out 1; have hfz37_2 := qG BK398.out 2; have hcz38_0 : w35.cell? ⟨gb390, 0, none⟩ = some (.int .i64 a1_0) := (qI BK390.out 0).trans rfl; have hcz38_1 : w35.cell? ⟨gb390, 1, none⟩ = some (.int .i64 a1_1) := (qI BK390.out 1).trans rfl; have hcz38_2 : w35.cell? ⟨gb390, 2, none⟩ = some (.int .i64 a1_2) := (qI BK390.out 2).trans rfl; have hfz38_0 := qG BK390.out 0; have hfz38_1 := qG BK390.out 1; have hfz38_2 := qG BK390.out 2) | ((with_reducible refine qU (f := 20) rfl ?_); refine qo (some 28) rfl rfl Tryd.func20 (by kernel_rfl) rfl #[.agg #[.int .i64 a1_0, .int .i64 a1_1, .int .i64 a1_2]] rfl (by (try simp only [List.map_toArray, List.map_cons, List.map_nil]); first | done | rfl | (simp only [List.length_drop, List.length_take]; rfl)) ?_; (with_reducible refine (qAA.calls a1_0 a1_1 a1_2 t399 t400 t401 _ A10.out).mono ?_); rintro e w39 ⟨rfl, hb⟩; refine ⟨_, rfl, ?_⟩; have n0_ := Aside0.mk (qK (g := gb390) (o := .cells #[.int .i64 a1_0, .int .i64 a1_1, .int .i64 a1_2] 24 (0, 0)) (by (with_reducible repeat (first | refine qC ?_ _ | refine qD ?_ | refine qB ?_ _)); refine qT ?_ NB390_398.out _; (with_reducible repeat (first | refine qC ?_ _ | refine qD ?_ | refine qB ?_ _)); refine qT ?_ NB390_398.out _; (with_reducible repeat (first | refine qC ?_ _ | refine qD ?_ | refine qB ?_ _)); refine qT ?_ NB390_398.out _; (with_reducible repeat (first | refine qC ?_ _ | refine qD ?_ | refine qB ?_ _)); exact BK390.out) hb); have n1_ := Aside0.mk (qK (g := gb398) (o := .cells #[.int .i64 t394, .int .i64 t395, .int .i64 t396] 27 (0, 0)) (by (with_reducible repeat (first | refine qC ?_ _ | refine qD ?_ | refine qB ?_ _)); refine qO (cs := #[.int .i64 t394, .int .i64 t395, .int .i64 0]) ?_ 2 _ rfl; (with_reducible repeat (first | refine qC ?_ _ | refine qD ?_ | refine qB ?_ _)); refine qO (cs := #[.int .i64 t394, .int .i64 0, .int .i64 0]) ?_ 1 _ rfl; (with_reducible repeat (first | refine qC ?_ _ | refine qD ?_ | refine qB ?_ _)); refine qO (cs := #[.int .i64 0, .int .i64 0, .int .i64 0]) ?_ 0 _ rfl; (with_reducible repeat (first | refine qC ?_ _ | refine qD ?_ | refine qB ?_ _)); exact BK398.out) hb); have n2_ := Aside0.mk (qN (by repeat (first | (with_reducible first | exact HB.out | apply qE | apply qA | apply qF | refine qH ?_ GE390.out | refine qH ?_ GE398.out) | exact HB.out)) hb); clear BK390; clear BK398; clear HB; have BK390 := n0_; have BK398 := n1_; have HB := n2_; clear n0_ n1_ n2_; (try clear hb); (try clear hb2); (try clear hk); (try clear hi)) | ((with_reducible refine qU (f := 30) rfl ?_); refine qo (some 30) rfl rfl Tryd.func30 (by kernel_rfl) rfl #[.string a0, .agg #[.int .i64 t399, .int .i64 t400, .int .i64 t401], .string a2] rfl (by (try simp only [List.map_toArray, List.map_cons, List.map_nil]); first | done | rfl | (simp only [List.length_drop, List.length_take]; rfl)) ?_; (with_reducible refine (qa.calls k a0 t399 t400 t401 a2 t402 t403 t404 t405 _ ?side1 A11.out).mono ?_); (case side1 => first | exact HLD.out | exact Laid.below HLD.out (by repeat (first | (with_reducible first | exact HB.out | apply qE | apply qA | apply qF) | exact HB.out))); rintro e w40 ⟨rfl, hb⟩; refine ⟨_, rfl, ?_⟩; have n0_ := Aside0.mk (qK (g := gb390) (o := .cells #[.int .i64 a1_0, .int .i64 a1_1, .int .i64 a1_2] 24 (0, 0)) (by (with_reducible repeat (first | refine qC ?_ _ | refine qD ?_ | refine qB ?_ _)); exact BK390.out) hb); have n1_ := Aside0.mk (qK (g := gb398) (o := .cells #[.int .i64 t394, .int .i64 t395, .int .i64 t396] 27 (0, 0)) (by (with_reducible repeat (first | refine qC ?_ _ | refine qD ?_ | refine qB ?_ _)); exact BK398.out) hb); have n2_ := Aside0.mk (qN (by repeat (first | (with_reducible first | exact HB.out | apply qE | apply qA | apply qF | refine qH ?_ GE390.out | refine qH ?_ GE398.out) | exact HB.out)) hb); clear BK390; clear BK398; clear HB; have BK390 := n0_; have BK398 := n1_; have HB := n2_; clear n0_ n1_ n2_; (try clear hb); (try clear hb2); (try clear hk); (try clear hi)) | ((with_reducible refine qW (N := 9) rfl ?_); refine qV ?hg (N := 9) ?hd (cs := #[.int .i64 0, .int .i64 0, .int .i64 0]) (t := 27) ?hr ?_; (case hd => rfl); (case hg => rfl); (case hr => first | (go_simp; done) | (go_simp; rfl)); intro gb406 hg w41 hbox hb; have n0_ := Aside0.mk (qK (g := gb390) (o := .cells #[.int .i64 a1_0, .int .i64 a1_1, .int .i64 a1_2] 24 (0, 0)) (by (with_reducible repeat (first | refine qC ?_ _ | refine qD ?_ | refine qB ?_ _)); exact BK390.out) hb); have n1_ := Aside0.mk (qK (g := gb398) (o := .cells #[.int .i64 t394, .int .i64 t395, .int .i64 t396] 27 (0, 0)) (by (with_reducible repeat (first | refine qC ?_ _ | refine qD ?_ | refine qB ?_ _)); exact BK398.out) hb); have n2_ := Aside0.mk (qN (by repeat (first | (with_reducible first | exact HB.out | apply qE | apply qA | apply qF | refine qH ?_ GE390.out | refine qH ?_ GE398.out) | exact HB.out)) hb); have n3_ := Aside0.mk (hbox); have n4_ := Aside0.mk ((by rw [hg]; exact (qJ (by repeat (first | (with_reducible first | exact HB.out | apply qE | apply qA | apply qF | refine qH ?_ GE390.out | refine qH ?_ GE398.out) | exact HB.out))) : w.heap.size ≤ gb406)); have n5_ := Aside0.mk ((by rw [hg]; exact (qJ (by repeat (first | (with_reducible first | exact HB.out | apply qE | apply qA | apply qF | refine qH ?_ GE390.out | refine qH ?_ GE398.out) | exact HB.out))) : w.heap.size ≤ gb406)); have n6_ := Aside0.mk ((by rw [hg]; exact Nat.ne_of_lt (qZ (g := gb390) (o := .cells #[.int .i64 a1_0, .int .i64 a1_1, .int .i64 a1_2] 24 (0, 0)) (by (with_reducible repeat (first | refine qC ?_ _ | refine qD ?_ | refine qB ?_ _)); exact BK390.out)) : gb390 ≠ gb406)); have n7_ := Aside0.mk ((by rw [hg]; exact Nat.ne_of_gt (qZ (g := gb390) (o := .cells #[.int .i64 a1_0, .int .i64 a1_1, .int .i64 a1_2] 24 (0, 0)) (by (with_reducible repeat (first | refine qC ?_ _ | refine qD ?_ | refine qB ?_ _)); exact BK390.out)) : gb406 ≠ gb390)); have n8_ := Aside0.mk ((by rw [hg]; exact Nat.ne_of_lt (qZ (g := gb398) (o := .cells #[.int .i64 t394, .int .i64 t395, .int .i64 t396] 27 (0, 0)) (by (with_reducible repeat (first | refine qC ?_ _ | refine qD ?_ | refine qB ?_ _)); exact BK398.out)) : gb398 ≠ gb406)); have n9_ := Aside0.mk ((by rw [hg]; exact Nat.ne_of_gt (qZ (g := gb398) (o := .cells #[.int .i64 t394, .int .i64 t395, .int .i64 t396] 27 (0, 0)) (by (with_reducible repeat (first | refine qC ?_ _ | refine qD ?_ | refine qB ?_ _)); exact BK398.out)) : gb406 ≠ gb398)); clear BK390; clear BK398; clear HB; have BK390 := n0_; have BK398 := n1_; have HB := n2_; have BK406 := n3_; have GW406 := n4_; have GE406 := n5_; have NB390_406 := n6_; have NB406_390 := n7_; have NB398_406 := n8_; have NB406_398 := n9_; clear n0_ n1_ n2_ n3_ n4_ n5_ n6_ n7_ n8_ n9_; clear hb hbox hg; have hnb42 := NB406_390.out; have hnc42 := NB390_406.out; have hnb43 := NB406_398.out; have hnc43 := NB398_406.out; have hcz44_0 : w41.cell? ⟨gb406, 0, none⟩ = some (.int .i64 0) := (qI BK406.out 0).trans rfl; have hcz44_1 : w41.cell? ⟨gb406, 1, none⟩ = some (.int .i64 0) := (qI BK406.out 1).trans rfl; have hcz44_2 : w41.cell? ⟨gb406, 2, none⟩ = some (.int .i64 0) := (qI BK406.out 2).trans rfl; have hfz44_0 := qG BK406.out 0; have hfz44_1 := qG BK406.out 1; have hfz44_2 := qG BK406.out 2; have hcz45_0 : w41.cell? ⟨gb398, 0, none⟩ = some (.int .i64 t394) := (qI BK398.out 0).trans rfl; have hcz45_1 : w41.cell? ⟨gb398, 1, none⟩ = some (.int .i64 t395) := (qI BK398.out 1).trans rfl; have hcz45_2 : w41.cell? ⟨gb398, 2, none⟩ = some (.int .i64 t396) := (qI BK398.out 2).trans rfl; have hfz45_0 := qG BK398.out 0; have hfz45_1 := qG BK398.out 1; have hfz45_2 := qG BK398.out 2) | ((with_reducible refine qU (f := 26) rfl ?_); refine qo (some 35) rfl rfl Tryd.func26 (by kernel_rfl) rfl #[.agg #[.int .i64 t402, .int .i64 t403, .int .i64 t404], .agg #[.int .i64 t394, .int .i64 t395, .int .i64 t396]] rfl (by (try simp only [List.map_toArray, List.map_cons, List.map_nil]); first | done | rfl | (simp only [List.length_drop, List.length_take]; rfl)) ?_; (with_reducible refine (qEA.calls t402 t403 t404 t394 t395 t396 true _ A12.out).mono ?_); rintro e w46 ⟨rfl, hb⟩; refine ⟨_, rfl, ?_⟩; have n0_ := Aside0.mk (qK (g := gb390) (o := .cells #[.int .i64 a1_0, .int .i64 a1_1, .int .i64 a1_2] 24 (0, 0)) (by (with_reducible repeat (first | refine qC ?_ _ | refine qD ?_ | refine qB ?_ _)); refine qT ?_ NB390_406.out _; (with_reducible repeat (first | refine qC ?_ _ | refine qD ?_ | refine qB ?_ _)); refine qT ?_ NB390_406.out _; (with_reducible repeat (first | refine qC ?_ _ | refine qD ?_ | refine qB ?_ _)); refine qT ?_ NB390_406.out _; (with_reducible repeat (first | refine qC ?_ _ | refine qD ?_ | refine qB ?_ _)); exact BK390.out) hb); have n1_ := Aside0.mk (qK (g := gb398) (o := .cells #[.int .i64 t394, .int .i64 t395, .int .i64 t396] 27 (0, 0)) (by (with_reducible repeat (first | refine qC ?_ _ | refine qD ?_ | refine qB ?_ _)); refine qT ?_ NB398_406.out _; (with_reducible repeat (first | refine qC ?_ _ | refine qD ?_ | refine qB ?_ _)); refine qT ?_ NB398_406.out _; (with_reducible repeat (first | refine qC ?_ _ | refine qD ?_ | refine qB ?_ _)); refine qT ?_ NB398_406.out _; (with_reducible repeat (first | refine qC ?_ _ | refine qD ?_ | refine qB ?_ _)); exact BK398.out) hb); have n2_ := Aside0.mk (qK (g := gb406) (o := .cells #[.int .i64 t402, .int .i64 t403, .int .i64 t404] 27 (0, 0)) (by (with_reducible repeat (first | refine qC ?_ _ | refine qD ?_ | refine qB ?_ _)); refine qO (cs := #[.int .i64 t402, .int .i64 t403, .int .i64 0]) ?_ 2 _ rfl; (with_reducible repeat (first | refine qC ?_ _ | refine qD ?_ | refine qB ?_ _)); refine qO (cs := #[.int .i64 t402, .int .i64 0, .int .i64 0]) ?_ 1 _ rfl; (with_reducible repeat (first | refine qC ?_ _ | refine qD ?_ | refine qB ?_ _)); refine qO (cs := #[.int .i64 0, .int .i64 0, .int .i64 0]) ?_ 0 _ rfl; (with_reducible repeat (first | refine qC ?_ _ | refine qD ?_ | refine qB ?_ _)); exact BK406.out) hb); have n3_ := Aside0.mk (qN (by repeat (first | (with_reducible first | exact HB.out | apply qE | apply qA | apply qF | refine qH ?_ GE390.out | refine qH ?_ GE398.out | refine qH ?_ GE406.out) | exact HB.out)) hb); clear BK390; clear BK398; clear BK406; clear HB; have BK390 := n0_; have BK398 := n1_; have BK406 := n2_; have HB := n3_; clear n0_ n1_ n2_ n3_; (try clear hb); (try clear hb2); (try clear hk); (try clear hi)))
     go_ret
     exact ⟨by first | rfl | (simp [qM, qL] <;> rfl) | (simp [*, qM, qL] <;> rfl), by repeat (first | (with_reducible first | exact HB.out | apply qE | apply qA | apply qF | refine qH ?_ GE390.out | refine qH ?_ GE398.out | refine qH ?_ GE406.out) | exact HB.out)⟩
   ·replace c13 := Bool.eq_false_iff.mpr c13
    subst c13
    have H1 : (some false) = some r := by rw [if_neg (show ¬ (false = true) by decide)] at H; exact H
    clear H
    have H := H1
    clear H1
    obtain rfl := Option.some.inj H
    go_enter Tryd.func8, Tryd.ntmps8
    go_wp2_with (first | ((with_reducible refine qW (N := 4) rfl ?_); refine qV ?hg (N := 4) ?hd (cs := #[.int .i64 a1_0, .int .i64 a1_1, .int .i64 a1_2]) (t := 24) ?hr ?_; (case hd => rfl); (case hg => rfl); (case hr => first | (go_simp; done) | (go_simp; rfl)); intro gb390 hg w47 hbox hb; have n0_ := Aside0.mk (qN (by repeat (first | (with_reducible first | exact HB.out | apply qE | apply qA | apply qF) | exact HB.out)) hb); have n1_ := Aside0.mk (hbox); have n2_ := Aside0.mk ((by rw [hg]; exact (qJ (by repeat (first | (with_reducible first | exact HB.out | apply qE | apply qA | apply qF) | exact HB.out))) : w.heap.size ≤ gb390)); have n3_ := Aside0.mk ((by rw [hg]; exact (qJ (by repeat (first | (with_reducible first | exact HB.out | apply qE | apply qA | apply qF) | exact HB.out))) : w.heap.size ≤ gb390)); clear HB; have HB := n0_; have BK390 := n1_; have GW390 := n2_; have GE390 := n3_; clear n0_ n1_ n2_ n3_; clear hb hbox hg; have hcz48_0 : w47.cell? ⟨gb390, 0, none⟩ = some (.int .i64 a1_0) := (qI BK390.out 0).trans rfl; have hcz48_1 : w47.cell? ⟨gb390, 1, none⟩ = some (.int .i64 a1_1) := (qI BK390.out 1).trans rfl; have hcz48_2 : w47.cell? ⟨gb390, 2, none⟩ = some (.int .i64 a1_2) := (qI BK390.out 2).trans rfl; have hfz48_0 := qG BK390.out 0; have hfz48_1 := qG BK390.out 1; have hfz48_2 := qG BK390.out 2) | ((with_reducible refine qU (f := 20) rfl ?_); refine qo (some 20) rfl rfl Tryd.func20 (by kernel_rfl) rfl #[.agg #[.int .i64 a1_0, .int .i64 a1_1, .int .i64 a1_2]] rfl (by (try simp only [List.map_toArray, List.map_cons, List.map_nil]); first | done | rfl | (simp only [List.length_drop, List.length_take]; rfl)) ?_; (with_reducible refine (qAA.calls a1_0 a1_1 a1_2 t391 t392 t393 _ A8.out).mono ?_); rintro e w49 ⟨rfl, hb⟩; refine ⟨_, rfl, ?_⟩; have n0_ := Aside0.mk (qK (g := gb390) (o := .cells #[.int .i64 a1_0, .int .i64 a1_1, .int .i64 a1_2] 24 (0, 0)) (by (with_reducible repeat (first | refine qC ?_ _ | refine qD ?_ | refine qB ?_ _)); exact BK390.out) hb); have n1_ := Aside0.mk (qN (by repeat (first | (with_reducible first | exact HB.out | apply qE | apply qA | apply qF | refine qH ?_ GE390.out) | exact HB.out)) hb); clear BK390; clear HB; have BK390 := n0_; have HB := n1_; clear n0_ n1_; (try clear hb); (try clear hb2); (try clear hk); (try clear hi)) | ((with_reducible refine qU (f := 29) rfl ?_); refine qo (some 22) rfl rfl Tryd.func29 (by kernel_rfl) rfl #[.string a0, .agg #[.int .i64 t391, .int .i64 t392, .int .i64 t393], .string a2] rfl (by (try simp only [List.map_toArray, List.map_cons, List.map_nil]); first | done | rfl | (simp only [List.length_drop, List.length_take]; rfl)) ?_; (with_reducible refine (qb.calls k a0 t391 t392 t393 a2 t394 t395 t396 t397 _ A9.out).mono ?_); rintro e w50 ⟨rfl, hb⟩; refine ⟨_, rfl, ?_⟩; have n0_ := Aside0.mk (qK (g := gb390) (o := .cells #[.int .i64 a1_0, .int .i64 a1_1, .int .i64 a1_2] 24 (0, 0)) (by (with_reducible repeat (first | refine qC ?_ _ | refine qD ?_ | refine qB ?_ _)); exact BK390.out) hb); have n1_ := Aside0.mk (qN (by repeat (first | (with_reducible first | exact HB.out | apply qE | apply qA | apply qF | refine qH ?_ GE390.out) | exact HB.out)) hb); clear BK390; clear HB; have BK390 := n0_; have HB := n1_; clear n0_ n1_; (try clear hb); (try clear hb2); (try clear hk); (try clear hi)) | ((with_reducible refine qW (N := 7) rfl ?_); refine qV ?hg (N := 7) ?hd (cs := #[.int .i64 0, .int .i64 0, .int .i64 0]) (t := 27) ?hr ?_; (case hd => rfl); (case hg => rfl); (case hr => first | (go_simp; done) | (go_simp; rfl)); intro gb398 hg w51 hbox hb; have n0_ := Aside0.mk (qK (g := gb390) (o := .cells #[.int .i64 a1_0, .int .i64 a1_1, .int .i64 a1_2] 24 (0, 0)) (by (with_reducible repeat (first | refine qC ?_ _ | refine qD ?_ | refine qB ?_ _)); exact BK390.out) hb); have n1_ := Aside0.mk (qN (by repeat (first | (with_reducible first | exact HB.out | apply qE | apply qA | apply qF | refine qH ?_ GE390.out) | exact HB.out)) hb); have n2_ := Aside0.mk (hbox); have n3_ := Aside0.mk ((by rw [hg]; exact (qJ (by repeat (first | (with_reducible first | exact HB.out | apply qE | apply qA | apply qF | refine qH ?_ GE390.out) | exact HB.out))) : w.heap.size ≤ gb398)); have n4_ := Aside0.mk ((by rw [hg]; exact (qJ (by repeat (first | (with_reducible first | exact HB.out | apply qE | apply qA | apply qF | refine qH ?_ GE390.out) | exact HB.out))) : w.heap.size ≤ gb398)); have n5_ := Aside0.mk ((by rw [hg]; exact Nat.ne_of_lt (qZ (g := gb390) (o := .cells #[.int .i64 a1_0, .int .i64 a1_1, .int .i64 a1_2] 24 (0, 0)) (by (with_reducible repeat (first | refine qC ?_ _ | refine qD ?_ | refine qB ?_ _)); exact BK390.out)) : gb390 ≠ gb398)); have n6_ := Aside0.mk ((by rw [hg]; exact Nat.ne_of_gt (qZ (g := gb390) (o := .cells #[.int .i64 a1_0, .int .i64 a1_1, .int .i64 a1_2] 24 (0, 0)) (by (with_reducible repeat (first | refine qC ?_ _ | refine qD ?_ | refine qB ?_ _)); exact BK390.out)) : gb398 ≠ gb390)); clear BK390; clear HB; have BK390 := n0_; have HB := n1_; have BK398 := n2_; have GW398 := n3_; have GE398 := n4_; have NB390_398 := n5_; have NB398_390 := n6_; clear n0_ n1_ n2_ n3_ n4_ n5_ n6_; clear hb hbox hg; have hnb52 := NB398_390.out; have hnc52 := NB390_398.out; have hcz53_0 : w51.cell? ⟨gb398, 0, none⟩ = some (.int .i64 0) := (qI BK398.out 0).trans rfl; have hcz53_1 : w51.cell? ⟨gb398, 1, none⟩ = some (.int .i64 0) := (qI BK398.out 1).trans rfl; have hcz53_2 : w51.cell? ⟨gb398, 2, none⟩ = some (.int .i64 0) := (qI BK398.out 2).trans rfl; have hfz53_0 := qG BK398.out 0; have hfz53_1 := qG BK398.out 1; have hfz53_2 := qG BK398.out 2; have hcz54_0 : w51.cell? ⟨gb390, 0, none⟩ = some (.int .i64 a1_0) := (qI BK390.out 0).trans rfl; have hcz54_1 : w51.cell? ⟨gb390, 1, none⟩ = some (.int .i64 a1_1) := (qI BK390.out 1).trans rfl; have hcz54_2 : w51.cell? ⟨gb390, 2, none⟩ = some (.int .i64 a1_2) := (qI BK390.out 2).trans rfl; have hfz54_0 := qG BK390.out 0; have hfz54_1 := qG BK390.out 1; have hfz54_2 := qG BK390.out 2) | ((with_reducible refine qU (f := 20) rfl ?_); refine qo (some 28) rfl rfl Tryd.func20 (by kernel_rfl) rfl #[.agg #[.int .i64 a1_0, .int .i64 a1_1, .int .i64 a1_2]] rfl (by (try simp only [List.map_toArray, List.map_cons, List.map_nil]); first | done | rfl | (simp only [List.length_drop, List.length_take]; rfl)) ?_; (with_reducible refine (qAA.calls a1_0 a1_1 a1_2 t399 t400 t401 _ A10.out).mono ?_); rintro e w55 ⟨rfl, hb⟩; refine ⟨_, rfl, ?_⟩; have n0_ := Aside0.mk (qK (g := gb390) (o := .cells #[.int .i64 a1_0, .int .i64 a1_1, .int .i64 a1_2] 24 (0, 0)) (by (with_reducible repeat (first | refine qC ?_ _ | refine qD ?_ | refine qB ?_ _)); refine qT ?_ NB390_398.out _; (with_reducible repeat (first | refine qC ?_ _ | refine qD ?_ | refine qB ?_ _)); refine qT ?_ NB390_398.out _; (with_reducible repeat (first | refine qC ?_ _ | refine qD ?_ | refine qB ?_ _)); refine qT ?_ NB390_398.out _; (with_reducible repeat (first | refine qC ?_ _ | refine qD ?_ | refine qB ?_ _)); exact BK390.out) hb); have n1_ := Aside0.mk (qK (g := gb398) (o := .cells #[.int .i64 t394, .int .i64 t395, .int .i64 t396] 27 (0, 0)) (by (with_reducible repeat (first | refine qC ?_ _ | refine qD ?_ | refine qB ?_ _)); refine qO (cs := #[.int .i64 t394, .int .i64 t395, .int .i64 0]) ?_ 2 _ rfl; (with_reducible repeat (first | refine qC ?_ _ | refine qD ?_ | refine qB ?_ _)); refine qO (cs := #[.int .i64 t394, .int .i64 0, .int .i64 0]) ?_ 1 _ rfl; (with_reducible repeat (first | refine qC ?_ _ | refine qD ?_ | refine qB ?_ _)); refine qO (cs := #[.int .i64 0, .int .i64 0, .int .i64 0]) ?_ 0 _ rfl; (with_reducible repeat (first | refine qC ?_ _ | refine qD ?_ | refine qB ?_ _)); exact BK398.out) hb); have n2_ := Aside0.mk (qN (by repeat (first | (with_reducible first | exact HB.out | apply qE | apply qA | apply qF | refine qH ?_ GE390.out | refine qH ?_ GE398.out) | exact HB.out)) hb); clear BK390; clear BK398; clear HB; have BK390 := n0_; have BK398 := n1_; have HB := n2_; clear n0_ n1_ n2_; (try clear hb); (try clear hb2); (try clear hk); (try clear hi)) | ((with_reducible refine qU (f := 30) rfl ?_); refine qo (some 30) rfl rfl Tryd.func30 (by kernel_rfl) rfl #[.string a0, .agg #[.int .i64 t399, .int .i64 t400, .int .i64 t401], .string a2] rfl (by (try simp only [List.map_toArray, List.map_cons, List.map_nil]); first | done | rfl | (simp only [List.length_drop, List.length_take]; rfl)) ?_; (with_reducible refine (qa.calls k a0 t399 t400 t401 a2 t402 t403 t404 t405 _ ?side1 A11.out).mono ?_); (case side1 => first | exact HLD.out | exact Laid.below HLD.out (by repeat (first | (with_reducible first | exact HB.out | apply qE | apply qA | apply qF) | exact HB.out))); rintro e w56 ⟨rfl, hb⟩; refine ⟨_, rfl, ?_⟩; have n0_ := Aside0.mk (qK (g := gb390) (o := .cells #[.int .i64 a1_0, .int .i64 a1_1, .int .i64 a1_2] 24 (0, 0)) (by (with_reducible repeat (first | refine qC ?_ _ | refine qD ?_ | refine qB ?_ _)); exact BK390.out) hb); have n1_ := Aside0.mk (qK (g := gb398) (o := .cells #[.int .i64 t394, .int .i64 t395, .int .i64 t396] 27 (0, 0)) (by (with_reducible repeat (first | refine qC ?_ _ | refine qD ?_ | refine qB ?_ _)); exact BK398.out) hb); have n2_ := Aside0.mk (qN (by repeat (first | (with_reducible first | exact HB.out | apply qE | apply qA | apply qF | refine qH ?_ GE390.out | refine qH ?_ GE398.out) | exact HB.out)) hb); clear BK390; clear BK398; clear HB; have BK390 := n0_; have BK398 := n1_; have HB := n2_; clear n0_ n1_ n2_; (try clear hb); (try clear hb2); (try clear hk); (try clear hi)) | ((with_reducible refine qW (N := 9) rfl ?_); refine qV ?hg (N := 9) ?hd (cs := #[.int .i64 0, .int .i64 0, .int .i64 0]) (t := 27) ?hr ?_; (case hd => rfl); (case hg => rfl); (case hr => first | (go_simp; done) | (go_simp; rfl)); intro gb406 hg w57 hbox hb; have n0_ := Aside0.mk (qK (g := gb390) (o := .cells #[.int .i64 a1_0, .int .i64 a1_1, .int .i64 a1_2] 24 (0, 0)) (by (with_reducible repeat (first | refine qC ?_ _ | refine qD ?_ | refine qB ?_ _)); exact BK390.out) hb); have n1_ := Aside0.mk (qK (g := gb398) (o := .cells #[.int .i64 t394, .int .i64 t395, .int .i64 t396] 27 (0, 0)) (by (with_reducible repeat (first | refine qC ?_ _ | refine qD ?_ | refine qB ?_ _)); exact BK398.out) hb); have n2_ := Aside0.mk (qN (by repeat (first | (with_reducible first | exact HB.out | apply qE | apply qA | apply qF | refine qH ?_ GE390.out | refine qH ?_ GE398.out) | exact HB.out)) hb); have n3_ := Aside0.mk (hbox); have n4_ := Aside0.mk ((by rw [hg]; exact (qJ (by repeat (first | (with_reducible first | exact HB.out | apply qE | apply qA | apply qF | refine qH ?_ GE390.out | refine qH ?_ GE398.out) | exact HB.out))) : w.heap.size ≤ gb406)); have n5_ := Aside0.mk ((by rw [hg]; exact (qJ (by repeat (first | (with_reducible first | exact HB.out | apply qE | apply qA | apply qF | refine qH ?_ GE390.out | refine qH ?_ GE398.out) | exact HB.out))) : w.heap.size ≤ gb406)); have n6_ := Aside0.mk ((by rw [hg]; exact Nat.ne_of_lt (qZ (g := gb390) (o := .cells #[.int .i64 a1_0, .int .i64 a1_1, .int .i64 a1_2] 24 (0, 0)) (by (with_reducible repeat (first | refine qC ?_ _ | refine qD ?_ | refine qB ?_ _)); exact BK390.out)) : gb390 ≠ gb406)); have n7_ := Aside0.mk ((by rw [hg]; exact Nat.ne_of_gt (qZ (g := gb390) (o := .cells #[.int .i64 a1_0, .int .i64 a1_1, .int .i64 a1_2] 24 (0, 0)) (by (with_reducible repeat (first | refine qC ?_ _ | refine qD ?_ | refine qB ?_ _)); exact BK390.out)) : gb406 ≠ gb390)); have n8_ := Aside0.mk ((by rw [hg]; exact Nat.ne_of_lt (qZ (g := gb398) (o := .cells #[.int .i64 t394, .int .i64 t395, .int .i64 t396] 27 (0, 0)) (by (with_reducible repeat (first | refine qC ?_ _ | refine qD ?_ | refine qB ?_ _)); exact BK398.out)) : gb398 ≠ gb406)); have n9_ := Aside0.mk ((by rw [hg]; exact Nat.ne_of_gt (qZ (g := gb398) (o := .cells #[.int .i64 t394, .int .i64 t395, .int .i64 t396] 27 (0, 0)) (by (with_reducible repeat (first | refine qC ?_ _ | refine qD ?_ | refine qB ?_ _)); exact BK398.out)) : gb406 ≠ gb398)); clear BK390; clear BK398; clear HB; have BK390 := n0_; have BK398 := n1_; have HB := n2_; have BK406 := n3_; have GW406 := n4_; have GE406 := n5_; have NB390_406 := n6_; have NB406_390 := n7_; have NB398_406 := n8_; have NB406_398 := n9_; clear n0_ n1_ n2_ n3_ n4_ n5_ n6_ n7_ n8_ n9_; clear hb hbox hg; have hnb58 := NB406_390.out; have hnc58 := NB390_406.out; have hnb59 := NB406_398.out; have hnc59 := NB398_406.out; have hcz60_0 : w57.cell? ⟨gb406, 0, none⟩ = some (.int .i64 0) := (qI BK406.out 0).trans rfl; have hcz60_1 : w57.cell? ⟨gb406, 1, none⟩ = some (.int .i64 0) := (qI BK406.out 1).trans rfl; have hcz60_2 : w57.cell? ⟨gb406, 2, none⟩ = some (.int .i64 0) := (qI BK406.out 2).trans rfl; have hfz60_0 := qG BK406.out 0; have hfz60_1 := qG BK406.out 1; have hfz60_2 := qG BK406.out 2; have hcz61_0 : w57.cell? ⟨gb398, 0, none⟩ = some (.int .i64 t394) := (qI BK398.out 0).trans rfl; have hcz61_1 : w57.cell? ⟨gb398, 1, none⟩ = some (.int .i64 t395) := (qI BK398.out 1).trans rfl; have hcz61_2 : w57.cell? ⟨gb398, 2, none⟩ = some (.int .i64 t396) := (qI BK398.out 2).trans rfl; have hfz61_0 := qG BK398.out 0; have hfz61_1 := qG BK398.out 1; have hfz61_2 := qG BK398.out 2) | ((with_reducible refine qU (f := 26) rfl ?_); refine qo (some 35) rfl rfl Tryd.func26 (by kernel_rfl) rfl #[.agg #[.int .i64 t402, .int .i64 t403, .int .i64 t404], .agg #[.int .i64 t394, .int .i64 t395, .int .i64 t396]] rfl (by (try simp only [List.map_toArray, List.map_cons, List.map_nil]); first | done | rfl | (simp only [List.length_drop, List.length_take]; rfl)) ?_; (with_reducible refine (qEA.calls t402 t403 t404 t394 t395 t396 false _ A12.out).mono ?_); rintro e w62 ⟨rfl, hb⟩; refine ⟨_, rfl, ?_⟩; have n0_ := Aside0.mk (qK (g := gb390) (o := .cells #[.int .i64 a1_0, .int .i64 a1_1, .int .i64 a1_2] 24 (0, 0)) (by (with_reducible repeat (first | refine qC ?_ _ | refine qD ?_ | refine qB ?_ _)); refine qT ?_ NB390_406.out _; (with_reducible repeat (first | refine qC ?_ _ | refine qD ?_ | refine qB ?_ _)); refine qT ?_ NB390_406.out _; (with_reducible repeat (first | refine qC ?_ _ | refine qD ?_ | refine qB ?_ _)); refine qT ?_ NB390_406.out _; (with_reducible repeat (first | refine qC ?_ _ | refine qD ?_ | refine qB ?_ _)); exact BK390.out) hb); have n1_ := Aside0.mk (qK (g := gb398) (o := .cells #[.int .i64 t394, .int .i64 t395, .int .i64 t396] 27 (0, 0)) (by (with_reducible repeat (first | refine qC ?_ _ | refine qD ?_ | refine qB ?_ _)); refine qT ?_ NB398_406.out _; (with_reducible repeat (first | refine qC ?_ _ | refine qD ?_ | refine qB ?_ _)); refine qT ?_ NB398_406.out _; (with_reducible repeat (first | refine qC ?_ _ | refine qD ?_ | refine qB ?_ _)); refine qT ?_ NB398_406.out _; (with_reducible repeat (first | refine qC ?_ _ | refine qD ?_ | refine qB ?_ _)); exact BK398.out) hb); have n2_ := Aside0.mk (qK (g := gb406) (o := .cells #[.int .i64 t402, .int .i64 t403, .int .i64 t404] 27 (0, 0)) (by (with_reducible repeat (first | refine qC ?_ _ | refine qD ?_ | refine qB ?_ _)); refine qO (cs := #[.int .i64 t402, .int .i64 t403, .int .i64 0]) ?_ 2 _ rfl; (with_reducible repeat (first | refine qC ?_ _ | refine qD ?_ | refine qB ?_ _)); refine qO (cs := #[.int .i64 t402, .int .i64 0, .int .i64 0]) ?_ 1 _ rfl; (with_reducible repeat (first | refine qC ?_ _ | refine qD ?_ | refine qB ?_ _)); refine qO (cs := #[.int .i64 0, .int .i64 0, .int .i64 0]) ?_ 0 _ rfl; (with_reducible repeat (first | refine qC ?_ _ | refine qD ?_ | refine qB ?_ _)); exact BK406.out) hb); have n3_ := Aside0.mk (qN (by repeat (first | (with_reducible first | exact HB.out | apply qE | apply qA | apply qF | refine qH ?_ GE390.out | refine qH ?_ GE398.out | refine qH ?_ GE406.out) | exact HB.out)) hb); clear BK390; clear BK398; clear BK406; clear HB; have BK390 := n0_; have BK398 := n1_; have BK406 := n2_; have HB := n3_; clear n0_ n1_ n2_ n3_; (try clear hb); (try clear hb2); (try clear hk); (try clear hi)))
    go_ret
    exact ⟨by first | rfl | (simp [qM, qL] <;> rfl) | (simp [*, qM, qL] <;> rfl), by repeat (first | (with_reducible first | exact HB.out | apply qE | apply qA | apply qF | refine qH ?_ GE390.out | refine qH ?_ GE398.out | refine qH ?_ GE406.out) | exact HB.out)⟩
def qy.Pure : Prop := ∀ (a0 : ByteArray) (a1_0 : Int) (a1_1 : Int) (a1_2 : Int) (a2 : ByteArray), a0.size ≤ 140737488351232 → (Lit.int .i64 a1_0).wf = true → (Lit.int .i64 a1_1).wf = true → (Lit.int .i64 a1_2).wf = true → a2.size ≤ 140737488351232 → ∃ k, qy.f k a0 a1_0 a1_1 a1_2 a2 = some true
end Go.Proofs.YtbpfhpjbeomfcaaDoor.P
namespace Go.Proofs.YtbpfhpjbeomfcaaDoor
open Go.ChangeShapes Go.WideShapes Go.Deep Go.RowKit Go.Proofs.YtbpfhpjbeomfcaaDoorW.PrintWords
set_option linter.unusedVariables false
set_option linter.unusedSimpArgs false
theorem list_of_3 : ∀ zs : List Int, zs.length = 3 → ∃ x0 x1 x2 : Int, zs = [x0, x1, x2]
 | [x0, x1, x2], _ => ⟨x0, x1, x2, rfl⟩
def laidB (P : Program) : List Field → Nat → Nat → Bool
 | [], o, n => decide (o = n)
 | f :: fs, o, n => decide (f.offset = o) && laidB P fs (o + P.cellsOf f.type) n
def flatB (P : Program) : Nat → TypeId → Bool
 | 0, _ => false
 | m + 1, t => match P.underlying t with
  | some (.int .i64) => decide (P.cellsOf t = 1)
  | some (.struct fs) => laidB P fs.toList 0 (P.cellsOf t) && fs.toList.all fun f => flatB P m f.type
  | _ => false
section
variable {H : Type} {enc : TypeId × Value → H} {P : Program} {w : World} {base : Nat} {spare : Nat → Bool} {held : Bool}
theorem fields_flat {n : Nat} (cs : List Value) (rd : TypeId → List Value → Option (DataW H × List MemPlace)) :
  ∀ (fs : List Field) (o : Nat) (xs : List (DataW H × List MemPlace)), laidB P fs o n = true → xs.length = fs.length →
   (∀ (i : Nat) (f : Field), fs[i]? = some f → rd f.type ((cs.drop f.offset).take (P.cellsOf f.type)) = xs[i]?) →
   (∀ f ∈ fs, ∀ cs' x, rd f.type cs' = some x → cs'.length = P.cellsOf f.type ∧ ∃ zs : List Int, cs' = zs.map (Value.int .i64) ∧ ∀ z ∈ zs, (Lit.int .i64 z).wf = true) →
   o ≤ n ∧ ∃ zs : List Int, (cs.drop o).take (n - o) = zs.map (Value.int .i64) ∧ ∀ z ∈ zs, (Lit.int .i64 z).wf = true
 | [], o, xs, hl, hx, hr, hi => by
  have : o = n := by simpa [laidB] using hl
  subst this
  exact ⟨Nat.le_refl _, [], by simp, by simp⟩
 | f :: fs, o, xs, hl, hx, hr, hi => by
  simp only [laidB, Bool.and_eq_true, decide_eq_true_eq] at hl
  obtain ⟨ho, hl⟩ := hl
  match xs, hx with
  | x :: xs, hx =>
   have h0 := hr 0 f rfl
   rw [ho] at h0
   obtain ⟨hlen, zs, hz, hw⟩ := hi f (by simp) _ x h0
   obtain ⟨hle, ws, hw2, hw3⟩ := fields_flat cs rd fs (o + P.cellsOf f.type) xs hl (by simpa using hx) (fun i g hg => by have := hr (i + 1) g (by simpa using hg); simpa using this) (fun g hg => hi g (by simp [hg]))
   refine ⟨by omega, zs ++ ws, ?_, fun z hz' => ?_⟩
   ·rw [List.map_append, ← hz, ← hw2, ← List.drop_drop, show n - o = P.cellsOf f.type + (n - (o + P.cellsOf f.type)) by omega, List.take_add]
   ·rcases List.mem_append.1 hz' with h | h
    ·exact hw z h
    ·exact hw3 z h
theorem trod_flat (m : Nat) : ∀ {t : TypeId} {fuel : Nat} {cs : List Value} {x : DataW H × List MemPlace}, flatB P m t = true → DataW.trod enc P w base spare held fuel t cs = some x → (∃ k, P.underlying t = some (.int k)) → cs.length = 1 ∧ ∃ zs : List Int, cs = zs.map (Value.int .i64) ∧ ∀ z ∈ zs, (Lit.int .i64 z).wf = true := by
 intro t fuel cs x hf h ⟨k, hk⟩
 cases m with
 | zero => simp [flatB] at hf
 | succ m =>
  unfold flatB at hf
  rw [hk] at hf
  have : k = .i64 := by
   cases k <;> first | rfl | (simp at hf)
  subst this
  obtain ⟨n, rfl, _, hw⟩ := DataW.trod_int hk h
  exact ⟨rfl, [n], rfl, by simpa using hw⟩
theorem trod_flat_all (m : Nat) : ∀ {t : TypeId} {fuel : Nat} {cs : List Value} {x : DataW H × List MemPlace}, flatB P m t = true → DataW.trod enc P w base spare held fuel t cs = some x →
  cs.length = P.cellsOf t ∧ ∃ zs : List Int, cs = zs.map (Value.int .i64) ∧ ∀ z ∈ zs, (Lit.int .i64 z).wf = true := by
 induction m with
 | zero => intro t fuel cs x hf h; simp [flatB] at hf
 | succ m ih =>
  intro t fuel cs x hf h
  have hf0 := hf
  unfold flatB at hf
  split at hf
  ·rename_i hu
   obtain ⟨hl, hz⟩ := trod_flat (m + 1) hf0 h ⟨_, hu⟩
   exact ⟨by rw [hl, of_decide_eq_true hf], hz⟩
  ·rename_i fs hu
   rw [Bool.and_eq_true, List.all_eq_true] at hf
   obtain ⟨hl, ha⟩ := hf
   obtain ⟨xs, n, _, _, hlen, hxl, hg⟩ := DataW.trod_struct hu h
   obtain ⟨_, zs, hz, hw⟩ := fields_flat (n := P.cellsOf t) cs (fun t cs => DataW.trod enc P w base spare held n t cs) fs.toList 0 xs hl (by simpa using hxl)
    (fun i f hf => hg i f (by simpa using hf)) (fun f hf cs' x hx => ih (ha f hf) hx)
   refine ⟨hlen, zs, ?_, hw⟩
   rw [← hz, List.drop_zero, Nat.sub_zero, ← hlen, List.take_length]
  ·cases hf
theorem open_flat {r : Reach} {b0 m : Nat} {t : TypeId} {fs : Array Field} {v : Value} {d : DataW H} {p : List MemPlace} (hu : P.underlying t = some (.struct fs)) (hf : flatB P m t = true)
  (hv : Value.okWide P w r b0 t v) (h : DataW.Trod enc P w base spare held t v d p) : ∃ zs : List Int, v = .agg (zs.map (Value.int .i64)).toArray ∧ zs.length = P.cellsOf t ∧ ∀ z ∈ zs, (Lit.int .i64 z).wf = true := by
 obtain ⟨cs, rfl, hsz⟩ := okWide_struct hu hv
 obtain ⟨fuel, hf'⟩ := h
 obtain ⟨hl, zs, hz, hw⟩ := trod_flat_all m hf hf'
 simp only [Value.cells] at hz hl
 refine ⟨zs, ?_, by rw [← hl, hz, List.length_map], hw⟩
 rw [← hz]
end
end Go.Proofs.YtbpfhpjbeomfcaaDoor
namespace Go.Proofs.YtbpfhpjbeomfcaaDoor
open Go.RowKit Go.Proofs.YtbpfhpjbeomfcaaDoorW.PrintWords Go.Proofs.YtbpfhpjbeomfcaaDoorW.PrintLast
set_option linter.unusedVariables false
set_option linter.unusedSimpArgs false
theorem Ev.at_ {α : Type} {g : Nat → Option α} {r : α} (n : Nat) (h : ∀ k, g (k + n) = some r) : Ev g r := ⟨n, fun k hk => by
 obtain ⟨m, rfl⟩ : ∃ m, k = m + n := ⟨k - n, by omega⟩
 exact h m⟩
theorem Ev.pos {α : Type} {c : Prop} [Decidable c] {g f : Nat → Option α} {r : α} (hc : c) (h : Ev g r) : Ev (fun k => if c then g k else f k) r := h.congr fun k => if_pos hc
theorem Ev.neg {α : Type} {c : Prop} [Decidable c] {g f : Nat → Option α} {r : α} (hc : ¬ c) (h : Ev f r) : Ev (fun k => if c then g k else f k) r := h.congr fun k => if_neg hc
theorem Ev.some_ {α : Type} {a r : α} (h : a = r) : Ev (fun _ => some a) r := ⟨0, fun _ _ => by rw [h]⟩
theorem Ev.bindc {α β : Type} {o : Option α} {f : Nat → α → Option β} {a : α} {r : β} (h : o = some a) (k : Ev (fun n => f n a) r) : Ev (fun n => o.bind (f n)) r := k.congr fun n => by rw [h]; rfl
end Go.Proofs.YtbpfhpjbeomfcaaDoor
namespace Go.Proofs.YtbpfhpjbeomfcaaDoor
open Go.RowKit Go.Proofs.YtbpfhpjbeomfcaaDoorW.PrintWords Go.Proofs.YtbpfhpjbeomfcaaDoorW.PrintLast
set_option linter.unusedVariables false
set_option linter.unusedSimpArgs false
def sp (c : UInt8) : List UInt8 → List UInt8 × List (List UInt8)
 | [] => ([], [])
 | b :: r => if b = c then ([], (sp c r).1 :: (sp c r).2) else (b :: (sp c r).1, (sp c r).2)
theorem splitK_sp (c : UInt8) (l : List UInt8) : Lib.splitK [c] 0 (Lib.count l [c]) l = (sp c l).1 :: (sp c l).2 := by
 induction l with
 | nil =>
  have : Lib.count [] [c] = 0 := by rw [Lib.count_one]; rfl
  rw [this]; rfl
 | cons b l ih =>
  by_cases h : b = c
  ·subst h
   have hix : Lib.index (b :: l) [b] = 0 := by rw [Lib.index]; simp [List.isPrefixOf]
   rw [Lib.count_cons_eq, show 1 + Lib.count l [b] = Lib.count l [b] + 1 by omega, Lib.splitK, hix]
   simp only [sp, if_true]
   rw [if_neg (by decide), ← ih]
   rfl
  ·have hp : ([c] : List UInt8).isPrefixOf (b :: l) = false := by simp [List.isPrefixOf, Ne.symm h]
   have hix : Lib.index (b :: l) [c] = if Lib.index l [c] == -1 then -1 else Lib.index l [c] + 1 := by rw [Lib.index, hp]; simp
   rw [Lib.count_cons_ne b c l h]
   simp only [sp, if_neg h]
   by_cases hm : Lib.index l [c] = -1
   ·have h0 : Lib.count l [c] = 0 := Lib.count_miss hm
    rw [h0] at ih ⊢
    simp only [Lib.splitK] at ih ⊢
    injection ih with e1 e2
    rw [← e1, ← e2]
   ·have hge := Lib.index_ge l [c]
    obtain ⟨j, hj⟩ : ∃ j : Nat, Lib.index l [c] = j := ⟨(Lib.index l [c]).toNat, by omega⟩
    have hc := Lib.count_hit (sub := [c]) (by simp) hj
    obtain ⟨k, hk⟩ : ∃ k, Lib.count l [c] = k + 1 := ⟨Lib.count l [c] - 1, by omega⟩
    rw [hk] at ih ⊢
    have hne : ¬ ((j : Int) == -1) = true := by intro e; have := beq_iff_eq.1 e; omega
    have hne' : ¬ ((j : Int) + 1 == -1) = true := by intro e; have := beq_iff_eq.1 e; omega
    rw [Lib.splitK, hj, if_neg hne] at ih
    rw [Lib.splitK, hix, hj, if_neg hne, if_neg hne']
    have e1 : ((j : Int) + 1).toNat = j + 1 := by omega
    rw [e1]
    simp only [Int.toNat_natCast, Nat.add_zero, List.length_singleton] at ih ⊢
    injection ih with i1 i2
    rw [← i1, ← i2]
    rfl
theorem split_sp (a : ByteArray) (c : UInt8) : (Lib.splitB ⟨#[c]⟩ 0 (Lib.countB a ⟨#[c]⟩) a).map (·.data.toList) = (sp c a.data.toList).1 :: (sp c a.data.toList).2 := by
 rw [Lib.splitB_data]
 exact splitK_sp c a.data.toList
theorem qIB (c : UInt8) (l : List UInt8) : l.length = (sp c l).1.length + ((sp c l).2.map List.length).sum + (sp c l).2.length := by
 induction l with
 | nil => rfl
 | cons b l ih =>
  by_cases h : b = c
  ·simp only [sp, if_pos h, List.length_cons, List.length_nil, List.map_cons, List.sum_cons]; omega
  ·simp only [sp, if_neg h, List.length_cons]; omega
theorem sp_all (c : UInt8) (p : UInt8 → Bool) (l : List UInt8) (hp : p c = false) : ((sp c l).1.all p && (sp c l).2.all (·.all p)) = l.all fun b => b == c || p b := by
 induction l with
 | nil => rfl
 | cons b l ih =>
  by_cases h : b = c
  ·subst h
   simp only [sp, if_true, List.all_nil, Bool.true_and, List.all_cons, ih, beq_self_eq_true, Bool.true_or]
  ·have : (b == c) = false := by simpa using h
   simp only [sp, if_neg h, List.all_cons, Bool.and_assoc, ih, this, Bool.false_or]
theorem qdA {p : UInt8 → Bool} {e : UInt8} (he : p e = false) : ∀ l : List UInt8, e ∈ l → e ∈ l.dropWhile p
 | [], h => h
 | b :: l, h => by
  rw [List.dropWhile_cons]
  split
  ·rename_i hb
   rcases List.mem_cons.1 h with rfl | h
   ·rw [he] at hb; cases hb
   ·exact qdA he l h
  ·exact h
theorem dropWhile_all {p : UInt8 → Bool} : ∀ l : List UInt8, l.all p = true → l.dropWhile p = []
 | [], _ => rfl
 | b :: l, h => by
  rw [List.all_cons, Bool.and_eq_true] at h
  rw [List.dropWhile_cons, if_pos h.1]
  exact dropWhile_all l h.2
theorem trimS_nil (l cs : List UInt8) : (Lib.trimS l cs = []) ↔ l.all (cs.contains ·) = true := by
 unfold Lib.trimS Lib.trimLeftS Lib.trimRightS
 constructor
 ·intro h
  rw [List.all_eq_true]
  intro e he
  cases hc : cs.contains e with
  | true => rfl
  | false =>
   have h1 := qdA (p := (cs.contains ·)) (e := e) hc l.reverse (by simpa using he)
   have h2 := qdA (p := (cs.contains ·)) (e := e) hc (l.reverse.dropWhile (cs.contains ·)).reverse (by simpa using h1)
   rw [h] at h2; cases h2
 ·intro h
  rw [dropWhile_all l.reverse (by rw [List.all_reverse]; exact h)]
  rfl
end Go.Proofs.YtbpfhpjbeomfcaaDoor
namespace Go.Proofs.YtbpfhpjbeomfcaaDoor
open Go.RowKit Go.Proofs.YtbpfhpjbeomfcaaDoor.P Go.Proofs.YtbpfhpjbeomfcaaDoorW.PrintWords Go.Proofs.YtbpfhpjbeomfcaaDoorW.PrintLast
set_option linter.unusedVariables false
set_option linter.unusedSimpArgs false
theorem qBB (n a b : Int) : qBA.f n a b = some (decide (a ≤ n) && decide (n ≤ b)) := by
 unfold qBA.f
 by_cases h : a ≤ n
 ·rw [if_pos h, decide_eq_true h, Bool.true_and]
 ·rw [if_neg h, decide_eq_false h, Bool.false_and]
theorem qSB (l : List ByteArray) (i : Nat) (h : i < l.length) : rdOf ByteArray.empty l (i : Int) = l[i] := by
 unfold rdOf
 rw [Int.toNat_natCast, List.getD_eq_getElem?_getD, List.getElem?_eq_getElem h]; rfl
theorem qhA (s : ByteArray) : s.data.toList.length = s.size := by rw [Array.length_toList]; rfl
theorem gr_bt (s : ByteArray) (i : Nat) (h : i < s.data.toList.length) : bt s (i : Int) = ((s.data.toList[i]).toNat : Int) := by
 have h' : i < s.size := by rw [← qhA]; exact h
 unfold bt
 rw [dif_pos (by simpa using h')]
 simp only [Int.toNat_natCast, Array.getElem_toList]
 rfl
def fitR (C : List UInt8) (w : Nat) (r : List UInt8) : Bool := decide (r.length = w) && r.all (C.contains ·)
def szR (w h : Nat) : Bool := decide (1 ≤ h) && decide (h ≤ 7) && decide (1 ≤ w) && decide (w ≤ 7) && decide (w * h ≤ 36)
theorem rowsOf_loop (C : ByteArray) (hC : C.size < 100) (hA : (C.data.toList.all fun b => decide (b.toNat < 128)) = true) (w : Nat) (hw : w ≤ 4294967281) (L : List ByteArray) (hL : L.length ≤ 4294967281) (hs : ∀ x ∈ L, x.size ≤ 4294967281) (d : Nat) : ∀ i : Nat, i ≤ L.length → L.length - i = d →
  Ev (fun k => qq.l0 k C (w : Int) L (L.length : Int) (i : Int)) (if (L.drop i).all (fun x => fitR C.data.toList w x.data.toList) then (L, szR w L.length) else ([], false)) := by
 induction d with
 | zero =>
  intro i hi hd
  refine Ev.step (f := fun k => _) (fun k => by rw [qq.l0]) ?_
  refine Ev.neg (by omega) (Ev.bindc (qBB _ _ _) ?_)
  rw [List.drop_eq_nil_of_le (by omega), List.all_nil, if_pos rfl]
  by_cases h1 : 1 ≤ L.length ∧ L.length ≤ 7
  ·have e1 : (decide ((1 : Int) ≤ (L.length : Int)) && decide ((L.length : Int) ≤ 7)) = true := by rw [decide_eq_true (by omega), decide_eq_true (by omega)]; rfl
   refine Ev.pos e1 (Ev.bindc (qBB _ _ _) ?_)
   by_cases h2 : 1 ≤ w ∧ w ≤ 7
   ·have e2 : (decide ((1 : Int) ≤ (w : Int)) && decide ((w : Int) ≤ 7)) = true := by rw [decide_eq_true (by omega), decide_eq_true (by omega)]; rfl
    refine Ev.pos e2 (Ev.some_ ?_)
    have hm : w * L.length ≤ 7 * 7 := Nat.mul_le_mul h2.2 h1.2
    have hc : ((w : Int) * (L.length : Int)) = ((w * L.length : Nat) : Int) := by push_cast; rfl
    rw [hc]
    generalize hn : w * L.length = n at *
    have ew : wrap64 (n : Int) = (n : Int) := by unfold wrap64; omega
    rw [ew]
    have : szR w L.length = decide (n ≤ 36) := by
     unfold szR
     rw [hn, decide_eq_true h1.1, decide_eq_true h1.2, decide_eq_true h2.1, decide_eq_true h2.2]; rfl
    rw [this]
    congr 1
    exact decide_eq_decide.2 (by omega)
   ·refine Ev.neg (by simp only [Bool.and_eq_true, decide_eq_true_eq]; omega) (Ev.some_ ?_)
    have : szR w L.length = false := by
     unfold szR
     simp only [Bool.and_eq_false_iff, decide_eq_false_iff_not]; omega
    rw [this]
  ·refine Ev.neg (by simp only [Bool.and_eq_true, decide_eq_true_eq]; omega) (Ev.some_ ?_)
   have : szR w L.length = false := by
    unfold szR
    simp only [Bool.and_eq_false_iff, decide_eq_false_iff_not]; omega
   rw [this]
 | succ d ih =>
  intro i hi hd
  have h : i < L.length := by omega
  refine Ev.step (f := fun k => _) (fun k => by rw [qq.l0]) ?_
  refine Ev.pos (by omega) (Ev.pos (by omega) (Ev.pos (by omega) ?_))
  rw [qSB L i h, List.drop_eq_getElem_cons h, List.all_cons, show wrap64 ((i : Int) + 1) = ((i + 1 : Nat) : Int) by unfold wrap64; omega]
  have hsz := hs _ (List.getElem_mem h)
  have ihh := ih (i + 1) (by omega) (by omega)
  generalize L[i] = x at *
  by_cases hx : x.size = w
  ·refine Ev.pos (by omega) (Ev.bindc (show qMA.f x C = some _ from by unfold qMA.f; rw [if_pos ⟨by omega, by omega, hA⟩]) ?_)
   have ht : (⟨(Lib.trimS x.data.toList C.data.toList).toArray⟩ : ByteArray).toList = Lib.trimS x.data.toList C.data.toList := by
    rw [Lib.toList_data]
   by_cases hal : x.data.toList.all (C.data.toList.contains ·) = true
   ·refine Ev.pos (by rw [ht]; exact (trimS_nil _ _).2 hal) ?_
    have : fitR C.data.toList w x.data.toList = true := by
     unfold fitR
     rw [hal, Bool.and_true, decide_eq_true (by rw [qhA]; exact hx)]
    rw [this, Bool.true_and]
    exact ihh
   ·refine Ev.neg (by rw [ht]; exact fun e => hal ((trimS_nil _ _).1 e)) (Ev.some_ ?_)
    have : fitR C.data.toList w x.data.toList = false := by
     unfold fitR
     rw [Bool.eq_false_iff.2 hal, Bool.and_false]
    rw [this]; rfl
  ·refine Ev.neg (by omega) (Ev.some_ ?_)
   have : fitR C.data.toList w x.data.toList = false := by
    unfold fitR
    rw [decide_eq_false (by rw [qhA]; exact hx), Bool.false_and]
   rw [this]; rfl
def rowsT (a : ByteArray) : List ByteArray := Lib.splitB ⟨#[47]⟩ 0 (Lib.countB a ⟨#[47]⟩) a
theorem qlA (a : ByteArray) : (rowsT a).map (·.data.toList) = (sp 47 a.data.toList).1 :: (sp 47 a.data.toList).2 := split_sp a 47
def wideT (a : ByteArray) : Nat := (sp 47 a.data.toList).1.length
def highT (a : ByteArray) : Nat := (sp 47 a.data.toList).2.length + 1
theorem qjA (a : ByteArray) : (rowsT a).length = highT a := by
 have := congrArg List.length (qlA a)
 simpa [highT] using this
def rowsFit (C : List UInt8) (a : ByteArray) : Bool := ((sp 47 a.data.toList).1 :: (sp 47 a.data.toList).2).all (fitR C (wideT a))
theorem sum_le_mem (l : List Nat) : ∀ x ∈ l, x ≤ l.sum := by
 induction l with
 | nil => intro x h; cases h
 | cons b l ih =>
  intro x h
  rw [List.sum_cons]
  rcases List.mem_cons.1 h with rfl | h
  ·omega
  ·have := ih x h; omega
theorem rowsT_size (a : ByteArray) : ∀ x ∈ rowsT a, x.size ≤ a.size := by
 intro x hx
 have h1 : x.data.toList ∈ (rowsT a).map (·.data.toList) := List.mem_map_of_mem hx
 rw [qlA] at h1
 have h2 := qIB 47 a.data.toList
 rw [qhA] at h2
 rw [← qhA x]
 rcases List.mem_cons.1 h1 with h | h
 ·rw [h]; omega
 ·have := sum_le_mem _ _ (List.mem_map_of_mem (f := List.length) h); omega
theorem rowsOf_ev (a C : ByteArray) (ha : a.size ≤ 1048576) (hC : C.size < 100) (hA : (C.data.toList.all fun b => decide (b.toNat < 128)) = true) :
  Ev (fun k => qq.f k a C) (if rowsFit C.data.toList a then (rowsT a, szR (wideT a) (highT a)) else ([], false)) := by
 unfold qq.f
 refine Ev.bindc (show strings_Split.f a ⟨#[47]⟩ = some (rowsT a) from by unfold strings_Split.f; rw [if_pos ⟨by omega, by decide⟩]; rfl) ?_
 have hlen := qjA a
 have hl2 := qIB 47 a.data.toList
 rw [qhA] at hl2
 have hh : highT a ≤ a.size + 1 := by unfold highT; omega
 have h0 : 0 < (rowsT a).length := by rw [hlen]; unfold highT; omega
 refine Ev.pos (by omega) ?_
 have e0 : rdOf ByteArray.empty (rowsT a) 0 = (rowsT a)[0] := qSB (rowsT a) 0 h0
 have e1 : ((rowsT a)[0]).size = wideT a := by
  have := qlA a
  have h2 : ((rowsT a).map (·.data.toList))[0]'(by simpa using h0) = (sp 47 a.data.toList).1 := by
   simp only [this, List.getElem_cons_zero]
  rw [List.getElem_map] at h2
  rw [← qhA, h2]; rfl
 rw [e0, e1]
 have hw : wideT a ≤ a.size := by rw [← e1]; exact rowsT_size a _ (List.getElem_mem h0)
 have := rowsOf_loop C hC hA (wideT a) (by omega) (rowsT a) (by omega) (fun x hx => by have := rowsT_size a x hx; omega) (rowsT a).length 0 (by omega) (by omega)
 rw [List.drop_zero] at this
 have e2 : (rowsT a).all (fun x => fitR C.data.toList (wideT a) x.data.toList) = rowsFit C.data.toList a := by
  unfold rowsFit
  rw [← qlA, List.all_map]; rfl
 rw [e2] at this
 rw [← hlen]
 exact this
end Go.Proofs.YtbpfhpjbeomfcaaDoor
namespace Go.Proofs.YtbpfhpjbeomfcaaDoor
open Go.RowKit Go.Proofs.YtbpfhpjbeomfcaaDoor.P Go.Proofs.YtbpfhpjbeomfcaaDoorW.PrintWords Go.Proofs.YtbpfhpjbeomfcaaDoorW.PrintLast
set_option linter.unusedVariables false
set_option linter.unusedSimpArgs false
abbrev RdG := Int × Int × List Int × Bool
def badG : RdG := (0, 0, [], false)
def finG (ho w h : Nat) (cs : List Int) : RdG := if 7 < w then badG else if 7 < h then badG else if 36 < cs.length then badG else if 1 < ho then badG else ((w : Int), (h : Int), cs, true)
def runG : List UInt8 → Nat → Nat → Nat → Nat → List Int → RdG
 | [], x, ho, w, h, cs => if (0 < h ∧ x ≠ w) ∨ x = 0 then badG else finG ho x (h + 1) cs
 | c :: r, x, ho, w, h, cs =>
  if c = 47 then (if (0 < h ∧ x ≠ w) ∨ x = 0 then badG else runG r 0 ho x (h + 1) cs)
  else if c = 46 ∨ c = 35 ∨ c = 45 then runG r (x + 1) ho w h (cs ++ [(c.toNat : Int)])
  else if c = 111 then runG r (x + 1) (ho + 1) w h (cs ++ [(c.toNat : Int)])
  else badG
theorem u8eq (c : UInt8) (n : Nat) (hn : n < 256) : ((c.toNat : Int) = (n : Int)) ↔ c = UInt8.ofNat n := by
 constructor
 ·intro h
  have : c.toNat = n := by omega
  rw [← this]; simp
 ·intro h
  subst h
  simp; omega
theorem bx_end (a : ByteArray) (ha : a.size ≤ 42) (ho w h : Nat) (cs : List Int) : Ev (fun k => qR.l0 k a 0 (ho : Int) ((a.size : Int) + 1) (w : Int) (h : Int) cs) (finG ho w h cs) := by
 refine Ev.step (f := fun k => _) (fun k => by rw [qR.l0]) ?_
 refine Ev.neg (by omega) ?_
 unfold finG
 by_cases h1 : 7 < w
 ·rw [if_pos h1]; exact Ev.pos (by omega) (Ev.now _)
 rw [if_neg h1]; refine Ev.neg (by omega) ?_
 by_cases h2 : 7 < h
 ·rw [if_pos h2]; exact Ev.pos (by omega) (Ev.now _)
 rw [if_neg h2]; refine Ev.neg (by omega) ?_
 by_cases h3 : 36 < cs.length
 ·rw [if_pos h3]; exact Ev.pos (by omega) (Ev.now _)
 rw [if_neg h3]; refine Ev.neg (by omega) ?_
 by_cases h4 : 1 < ho
 ·rw [if_pos h4]; exact Ev.pos (by omega) (Ev.now _)
 rw [if_neg h4]; exact Ev.neg (by omega) (Ev.now _)
theorem bx_sep (a : ByteArray) (i x ho w h : Nat) (cs : List Int) (hx : x ≤ 100) (hh : h ≤ 100) (hi : i ≤ 100) (R : RdG)
  (hR : Ev (fun k => qR.l0 k a 0 (ho : Int) ((i : Int) + 1) (x : Int) ((h + 1 : Nat) : Int) cs) R) :
  Ev (fun k => qR.j1 k a (x : Int) (ho : Int) (i : Int) false (w : Int) (h : Int) cs) (if (0 < h ∧ x ≠ w) ∨ x = 0 then badG else R) := by
 have w1 : wrap64 ((i : Int) + 1) = (i : Int) + 1 := by unfold wrap64; omega
 have w2 : wrap64 ((h : Int) + 1) = ((h + 1 : Nat) : Int) := by unfold wrap64; omega
 refine Ev.step (f := fun k => _) (fun k => by rw [qR.j1]) ?_
 refine Ev.neg (by decide) ?_
 rw [w1, w2]
 by_cases h1 : 0 < h
 ·refine Ev.pos (by omega) ?_
  by_cases h2 : x = w
  ·refine Ev.pos (by omega) ?_
   by_cases h3 : x = 0
   ·rw [if_pos (.inr h3)]; exact Ev.pos (by omega) (Ev.now _)
   ·rw [if_neg (by omega)]; exact Ev.neg (by omega) hR
  ·rw [if_pos (.inl ⟨h1, h2⟩)]; exact Ev.neg (by omega) (Ev.now _)
 ·refine Ev.neg (by omega) ?_
  by_cases h3 : x = 0
  ·rw [if_pos (.inr h3)]; exact Ev.pos (by omega) (Ev.now _)
  ·rw [if_neg (by omega)]; exact Ev.neg (by omega) hR
theorem bx_loop (a : ByteArray) (ha : a.size ≤ 42) (d : Nat) : ∀ (i x ho w h : Nat) (cs : List Int), i ≤ a.size → a.size - i = d → x ≤ i → ho ≤ i → h ≤ i → cs.length ≤ i →
  Ev (fun k => qR.l0 k a (x : Int) (ho : Int) (i : Int) (w : Int) (h : Int) cs) (runG (a.data.toList.drop i) x ho w h cs) := by
 have hsz := qhA a
 induction d with
 | zero =>
  intro i x ho w h cs hi hd hx hho hh hc
  obtain rfl : i = a.size := by omega
  refine Ev.step (f := fun k => _) (fun k => by rw [qR.l0]) ?_
  refine Ev.pos (by omega) (Ev.neg (by omega) ?_)
  rw [List.drop_eq_nil_of_le (by omega), runG]
  exact bx_sep a a.size x ho w h cs (by omega) (by omega) (by omega) _ (bx_end a ha ho x (h + 1) cs)
 | succ d ih =>
  intro i x ho w h cs hi hd hx hho hh hc
  have hl : i < a.data.toList.length := by omega
  have e1 : ((i : Int) + 1) = ((i + 1 : Nat) : Int) := by omega
  have w1 : wrap64 ((i : Int) + 1) = ((i + 1 : Nat) : Int) := by unfold wrap64; omega
  have w2 : wrap64 ((x : Int) + 1) = ((x + 1 : Nat) : Int) := by unfold wrap64; omega
  have w3 : wrap64 ((ho : Int) + 1) = ((ho + 1 : Nat) : Int) := by unfold wrap64; omega
  have hdr := List.drop_eq_getElem_cons hl
  obtain ⟨c, hcc, hb⟩ : ∃ c, a.data.toList[i] = c ∧ bt a (i : Int) = (c.toNat : Int) := ⟨_, rfl, gr_bt a i hl⟩
  rw [hcc] at hdr
  clear hcc
  have HB := Lib.hid hb
  have HW1 := Lib.hid w1
  have HW2 := Lib.hid w2
  have HW3 := Lib.hid w3
  have HD := Lib.hid hdr
  clear hb w1 w2 w3 hdr
  refine Ev.step (f := fun k => _) (fun k => by rw [qR.l0]) ?_
  refine Ev.pos (by omega) (Ev.pos (by omega) (Ev.pos (by omega) ?_))
  rw [HD.out, HB.out, runG]
  by_cases h47 : c = 47
  ·rw [show ((c.toNat : Int) != 47) = false by subst h47; rfl, if_pos h47]
   clear HB HD h47
   refine bx_sep a i x ho w h cs (by omega) (by omega) (by omega) _ ?_
   rw [e1]
   exact ih (i + 1) 0 ho x (h + 1) cs (by omega) (by omega) (by omega) (by omega) (by omega) (by omega)
  ·rw [show ((c.toNat : Int) != 47) = true by
    rw [bne_iff_ne]; intro e; exact h47 ((u8eq c 47 (by decide)).1 e), if_neg h47]
   have go1 := ih (i + 1) (x + 1) ho w h (cs ++ [(c.toNat : Int)]) (by omega) (by omega) (by omega) (by omega) (by omega) (by simp; omega)
   have go2 := ih (i + 1) (x + 1) (ho + 1) w h (cs ++ [(c.toNat : Int)]) (by omega) (by omega) (by omega) (by omega) (by omega) (by simp; omega)
   have step : ∀ R, (c = 46 ∨ c = 35 ∨ c = 45) → Ev (fun k => qR.l0 k a ((x + 1 : Nat) : Int) (ho : Int) ((i + 1 : Nat) : Int) (w : Int) (h : Int) (cs ++ [(c.toNat : Int)])) R →
     Ev (fun k => qR.j2 k a (x : Int) (ho : Int) (i : Int) (c.toNat : Int) true (w : Int) (h : Int) cs) R := fun R _ hR => by
    refine Ev.step (f := fun k => _) (fun k => by rw [qR.j2]) ?_
    refine Ev.pos rfl (Ev.pos (by omega) (Ev.pos (by omega) (Ev.pos (by omega) ?_)))
    rw [HW1.out, HW2.out, HB.out]
    exact hR
   refine Ev.step (f := fun k => _) (fun k => by rw [qR.j1]) ?_
   refine Ev.pos rfl (Ev.pos (by omega) (Ev.pos (by omega) ?_))
   rw [HB.out]
   by_cases h46 : c = 46
   ·rw [if_pos (.inl h46)]
    refine Ev.pos (by subst h46; rfl) ?_
    rw [show ((c.toNat : Int) == 46) = true by subst h46; rfl]
    exact step _ (.inl h46) go1
   ·refine Ev.neg (fun e => h46 ((u8eq c 46 (by decide)).1 e)) ?_
    by_cases h35 : c = 35
    ·rw [if_pos (.inr (.inl h35))]
     refine Ev.pos (by subst h35; rfl) ?_
     rw [show ((c.toNat : Int) == 35) = true by subst h35; rfl]
     exact step _ (.inr (.inl h35)) go1
    ·refine Ev.neg (fun e => h35 ((u8eq c 35 (by decide)).1 e)) ?_
     by_cases h45 : c = 45
     ·rw [if_pos (.inr (.inr h45)), show ((c.toNat : Int) == 45) = true by subst h45; rfl]
      exact step _ (.inr (.inr h45)) go1
     ·rw [if_neg (by simp [h46, h35, h45]), show ((c.toNat : Int) == 45) = false by
       rw [beq_eq_false_iff_ne]; intro e; exact h45 ((u8eq c 45 (by decide)).1 e)]
      refine Ev.step (f := fun k => _) (fun k => by rw [qR.j2]) ?_
      refine Ev.neg (by decide) ?_
      by_cases h111 : c = 111
      ·rw [if_pos h111]
       refine Ev.pos (by subst h111; rfl) (Ev.pos (by omega) (Ev.pos (by omega) (Ev.pos (by omega) ?_)))
       rw [HW1.out, HW2.out, HW3.out, HB.out]
       exact go2
      ·rw [if_neg h111]
       exact Ev.neg (fun e => h111 ((u8eq c 111 (by decide)).1 e)) (Ev.now _)
def cG : List UInt8 := [46, 35, 45, 111]
def numsOf (l : List UInt8) : List Int := l.map fun c => (c.toNat : Int)
def flatT (l : List UInt8) : List UInt8 := (sp 47 l).1 ++ (sp 47 l).2.flatten
theorem runG_eq (l : List UInt8) : ∀ (x ho w h : Nat) (cs : List Int), runG l x ho w h cs =
  if (l.all (fun b => b == 47 || cG.contains b)) = true ∧ x + (sp 47 l).1.length ≠ 0 ∧ (0 < h → x + (sp 47 l).1.length = w) ∧ (∀ r ∈ (sp 47 l).2, r.length = x + (sp 47 l).1.length)
  then finG (ho + l.count 111) (x + (sp 47 l).1.length) (h + ((sp 47 l).2.length + 1)) (cs ++ numsOf (flatT l)) else badG := by
 induction l with
 | nil =>
  intro x ho w h cs
  rw [runG]
  simp only [sp, List.all_nil, List.length_nil, Nat.add_zero, List.count_nil, flatT, List.flatten_nil, List.append_nil, numsOf, List.map_nil, Nat.zero_add]
  by_cases hb : (0 < h ∧ x ≠ w) ∨ x = 0
  ·rw [if_pos hb, if_neg (by rintro ⟨_, h1, h2, _⟩; exact hb.elim (fun h34 => h34.2 (h2 h34.1)) h1)]
  ·rw [if_neg hb, if_pos ⟨trivial, fun e => hb (.inr e), fun h3 => Classical.byContradiction fun h4 => hb (.inl ⟨h3, h4⟩), by simp⟩]
 | cons c r ih =>
  intro x ho w h cs
  rw [runG]
  by_cases h47 : c = 47
  ·subst h47
   rw [if_pos rfl]
   simp only [sp, if_true, List.all_cons, beq_self_eq_true, Bool.true_or, Bool.true_and, List.length_nil, Nat.add_zero, List.count_cons_of_ne (show ((47 : UInt8) ≠ 111) by decide), flatT, List.nil_append, List.flatten_cons, List.length_cons]
   by_cases hb : (0 < h ∧ x ≠ w) ∨ x = 0
   ·rw [if_pos hb, if_neg (by rintro ⟨_, h1, h2, _⟩; exact hb.elim (fun h34 => h34.2 (h2 h34.1)) h1)]
   ·rw [if_neg hb, ih]
    have hx0 : x ≠ 0 := fun e => hb (.inr e)
    have hxw : 0 < h → x = w := fun h3 => Classical.byContradiction fun h4 => hb (.inl ⟨h3, h4⟩)
    by_cases hg : (r.all (fun b => b == 47 || cG.contains b)) = true ∧ ∀ q ∈ (sp 47 r).1 :: (sp 47 r).2, q.length = x
    ·have hf : (sp 47 r).1.length = x := hg.2 _ (List.mem_cons_self)
     rw [if_pos ⟨hg.1, by omega, fun _ => by omega, fun q hq => by have := hg.2 q (List.mem_cons_of_mem _ hq); omega⟩, if_pos ⟨hg.1, hx0, hxw, hg.2⟩]
     congr 1
     ·omega
     ·omega
    ·rw [if_neg, if_neg]
     ·rintro ⟨h1, _, _, h4⟩; exact hg ⟨h1, h4⟩
     ·rintro ⟨h1, _, h3, h4⟩
      have h5 := h3 (by omega)
      refine hg ⟨h1, fun q hq => ?_⟩
      rcases List.mem_cons.1 hq with rfl | hq
      ·omega
      ·have := h4 q hq; omega
  ·rw [if_neg h47]
   have e47 : (c == 47) = false := by simpa using h47
   simp only [sp, if_neg h47, List.all_cons, e47, Bool.false_or, List.length_cons]
   have hsh : x + ((sp 47 r).1.length + 1) = x + 1 + (sp 47 r).1.length := by omega
   by_cases h3 : c = 46 ∨ c = 35 ∨ c = 45
   ·have hc : cG.contains c = true := by rcases h3 with rfl | rfl | rfl <;> decide
    have hn : c ≠ 111 := by rcases h3 with rfl | rfl | rfl <;> decide
    rw [if_pos h3, ih, hc, Bool.true_and, hsh, List.count_cons_of_ne hn]
    simp only [flatT, sp, if_neg h47, numsOf, List.cons_append, List.map_cons, List.append_assoc, List.nil_append]
   ·rw [if_neg h3]
    by_cases h111 : c = 111
    ·subst h111
     rw [if_pos rfl, ih, show cG.contains 111 = true by decide, Bool.true_and, hsh, List.count_cons_self]
     simp only [flatT, sp, if_neg h47, numsOf, List.cons_append, List.map_cons, List.append_assoc, List.nil_append, show ho + (r.count 111 + 1) = ho + 1 + r.count 111 by omega]
    ·rw [if_neg h111, if_neg]
     rintro ⟨h1, _⟩
     have : cG.contains c = false := by
      simp only [cG, List.contains_cons, List.contains_nil, Bool.or_false, Bool.or_eq_false_iff, beq_eq_false_iff_ne]
      exact ⟨fun e => h3 (.inl e), fun e => h3 (.inr (.inl e)), fun e => h3 (.inr (.inr e)), h111⟩
     rw [this] at h1; simp at h1
theorem qLB (f : Nat) : ∀ (L : List (List UInt8)), (∀ r ∈ L, r.length = f) → L.flatten.length = f * L.length ∧ (L.map List.length).sum = f * L.length
 | [], _ => by simp
 | a :: L, h => by
  obtain ⟨h1, h2⟩ := qLB f L (fun r hr => h r (List.mem_cons_of_mem _ hr))
  have h3 := h a List.mem_cons_self
  simp only [List.flatten_cons, List.length_append, List.map_cons, List.sum_cons, List.length_cons, h1, h2, h3, Nat.mul_add, Nat.mul_one]
  omega
def groundB (a : ByteArray) : Bool := rowsFit cG a && szR (wideT a) (highT a) && decide (a.data.toList.count 111 ≤ 1)
theorem qqA (a : ByteArray) : rowsFit cG a = true ↔ (a.data.toList.all (fun b => b == 47 || cG.contains b)) = true ∧ ∀ r ∈ (sp 47 a.data.toList).2, r.length = wideT a := by
 have hs := sp_all 47 (cG.contains ·) a.data.toList (by decide)
 unfold rowsFit
 rw [← hs, List.all_cons]
 unfold fitR wideT
 simp only [Bool.and_eq_true, decide_eq_true_eq, List.all_eq_true, true_and]
 constructor
 ·rintro ⟨h1, h2⟩
  exact ⟨⟨h1, fun r hr => (h2 r hr).2⟩, fun r hr => (h2 r hr).1⟩
 ·rintro ⟨⟨h1, h2⟩, h3⟩
  exact ⟨h1, fun r hr => ⟨h3 r hr, h2 r hr⟩⟩
theorem bxRead_ev (a : ByteArray) : Ev (fun k => qR.f k a) (if groundB a then ((wideT a : Int), (highT a : Int), numsOf (flatT a.data.toList), true) else badG) := by
 have hl := qIB 47 a.data.toList
 rw [qhA] at hl
 unfold qR.f
 by_cases h42 : a.size ≤ 42
 ·refine Ev.neg (by omega) ?_
  have := bx_loop a h42 a.size 0 0 0 0 0 [] (by omega) (by omega) (by omega) (by omega) (by omega) (by simp)
  rw [List.drop_zero, runG_eq] at this
  simp only [Nat.zero_add, List.nil_append, Nat.lt_irrefl, false_implies, true_and] at this
  have e : (if (a.data.toList.all (fun b => b == 47 || cG.contains b)) = true ∧ (sp 47 a.data.toList).1.length ≠ 0 ∧ (∀ r ∈ (sp 47 a.data.toList).2, r.length = (sp 47 a.data.toList).1.length) then finG (a.data.toList.count 111) (sp 47 a.data.toList).1.length ((sp 47 a.data.toList).2.length + 1) (numsOf (flatT a.data.toList)) else badG) = (if groundB a then ((wideT a : Int), (highT a : Int), numsOf (flatT a.data.toList), true) else badG) := by
   have hw : (sp 47 a.data.toList).1.length = wideT a := rfl
   have hh : (sp 47 a.data.toList).2.length + 1 = highT a := rfl
   rw [hw, hh]
   unfold groundB
   by_cases hr : rowsFit cG a = true
   ·obtain ⟨h1, h2⟩ := (qqA a).1 hr
    obtain ⟨f1, f2⟩ := qLB (wideT a) (sp 47 a.data.toList).2 h2
    have hfl : (numsOf (flatT a.data.toList)).length = wideT a * highT a := by
     simp only [numsOf, List.length_map, flatT, List.length_append, f1, hw, ← hh, Nat.mul_add, Nat.mul_one]; omega
    rw [hr, Bool.true_and]
    by_cases h0 : wideT a ≠ 0
    ·rw [if_pos ⟨h1, h0, h2⟩]
     unfold finG szR
     rw [hfl]
     have hh1 : 1 ≤ highT a := by omega
     rw [decide_eq_true hh1, Bool.true_and, decide_eq_true (show 1 ≤ wideT a by omega)]
     by_cases a1 : 7 < wideT a
     ·rw [if_pos a1, decide_eq_false (show ¬ wideT a ≤ 7 by omega)]; simp
     rw [if_neg a1, decide_eq_true (show wideT a ≤ 7 by omega)]
     by_cases a2 : 7 < highT a
     ·rw [if_pos a2, decide_eq_false (show ¬ highT a ≤ 7 by omega)]; simp
     rw [if_neg a2, decide_eq_true (show highT a ≤ 7 by omega)]
     by_cases a3 : 36 < wideT a * highT a
     ·rw [if_pos a3, decide_eq_false (show ¬ wideT a * highT a ≤ 36 by omega)]; simp
     rw [if_neg a3, decide_eq_true (show wideT a * highT a ≤ 36 by omega)]
     by_cases a4 : 1 < a.data.toList.count 111
     ·rw [if_pos a4, decide_eq_false (by omega)]; simp
     ·rw [if_neg a4, decide_eq_true (by omega)]; simp
    ·rw [if_neg (fun h => h0 h.2.1)]
     have : szR (wideT a) (highT a) = false := by
      unfold szR
      simp only [Bool.and_eq_false_iff, decide_eq_false_iff_not]; omega
     rw [this]; simp
   ·rw [if_neg (fun h => hr ((qqA a).2 ⟨h.1, h.2.2⟩)), Bool.eq_false_iff.2 hr]; simp
  rw [e] at this
  exact this
 ·refine Ev.pos (by omega) (Ev.some_ ?_)
  have : groundB a = false := by
   cases hg : groundB a with
   | false => rfl
   | true =>
    unfold groundB szR at hg
    simp only [Bool.and_eq_true, decide_eq_true_eq] at hg
    obtain ⟨⟨hr, ⟨⟨⟨g1, g2⟩, g3⟩, g4⟩, g5⟩, _⟩ := hg
    obtain ⟨h1, h2⟩ := (qqA a).1 hr
    obtain ⟨f1, f2⟩ := qLB (wideT a) (sp 47 a.data.toList).2 h2
    rw [f2] at hl
    have hw : (sp 47 a.data.toList).1.length = wideT a := rfl
    have hh : (sp 47 a.data.toList).2.length + 1 = highT a := rfl
    have : wideT a * highT a = wideT a + wideT a * (sp 47 a.data.toList).2.length := by rw [← hh, Nat.mul_add, Nat.mul_one]; omega
    omega
  rw [this]; rfl
theorem ground_ev (a : ByteArray) (ha : a.size ≤ 1048576) : ∃ rows : List ByteArray, Ev (fun k => qUA.f k a) (rows, groundB a) ∧ (groundB a = true → rows = rowsT a) := by
 have h := rowsOf_ev a ⟨#[46, 35, 45, 111]⟩ ha (by decide) (by decide)
 have hc : (⟨#[46, 35, 45, 111]⟩ : ByteArray).data.toList = cG := rfl
 rw [hc] at h
 unfold qUA.f
 unfold groundB
 cases hr : rowsFit cG a with
 | false =>
  rw [hr, if_neg (by decide)] at h
  exact ⟨[], Ev.bind h (Ev.neg (by simp) (Ev.now _)), fun e => by cases e⟩
 | true =>
  rw [hr, if_pos rfl] at h
  refine ⟨rowsT a, Ev.bind h ?_, fun _ => rfl⟩
  cases hz : szR (wideT a) (highT a) with
  | false => exact Ev.neg (by simp) (Ev.now _)
  | true =>
   refine Ev.pos rfl (Ev.bindc (show qDA.f a ⟨#[111]⟩ = some _ from rfl) (Ev.some_ ?_))
   show (rowsT a, _) = _
   congr 1
   unfold Lib.countByte
   simp only [Bool.true_and]
   exact decide_eq_decide.2 (by omega)
end Go.Proofs.YtbpfhpjbeomfcaaDoor
namespace Go.Proofs.YtbpfhpjbeomfcaaDoor
open Go.RowKit Go.Proofs.YtbpfhpjbeomfcaaDoor.P Go.Proofs.YtbpfhpjbeomfcaaDoorW.PrintWords Go.Proofs.YtbpfhpjbeomfcaaDoorW.PrintLast
set_option linter.unusedVariables false
set_option linter.unusedSimpArgs false
theorem qtA (n a b : Int) : qh.f n a b = some (decide (a ≤ n) && decide (n ≤ b)) := by
 unfold qh.f
 by_cases h : n ≥ a
 ·rw [if_pos h, decide_eq_true (show a ≤ n from h), Bool.true_and]
 ·rw [if_neg h, decide_eq_false (show ¬ a ≤ n from h), Bool.false_and]
def rowsL (a : ByteArray) : List (List UInt8) := (sp 47 a.data.toList).1 :: (sp 47 a.data.toList).2
theorem flat_get (w : Nat) : ∀ (L : List (List UInt8)) (i j : Nat), (∀ r ∈ L, r.length = w) → i < L.length → j < w → L.flatten[i * w + j]? = (L[i]?.bind fun r => r[j]?)
 | [], i, j, _, hi, _ => by simp at hi
 | r :: L, 0, j, h, _, hj => by
  have := h r List.mem_cons_self
  simp only [List.flatten_cons, Nat.zero_mul, Nat.zero_add, List.getElem?_cons_zero, Option.bind_some]
  rw [List.getElem?_append_left (by omega)]
 | r :: L, i + 1, j, h, hi, hj => by
  have h1 := h r List.mem_cons_self
  have ih := flat_get w L i j (fun q hq => h q (List.mem_cons_of_mem _ hq)) (by simpa using hi) hj
  simp only [List.flatten_cons, List.getElem?_cons_succ]
  have e : (i + 1) * w + j = r.length + (i * w + j) := by rw [Nat.add_mul, h1]; omega
  rw [e, List.getElem?_append_right (by omega), Nat.add_sub_cancel_left]
  exact ih
structure Gnd (a : ByteArray) : Prop where
 w1 : 1 ≤ wideT a
 w7 : wideT a ≤ 7
 h1 : 1 ≤ highT a
 h7 : highT a ≤ 7
 rows : ∀ r ∈ rowsL a, r.length = wideT a
theorem qVB {a : ByteArray} (h : groundB a = true) : Gnd a := by
 unfold groundB szR at h
 simp only [Bool.and_eq_true, decide_eq_true_eq] at h
 obtain ⟨⟨hr, ⟨⟨⟨g1, g2⟩, g3⟩, g4⟩, g5⟩, _⟩ := h
 obtain ⟨_, h2⟩ := (qqA a).1 hr
 exact ⟨g3, g4, g1, g2, fun r hr => by
  rcases List.mem_cons.1 hr with rfl | hr
  ·rfl
  ·exact h2 r hr⟩
theorem qsA (a : ByteArray) : (rowsL a).length = highT a := rfl
theorem rowsT_get (a : ByteArray) (i : Nat) (h : i < (rowsT a).length) (h' : i < (rowsL a).length) : ((rowsT a)[i]).data.toList = (rowsL a)[i] := by
 have := qlA a
 have e : ((rowsT a).map (·.data.toList))[i]'(by simpa using h) = (rowsL a)[i] := by
  simp only [this]; rfl
 rwa [List.getElem_map] at e
theorem flatT_eq (a : ByteArray) : flatT a.data.toList = (rowsL a).flatten := rfl
def hasB (a : ByteArray) (x y : Int) : Bool := decide (0 ≤ y) && decide (y ≤ (highT a : Int) - 1) && (decide (0 ≤ x) && decide (x ≤ (wideT a : Int) - 1))
def cellU (a : ByteArray) (x y : Int) : UInt8 := ((rowsL a).getD y.toNat []).getD x.toNat 0
def cellN (a : ByteArray) (x y : Int) : Int := ((cellU a x y).toNat : Int)
theorem qKB (a : ByteArray) (x y : Int) : hasB a x y = true ↔ (0 ≤ y ∧ y < (highT a : Int)) ∧ (0 ≤ x ∧ x < (wideT a : Int)) := by
 unfold hasB
 simp only [Bool.and_eq_true, decide_eq_true_eq]
 omega
theorem gr_size {a : ByteArray} (g : Gnd a) (i : Nat) (h : i < (rowsT a).length) : ((rowsT a)[i]).size = wideT a := by
 have h' : i < (rowsL a).length := by rw [qsA, ← qjA]; exact h
 rw [← qhA, rowsT_get a i h h']
 exact g.rows _ (List.getElem_mem h')
theorem qUB {a : ByteArray} (g : Gnd a) (x y : Int) : qi.f (rowsT a) x y = some (hasB a x y) := by
 have hl := qjA a
 have h0 : 0 < (rowsT a).length := by rw [hl]; exact g.h1
 have e0 : rdOf ByteArray.empty (rowsT a) 0 = (rowsT a)[0] := qSB (rowsT a) 0 h0
 have e1 := gr_size g 0 h0
 have g1 := g.h7
 have g2 := g.w7
 unfold qi.f
 rw [qBB, hl, e0, e1]
 have w1 : wrap64 ((highT a : Int) - 1) = (highT a : Int) - 1 := by unfold wrap64; omega
 have w2 : wrap64 ((wideT a : Int) - 1) = (wideT a : Int) - 1 := by unfold wrap64; omega
 rw [w1, w2]
 simp only [Option.bind_some]
 have g0 := g.h1
 unfold hasB
 by_cases h : (decide (0 ≤ y) && decide (y ≤ (highT a : Int) - 1)) = true
 ·rw [if_pos h, if_pos (by omega), qBB, h, Bool.true_and]; rfl
 ·rw [if_neg h, Bool.eq_false_iff.2 h, Bool.false_and]
theorem at_eq {a : ByteArray} (g : Gnd a) (x y : Int) (h : hasB a x y = true) : qz.f (rowsT a) x y = some (cellN a x y) := by
 obtain ⟨⟨h1, h2⟩, h3, h4⟩ := (qKB a x y).1 h
 obtain ⟨i, rfl⟩ := Int.eq_ofNat_of_zero_le h1
 obtain ⟨j, rfl⟩ := Int.eq_ofNat_of_zero_le h3
 have hl := qjA a
 have hi : i < (rowsT a).length := by omega
 have hi' : i < (rowsL a).length := by rw [qsA]; omega
 have hs := gr_size g i hi
 have hr := rowsT_get a i hi hi'
 have hw := g.rows _ (List.getElem_mem hi')
 unfold qz.f
 rw [qUB g, h, qSB (rowsT a) i hi]
 simp only [Option.bind_some, if_true]
 rw [if_pos (by omega), if_pos (by omega), if_pos (by omega), if_pos (by rw [hs]; omega)]
 have hj : j < ((rowsT a)[i]).data.toList.length := by rw [qhA, hs]; omega
 rw [gr_bt _ j hj]
 congr 1
 unfold cellN cellU
 have e : (rowsL a).getD i [] = (rowsL a)[i] := by rw [List.getD_eq_getElem?_getD, List.getElem?_eq_getElem hi']; rfl
 have e2 : ((rowsT a)[i]).data.toList[j] = ((rowsL a)[i])[j]'(by rw [← hr]; exact hj) := by simp only [hr]
 rw [e2, Int.toNat_natCast, Int.toNat_natCast, e, List.getD_eq_getElem?_getD, List.getElem?_eq_getElem (by rw [← hr]; exact hj)]
 rfl
theorem boCell_eq {a : ByteArray} (g : Gnd a) (cs : List Int) (x y : Int) : qNA.f (wideT a : Int) (highT a : Int) cs x y = some (hasB a x y) := by
 have g1 := g.h7
 have g2 := g.w7
 unfold qNA.f
 have w1 : wrap64 ((highT a : Int) - 1) = (highT a : Int) - 1 := by unfold wrap64; omega
 have w2 : wrap64 ((wideT a : Int) - 1) = (wideT a : Int) - 1 := by unfold wrap64; omega
 rw [w1, w2, qtA, qtA]
 simp only [Option.bind_some]
 unfold hasB
 by_cases h : (decide (0 ≤ x) && decide (x ≤ (wideT a : Int) - 1)) = true
 ·rw [if_pos h, h, Bool.and_true]
 ·rw [if_neg h, Bool.eq_false_iff.2 h, Bool.and_false]
theorem spec_at {a : ByteArray} (g : Gnd a) (x y : Int) (h : hasB a x y = true) :
  0 ≤ wrap64 (wrap64 (y * (wideT a : Int)) + x) ∧ wrap64 (wrap64 (y * (wideT a : Int)) + x) < ((numsOf (flatT a.data.toList)).length : Int) ∧ rd (numsOf (flatT a.data.toList)) (wrap64 (wrap64 (y * (wideT a : Int)) + x)) = cellN a x y := by
 obtain ⟨⟨h1, h2⟩, h3, h4⟩ := (qKB a x y).1 h
 obtain ⟨i, rfl⟩ := Int.eq_ofNat_of_zero_le h1
 obtain ⟨j, rfl⟩ := Int.eq_ofNat_of_zero_le h3
 have g1 := g.h7
 have g2 := g.w7
 have hi' : i < (rowsL a).length := by rw [qsA]; omega
 have hf := flat_get (wideT a) (rowsL a) i j g.rows hi' (by omega)
 have hw := g.rows _ (List.getElem_mem hi')
 have hj : j < ((rowsL a)[i]).length := by omega
 rw [List.getElem?_eq_getElem hi', Option.bind_some, List.getElem?_eq_getElem hj] at hf
 have hm : i * wideT a ≤ 7 * 7 := Nat.mul_le_mul (by omega) g2
 have ec : ((i : Int) * (wideT a : Int)) = ((i * wideT a : Nat) : Int) := by push_cast; rfl
 rw [ec]
 have e : wrap64 (wrap64 ((i * wideT a : Nat) : Int) + (j : Int)) = ((i * wideT a + j : Nat) : Int) := by
  generalize i * wideT a = m at *
  unfold wrap64; omega
 rw [e, flatT_eq]
 obtain ⟨hlt, hv⟩ := List.getElem?_eq_some_iff.1 hf
 refine ⟨by omega, ?_, ?_⟩
 ·unfold numsOf
  rw [List.length_map]; omega
 ·unfold rd numsOf cellN cellU
  rw [Int.toNat_natCast, List.getD_eq_getElem?_getD, List.getElem?_map, hf, Int.toNat_natCast, Int.toNat_natCast, List.getD_eq_getElem?_getD (l := rowsL a), List.getElem?_eq_getElem hi']
  simp only [Option.map_some, Option.getD_some]
  rw [List.getD_eq_getElem?_getD, List.getElem?_eq_getElem hj]
  rfl
def okC (a : ByteArray) (x y : Int) : Bool := hasB a x y && !(cellN a x y == 35)
theorem isBox1_eq {a : ByteArray} (g : Gnd a) (x y : Int) : qAB.f (rowsT a) x y = some (!okC a x y) := by
 unfold qAB.f okC
 rw [qUB g, Option.bind_some]
 cases h : hasB a x y with
 | true => rw [if_pos rfl, at_eq g x y h]; simp
 | false => rw [if_neg (by decide)]; rfl
def cellsB (x y p : Int) : List (Int × Int) := if p = 1 then [(x, y), (wrap64 (x + 1), y)] else if p = 2 then [(x, y), (x, wrap64 (y + 1))] else [(x, y)]
def boxB (a : ByteArray) (x y p : Int) : Bool := (decide (0 ≤ p) && decide (p ≤ 2)) && !(decide (p = 0) && cellN a x y == 45) && (cellsB x y p).all fun c => okC a c.1 c.2
theorem boxB_has {a : ByteArray} {x y p : Int} (h : boxB a x y p = true) : hasB a x y = true := by
 unfold boxB at h
 simp only [Bool.and_eq_true] at h
 have h2 := h.2
 unfold cellsB at h2
 have : okC a x y = true := by
  split at h2
  ·simp only [List.all_cons, Bool.and_eq_true] at h2; exact h2.1
  ·split at h2
   ·simp only [List.all_cons, Bool.and_eq_true] at h2; exact h2.1
   ·simp only [List.all_cons, Bool.and_eq_true] at h2; exact h2.1
 unfold okC at this
 simp only [Bool.and_eq_true] at this
 exact this.1
theorem qWB {a : ByteArray} (g : Gnd a) (l : List S96) : qVA.f l (rowsT a) = some (!(l.all fun c => okC a c.f0 c.f1)) := by
 unfold qVA.f
 rw [if_pos (by rw [List.all_eq_true]; intro c _; rw [isBox1_eq g]; rfl)]
 congr 1
 induction l with
 | nil => rfl
 | cons c l ih =>
  rw [List.any_cons, List.all_cons, ih, isBox1_eq g]
  simp
theorem qGB {a : ByteArray} (g : Gnd a) (b : Bool) (x y p : Int) : Ev (fun k => qS.j0 k b (rowsT a) x y p) (!b && (cellsB x y p).all fun c => okC a c.1 c.2) := by
 refine Ev.step (f := fun k => _) (fun k => by rw [qS.j0]) ?_
 cases b with
 | true => exact Ev.pos rfl (Ev.now _)
 | false =>
  refine Ev.neg (by decide) ?_
  unfold qQA.f cellsB
  by_cases h1 : p = 1
  ·rw [if_pos h1, if_pos h1]
   refine Ev.bindc rfl (Ev.bindc (qWB g _) (Ev.some_ ?_))
   simp
  ·rw [if_neg h1, if_neg h1]
   by_cases h2 : p = 2
   ·rw [if_pos h2, if_pos h2]
    refine Ev.bindc rfl (Ev.bindc (qWB g _) (Ev.some_ ?_))
    simp
   ·rw [if_neg h2, if_neg h2]
    refine Ev.bindc rfl (Ev.bindc (qWB g _) (Ev.some_ ?_))
    simp
theorem isBox_ev {a : ByteArray} (g : Gnd a) (x y p : Int) : Ev (fun k => qS.f k (rowsT a) x y p) (boxB a x y p) := by
 unfold qS.f
 refine Ev.bindc (qBB _ _ _) ?_
 cases hp : (decide (0 ≤ p) && decide (p ≤ 2)) with
 | false =>
  refine Ev.neg (by decide) ?_
  have e : boxB a x y p = false := by unfold boxB; rw [hp]; rfl
  rw [e]
  exact qGB g true x y p
 | true =>
  refine Ev.pos rfl (Ev.bindc (qUB g x y) ?_)
  cases hh : hasB a x y with
  | false =>
   refine Ev.neg (by decide) ?_
   have e : boxB a x y p = false := by
    cases hb : boxB a x y p with
    | false => rfl
    | true => rw [boxB_has hb] at hh; cases hh
   rw [e]
   exact qGB g true x y p
  | true =>
   refine Ev.pos rfl ?_
   by_cases h0 : p = 0
   ·refine Ev.pos h0 (Ev.bindc (at_eq g x y hh) ?_)
    have := qGB g (cellN a x y == 45) x y p
    have e : boxB a x y p = (!(cellN a x y == 45) && (cellsB x y p).all fun c => okC a c.1 c.2) := by
     unfold boxB; rw [hp, Bool.true_and, decide_eq_true h0, Bool.true_and]
    rw [e]
    exact this
   ·refine Ev.neg h0 ?_
    have := qGB g false x y p
    have e : boxB a x y p = (!false && (cellsB x y p).all fun c => okC a c.1 c.2) := by
     unfold boxB; rw [hp, Bool.true_and, decide_eq_false h0, Bool.false_and]
    rw [e]
    exact this
theorem qCB {a : ByteArray} (g : Gnd a) (q : Nat) (cl : List Int) (hq : q + 1 < cl.length) (hc : cl.length ≤ 4) (x y p : Int) (R : Bool)
  (hR : Ev (fun k => qX.l0 k ((q + 2 : Nat) : Int) cl (wideT a : Int) (highT a : Int) (numsOf (flatT a.data.toList)) x y p) R) :
  Ev (fun k => qX.l0 k (q : Int) cl (wideT a : Int) (highT a : Int) (numsOf (flatT a.data.toList)) x y p) (okC a cl[q] cl[q + 1] && R) := by
 have w1 : wrap64 ((q : Int) + 1) = ((q + 1 : Nat) : Int) := by unfold wrap64; omega
 have w2 : wrap64 ((q : Int) + 2) = ((q + 2 : Nat) : Int) := by unfold wrap64; omega
 have r0 : rd cl (q : Int) = cl[q] := by unfold rd; rw [Int.toNat_natCast, List.getD_eq_getElem?_getD, List.getElem?_eq_getElem (by omega)]; rfl
 have r1 : rd cl ((q + 1 : Nat) : Int) = cl[q + 1] := by unfold rd; rw [Int.toNat_natCast, List.getD_eq_getElem?_getD, List.getElem?_eq_getElem (by omega)]; rfl
 refine Ev.step (f := fun k => _) (fun k => by rw [qX.l0]) ?_
 rw [w1, w2, r0, r1]
 generalize cl[q] = u
 generalize cl[q + 1] = v
 refine Ev.pos (by omega) (Ev.pos (by omega) (Ev.pos (by omega) (Ev.pos (by omega) (Ev.bindc (boCell_eq g _ u v) ?_))))
 unfold okC
 cases hh : hasB a u v with
 | false => exact Ev.neg (by decide) (Ev.now _)
 | true =>
  obtain ⟨s1, s2, s3⟩ := spec_at g u v hh
  refine Ev.pos rfl (Ev.pos s1 (Ev.pos s2 ?_))
  rw [s3]
  by_cases h35 : cellN a u v = 35
  ·refine Ev.pos h35 (Ev.some_ ?_)
   rw [h35]; rfl
  ·refine Ev.neg h35 ?_
   have : (cellN a u v == 35) = false := by simpa using h35
   rw [this]
   exact hR
theorem qNB {a : ByteArray} (g : Gnd a) (cl : List Int) (x y p : Int) (hh : hasB a x y = true) :
  Ev (fun k => qX.l0 k (cl.length : Int) cl (wideT a : Int) (highT a : Int) (numsOf (flatT a.data.toList)) x y p) (!(decide (p = 0) && cellN a x y == 45)) := by
 refine Ev.step (f := fun k => _) (fun k => by rw [qX.l0]) ?_
 refine Ev.neg (by omega) ?_
 obtain ⟨s1, s2, s3⟩ := spec_at g x y hh
 by_cases h0 : p = 0
 ·refine Ev.pos h0 (Ev.pos s1 (Ev.pos s2 (Ev.some_ ?_)))
  rw [s3, decide_eq_true h0, Bool.true_and]; rfl
 ·refine Ev.neg h0 (Ev.some_ ?_)
  rw [decide_eq_false h0]; rfl
theorem bx_fail {a : ByteArray} (g : Gnd a) (t : List Int) (ht : t.length ≤ 2) (x y x' y' p : Int) (hh : hasB a x y = false) :
  Ev (fun k => qX.l0 k 0 (x :: y :: t) (wideT a : Int) (highT a : Int) (numsOf (flatT a.data.toList)) x' y' p) false := by
 have w1 : wrap64 (0 + 1) = 1 := by unfold wrap64; omega
 have r0 : rd (x :: y :: t) 0 = x := rfl
 have r1 : rd (x :: y :: t) 1 = y := rfl
 have hl : ((x :: y :: t).length : Int) = (t.length : Int) + 2 := by simp; omega
 refine Ev.step (f := fun k => _) (fun k => by rw [qX.l0]) ?_
 rw [w1, r0, r1, hl]
 refine Ev.pos (by omega) (Ev.pos (by omega) (Ev.pos (by omega) (Ev.pos (by omega) (Ev.bindc (boCell_eq g _ x y) ?_))))
 rw [hh]
 exact Ev.neg (by decide) (Ev.now _)
def tailI (x y p : Int) : List Int := if p = 1 then [wrap64 (x + 1), y] else if p = 2 then [x, wrap64 (y + 1)] else []
theorem bxCells_eq (x y p : Int) : qGA.f x y p = some (x :: y :: tailI x y p) := by
 unfold qGA.f tailI
 by_cases h1 : p = 1
 ·simp [h1]
 ·by_cases h2 : p = 2
  ·simp [h2]
  ·simp [h1, h2]
theorem bxPose_eq (x y p : Int) : qSA.f x y p = some ((decide (0 ≤ x) && decide (x ≤ 6)) && ((decide (0 ≤ y) && decide (y ≤ 6)) && (decide (0 ≤ p) && decide (p ≤ 2)))) := by
 unfold qSA.f
 rw [qtA, qtA, qtA]
 simp only [Option.bind_some]
 cases (decide (0 ≤ x) && decide (x ≤ 6)) <;> cases (decide (0 ≤ y) && decide (y ≤ 6)) <;> rfl
theorem bxGood_ev {a : ByteArray} (g : Gnd a) (x y p : Int) : Ev (fun k => qX.f k (wideT a : Int) (highT a : Int) (numsOf (flatT a.data.toList)) x y p) (boxB a x y p) := by
 have g1 := g.h7
 have g2 := g.w7
 have hno : hasB a x y = false → boxB a x y p = false := fun hh => by
  cases hb : boxB a x y p with
  | false => rfl
  | true => rw [boxB_has hb] at hh; cases hh
 unfold qX.f
 refine Ev.bindc (bxPose_eq x y p) ?_
 cases hp : (decide (0 ≤ p) && decide (p ≤ 2)) with
 | false =>
  rw [Bool.and_false, Bool.and_false]
  refine Ev.neg (by decide) (Ev.some_ ?_)
  unfold boxB; rw [hp]; rfl
 | true =>
  rw [Bool.and_true]
  by_cases hxy : ((decide (0 ≤ x) && decide (x ≤ 6)) && (decide (0 ≤ y) && decide (y ≤ 6))) = true
  ·rw [hxy]
   refine Ev.pos rfl (Ev.bindc (bxCells_eq x y p) ?_)
   have e : boxB a x y p = ((cellsB x y p).all (fun c => okC a c.1 c.2) && !(decide (p = 0) && cellN a x y == 45)) := by
    unfold boxB; rw [hp, Bool.true_and, Bool.and_comm]
   cases hh : hasB a x y with
   | false =>
    rw [hno hh]
    refine bx_fail g _ ?_ x y x y p hh
    unfold tailI
    split
    ·simp
    ·split <;> simp
   | true =>
    rw [e]
    unfold tailI cellsB
    by_cases h1 : p = 1
    ·simp only [if_pos h1]
     have := qCB g 0 [x, y, wrap64 (x + 1), y] (by simp) (by simp) x y p _ (qCB g 2 [x, y, wrap64 (x + 1), y] (by simp) (by simp) x y p _ (qNB g [x, y, wrap64 (x + 1), y] x y p hh))
     simpa [Bool.and_assoc] using this
    ·by_cases h2 : p = 2
     ·simp only [if_neg h1, if_pos h2]
      have := qCB g 0 [x, y, x, wrap64 (y + 1)] (by simp) (by simp) x y p _ (qCB g 2 [x, y, x, wrap64 (y + 1)] (by simp) (by simp) x y p _ (qNB g [x, y, x, wrap64 (y + 1)] x y p hh))
      simpa [Bool.and_assoc] using this
     ·simp only [if_neg h1, if_neg h2]
      have := qCB g 0 [x, y] (by simp) (by simp) x y p _ (qNB g [x, y] x y p hh)
      simpa [Bool.and_assoc] using this
  ·rw [Bool.eq_false_iff.2 hxy]
   refine Ev.neg (by decide) (Ev.some_ ?_)
   refine (hno ?_).symm
   cases hh : hasB a x y with
   | false => rfl
   | true =>
    exfalso
    apply hxy
    obtain ⟨⟨h1, h2⟩, h3, h4⟩ := (qKB a x y).1 hh
    simp only [Bool.and_eq_true, decide_eq_true_eq]
    omega
end Go.Proofs.YtbpfhpjbeomfcaaDoor
namespace Go.Proofs.YtbpfhpjbeomfcaaDoor
open Go.RowKit Go.Proofs.YtbpfhpjbeomfcaaDoor.P Go.Proofs.YtbpfhpjbeomfcaaDoorW.PrintWords Go.Proofs.YtbpfhpjbeomfcaaDoorW.PrintLast
set_option linter.unusedVariables false
set_option linter.unusedSimpArgs false
def askB (a : ByteArray) (x y p : Int) : Bool := groundB a && boxB a x y p
theorem askB_ground {a : ByteArray} {x y p : Int} (h : askB a x y p = true) : groundB a = true := by
 unfold askB at h
 rw [Bool.and_eq_true] at h
 exact h.1
theorem onGround_ev (a : ByteArray) (x y p : Int) (ha : a.size ≤ 1048576) : ∃ rows : List ByteArray, Ev (fun k => qOA.f k a x y p) (rows, askB a x y p) ∧ (askB a x y p = true → rows = rowsT a) := by
 obtain ⟨rows, h1, hr⟩ := ground_ev a ha
 unfold qOA.f askB
 cases hg : groundB a with
 | false =>
  rw [hg] at h1
  exact ⟨rows, Ev.bind h1 (Ev.neg (by simp) (Ev.now _)), fun h => by cases h⟩
 | true =>
  have g := qVB hg
  have e := hr hg
  subst e
  rw [hg] at h1
  exact ⟨rowsT a, Ev.bind h1 (Ev.pos rfl (Ev.bind (isBox_ev g x y p) (Ev.now _))), fun _ => rfl⟩
theorem bxAsked_ev (a : ByteArray) (x y p : Int) : ∃ (w h : Int) (cs : List Int), Ev (fun k => qn.f k a x y p) (w, h, cs, askB a x y p) ∧ (askB a x y p = true → w = (wideT a : Int) ∧ h = (highT a : Int) ∧ cs = numsOf (flatT a.data.toList)) := by
 have h2 := bxRead_ev a
 unfold qn.f askB
 cases hg : groundB a with
 | false =>
  rw [hg, if_neg (by decide)] at h2
  exact ⟨_, _, _, Ev.bind h2 (Ev.neg (by simp [badG]) (Ev.now _)), fun h => by cases h⟩
 | true =>
  have g := qVB hg
  rw [hg, if_pos rfl] at h2
  exact ⟨_, _, _, Ev.bind h2 (Ev.pos rfl (Ev.bind (bxGood_ev g x y p) (Ev.now _))), fun _ => ⟨rfl, rfl, rfl⟩⟩
end Go.Proofs.YtbpfhpjbeomfcaaDoor
namespace Go.Proofs.YtbpfhpjbeomfcaaDoor
open Go.RowKit Go.Proofs.YtbpfhpjbeomfcaaDoor.P Go.Proofs.YtbpfhpjbeomfcaaDoorW.PrintWords Go.Proofs.YtbpfhpjbeomfcaaDoorW.PrintLast
set_option linter.unusedVariables false
set_option linter.unusedSimpArgs false
def dirI (l : List UInt8) : Int := if l = [110] then 0 else if l = [101] then 1 else if l = [115] then 2 else if l = [119] then 3 else -1
theorem spec_diDir_ev (a : ByteArray) : Ev (fun k => qt.f k a) (dirI a.data.toList) := by
 refine Ev.at_ 5 fun k => ?_
 have e0 : ((⟨#[110, 101, 115, 119]⟩ : ByteArray).extract 0 1).toList = [110] := by decide +kernel
 have e1 : ((⟨#[110, 101, 115, 119]⟩ : ByteArray).extract 1 2).toList = [101] := by decide +kernel
 have e2 : ((⟨#[110, 101, 115, 119]⟩ : ByteArray).extract 2 3).toList = [115] := by decide +kernel
 have e3 : ((⟨#[110, 101, 115, 119]⟩ : ByteArray).extract 3 4).toList = [119] := by decide +kernel
 have hz : ((⟨#[110, 101, 115, 119]⟩ : ByteArray).size : Int) = 4 := rfl
 simp [qt.f, qt.l0, qcA.f, dirI, wrap64, Go.Lib.toList_data a, e0, e1, e2, e3, hz]
 repeat (split; rfl)
 rfl
theorem dlen (s : ByteArray) : s.data.toList.length = s.size := by rw [Array.length_toList]; rfl
theorem bt_get (s : ByteArray) (i : Nat) (h : i < s.data.toList.length) : bt s (i : Int) = ((s.data.toList[i]).toNat : Int) := by
 have h' : i < s.size := by rw [← dlen]; exact h
 unfold bt
 rw [dif_pos (by simpa using h')]
 simp only [Int.toNat_natCast, Array.getElem_toList]
 rfl
theorem dirI_one (c : UInt8) : (dirI [c] < 0) = (¬ (c = 110 ∨ c = 101 ∨ c = 115 ∨ c = 119)) := by
 unfold dirI
 by_cases h1 : c = 110
 ·simp [h1]
 by_cases h2 : c = 101
 ·simp [h2]
 by_cases h3 : c = 115
 ·simp [h3]
 by_cases h4 : c = 119
 ·simp [h4]
 simp [h1, h2, h3, h4]
end Go.Proofs.YtbpfhpjbeomfcaaDoor
namespace Go.Proofs.YtbpfhpjbeomfcaaDoor
open Go.RowKit Go.Proofs.YtbpfhpjbeomfcaaDoor.P Go.Proofs.YtbpfhpjbeomfcaaDoorW.PrintWords Go.Proofs.YtbpfhpjbeomfcaaDoorW.PrintLast
set_option linter.unusedVariables false
set_option linter.unusedSimpArgs false
def dirN (d : Nat) : Int := if d = 0 then 110 else if d = 1 then 101 else if d = 2 then 115 else 119
def nextB (x y : Int) (d : Nat) : Int × Int := if d = 0 then (x, wrap64 (y - 1)) else if d = 1 then (wrap64 (x + 1), y) else if d = 2 then (x, wrap64 (y + 1)) else (wrap64 (x - 1), y)
def tipB (x y p : Int) (d : Nat) : Int × Int × Int :=
 if p = 0 then (if d = 0 then (x, wrap64 (y - 2), 2) else if d = 1 then (wrap64 (x + 1), y, 1) else if d = 2 then (x, wrap64 (y + 1), 2) else (wrap64 (x - 2), y, 1))
 else if p = 1 then (if d = 1 then (wrap64 (x + 2), y, 0) else if d = 3 then (wrap64 (x - 1), y, 0) else ((nextB x y d).1, (nextB x y d).2, 1))
 else if p = 2 then (if d = 0 then (x, wrap64 (y - 1), 0) else if d = 2 then (x, wrap64 (y + 2), 0) else ((nextB x y d).1, (nextB x y d).2, 2))
 else ((nextB x y d).1, (nextB x y d).2, p)
theorem four {d : Nat} (h : d < 4) : d = 0 ∨ d = 1 ∨ d = 2 ∨ d = 3 := by omega
theorem specNext (x y : Int) (d : Nat) (h : d < 4) : qHA.f x y (d : Int) = some (nextB x y d) := by
 rcases four h with rfl | rfl | rfl | rfl <;> simp [qHA.f, nextB]
theorem implNext (x y : Int) (d : Nat) (h : d < 4) : qeA.f x y (dirN d) = some (nextB x y d) := by
 rcases four h with rfl | rfl | rfl | rfl <;> simp [qeA.f, nextB, dirN]
theorem specTip_ev (x y p : Int) (d : Nat) (h : d < 4) : Ev (fun k => qP.f k x y p (d : Int)) (tipB x y p d) := by
 refine Ev.at_ 8 fun k => ?_
 have hn := specNext x y d h
 by_cases p0 : p = 0
 ·subst p0
  rcases four h with rfl | rfl | rfl | rfl <;> simp [qP.f, qP.j0, qP.j1, qP.j2, tipB]
 by_cases p1 : p = 1
 ·subst p1
  rcases four h with rfl | rfl | rfl | rfl <;> simp at hn <;> simp [qP.f, qP.j0, qP.j1, qP.j2, qP.j3, qP.j4, qP.j5, tipB, hn]
 by_cases p2 : p = 2
 ·subst p2
  rcases four h with rfl | rfl | rfl | rfl <;> simp at hn <;> simp [qP.f, qP.j0, qP.j1, qP.j2, qP.j3, qP.j4, qP.j5, tipB, hn]
 ·simp [qP.f, qP.j0, qP.j1, qP.j2, qP.j3, qP.j4, qP.j5, tipB, hn, p0, p1, p2]
theorem implTip_ev (x y p : Int) (d : Nat) (h : d < 4) : Ev (fun k => qQ.f k x y p (dirN d)) (tipB x y p d) := by
 refine Ev.at_ 5 fun k => ?_
 have hn := implNext x y d h
 by_cases p0 : p = 0
 ·subst p0
  rcases four h with rfl | rfl | rfl | rfl <;> simp [qQ.f, qQ.j0, qQ.j1, qQ.j2, tipB, dirN]
 by_cases p1 : p = 1
 ·subst p1
  rcases four h with rfl | rfl | rfl | rfl <;> simp [dirN] at hn <;> simp [qQ.f, qQ.j0, qQ.j1, qQ.j2, tipB, dirN, hn, nextB]
 by_cases p2 : p = 2
 ·subst p2
  rcases four h with rfl | rfl | rfl | rfl <;> simp [dirN] at hn <;> simp [qQ.f, qQ.j0, qQ.j1, qQ.j2, tipB, dirN, hn, nextB]
 ·rcases four h with rfl | rfl | rfl | rfl <;> simp [dirN] at hn <;> simp [qQ.f, qQ.j0, qQ.j1, qQ.j2, tipB, dirN, hn, p0, p1, p2]
def canB (a : ByteArray) (t : Int × Int × Int) : Bool := boxB a t.1 t.2.1 t.2.2
theorem rollBox_ev {a : ByteArray} (g : Gnd a) (x y p : Int) (d : Nat) (h : d < 4) : Ev (fun k => qu.f k (rowsT a) x y p (dirN d)) ((tipB x y p d).1, (tipB x y p d).2.1, (tipB x y p d).2.2, canB a (tipB x y p d)) := by
 unfold qu.f
 exact Ev.bind (implTip_ev x y p d h) (Ev.bind (isBox_ev g _ _ _) (Ev.now _))
theorem bxRoll_ev {a : ByteArray} (g : Gnd a) (x y p : Int) (d : Nat) (h : d < 4) : Ev (fun k => qRA.f k (wideT a : Int) (highT a : Int) (numsOf (flatT a.data.toList)) x y p (d : Int)) (if canB a (tipB x y p d) = true then ((tipB x y p d).1, (tipB x y p d).2.1, (tipB x y p d).2.2, true) else (0, 0, 0, false)) := by
 unfold qRA.f
 refine Ev.bind (specTip_ev x y p d h) (Ev.bind (bxGood_ev g _ _ _) ?_)
 show Ev (fun k => if canB a (tipB x y p d) = true then _ else _) _
 cases hc : canB a (tipB x y p d) with
 | true => exact Ev.pos rfl (by rw [if_pos rfl]; exact Ev.now _)
 | false => exact Ev.neg (by decide) (by rw [if_neg (by decide)]; exact Ev.now _)
end Go.Proofs.YtbpfhpjbeomfcaaDoor
namespace Go.Proofs.YtbpfhpjbeomfcaaDoor
open Go.RowKit Go.Proofs.YtbpfhpjbeomfcaaDoor.P Go.Proofs.YtbpfhpjbeomfcaaDoorW.PrintWords Go.Proofs.YtbpfhpjbeomfcaaDoorW.PrintLast
set_option linter.unusedVariables false
set_option linter.unusedSimpArgs false
def isDirU (c : UInt8) : Bool := c == 110 || c == 101 || c == 115 || c == 119
def dirU (c : UInt8) : Nat := if c = 110 then 0 else if c = 101 then 1 else if c = 115 then 2 else 3
theorem dirU_lt (c : UInt8) : dirU c < 4 := by
 unfold dirU
 split
 ·omega
 ·split
  ·omega
  ·split <;> omega
theorem qDB (c : UInt8) : isDirU c = true ↔ c = 110 ∨ c = 101 ∨ c = 115 ∨ c = 119 := by
 unfold isDirU
 simp only [Bool.or_eq_true, beq_iff_eq, or_assoc]
theorem dirI_U {c : UInt8} (h : isDirU c = true) : dirI [c] = (dirU c : Int) := by
 rcases (qDB c).1 h with rfl | rfl | rfl | rfl <;> decide
theorem dirI_not {c : UInt8} (h : isDirU c = false) : dirI [c] < 0 := by
 rw [dirI_one, ← qDB, h]
 decide
end Go.Proofs.YtbpfhpjbeomfcaaDoor
namespace Go.Proofs.YtbpfhpjbeomfcaaDoor
open Go.RowKit Go.Proofs.YtbpfhpjbeomfcaaDoor.P Go.Proofs.YtbpfhpjbeomfcaaDoorW.PrintWords Go.Proofs.YtbpfhpjbeomfcaaDoorW.PrintLast
set_option linter.unusedVariables false
set_option linter.unusedSimpArgs false
theorem dirN_U {c : UInt8} (h : isDirU c = true) : dirN (dirU c) = (c.toNat : Int) := by
 rcases (qDB c).1 h with rfl | rfl | rfl | rfl <;> decide
theorem bt_is (s : ByteArray) (i : Nat) {c : UInt8} (hi : i < s.data.toList.length) (e : s.data.toList[i] = c) : bt s (i : Int) = (c.toNat : Int) := by
 rw [bt_get s i hi, e]
end Go.Proofs.YtbpfhpjbeomfcaaDoor
namespace Go.Proofs.YtbpfhpjbeomfcaaDoor.Pure
open Go.RowKit Go.Proofs.YtbpfhpjbeomfcaaDoor.P Go.Proofs.YtbpfhpjbeomfcaaDoorW.PrintWords Go.Proofs.YtbpfhpjbeomfcaaDoorW.PrintLast
set_option linter.unusedVariables false
set_option linter.unusedSimpArgs false
theorem eqBox_refl (a b c : Int) : qEA.f a b c a b c = some true := by simp [qEA.f]
theorem qTA (l : List UInt8) (h : l.length = 1) : ∃ c, l = [c] := by
 match l, h with
 | [c], _ => exact ⟨c, rfl⟩
theorem indexByte_dirs (c : UInt8) : decide (0 ≤ Lib.indexByte [110, 101, 115, 119] c) = isDirU c := by
 unfold isDirU
 by_cases h1 : c = 110
 ·subst h1; decide
 by_cases h2 : c = 101
 ·subst h2; decide
 by_cases h3 : c = 115
 ·subst h3; decide
 by_cases h4 : c = 119
 ·subst h4; decide
 have b1 : (c == 110) = false := by simpa using h1
 have b2 : (c == 101) = false := by simpa using h2
 have b3 : (c == 115) = false := by simpa using h3
 have b4 : (c == 119) = false := by simpa using h4
 rw [b1, b2, b3, b4]
 have a1 : ((110 : UInt8) == c) = false := by simpa using Ne.symm h1
 have a2 : ((101 : UInt8) == c) = false := by simpa using Ne.symm h2
 have a3 : ((115 : UInt8) == c) = false := by simpa using Ne.symm h3
 have a4 : ((119 : UInt8) == c) = false := by simpa using Ne.symm h4
 simp [Lib.indexByte, a1, a2, a3, a4, h1, h2, h3, h4, Ne.symm h1, Ne.symm h2, Ne.symm h3, Ne.symm h4]
def dirB (a : ByteArray) : Bool := match a.data.toList with | [c] => isDirU c | _ => false
theorem isDir_eq (a : ByteArray) : qWA.f a = some (dirB a) := by
 unfold qWA.f dirB
 by_cases h : a.size = 1
 ·rw [if_pos (by omega)]
  obtain ⟨c, hc⟩ := qTA a.data.toList (by rw [dlen]; exact h)
  unfold qCA.f
  rw [hc]
  simp only [Option.bind_some]
  rw [indexByte_dirs]
 ·rw [if_neg (by omega)]
  have hl : a.data.toList.length ≠ 1 := by rw [dlen]; exact h
  match a.data.toList, hl with
  | [], _ => rfl
  | [c], hl => exact absurd rfl hl
  | _ :: _ :: _, _ => rfl
theorem dirI_B (a : ByteArray) : decide (dirI a.data.toList < 0) = !dirB a := by
 unfold dirB
 match h : a.data.toList with
 | [] => rfl
 | [c] =>
  cases hc : isDirU c with
  | true =>
   rw [dirI_U hc, decide_eq_false (by omega)]
   show false = !isDirU c
   rw [hc]; rfl
  | false =>
   rw [decide_eq_true (dirI_not hc)]
   show true = !isDirU c
   rw [hc]; rfl
 | c :: d :: l => simp [dirI]
theorem dirB_one {a : ByteArray} (h : dirB a = true) : ∃ c, a.data.toList = [c] ∧ isDirU c = true := by
 unfold dirB at h
 split at h
 ·rename_i c hc
  exact ⟨c, hc, h⟩
 ·cases h
theorem both (a : ByteArray) (x y p : Int) (a2 : ByteArray) (ha : a.size ≤ 1048576) : ∃ r : Int × Int × Int × Bool, Ev (fun k => qb.f k a x y p a2) r ∧ Ev (fun k => qa.f k a x y p a2) r := by
 obtain ⟨rows, h1, hr⟩ := onGround_ev a x y p ha
 obtain ⟨w, h, cs, h2, hs⟩ := bxAsked_ev a x y p
 unfold qb.f qa.f
 have j1 : ∀ (rows : List ByteArray), Ev (fun k => qa.j0 k a2 rows true x y p) (0, 0, 0, false) := fun rows =>
  Ev.step (f := fun k => _) (fun k => by rw [qa.j0]) (Ev.pos rfl (Ev.now _))
 have j2 : ∀ w h cs, Ev (fun k => qb.j0 k a2 true x y p w h cs) (0, 0, 0, false) := fun w h cs =>
  Ev.step (f := fun k => _) (fun k => by rw [qb.j0]) (Ev.pos rfl (Ev.now _))
 cases hb : askB a x y p with
 | false =>
  rw [hb] at h1 h2
  exact ⟨(0, 0, 0, false), Ev.bind h2 (Ev.neg (by simp) (j2 _ _ _)), Ev.bind h1 (Ev.neg (by simp) (j1 _))⟩
 | true =>
  obtain ⟨rfl, rfl, rfl⟩ := hs hb
  have e := hr hb
  subst e
  rw [hb] at h1 h2
  have g := qVB (askB_ground hb)
  have hd := spec_diDir_ev a2
  cases hB : dirB a2 with
  | false =>
   refine ⟨(0, 0, 0, false), Ev.bind h2 (Ev.pos rfl (Ev.bind hd ?_)), Ev.bind h1 (Ev.pos rfl (Ev.bindc (isDir_eq a2) ?_))⟩
   ·rw [dirI_B, hB]; exact j2 _ _ _
   ·rw [hB]; exact j1 _
  | true =>
   obtain ⟨c, hc, hw⟩ := dirB_one hB
   have hr1 := bxRoll_ev g x y p (dirU c) (dirU_lt c)
   have hr2 := rollBox_ev g x y p (dirU c) (dirU_lt c)
   have hbt : bt a2 (0 : Int) = dirN (dirU c) := by
    have := bt_is a2 0 (c := c) (by rw [hc]; simp) (by simp [hc])
    rw [dirN_U hw]
    exact this
   have hsz : a2.size = 1 := by rw [← dlen, hc]; rfl
   have hd2 : Ev (fun k => qt.f k a2) ((dirU c : Nat) : Int) := by rw [← dirI_U hw, ← hc]; exact hd
   refine ⟨if canB a (tipB x y p (dirU c)) = true then ((tipB x y p (dirU c)).1, (tipB x y p (dirU c)).2.1, (tipB x y p (dirU c)).2.2, true) else (0, 0, 0, false), Ev.bind h2 (Ev.pos rfl (Ev.bind hd ?_)), Ev.bind h1 (Ev.pos rfl (Ev.bindc (isDir_eq a2) ?_))⟩
   ·rw [dirI_B, hB]
    refine Ev.step (f := fun k => _) (fun k => by rw [qb.j0]) (Ev.neg (by decide) (Ev.bind hd2 (Ev.bind hr1 ?_)))
    exact Ev.now _
   ·rw [hB]
    refine Ev.step (f := fun k => _) (fun k => by rw [qa.j0]) (Ev.neg (by decide) ?_)
    rw [hbt]
    refine Ev.pos (by omega) (Ev.bind hr2 ?_)
    generalize tipB x y p (dirU c) = t
    cases hcan : canB a t with
    | true => exact Ev.pos rfl (Ev.now _)
    | false => exact Ev.neg (by simp) (Ev.now _)
theorem FnExactRollBox : qy.Pure := by
 intro a x y p a2 _ _ _ _ _
 refine Ev.rounds (r := true) ?_
 unfold qy.f
 by_cases ha : a.size ≤ 1048576
 ·by_cases ha2 : a2.size ≤ 1048576
  ·obtain ⟨r, h1, h2⟩ := both a x y p a2 ha
   refine Ev.neg (by omega) (Ev.neg (by omega) (Ev.bindc (show qAA.f x y p = some (x, y, p) from rfl) ?_))
   refine Ev.bind h1 (Ev.bindc (show qAA.f x y p = some (x, y, p) from rfl) (Ev.bind h2 (Ev.bindc (eqBox_refl _ _ _) (Ev.pos rfl (Ev.neg (by simp) (Ev.now _))))))
  ·exact Ev.neg (by omega) (Ev.pos (by omega) (Ev.now _))
 ·exact Ev.pos (by omega) (Ev.now _)
end Go.Proofs.YtbpfhpjbeomfcaaDoor.Pure
