/- The program's FarthestState and the reference's: the same, at all texts and states. -/
import Derived.Test.YtdhbimankkpllaaDoorKFnExactFarthestState3
import Derived.ChangeArms
import Derived.ChangeSame
import Derived.Deep.Slices
import Derived.ProofKit
import Derived.OpenShut
import Derived.SizedLaws
import Derived.Test.YtdhbimankkpllaaDoorProg

namespace Go.Proofs.YtdhbimankkpllaaDoor
open Go.RowKit Go.Proofs.YtdhbimankkpllaaDoor.P Go.Proofs.YtdhbimankkpllaaDoorW.PrintWords Go.Proofs.YtdhbimankkpllaaDoorW.PrintLast Go.Proofs.YtdhbimankkpllaaDoorW.PrintMore
set_option linter.unusedVariables false
set_option linter.unusedSimpArgs false
abbrev z0S : XS := ⟨0, 0, ⟨0, 0, 0, 0, 0, 0⟩⟩
def farB (a : ByteArray) (s : XS) : XS × (Int × Bool) := if askS a s = true then (match (reachW a s).getLast? with | some z => (minS z.2.1 z.1 ((reachW a s).map sf), (z.2.1, true)) | none => (z0S, (0, false))) else (z0S, (0, false))
def faT4 : Bool × List (List Nat × List Nat) := (true, [([], []), ([0], [0]), ([1], [1]), ([2], [2]), ([], []), ([4], [4]), ([5], [5]), ([6], [6]), ([7], [7]), ([8], [8]), ([3, 9], [3, 9]), ([10], [10]), ([11, 0, 1, 2, 3, 4, 5, 6, 7, 8, 9, 10, 11], [11])])
def faB4 : List Nat := [0, 1, 3, 7, 0, 16, 48, 112, 240, 496, 1023, 2047, 4095]
theorem faTab4 : rtab .any (opsOf Tryd.f6 4) = faT4 := by kernel_rfl
theorem faBits4 : waitsOk faT4.2 faB4 = true := by kernel_rfl
def faT5 : Bool × List (List Nat × List Nat) := (true, [([], []), ([0], [0]), ([1], [1]), ([2], [2]), ([], []), ([4], [4]), ([5], [5]), ([6], [6]), ([7], [7]), ([8], [8]), ([3, 9], [3, 9]), ([10], [10]), ([], []), ([12, 11, 0, 1, 2, 3, 4, 5, 6, 7, 8, 9, 10, 11, 12], [11, 12])])
def faB5 : List Nat := [0, 1, 3, 7, 0, 16, 48, 112, 240, 496, 1023, 2047, 0, 8191]
theorem faTab5 : rtab .any (opsOf Tryd.f6 5) = faT5 := by kernel_rfl
theorem faBits5 : waitsOk faT5.2 faB5 = true := by kernel_rfl
set_option maxHeartbeats 4000000 in
set_option maxRecDepth 100000 in
theorem far_calls (a : ByteArray) (ha : a.size ≤ 1048576) (s : XS) (w : World) (hL : Laid w) :
  Calls Tryd.prog 6 #[.string a, .agg #[.int .i64 s.f0, .int .i64 s.f1, .int .i64 s.f2.f0, .int .i64 s.f2.f1, .int .i64 s.f2.f2, .int .i64 s.f2.f3, .int .i64 s.f2.f4, .int .i64 s.f2.f5]] w fun e w' => e = .returned (.tuple #[.agg #[.int .i64 (farB a s).1.f0, .int .i64 (farB a s).1.f1, .int .i64 (farB a s).1.f2.f0, .int .i64 (farB a s).1.f2.f1, .int .i64 (farB a s).1.f2.f2, .int .i64 (farB a s).1.f2.f3, .int .i64 (farB a s).1.f2.f4, .int .i64 (farB a s).1.f2.f5], .int .i64 (farB a s).2.1, .bool (farB a s).2.2]) ∧ Below w.heap.size w w' := by
 have hu_ := Tryd.underlying28
 have HL := aM hL
 have HA := aM ha
 have B := aM (Below.refl w.heap.size w)
 clear hL ha
 unfold farB
 cases hA : askS a s with
 | false =>
  rw [if_neg (by decide)]
  go_enter Tryd.func6, Tryd.ntmps6
  go_wp2_with (first
   | ((with_reducible refine qH (N := 3) rfl ?_); go_loud (refine bE (N := 3) (cs := #[.int .i64 s.f0, .int .i64 s.f1, .int .i64 s.f2.f0, .int .i64 s.f2.f1, .int .i64 s.f2.f2, .int .i64 s.f2.f3, .int .i64 s.f2.f4, .int .i64 s.f2.f5]) (t := 28) ?_; intro gs hgs u1 hbox hb; replace B := aM (qy B.out B.out.size hb); have BS := aM hbox; clear hbox hb hgs))
   | ((with_reducible refine qH (N := 4) rfl ?_); go_loud (refine bE (N := 4) (cs := #[.int .i64 0, .int .i64 0, .int .i64 0, .int .i64 0, .int .i64 0, .int .i64 0, .int .i64 0, .int .i64 0]) (t := 28) ?_; intro g4 hg4 u2 hbox hb; have HG4 := aM (show w.heap.size ≤ g4 by rw [hg4]; exact B.out.size); have n0_ := aM (qy B.out B.out.size hb); have hbs := qS BS.out hb; clear B; have B := n0_; clear n0_; have BK4 := aM hbox; have hz0_ : u2.cell? ⟨gs, 0, none⟩ = some (.int .i64 s.f0) := (qD hbs 0).trans rfl; have hz1_ : u2.cell? ⟨gs, 1, none⟩ = some (.int .i64 s.f1) := (qD hbs 1).trans rfl; have hz2_ : u2.cell? ⟨gs, 2, none⟩ = some (.int .i64 s.f2.f0) := (qD hbs 2).trans rfl; have hz3_ : u2.cell? ⟨gs, 3, none⟩ = some (.int .i64 s.f2.f1) := (qD hbs 3).trans rfl; have hz4_ : u2.cell? ⟨gs, 4, none⟩ = some (.int .i64 s.f2.f2) := (qD hbs 4).trans rfl; have hz5_ : u2.cell? ⟨gs, 5, none⟩ = some (.int .i64 s.f2.f3) := (qD hbs 5).trans rfl; have hz6_ : u2.cell? ⟨gs, 6, none⟩ = some (.int .i64 s.f2.f4) := (qD hbs 6).trans rfl; have hz7_ : u2.cell? ⟨gs, 7, none⟩ = some (.int .i64 s.f2.f5) := (qD hbs 7).trans rfl; clear hbox hb hg4 hbs BS))
   | (go_at_call 12; go_loud (refine (reachOn_calls a HA.out s _ (Laid.below HL.out B.out)).mono ?_; rintro e w2 ⟨v, rfl, hv, hb⟩; rw [hA]; replace B := aM (qy B.out B.out.size hb); replace BK4 := aM (qS BK4.out hb); clear hv hb hz0_ hz1_ hz2_ hz3_ hz4_ hz5_ hz6_ hz7_))
   | ((with_reducible refine qpA (t := 28) (p := 4) rfl ?_); go_loud (refine qgA (t := 28) (p := 4) (v := .tmp 21) (w1 := ((((((((w2.setCell ⟨g4, 0, none⟩ (.int .i64 z0S.f0)).setCell ⟨g4, 1, none⟩ (.int .i64 z0S.f1)).setCell ⟨g4, 2, none⟩ (.int .i64 z0S.f2.f0)).setCell ⟨g4, 3, none⟩ (.int .i64 z0S.f2.f1)).setCell ⟨g4, 4, none⟩ (.int .i64 z0S.f2.f2)).setCell ⟨g4, 5, none⟩ (.int .i64 z0S.f2.f3)).setCell ⟨g4, 6, none⟩ (.int .i64 z0S.f2.f4)).setCell ⟨g4, 7, none⟩ (.int .i64 z0S.f2.f5))) rfl rfl rfl (rcStore (own := z0S) (.tmp 4) (.tmp 21) g4 rfl rfl rfl BK4.out) ?_; intro w3 hw3; have n0_ := rcNew (own := z0S) BK4.out; have n1_ := rcSet (own := z0S) HG4.out B.out; rw [← hw3] at n0_ n1_; clear B BK4 hw3; have B := aM n1_; have BK4 := aM n0_; clear n0_ n1_)))
  refine bodyPost_ret (qfB rfl _ _ g4 28 #[.int .i64 0, .int .i64 0, .int .i64 0, .int .i64 0, .int .i64 0, .int .i64 0, .int .i64 0, .int .i64 0] (0, 0) _ rfl BK4.out Tryd.underlying28 rfl (by kernel_rfl)) rfl ?_
  exact ⟨rfl, B.out⟩
 | true =>
  rw [if_pos rfl]
  obtain ⟨t, ht⟩ := qxB a s
  have hne : reachW a s ≠ [] := by rw [ht]; simp
  clear ht t
  obtain ⟨L, hL⟩ : ∃ L, reachW a s = L := ⟨_, rfl⟩
  have HR := aM hL
  rw [hL] at hne ⊢
  obtain ⟨⟨z, p⟩, hz⟩ : ∃ z, L.getLast? = some z := ⟨_, List.getLast?_eq_some_getLast hne⟩
  rw [hz]
  simp only
  obtain ⟨M, hM⟩ : ∃ M, p.1 = M := ⟨_, rfl⟩
  rw [hM]
  obtain ⟨m, hm⟩ : ∃ m, L.length = m + 1 := ⟨L.length - 1, by have := List.length_pos_iff.2 hne; omega⟩
  have hzm : L[m]? = some (z, p) := by rw [List.getLast?_eq_getElem?, hm] at hz; exact hz
  obtain ⟨best, hbest⟩ : ∃ best, minS M z (L.map sf) = best := ⟨_, rfl⟩
  rw [hbest]
  have HBE := aM hbest
  have HLEN := aM (show L.length ≤ 49000000 by
   unfold askS at hA
   rw [Bool.and_eq_true] at hA
   rw [← HR.out]
   exact ((FoundW.start hA.2 (0, (-1, 0))).run 49000000 0).len (qhC hA.1))
  clear hne hz hL hbest
  have HZM := aM hzm
  have HMP := aM hM
  clear hzm hM
  go_enter Tryd.func6, Tryd.ntmps6
  go_wp2_with (first
   | ((with_reducible refine qH (N := 3) rfl ?_); go_loud (refine bE (N := 3) (cs := #[.int .i64 s.f0, .int .i64 s.f1, .int .i64 s.f2.f0, .int .i64 s.f2.f1, .int .i64 s.f2.f2, .int .i64 s.f2.f3, .int .i64 s.f2.f4, .int .i64 s.f2.f5]) (t := 28) ?_; intro gs hgs u1 hbox hb; replace B := aM (qy B.out B.out.size hb); have BS := aM hbox; clear hbox hb hgs))
   | ((with_reducible refine qH (N := 4) rfl ?_); go_loud (refine bE (N := 4) (cs := #[.int .i64 0, .int .i64 0, .int .i64 0, .int .i64 0, .int .i64 0, .int .i64 0, .int .i64 0, .int .i64 0]) (t := 28) ?_; intro g4 hg4 u2 hbox hb; have HG4 := aM (show w.heap.size ≤ g4 by rw [hg4]; exact B.out.size); have n0_ := aM (qy B.out B.out.size hb); have hbs := qS BS.out hb; clear B; have B := n0_; clear n0_; have BK4 := aM hbox; have hz0_ : u2.cell? ⟨gs, 0, none⟩ = some (.int .i64 s.f0) := (qD hbs 0).trans rfl; have hz1_ : u2.cell? ⟨gs, 1, none⟩ = some (.int .i64 s.f1) := (qD hbs 1).trans rfl; have hz2_ : u2.cell? ⟨gs, 2, none⟩ = some (.int .i64 s.f2.f0) := (qD hbs 2).trans rfl; have hz3_ : u2.cell? ⟨gs, 3, none⟩ = some (.int .i64 s.f2.f1) := (qD hbs 3).trans rfl; have hz4_ : u2.cell? ⟨gs, 4, none⟩ = some (.int .i64 s.f2.f2) := (qD hbs 4).trans rfl; have hz5_ : u2.cell? ⟨gs, 5, none⟩ = some (.int .i64 s.f2.f3) := (qD hbs 5).trans rfl; have hz6_ : u2.cell? ⟨gs, 6, none⟩ = some (.int .i64 s.f2.f4) := (qD hbs 6).trans rfl; have hz7_ : u2.cell? ⟨gs, 7, none⟩ = some (.int .i64 s.f2.f5) := (qD hbs 7).trans rfl; clear hbox hb hg4 hbs BS))
   | (go_at_call 12; go_loud (refine (reachOn_calls a HA.out s _ (Laid.below HL.out B.out)).mono ?_; rintro e w2 ⟨v, rfl, hv, hb⟩; rw [hA]; have HV := aM (hv hA); have BW := aM (qy B.out B.out.size hb); replace BK4 := aM (qS BK4.out hb); clear B; clear hv hb hz0_ hz1_ hz2_ hz3_ hz4_ hz5_ hz6_ hz7_)))
  have hv := HV.out
  rw [HR.out] at hv
  obtain ⟨g, gm, A0, A1, A2, A3, c0, c1, c2, c3, rfl, hg, hC0, hC1, hC2, hC3, hMp⟩ := hv
  clear HV hC1 hC2 hMp
  obtain ⟨n, hn⟩ : ∃ n, L.length = n := ⟨_, rfl⟩
  have hnm : n = m + 1 := by omega
  rw [hn] at hg hC0 hC3
  obtain ⟨a0, ha0⟩ : ∃ a0, A0 = some a0 := by obtain ⟨ad, e, _⟩ := hC0.2.2 (by omega); exact ⟨ad, e⟩
  subst ha0
  obtain ⟨a3, ha3⟩ : ∃ a3, A3 = some a3 := by obtain ⟨ad, e, _⟩ := hC3.2.2 (by omega); exact ⟨ad, e⟩
  subst ha3
  have BP := aM hg
  have HC0 := aM hC0
  have HC3 := aM hC3
  have HM0 := aM (show (0 : Int) ≤ (m : Int) by omega)
  have HMN := aM (show (m : Int) < (n : Int) by omega)
  have HW := aM (show IntKind.i64.wrap ((n : Int) - 1) = (m : Int) by have := HLEN.out; rw [IntKind.wrap_i64]; omega)
  have HRZ := aM (show qXB (stW L) (m : Int) = z by unfold qXB; rw [Int.toNat_natCast, List.getD_eq_getElem?_getD, List.getElem?_map, HZM.out]; rfl)
  have HCM := aM (show w2.cell? (a3.add m) = some (.int .i64 M) by
   obtain ⟨ad, e, h⟩ := Kd.qqA hC3 (m : Int) HM0.out HMN.out
   injection e with e
   subst e
   rw [Int.toNat_natCast] at h
   rw [h]
   unfold rd
   rw [Int.toNat_natCast, List.getD_eq_getElem?_getD, List.getElem?_map, HZM.out]
   show some (Value.int .i64 p.1) = _
   rw [HMP.out])
  have B2 := aM (Below.refl w2.heap.size w2)
  have HNN := aM (And.intro hn hnm)
  clear hg hC0 hC3 hn hnm hm hA
  refine qxA (n := 13) (S := fun w' => True) (ds := []) #[false, false, false, false, false, false, false, false, false, false, false, false, false] (by kernel_rfl) rfl rfl trivial (fun hHeld => ?_); refine qKA faTab4 faBits4 (fun HT_ HW_ => ?_)
  refine pS (i := 0) (N := some 22) #[true, false, false, false, false, false, false, false, false, false, false, false, false] HT_ ?_
  refine pS (i := 1) (N := some 23) #[true, true, false, false, false, false, false, false, false, false, false, false, false] HT_ ?_
  refine pS (i := 2) (N := some 24) #[true, true, true, false, false, false, false, false, false, false, false, false, false] HT_ ?_
  refine pS (i := 4) (N := some 26) #[true, true, true, false, true, false, false, false, false, false, false, false, false] HT_ ?_
  refine pS (i := 5) (N := some 27) #[true, true, true, false, true, true, false, false, false, false, false, false, false] HT_ ?_
  refine pS (i := 6) (N := some 28) #[true, true, true, false, true, true, true, false, false, false, false, false, false] HT_ ?_
  refine qTC [3, 7, 8, 9, 10, 11, 12] (fun a0_ b a w' => a = putSel a0_ b [(3, 25, .slice (some a3) n c3), (7, 29, .slice (some a3) n c3), (8, 30, .int .i64 (n : Int)), (9, 31, .int .i64 (m : Int)), (10, 32, .pointer (some (a3.add m))), (11, 33, .int .i64 M), (12, 9, .int .i64 M)] ∧ (Below w2.heap.size w2 w')) HT_.out HW_.out (by kernel_rfl) (by kernel_rfl) ?_ ?_ ?_
  ·exact ⟨by simp only [putSel, Bool.false_eq_true, if_false], qm B2.out⟩
  ·skip
   clear B2
   refine qL ?_ ?_
   ·rintro b a w' ⟨ha, Q_B2⟩ hb_ hon hoff
    refine ⟨_, rfl, fun K hK => ?_⟩
    have e24 : a.tmps[24]? = some (.pointer (some ⟨g, 3, none⟩)) := by rw [ha]; exact (qi rfl).trans rfl
    replace ha := aM ha
    have B2 := aM Q_B2
    have hc_ : w'.cell? ⟨g, 3, none⟩ = some (.slice (some a3) n c3) := (qD (qS BP.out B2.out) 3).trans rfl
    refine qw (w1 := w') (v := .slice (some a3) n c3) (by rfl) rfl ?_ ?_
    ·go_simp
     (try simp only [i64_w])
     try rfl
    refine hK.out _ _ ⟨(by rw [ha.out]; exact qM 0 hb_ rfl rfl rfl), Q_B2⟩
   refine qL ?_ ?_
   ·rintro b a w' ⟨ha, Q_B2⟩ hb_ hon hoff
    refine ⟨_, rfl, fun K hK => ?_⟩
    have e28 : a.tmps[28]? = some (.pointer (some ⟨g, 3, none⟩)) := by rw [ha]; exact (qi rfl).trans rfl
    replace ha := aM ha
    have B2 := aM Q_B2
    have hc_ : w'.cell? ⟨g, 3, none⟩ = some (.slice (some a3) n c3) := (qD (qS BP.out B2.out) 3).trans rfl
    refine qw (w1 := w') (v := .slice (some a3) n c3) (by rfl) rfl ?_ ?_
    ·go_simp
     (try simp only [i64_w])
     try rfl
    refine hK.out _ _ ⟨(by rw [ha.out]; exact qM 1 hb_ rfl rfl rfl), Q_B2⟩
   refine qL ?_ ?_
   ·rintro b a w' ⟨ha, Q_B2⟩ hb_ hon hoff
    refine ⟨_, rfl, fun K hK => ?_⟩
    have e29 : a.tmps[29]? = some (.slice (some a3) n c3) := by rw [ha]; exact qO (e := (7, 29, .slice (some a3) n c3)) 1 rfl rfl (hon 7 kr) rfl
    replace ha := aM ha
    have B2 := aM Q_B2
    refine qw (w1 := w') (v := .int .i64 (n : Int)) (by rfl) rfl ?_ ?_
    ·go_simp
     (try simp only [i64_w])
     try rfl
    refine hK.out _ _ ⟨(by rw [ha.out]; exact qM 2 hb_ rfl rfl rfl), Q_B2⟩
   refine qL ?_ ?_
   ·rintro b a w' ⟨ha, Q_B2⟩ hb_ hon hoff
    refine ⟨_, rfl, fun K hK => ?_⟩
    have e30 : a.tmps[30]? = some (.int .i64 (n : Int)) := by rw [ha]; exact qO (e := (8, 30, .int .i64 (n : Int))) 2 rfl rfl (hon 8 kr) rfl
    replace ha := aM ha
    have B2 := aM Q_B2
    have hw_ := HW.out
    refine qw (w1 := w') (v := .int .i64 (m : Int)) (by rfl) rfl ?_ ?_
    ·go_simp
     (try simp only [i64_w])
     try rfl
    refine hK.out _ _ ⟨(by rw [ha.out]; exact qM 3 hb_ rfl rfl rfl), Q_B2⟩
   refine qL ?_ ?_
   ·rintro b a w' ⟨ha, Q_B2⟩ hb_ hon hoff
    refine ⟨_, rfl, fun K hK => ?_⟩
    have e25 : a.tmps[25]? = some (.slice (some a3) n c3) := by rw [ha]; exact qO (e := (3, 25, .slice (some a3) n c3)) 0 rfl rfl (hon 3 kr) rfl
    have e31 : a.tmps[31]? = some (.int .i64 (m : Int)) := by rw [ha]; exact qO (e := (9, 31, .int .i64 (m : Int))) 3 rfl rfl (hon 9 kr) rfl
    replace ha := aM ha
    have B2 := aM Q_B2
    have hm0_ := HM0.out
    have hmn_ := HMN.out
    refine qw (w1 := w') (v := .pointer (some (a3.add m))) (by rfl) rfl ?_ ?_
    ·go_simp
     (try simp only [i64_w])
     try rfl
    refine hK.out _ _ ⟨(by rw [ha.out]; exact qM 4 hb_ rfl rfl rfl), Q_B2⟩
   refine qL ?_ ?_
   ·rintro b a w' ⟨ha, Q_B2⟩ hb_ hon hoff
    refine ⟨_, rfl, fun K hK => ?_⟩
    have e32 : a.tmps[32]? = some (.pointer (some (a3.add m))) := by rw [ha]; exact qO (e := (10, 32, .pointer (some (a3.add m)))) 4 rfl rfl (hon 10 kr) rfl
    replace ha := aM ha
    have B2 := aM Q_B2
    have hc_ := (B2.out.cell (World.block_lt_of_cell? _ _ HCM.out)).trans HCM.out
    refine qw (w1 := w') (v := .int .i64 M) (by rfl) rfl ?_ ?_
    ·go_simp
     (try simp only [i64_w])
     try rfl
    refine hK.out _ _ ⟨(by rw [ha.out]; exact qM 5 hb_ rfl rfl rfl), Q_B2⟩
   refine qL ?_ ?_
   ·rintro b a w' ⟨ha, Q_B2⟩ hb_ hon hoff
    refine ⟨_, rfl, fun K hK => ?_⟩
    have e33 : a.tmps[33]? = some (.int .i64 M) := by rw [ha]; exact qO (e := (11, 33, .int .i64 M)) 5 rfl rfl (hon 11 kr) rfl
    replace ha := aM ha
    have B2 := aM Q_B2
    refine qw (w1 := w') (v := .int .i64 M) (by rfl) rfl ?_ ?_
    ·go_simp
     (try simp only [i64_w])
     try rfl
    refine hK.out _ _ ⟨(by rw [ha.out]; exact qM 6 hb_ rfl rfl rfl), Q_B2⟩
   exact qSB
  ·rintro b a w' hall ⟨ha, Q_B2⟩
   clear B2
   have hb3_ := hall 3 (by kernel_rfl)
   have hb7_ := hall 7 (by kernel_rfl)
   have hb8_ := hall 8 (by kernel_rfl)
   have hb9_ := hall 9 (by kernel_rfl)
   have hb10_ := hall 10 (by kernel_rfl)
   have hb11_ := hall 11 (by kernel_rfl)
   have hb12_ := hall 12 (by kernel_rfl)
   subst ha
   simp only [putSel, hb3_, hb7_, hb8_, hb9_, hb10_, hb11_, hb12_, if_true, Act.put, List.setIfInBounds_toArray, List.set_cons_zero, List.set_cons_succ]
   have B2 := aM Q_B2
   clear Q_B2 hall hb3_ hb7_ hb8_ hb9_ hb10_ hb11_ hb12_
   go_wp2
   refine qxA (n := 14) (S := fun w' => True) (ds := []) #[false, false, false, false, false, false, false, false, false, false, false, false, false, false] (by kernel_rfl) rfl rfl trivial (fun hHeld => ?_); refine qKA faTab5 faBits5 (fun HT_ HW_ => ?_)
   refine pS (i := 0) (N := some 34) #[true, false, false, false, false, false, false, false, false, false, false, false, false, false] HT_ ?_
   refine pS (i := 1) (N := some 35) #[true, true, false, false, false, false, false, false, false, false, false, false, false, false] HT_ ?_
   refine pS (i := 2) (N := some 36) #[true, true, true, false, false, false, false, false, false, false, false, false, false, false] HT_ ?_
   refine pS (i := 4) (N := some 38) #[true, true, true, false, true, false, false, false, false, false, false, false, false, false] HT_ ?_
   refine pS (i := 5) (N := some 39) #[true, true, true, false, true, true, false, false, false, false, false, false, false, false] HT_ ?_
   refine pS (i := 6) (N := some 40) #[true, true, true, false, true, true, true, false, false, false, false, false, false, false] HT_ ?_
   refine qTC [3, 7, 8, 9, 10, 11, 12, 13] (fun a0_ b a w' => ∃ (g8 : Nat) (m12_ : Value), a = putSel a0_ b [(3, 37, .slice (some a0) n c0), (7, 41, .slice (some a0) n c0), (8, 42, .int .i64 (n : Int)), (9, 43, .int .i64 (m : Int)), (10, 44, .pointer (some (a0.add (m * 8)))), (11, 45, .agg #[.int .i64 z.f0, .int .i64 z.f1, .int .i64 z.f2.f0, .int .i64 z.f2.f1, .int .i64 z.f2.f2, .int .i64 z.f2.f3, .int .i64 z.f2.f4, .int .i64 z.f2.f5]), (12, 10, m12_)] ∧ (Below w2.heap.size w2 w') ∧ (b 12 = true → w2.heap.size ≤ g8) ∧ (b 12 = true → b 13 = false → w'.heap[g8]? = some (.cells #[.int .i64 0, .int .i64 0, .int .i64 0, .int .i64 0, .int .i64 0, .int .i64 0, .int .i64 0, .int .i64 0] 28 (0, 0))) ∧ (b 13 = true → w'.heap[g8]? = some (.cells #[.int .i64 z.f0, .int .i64 z.f1, .int .i64 z.f2.f0, .int .i64 z.f2.f1, .int .i64 z.f2.f2, .int .i64 z.f2.f3, .int .i64 z.f2.f4, .int .i64 z.f2.f5] 28 (0, 0))) ∧ (b 12 = true → (m12_ : Value) = .pointer (some ⟨g8, 0, none⟩))) HT_.out HW_.out (by kernel_rfl) (by kernel_rfl) ?_ ?_ ?_
   ·exact ⟨0, .bool false, by simp only [putSel, Bool.false_eq_true, if_false], qm B2.out, fun h_ => absurd h_ (by decide), fun h_ => absurd h_ (by decide), fun h_ => absurd h_ (by decide), fun h_ => absurd h_ (by decide)⟩
   ·skip
    clear B2
    refine qL ?_ ?_
    ·rintro b a w' ⟨g8, m12_, ha, Q_B2, Q_HG8, Q_LO, Q_LS, Q_X12_⟩ hb_ hon hoff
     refine ⟨_, rfl, fun K hK => ?_⟩
     have e36 : a.tmps[36]? = some (.pointer (some ⟨g, 0, none⟩)) := by rw [ha]; exact (qi rfl).trans rfl
     replace ha := aM ha
     have B2 := aM Q_B2
     have hc_ : w'.cell? ⟨g, 0, none⟩ = some (.slice (some a0) n c0) := (qD (qS BP.out B2.out) 0).trans rfl
     refine qw (w1 := w') (v := .slice (some a0) n c0) (by rfl) rfl ?_ ?_
     ·go_simp
      (try simp only [i64_w])
      try rfl
     refine hK.out _ _ ⟨g8, m12_, (by rw [ha.out]; exact qM 0 hb_ rfl rfl rfl), Q_B2, Q_HG8, Q_LO, fun h0_ => aF (hoff 13 kr) h0_, Q_X12_⟩
    refine qL ?_ ?_
    ·rintro b a w' ⟨g8, m12_, ha, Q_B2, Q_HG8, Q_LO, Q_LS, Q_X12_⟩ hb_ hon hoff
     refine ⟨_, rfl, fun K hK => ?_⟩
     have e40 : a.tmps[40]? = some (.pointer (some ⟨g, 0, none⟩)) := by rw [ha]; exact (qi rfl).trans rfl
     replace ha := aM ha
     have B2 := aM Q_B2
     have hc_ : w'.cell? ⟨g, 0, none⟩ = some (.slice (some a0) n c0) := (qD (qS BP.out B2.out) 0).trans rfl
     refine qw (w1 := w') (v := .slice (some a0) n c0) (by rfl) rfl ?_ ?_
     ·go_simp
      (try simp only [i64_w])
      try rfl
     refine hK.out _ _ ⟨g8, m12_, (by rw [ha.out]; exact qM 1 hb_ rfl rfl rfl), Q_B2, Q_HG8, Q_LO, fun h0_ => aF (hoff 13 kr) h0_, Q_X12_⟩
    refine qL ?_ ?_
    ·rintro b a w' ⟨g8, m12_, ha, Q_B2, Q_HG8, Q_LO, Q_LS, Q_X12_⟩ hb_ hon hoff
     refine ⟨_, rfl, fun K hK => ?_⟩
     have e41 : a.tmps[41]? = some (.slice (some a0) n c0) := by rw [ha]; exact qO (e := (7, 41, .slice (some a0) n c0)) 1 rfl rfl (hon 7 kr) rfl
     replace ha := aM ha
     have B2 := aM Q_B2
     refine qw (w1 := w') (v := .int .i64 (n : Int)) (by rfl) rfl ?_ ?_
     ·go_simp
      (try simp only [i64_w])
      try rfl
     refine hK.out _ _ ⟨g8, m12_, (by rw [ha.out]; exact qM 2 hb_ rfl rfl rfl), Q_B2, Q_HG8, Q_LO, fun h0_ => aF (hoff 13 kr) h0_, Q_X12_⟩
    refine qL ?_ ?_
    ·rintro b a w' ⟨g8, m12_, ha, Q_B2, Q_HG8, Q_LO, Q_LS, Q_X12_⟩ hb_ hon hoff
     refine ⟨_, rfl, fun K hK => ?_⟩
     have e42 : a.tmps[42]? = some (.int .i64 (n : Int)) := by rw [ha]; exact qO (e := (8, 42, .int .i64 (n : Int))) 2 rfl rfl (hon 8 kr) rfl
     replace ha := aM ha
     have B2 := aM Q_B2
     have hw_ := HW.out
     refine qw (w1 := w') (v := .int .i64 (m : Int)) (by rfl) rfl ?_ ?_
     ·go_simp
      (try simp only [i64_w])
      try rfl
     refine hK.out _ _ ⟨g8, m12_, (by rw [ha.out]; exact qM 3 hb_ rfl rfl rfl), Q_B2, Q_HG8, Q_LO, fun h0_ => aF (hoff 13 kr) h0_, Q_X12_⟩
    refine qL ?_ ?_
    ·rintro b a w' ⟨g8, m12_, ha, Q_B2, Q_HG8, Q_LO, Q_LS, Q_X12_⟩ hb_ hon hoff
     refine ⟨_, rfl, fun K hK => ?_⟩
     have e37 : a.tmps[37]? = some (.slice (some a0) n c0) := by rw [ha]; exact qO (e := (3, 37, .slice (some a0) n c0)) 0 rfl rfl (hon 3 kr) rfl
     have e43 : a.tmps[43]? = some (.int .i64 (m : Int)) := by rw [ha]; exact qO (e := (9, 43, .int .i64 (m : Int))) 3 rfl rfl (hon 9 kr) rfl
     replace ha := aM ha
     have B2 := aM Q_B2
     have hm0_ := HM0.out
     have hmn_ := HMN.out
     refine qw (w1 := w') (v := .pointer (some (a0.add (m * 8)))) (by rfl) rfl ?_ ?_
     ·go_simp
      (try simp only [i64_w])
      try rfl
     refine hK.out _ _ ⟨g8, m12_, (by rw [ha.out]; exact qM 4 hb_ rfl rfl rfl), Q_B2, Q_HG8, Q_LO, fun h0_ => aF (hoff 13 kr) h0_, Q_X12_⟩
    refine qL ?_ ?_
    ·rintro b a w' ⟨g8, m12_, ha, Q_B2, Q_HG8, Q_LO, Q_LS, Q_X12_⟩ hb_ hon hoff
     refine ⟨_, rfl, fun K hK => ?_⟩
     have e44 : a.tmps[44]? = some (.pointer (some (a0.add (m * 8)))) := by rw [ha]; exact qO (e := (10, 44, .pointer (some (a0.add (m * 8))))) 4 rfl rfl (hon 10 kr) rfl
     replace ha := aM ha
     have B2 := aM Q_B2
     have hC_ := Kd.qdA HC0.out B2.out
     obtain ⟨ad_, e_, hx0_, hx1_, hx2_, hx3_, hx4_, hx5_, hx6_, hx7_⟩ := qzC hC_ (m : Int) HM0.out HMN.out
     obtain rfl : a0 = ad_ := by injection e_
     rw [HRZ.out, Int.toNat_natCast] at hx0_ hx1_ hx2_ hx3_ hx4_ hx5_ hx6_ hx7_
     refine qw (w1 := w') (v := .agg #[.int .i64 z.f0, .int .i64 z.f1, .int .i64 z.f2.f0, .int .i64 z.f2.f1, .int .i64 z.f2.f2, .int .i64 z.f2.f3, .int .i64 z.f2.f4, .int .i64 z.f2.f5]) (by rfl) rfl ?_ ?_
     ·go_simp
      (try simp only [i64_w])
      try rfl
     refine hK.out _ _ ⟨g8, m12_, (by rw [ha.out]; exact qM 5 hb_ rfl rfl rfl), Q_B2, Q_HG8, Q_LO, fun h0_ => aF (hoff 13 kr) h0_, Q_X12_⟩
    refine qL ?_ ?_
    ·rintro b a w' ⟨g8, m12_, ha, Q_B2, Q_HG8, Q_LO, Q_LS, Q_X12_⟩ hb_ hon hoff
     refine ⟨_, rfl, fun K hK => ?_⟩
     replace ha := aM ha
     have B2 := aM Q_B2
     refine qhB (by rfl) rfl (cs := #[.int .i64 0, .int .i64 0, .int .i64 0, .int .i64 0, .int .i64 0, .int .i64 0, .int .i64 0, .int .i64 0]) (t := 28) ?hr12 ?_
     case hr12 => first | (go_simp; done) | (go_simp; rfl)
     intro g8_ hg8_ w1_ hbox_ hbl_
     refine hK.out _ _ ⟨g8_, (.pointer (some ⟨g8_, 0, none⟩)), (by rw [ha.out]; exact qM 6 hb_ rfl rfl rfl), qy B2.out B2.out.size hbl_, fun _ => (by rw [hg8_]; exact B2.out.size), fun _ _ => hbox_, fun h0_ => aF (hoff 13 kr) h0_, fun _ => rfl⟩
    refine qL ?_ ?_
    ·rintro b a w' ⟨g8, m12_, ha, Q_B2, Q_HG8, Q_LO, Q_LS, Q_X12_⟩ hb_ hon hoff
     refine ⟨_, rfl, fun K hK => ?_⟩
     have e10 : a.tmps[10]? = some (m12_) := by rw [ha]; exact qO (e := (12, 10, m12_)) 6 rfl rfl (hon 12 kr) rfl
     rw [Q_X12_ (hon 12 kr)] at e10
     have e45 : a.tmps[45]? = some (.agg #[.int .i64 z.f0, .int .i64 z.f1, .int .i64 z.f2.f0, .int .i64 z.f2.f1, .int .i64 z.f2.f2, .int .i64 z.f2.f3, .int .i64 z.f2.f4, .int .i64 z.f2.f5]) := by rw [ha]; exact qO (e := (11, 45, .agg #[.int .i64 z.f0, .int .i64 z.f1, .int .i64 z.f2.f0, .int .i64 z.f2.f1, .int .i64 z.f2.f2, .int .i64 z.f2.f3, .int .i64 z.f2.f4, .int .i64 z.f2.f5])) 5 rfl rfl (hon 11 kr) rfl
     replace ha := aM ha
     have B2 := aM Q_B2
     have HG8 := aM (Q_HG8 (hon 12 kr))
     have LO := aM (Q_LO (hon 12 kr) hb_)
     obtain ⟨w1_, hw1_⟩ : ∃ w1_, ((((((((w'.setCell ⟨g8, 0, none⟩ (.int .i64 z.f0)).setCell ⟨g8, 1, none⟩ (.int .i64 z.f1)).setCell ⟨g8, 2, none⟩ (.int .i64 z.f2.f0)).setCell ⟨g8, 3, none⟩ (.int .i64 z.f2.f1)).setCell ⟨g8, 4, none⟩ (.int .i64 z.f2.f2)).setCell ⟨g8, 5, none⟩ (.int .i64 z.f2.f3)).setCell ⟨g8, 6, none⟩ (.int .i64 z.f2.f4)).setCell ⟨g8, 7, none⟩ (.int .i64 z.f2.f5)) = w1_ := ⟨_, rfl⟩
     have hnew_ := rcNew (own := z) LO.out
     have hset_ := rcSet (own := z) (w := w') HG8.out B2.out
     rw [hw1_] at hnew_ hset_
     refine skip_ (w1 := w1_) (by rfl) rfl ?hr13 ?_
     case hr13 => (rw [← hw1_]; exact rcStore (own := z) (.tmp 10) (.tmp 45) g8 rfl (qjA e10) (qjA e45) LO.out)
     refine hK.out _ _ ⟨g8, m12_, (by rw [ha.out]; exact qvA (v := undef) rfl), hset_, Q_HG8, fun _ h1_ => absurd ((qVA b 13).symm.trans h1_) (by decide), fun _ => hnew_, Q_X12_⟩
    exact qSB
   ·rintro b a w' hall ⟨g8, m12_, ha, Q_B2, Q_HG8, Q_LO, Q_LS, Q_X12_⟩
    clear B2
    have hb3_ := hall 3 (by kernel_rfl)
    have hb7_ := hall 7 (by kernel_rfl)
    have hb8_ := hall 8 (by kernel_rfl)
    have hb9_ := hall 9 (by kernel_rfl)
    have hb10_ := hall 10 (by kernel_rfl)
    have hb11_ := hall 11 (by kernel_rfl)
    have hb12_ := hall 12 (by kernel_rfl)
    have hb13_ := hall 13 (by kernel_rfl)
    subst ha
    obtain rfl := Q_X12_ hb12_
    simp only [putSel, hb3_, hb7_, hb8_, hb9_, hb10_, hb11_, hb12_, hb13_, if_true, Act.put, List.setIfInBounds_toArray, List.set_cons_zero, List.set_cons_succ]
    have B2 := aM Q_B2
    clear Q_B2
    have HG8 := aM (Q_HG8 hb12_)
    clear Q_HG8 Q_LO
    have LS := aM (Q_LS hb13_)
    clear Q_LS hall hb3_ hb7_ hb8_ hb9_ hb10_ hb11_ hb12_ hb13_
    have hc0 : w'.cell? ⟨g, 0, none⟩ = some (.slice (some a0) n c0) := (qD (qS BP.out B2.out) 0).trans rfl
    go_wp2
    clear hc0
    go_loopg [51] n (fun gg v51 wq => ∃ (j : Nat) (b : XS), v51 = .int .i64 j ∧ n - j ≤ gg ∧ Aside0 (j ≤ n) ∧ Aside0 (minS M b ((L.map sf).drop j) = best) ∧ Aside0 (wq.heap[g8]? = some (.cells #[.int .i64 b.f0, .int .i64 b.f1, .int .i64 b.f2.f0, .int .i64 b.f2.f1, .int .i64 b.f2.f2, .int .i64 b.f2.f3, .int .i64 b.f2.f4, .int .i64 b.f2.f5] 28 (0, 0))) ∧ Aside0 (Below w2.heap.size w2 wq))
    case atStart => exact ⟨0, z, rfl, by omega, ⟨Nat.zero_le _⟩, ⟨HBE.out⟩, LS, B2⟩
    case round =>
     clear LS B2
     obtain ⟨j, b, rfl, hgk, HJ, HS, LS, B2⟩ := hrel
     rename World => wr
     by_cases hj : j < n
     ·have hjz : (j : Int) < (n : Int) := by omega
      have hj0 : (0 : Int) ≤ (j : Int) := by omega
      obtain ⟨⟨x, q⟩, hx⟩ : ∃ x, L[j]? = some x := ⟨_, List.getElem?_eq_getElem (by have := HNN.out.1; omega)⟩
      have hjl := (List.getElem?_eq_some_iff.1 hx).1
      have hs := HS.out
      obtain ⟨f, hf⟩ : ∃ f, q.1 = f := ⟨_, rfl⟩
      rw [List.drop_eq_getElem_cons (by rw [List.length_map]; exact hjl), List.getElem_map, (List.getElem?_eq_some_iff.1 hx).2, show sf (x, q) = (x, f) from by rw [← hf]; rfl, minS] at hs
      obtain ⟨r, ⟨kt, hkt⟩, hr⟩ := orderS_ev x b
      have HO := aM (hkt kt (Nat.le_refl _))
      rw [← hr] at hs
      have HS2 := aM hs
      have hrx : qXB (stW L) (j : Int) = x := by unfold qXB; rw [Int.toNat_natCast, List.getD_eq_getElem?_getD, List.getElem?_map, hx]; rfl
      have hrf : rd (farW L) (j : Int) = f := by unfold rd; rw [Int.toNat_natCast, List.getD_eq_getElem?_getD, List.getElem?_map, hx]; exact hf
      obtain ⟨ad_, e_, hx0_, hx1_, hx2_, hx3_, hx4_, hx5_, hx6_, hx7_⟩ := qzC (Kd.qdA HC0.out B2.out) (j : Int) hj0 hjz
      obtain rfl : a0 = ad_ := by injection e_
      rw [hrx, Int.toNat_natCast] at hx0_ hx1_ hx2_ hx3_ hx4_ hx5_ hx6_ hx7_
      have HFJ := aM (show ∀ W, Below w2.heap.size w2 W → W.cell? (a3.add j) = some (.int .i64 f) from fun W hW => by
       obtain ⟨ad, e, h⟩ := Kd.qqA (Kd.qdA HC3.out hW) (j : Int) hj0 hjz
       injection e with e
       subst e
       rw [hrf, Int.toNat_natCast] at h
       exact h)
      have HX := aM hx
      clear hx hjl hs hf hkt hr hrx hrf HS
      by_cases hfM : f = M
      ·have hfb : (f == M) = true := beq_iff_eq.2 hfM
       have HFM := aM hfM
       clear hfM
       by_cases hr0 : r < 0
       ·have HR0 := aM hr0
        clear hr0
        have hrd : decide (r < 0) = true := decide_eq_true HR0.out
        have hcs : ∀ W, Below w2.heap.size w2 W → W.cell? ⟨g, 3, none⟩ = some (.slice (some a3) n c3) := fun W hW => (qD (qS BP.out hW) 3).trans rfl
        have HCS := aM hcs
        clear hcs
        go_wp2_with (first
           | ((with_reducible refine qH (N := 12) rfl ?_); go_loud (refine bE (N := 12) (cs := #[.int .i64 0, .int .i64 0, .int .i64 0, .int .i64 0, .int .i64 0, .int .i64 0, .int .i64 0, .int .i64 0]) (t := 28) ?_; intro g12 hg12 w5 hbox hb; have HG12 := aM (show w2.heap.size ≤ g12 by rw [hg12]; exact B2.out.size); have N12 := aM (show g8 ≠ g12 by rw [hg12]; exact Nat.ne_of_lt (qPB LS.out)); have BK12 := aM hbox; replace B2 := aM (qy B2.out B2.out.size hb); replace LS := aM (qS LS.out hb); clear hbox hb hg12 hx0_ hx1_ hx2_ hx3_ hx4_ hx5_ hx6_ hx7_))
           | ((with_reducible refine qpA (t := 28) (p := 12) rfl ?_); go_loud (refine qgA (t := 28) (p := 12) (v := .tmp 55) (w1 := ((((((((w5.setCell ⟨g12, 0, none⟩ (.int .i64 x.f0)).setCell ⟨g12, 1, none⟩ (.int .i64 x.f1)).setCell ⟨g12, 2, none⟩ (.int .i64 x.f2.f0)).setCell ⟨g12, 3, none⟩ (.int .i64 x.f2.f1)).setCell ⟨g12, 4, none⟩ (.int .i64 x.f2.f2)).setCell ⟨g12, 5, none⟩ (.int .i64 x.f2.f3)).setCell ⟨g12, 6, none⟩ (.int .i64 x.f2.f4)).setCell ⟨g12, 7, none⟩ (.int .i64 x.f2.f5))) rfl rfl rfl (rcStore (own := x) (.tmp 12) (.tmp 55) g12 rfl rfl rfl BK12.out) ?_; intro w6 hw6; have n0_ := rcNew (own := x) BK12.out; have n1_ := rcSet (own := x) HG12.out B2.out; have n2_ := (rcFar (own := x) w5 g12 g8 N12.out).trans LS.out; rw [← hw6] at n0_ n1_ n2_; clear B2 BK12 LS hw6; have B2 := aM n1_; have BK12 := aM n0_; have LS := aM n2_; clear n0_ n1_ n2_; have hcs3 := HCS.out _ B2.out; have hfj := HFJ.out _ B2.out; have hbk := BK12.out; have hz0_ : w6.cell? ⟨g12, 0, none⟩ = some (.int .i64 x.f0) := (qD hbk 0).trans rfl; have hz1_ : w6.cell? ⟨g12, 1, none⟩ = some (.int .i64 x.f1) := (qD hbk 1).trans rfl; have hz2_ : w6.cell? ⟨g12, 2, none⟩ = some (.int .i64 x.f2.f0) := (qD hbk 2).trans rfl; have hz3_ : w6.cell? ⟨g12, 3, none⟩ = some (.int .i64 x.f2.f1) := (qD hbk 3).trans rfl; have hz4_ : w6.cell? ⟨g12, 4, none⟩ = some (.int .i64 x.f2.f2) := (qD hbk 4).trans rfl; have hz5_ : w6.cell? ⟨g12, 5, none⟩ = some (.int .i64 x.f2.f3) := (qD hbk 5).trans rfl; have hz6_ : w6.cell? ⟨g12, 6, none⟩ = some (.int .i64 x.f2.f4) := (qD hbk 6).trans rfl; have hz7_ : w6.cell? ⟨g12, 7, none⟩ = some (.int .i64 x.f2.f5) := (qD hbk 7).trans rfl; have hbl := LS.out; have hy0_ : w6.cell? ⟨g8, 0, none⟩ = some (.int .i64 b.f0) := (qD hbl 0).trans rfl; have hy1_ : w6.cell? ⟨g8, 1, none⟩ = some (.int .i64 b.f1) := (qD hbl 1).trans rfl; have hy2_ : w6.cell? ⟨g8, 2, none⟩ = some (.int .i64 b.f2.f0) := (qD hbl 2).trans rfl; have hy3_ : w6.cell? ⟨g8, 3, none⟩ = some (.int .i64 b.f2.f1) := (qD hbl 3).trans rfl; have hy4_ : w6.cell? ⟨g8, 4, none⟩ = some (.int .i64 b.f2.f2) := (qD hbl 4).trans rfl; have hy5_ : w6.cell? ⟨g8, 5, none⟩ = some (.int .i64 b.f2.f3) := (qD hbl 5).trans rfl; have hy6_ : w6.cell? ⟨g8, 6, none⟩ = some (.int .i64 b.f2.f4) := (qD hbl 6).trans rfl; have hy7_ : w6.cell? ⟨g8, 7, none⟩ = some (.int .i64 b.f2.f5) := (qD hbl 7).trans rfl; clear hbk hbl))
           | (go_at_call 13; go_loud (refine (ql.calls kt x.f0 x.f1 x.f2.f0 x.f2.f1 x.f2.f2 x.f2.f3 x.f2.f4 x.f2.f5 b.f0 b.f1 b.f2.f0 b.f2.f1 b.f2.f2 b.f2.f3 b.f2.f4 b.f2.f5 r _ HO.out).mono ?_; rintro e w7 ⟨rfl, hb⟩; replace B2 := aM (qy B2.out B2.out.size hb); replace LS := aM (qS LS.out hb); replace BK12 := aM (qS BK12.out hb); clear hb hz0_ hz1_ hz2_ hz3_ hz4_ hz5_ hz6_ hz7_ hy0_ hy1_ hy2_ hy3_ hy4_ hy5_ hy6_ hy7_ hcs3 hfj; have hbk := BK12.out; have hz0_ : w7.cell? ⟨g12, 0, none⟩ = some (.int .i64 x.f0) := (qD hbk 0).trans rfl; have hz1_ : w7.cell? ⟨g12, 1, none⟩ = some (.int .i64 x.f1) := (qD hbk 1).trans rfl; have hz2_ : w7.cell? ⟨g12, 2, none⟩ = some (.int .i64 x.f2.f0) := (qD hbk 2).trans rfl; have hz3_ : w7.cell? ⟨g12, 3, none⟩ = some (.int .i64 x.f2.f1) := (qD hbk 3).trans rfl; have hz4_ : w7.cell? ⟨g12, 4, none⟩ = some (.int .i64 x.f2.f2) := (qD hbk 4).trans rfl; have hz5_ : w7.cell? ⟨g12, 5, none⟩ = some (.int .i64 x.f2.f3) := (qD hbk 5).trans rfl; have hz6_ : w7.cell? ⟨g12, 6, none⟩ = some (.int .i64 x.f2.f4) := (qD hbk 6).trans rfl; have hz7_ : w7.cell? ⟨g12, 7, none⟩ = some (.int .i64 x.f2.f5) := (qD hbk 7).trans rfl; clear hbk))
           | ((with_reducible refine qpA (t := 28) (p := 10) rfl ?_); go_loud (refine qgA (t := 28) (p := 10) (v := .tmp 71) (w1 := ((((((((w7.setCell ⟨g8, 0, none⟩ (.int .i64 x.f0)).setCell ⟨g8, 1, none⟩ (.int .i64 x.f1)).setCell ⟨g8, 2, none⟩ (.int .i64 x.f2.f0)).setCell ⟨g8, 3, none⟩ (.int .i64 x.f2.f1)).setCell ⟨g8, 4, none⟩ (.int .i64 x.f2.f2)).setCell ⟨g8, 5, none⟩ (.int .i64 x.f2.f3)).setCell ⟨g8, 6, none⟩ (.int .i64 x.f2.f4)).setCell ⟨g8, 7, none⟩ (.int .i64 x.f2.f5))) rfl rfl rfl (rcStore (own := x) (.tmp 10) (.tmp 71) g8 rfl rfl rfl LS.out) ?_; intro w8 hw8; have n0_ := rcNew (own := x) LS.out; have n1_ := rcSet (own := x) HG8.out B2.out; rw [← hw8] at n0_ n1_; clear B2 LS hw8; have B2 := aM n1_; have LS := aM n0_; clear n0_ n1_ hz0_ hz1_ hz2_ hz3_ hz4_ hz5_ hz6_ hz7_)))
        go_roundg (n - (j + 1))
        case measure => omega
        case rel =>
         refine ⟨j + 1, x, by first | (push_cast; rfl) | (show Value.int .i64 (wrap64 ((j : Int) + 1)) = _; rw [show wrap64 ((j : Int) + 1) = ((j + 1 : Nat) : Int) by have h1 := HLEN.out; have h2 := HNN.out.1; unfold wrap64; omega]), by omega, ⟨by omega⟩, ⟨?_⟩, LS, B2⟩
         have h := HS2.out
         rw [if_pos HFM.out, if_pos (decide_eq_true (show r < 0 by have h_ := HR0.out; omega))] at h
         exact h
       ·have HR0 := aM hr0
        clear hr0
        have hrd : decide (r < 0) = false := decide_eq_false HR0.out
        have hcs : ∀ W, Below w2.heap.size w2 W → W.cell? ⟨g, 3, none⟩ = some (.slice (some a3) n c3) := fun W hW => (qD (qS BP.out hW) 3).trans rfl
        have HCS := aM hcs
        clear hcs
        go_wp2_with (first
           | ((with_reducible refine qH (N := 12) rfl ?_); go_loud (refine bE (N := 12) (cs := #[.int .i64 0, .int .i64 0, .int .i64 0, .int .i64 0, .int .i64 0, .int .i64 0, .int .i64 0, .int .i64 0]) (t := 28) ?_; intro g12 hg12 w5 hbox hb; have HG12 := aM (show w2.heap.size ≤ g12 by rw [hg12]; exact B2.out.size); have N12 := aM (show g8 ≠ g12 by rw [hg12]; exact Nat.ne_of_lt (qPB LS.out)); have BK12 := aM hbox; replace B2 := aM (qy B2.out B2.out.size hb); replace LS := aM (qS LS.out hb); clear hbox hb hg12 hx0_ hx1_ hx2_ hx3_ hx4_ hx5_ hx6_ hx7_))
           | ((with_reducible refine qpA (t := 28) (p := 12) rfl ?_); go_loud (refine qgA (t := 28) (p := 12) (v := .tmp 55) (w1 := ((((((((w5.setCell ⟨g12, 0, none⟩ (.int .i64 x.f0)).setCell ⟨g12, 1, none⟩ (.int .i64 x.f1)).setCell ⟨g12, 2, none⟩ (.int .i64 x.f2.f0)).setCell ⟨g12, 3, none⟩ (.int .i64 x.f2.f1)).setCell ⟨g12, 4, none⟩ (.int .i64 x.f2.f2)).setCell ⟨g12, 5, none⟩ (.int .i64 x.f2.f3)).setCell ⟨g12, 6, none⟩ (.int .i64 x.f2.f4)).setCell ⟨g12, 7, none⟩ (.int .i64 x.f2.f5))) rfl rfl rfl (rcStore (own := x) (.tmp 12) (.tmp 55) g12 rfl rfl rfl BK12.out) ?_; intro w6 hw6; have n0_ := rcNew (own := x) BK12.out; have n1_ := rcSet (own := x) HG12.out B2.out; have n2_ := (rcFar (own := x) w5 g12 g8 N12.out).trans LS.out; rw [← hw6] at n0_ n1_ n2_; clear B2 BK12 LS hw6; have B2 := aM n1_; have BK12 := aM n0_; have LS := aM n2_; clear n0_ n1_ n2_; have hcs3 := HCS.out _ B2.out; have hfj := HFJ.out _ B2.out; have hbk := BK12.out; have hz0_ : w6.cell? ⟨g12, 0, none⟩ = some (.int .i64 x.f0) := (qD hbk 0).trans rfl; have hz1_ : w6.cell? ⟨g12, 1, none⟩ = some (.int .i64 x.f1) := (qD hbk 1).trans rfl; have hz2_ : w6.cell? ⟨g12, 2, none⟩ = some (.int .i64 x.f2.f0) := (qD hbk 2).trans rfl; have hz3_ : w6.cell? ⟨g12, 3, none⟩ = some (.int .i64 x.f2.f1) := (qD hbk 3).trans rfl; have hz4_ : w6.cell? ⟨g12, 4, none⟩ = some (.int .i64 x.f2.f2) := (qD hbk 4).trans rfl; have hz5_ : w6.cell? ⟨g12, 5, none⟩ = some (.int .i64 x.f2.f3) := (qD hbk 5).trans rfl; have hz6_ : w6.cell? ⟨g12, 6, none⟩ = some (.int .i64 x.f2.f4) := (qD hbk 6).trans rfl; have hz7_ : w6.cell? ⟨g12, 7, none⟩ = some (.int .i64 x.f2.f5) := (qD hbk 7).trans rfl; have hbl := LS.out; have hy0_ : w6.cell? ⟨g8, 0, none⟩ = some (.int .i64 b.f0) := (qD hbl 0).trans rfl; have hy1_ : w6.cell? ⟨g8, 1, none⟩ = some (.int .i64 b.f1) := (qD hbl 1).trans rfl; have hy2_ : w6.cell? ⟨g8, 2, none⟩ = some (.int .i64 b.f2.f0) := (qD hbl 2).trans rfl; have hy3_ : w6.cell? ⟨g8, 3, none⟩ = some (.int .i64 b.f2.f1) := (qD hbl 3).trans rfl; have hy4_ : w6.cell? ⟨g8, 4, none⟩ = some (.int .i64 b.f2.f2) := (qD hbl 4).trans rfl; have hy5_ : w6.cell? ⟨g8, 5, none⟩ = some (.int .i64 b.f2.f3) := (qD hbl 5).trans rfl; have hy6_ : w6.cell? ⟨g8, 6, none⟩ = some (.int .i64 b.f2.f4) := (qD hbl 6).trans rfl; have hy7_ : w6.cell? ⟨g8, 7, none⟩ = some (.int .i64 b.f2.f5) := (qD hbl 7).trans rfl; clear hbk hbl))
           | (go_at_call 13; go_loud (refine (ql.calls kt x.f0 x.f1 x.f2.f0 x.f2.f1 x.f2.f2 x.f2.f3 x.f2.f4 x.f2.f5 b.f0 b.f1 b.f2.f0 b.f2.f1 b.f2.f2 b.f2.f3 b.f2.f4 b.f2.f5 r _ HO.out).mono ?_; rintro e w7 ⟨rfl, hb⟩; replace B2 := aM (qy B2.out B2.out.size hb); replace LS := aM (qS LS.out hb); replace BK12 := aM (qS BK12.out hb); clear hb hz0_ hz1_ hz2_ hz3_ hz4_ hz5_ hz6_ hz7_ hy0_ hy1_ hy2_ hy3_ hy4_ hy5_ hy6_ hy7_ hcs3 hfj; have hbk := BK12.out; have hz0_ : w7.cell? ⟨g12, 0, none⟩ = some (.int .i64 x.f0) := (qD hbk 0).trans rfl; have hz1_ : w7.cell? ⟨g12, 1, none⟩ = some (.int .i64 x.f1) := (qD hbk 1).trans rfl; have hz2_ : w7.cell? ⟨g12, 2, none⟩ = some (.int .i64 x.f2.f0) := (qD hbk 2).trans rfl; have hz3_ : w7.cell? ⟨g12, 3, none⟩ = some (.int .i64 x.f2.f1) := (qD hbk 3).trans rfl; have hz4_ : w7.cell? ⟨g12, 4, none⟩ = some (.int .i64 x.f2.f2) := (qD hbk 4).trans rfl; have hz5_ : w7.cell? ⟨g12, 5, none⟩ = some (.int .i64 x.f2.f3) := (qD hbk 5).trans rfl; have hz6_ : w7.cell? ⟨g12, 6, none⟩ = some (.int .i64 x.f2.f4) := (qD hbk 6).trans rfl; have hz7_ : w7.cell? ⟨g12, 7, none⟩ = some (.int .i64 x.f2.f5) := (qD hbk 7).trans rfl; clear hbk)))
        go_roundg (n - (j + 1))
        case measure => omega
        case rel =>
         refine ⟨j + 1, b, by first | (push_cast; rfl) | (show Value.int .i64 (wrap64 ((j : Int) + 1)) = _; rw [show wrap64 ((j : Int) + 1) = ((j + 1 : Nat) : Int) by have h1 := HLEN.out; have h2 := HNN.out.1; unfold wrap64; omega]), by omega, ⟨by omega⟩, ⟨?_⟩, LS, B2⟩
         have h := HS2.out
         rw [if_pos HFM.out, if_neg (by rw [show decide (r < 0) = false from decide_eq_false (by have h_ := HR0.out; omega)]; decide)] at h
         exact h
      ·have hfb : (f == M) = false := beq_eq_false_iff_ne.2 hfM
       have HFM := aM hfM
       clear hfM
       have hcs : ∀ W, Below w2.heap.size w2 W → W.cell? ⟨g, 3, none⟩ = some (.slice (some a3) n c3) := fun W hW => (qD (qS BP.out hW) 3).trans rfl
       have HCS := aM hcs
       clear hcs
       go_wp2_with (first
          | ((with_reducible refine qH (N := 12) rfl ?_); go_loud (refine bE (N := 12) (cs := #[.int .i64 0, .int .i64 0, .int .i64 0, .int .i64 0, .int .i64 0, .int .i64 0, .int .i64 0, .int .i64 0]) (t := 28) ?_; intro g12 hg12 w5 hbox hb; have HG12 := aM (show w2.heap.size ≤ g12 by rw [hg12]; exact B2.out.size); have N12 := aM (show g8 ≠ g12 by rw [hg12]; exact Nat.ne_of_lt (qPB LS.out)); have BK12 := aM hbox; replace B2 := aM (qy B2.out B2.out.size hb); replace LS := aM (qS LS.out hb); clear hbox hb hg12 hx0_ hx1_ hx2_ hx3_ hx4_ hx5_ hx6_ hx7_))
          | ((with_reducible refine qpA (t := 28) (p := 12) rfl ?_); go_loud (refine qgA (t := 28) (p := 12) (v := .tmp 55) (w1 := ((((((((w5.setCell ⟨g12, 0, none⟩ (.int .i64 x.f0)).setCell ⟨g12, 1, none⟩ (.int .i64 x.f1)).setCell ⟨g12, 2, none⟩ (.int .i64 x.f2.f0)).setCell ⟨g12, 3, none⟩ (.int .i64 x.f2.f1)).setCell ⟨g12, 4, none⟩ (.int .i64 x.f2.f2)).setCell ⟨g12, 5, none⟩ (.int .i64 x.f2.f3)).setCell ⟨g12, 6, none⟩ (.int .i64 x.f2.f4)).setCell ⟨g12, 7, none⟩ (.int .i64 x.f2.f5))) rfl rfl rfl (rcStore (own := x) (.tmp 12) (.tmp 55) g12 rfl rfl rfl BK12.out) ?_; intro w6 hw6; have n0_ := rcNew (own := x) BK12.out; have n1_ := rcSet (own := x) HG12.out B2.out; have n2_ := (rcFar (own := x) w5 g12 g8 N12.out).trans LS.out; rw [← hw6] at n0_ n1_ n2_; clear B2 BK12 LS hw6; have B2 := aM n1_; have BK12 := aM n0_; have LS := aM n2_; clear n0_ n1_ n2_; have hcs3 := HCS.out _ B2.out; have hfj := HFJ.out _ B2.out)))
       go_roundg (n - (j + 1))
       case measure => omega
       case rel =>
        refine ⟨j + 1, b, by first | (push_cast; rfl) | (show Value.int .i64 (wrap64 ((j : Int) + 1)) = _; rw [show wrap64 ((j : Int) + 1) = ((j + 1 : Nat) : Int) by have h1 := HLEN.out; have h2 := HNN.out.1; unfold wrap64; omega]), by omega, ⟨by omega⟩, ⟨?_⟩, LS, B2⟩
        have h := HS2.out
        rw [if_neg HFM.out] at h
        exact h
     ·have hjz : ¬ (j : Int) < (n : Int) := by omega
      have hb : b = best := by
       have h := HS.out
       rw [List.drop_eq_nil_of_le (by rw [List.length_map]; have := HNN.out.1; omega), minS] at h
       exact h
      subst hb
      have hbk := LS.out
      have hz0_ : wr.cell? ⟨g8, 0, none⟩ = some (.int .i64 b.f0) := (qD hbk 0).trans rfl; have hz1_ : wr.cell? ⟨g8, 1, none⟩ = some (.int .i64 b.f1) := (qD hbk 1).trans rfl; have hz2_ : wr.cell? ⟨g8, 2, none⟩ = some (.int .i64 b.f2.f0) := (qD hbk 2).trans rfl; have hz3_ : wr.cell? ⟨g8, 3, none⟩ = some (.int .i64 b.f2.f1) := (qD hbk 3).trans rfl; have hz4_ : wr.cell? ⟨g8, 4, none⟩ = some (.int .i64 b.f2.f2) := (qD hbk 4).trans rfl; have hz5_ : wr.cell? ⟨g8, 5, none⟩ = some (.int .i64 b.f2.f3) := (qD hbk 5).trans rfl; have hz6_ : wr.cell? ⟨g8, 6, none⟩ = some (.int .i64 b.f2.f4) := (qD hbk 6).trans rfl; have hz7_ : wr.cell? ⟨g8, 7, none⟩ = some (.int .i64 b.f2.f5) := (qD hbk 7).trans rfl
      clear hbk
      have n0_ := aM (qS BK4.out B2.out)
      clear BK4
      have BK4 := n0_
      have n1_ := aM (qy BW.out BW.out.size B2.out)
      have BZ := n1_
      clear n0_ n1_
      go_wp2_with (first
       | ((with_reducible refine qpA (t := 28) (p := 4) rfl ?_); go_loud (refine qgA (t := 28) (p := 4) (v := .tmp 73) (w1 := ((((((((wr.setCell ⟨g4, 0, none⟩ (.int .i64 b.f0)).setCell ⟨g4, 1, none⟩ (.int .i64 b.f1)).setCell ⟨g4, 2, none⟩ (.int .i64 b.f2.f0)).setCell ⟨g4, 3, none⟩ (.int .i64 b.f2.f1)).setCell ⟨g4, 4, none⟩ (.int .i64 b.f2.f2)).setCell ⟨g4, 5, none⟩ (.int .i64 b.f2.f3)).setCell ⟨g4, 6, none⟩ (.int .i64 b.f2.f4)).setCell ⟨g4, 7, none⟩ (.int .i64 b.f2.f5))) rfl rfl rfl (rcStore (own := b) (.tmp 4) (.tmp 73) g4 rfl rfl rfl BK4.out) ?_; intro w9 hw9; have n0_ := rcNew (own := b) BK4.out; have n1_ := rcSet (own := b) HG4.out BZ.out; rw [← hw9] at n0_ n1_; clear BZ BK4 hw9 hz0_ hz1_ hz2_ hz3_ hz4_ hz5_ hz6_ hz7_; have BZ := aM n1_; have BK4 := aM n0_; clear n0_ n1_)))
      refine bodyPost_ret (qfB rfl _ _ g4 28 #[.int .i64 b.f0, .int .i64 b.f1, .int .i64 b.f2.f0, .int .i64 b.f2.f1, .int .i64 b.f2.f2, .int .i64 b.f2.f3, .int .i64 b.f2.f4, .int .i64 b.f2.f5] (0, 0) _ rfl BK4.out Tryd.underlying28 rfl (by kernel_rfl)) rfl ?_
      exact ⟨rfl, BZ.out⟩
namespace P
def qu.f (a : ByteArray) (s0 s1 s2 s3 s4 s5 s6 s7 : Int) : Option (Int × Int × Int × Int × Int × Int × Int × Int × Int × Bool) := if a.size ≤ 1048576 then some (tupS (farB a ⟨s0, s1, ⟨s2, s3, s4, s5, s6, s7⟩⟩).1 (farB a ⟨s0, s1, ⟨s2, s3, s4, s5, s6, s7⟩⟩).2.1 (farB a ⟨s0, s1, ⟨s2, s3, s4, s5, s6, s7⟩⟩).2.2) else none
theorem qu.calls (a0 : ByteArray) (a1_0 a1_1 a1_2 a1_3 a1_4 a1_5 a1_6 a1_7 : Int) (r1 r2 r3 r4 r5 r6 r7 r8 r9 : Int) (r10 : Bool) (w : World) (hL : Laid w) (h : qu.f a0 a1_0 a1_1 a1_2 a1_3 a1_4 a1_5 a1_6 a1_7 = some (r1, r2, r3, r4, r5, r6, r7, r8, r9, r10)) :
  Calls Tryd.prog 6 #[.string a0, .agg #[.int .i64 a1_0, .int .i64 a1_1, .int .i64 a1_2, .int .i64 a1_3, .int .i64 a1_4, .int .i64 a1_5, .int .i64 a1_6, .int .i64 a1_7]] w fun e w' => e = .returned (.tuple #[.agg #[.int .i64 r1, .int .i64 r2, .int .i64 r3, .int .i64 r4, .int .i64 r5, .int .i64 r6, .int .i64 r7, .int .i64 r8], .int .i64 r9, .bool r10]) ∧ Below w.heap.size w w' := by
 unfold qu.f at h
 split at h
 case isFalse => cases h
 rename_i hs
 simp only [tupS, Option.some.injEq, Prod.mk.injEq] at h
 obtain ⟨rfl, rfl, rfl, rfl, rfl, rfl, rfl, rfl, rfl, rfl⟩ := h
 exact far_calls a0 hs ⟨a1_0, a1_1, ⟨a1_2, a1_3, a1_4, a1_5, a1_6, a1_7⟩⟩ w hL
end P
end Go.Proofs.YtdhbimankkpllaaDoor
namespace Go.Proofs.YtdhbimankkpllaaDoor.P
open Go.RowKit Go.Proofs.YtdhbimankkpllaaDoorW.PrintWords Go.Proofs.YtdhbimankkpllaaDoorW.PrintLast Go.Proofs.YtdhbimankkpllaaDoorW.PrintMore
attribute [local go_sem] qg qe qq qp qX qW qf qd
set_option linter.unusedVariables false
set_option linter.unusedSimpArgs false
def qv.f (k : Nat) (a0 : ByteArray) (a1_0 : Int) (a1_1 : Int) (a1_2 : Int) (a1_3 : Int) (a1_4 : Int) (a1_5 : Int) (a1_6 : Int) (a1_7 : Int) : Option (Bool) := if (a0.size : Int) > 1048576 then (some true) else ((qEA.f a1_0 a1_1 a1_2 a1_3 a1_4 a1_5 a1_6 a1_7).bind fun bt318 => ((qR.f k a0 bt318.1 bt318.2.1 bt318.2.2.1 bt318.2.2.2.1 bt318.2.2.2.2.1 bt318.2.2.2.2.2.1 bt318.2.2.2.2.2.2.1 bt318.2.2.2.2.2.2.2).bind fun bt326 => ((qEA.f a1_0 a1_1 a1_2 a1_3 a1_4 a1_5 a1_6 a1_7).bind fun bt337 => ((qu.f a0 bt337.1 bt337.2.1 bt337.2.2.1 bt337.2.2.2.1 bt337.2.2.2.2.1 bt337.2.2.2.2.2.1 bt337.2.2.2.2.2.2.1 bt337.2.2.2.2.2.2.2).bind fun bt345 => ((qZA.f bt345.1 bt345.2.1 bt345.2.2.1 bt345.2.2.2.1 bt345.2.2.2.2.1 bt345.2.2.2.2.2.1 bt345.2.2.2.2.2.2.1 bt345.2.2.2.2.2.2.2.1 bt326.1 bt326.2.1 bt326.2.2.1 bt326.2.2.2.1 bt326.2.2.2.2.1 bt326.2.2.2.2.2.1 bt326.2.2.2.2.2.2.1 bt326.2.2.2.2.2.2.2.1).bind fun t356 => (if t356 = true then (if bt345.2.2.2.2.2.2.2.2.1 = bt326.2.2.2.2.2.2.2.2.1 then (if (bt345.2.2.2.2.2.2.2.2.2 != bt326.2.2.2.2.2.2.2.2.2) = true then (some false) else (some true)) else (some false)) else (some false)))))))
set_option maxHeartbeats 8000000 in
set_option maxRecDepth 100000 in
theorem qv.calls (k : Nat) (a0 : ByteArray) (a1_0 : Int) (a1_1 : Int) (a1_2 : Int) (a1_3 : Int) (a1_4 : Int) (a1_5 : Int) (a1_6 : Int) (a1_7 : Int) (r : Bool) (w : World) (hL : Laid w) (h : qv.f k a0 a1_0 a1_1 a1_2 a1_3 a1_4 a1_5 a1_6 a1_7 = some r) :
  Calls Tryd.prog 3 #[.string a0, .agg #[.int .i64 a1_0, .int .i64 a1_1, .int .i64 a1_2, .int .i64 a1_3, .int .i64 a1_4, .int .i64 a1_5, .int .i64 a1_6, .int .i64 a1_7]] w fun e w' => e = .returned (.bool r) ∧ Below w.heap.size w w' := by
 have hu25 := Tryd.underlying25
 have hu28 := Tryd.underlying28
 have HLD := aM hL
 clear hL
 have HB := aM (Below.refl w.heap.size w)
 have H : (if (a0.size : Int) > 1048576 then (some true) else ((qEA.f a1_0 a1_1 a1_2 a1_3 a1_4 a1_5 a1_6 a1_7).bind fun bt318 => ((qR.f k a0 bt318.1 bt318.2.1 bt318.2.2.1 bt318.2.2.2.1 bt318.2.2.2.2.1 bt318.2.2.2.2.2.1 bt318.2.2.2.2.2.2.1 bt318.2.2.2.2.2.2.2).bind fun bt326 => ((qEA.f a1_0 a1_1 a1_2 a1_3 a1_4 a1_5 a1_6 a1_7).bind fun bt337 => ((qu.f a0 bt337.1 bt337.2.1 bt337.2.2.1 bt337.2.2.2.1 bt337.2.2.2.2.1 bt337.2.2.2.2.2.1 bt337.2.2.2.2.2.2.1 bt337.2.2.2.2.2.2.2).bind fun bt345 => ((qZA.f bt345.1 bt345.2.1 bt345.2.2.1 bt345.2.2.2.1 bt345.2.2.2.2.1 bt345.2.2.2.2.2.1 bt345.2.2.2.2.2.2.1 bt345.2.2.2.2.2.2.2.1 bt326.1 bt326.2.1 bt326.2.2.1 bt326.2.2.2.1 bt326.2.2.2.2.1 bt326.2.2.2.2.2.1 bt326.2.2.2.2.2.2.1 bt326.2.2.2.2.2.2.2.1).bind fun t356 => (if t356 = true then (if bt345.2.2.2.2.2.2.2.2.1 = bt326.2.2.2.2.2.2.2.2.1 then (if (bt345.2.2.2.2.2.2.2.2.2 != bt326.2.2.2.2.2.2.2.2.2) = true then (some false) else (some true)) else (some false)) else (some false)))))))) = some r := h
 clear h
 by_cases c3 : (a0.size : Int) > 1048576
 ·rw [if_pos c3] at H
  have c3b0 := decide_eq_true c3
  have c3b1 : decide (1048576 < a0.size) = true := decide_eq_true (by omega)
  clear c3
  obtain rfl := Option.some.inj H
  go_enter Tryd.func3, Tryd.ntmps3
  go_wp2_with (first | ((with_reducible refine qH (N := 3) rfl ?_); refine bE (N := 3) (cs := #[.int .i64 a1_0, .int .i64 a1_1, .int .i64 a1_2, .int .i64 a1_3, .int .i64 a1_4, .int .i64 a1_5, .int .i64 a1_6, .int .i64 a1_7]) (t := 25) ?_; intro gb317 hg w4 hbox hb; have BK317 := aM (hbox); have GW317 := aM ((gg hg)); have GE317 := aM ((gg hg)); replace HB := aM (qB bl hb); clear hb hbox hg))
  go_ret
  exact ⟨sR, bl⟩
 ·rw [if_neg c3] at H
  have c3b0 := decide_eq_false c3
  have c3b1 : decide (1048576 < a0.size) = false := decide_eq_false (by omega)
  clear c3
  replace H := bO H
  obtain ⟨⟨t318, t319, t320, t321, t322, t323, t324, t325⟩, A5, H⟩ := H
  dsimp only at H A5
  replace H := bO H
  obtain ⟨⟨t326, t327, t328, t329, t330, t331, t332, t333, t334, t335⟩, A6, H⟩ := H
  dsimp only at H A6
  replace H := bO H
  obtain ⟨⟨t337, t338, t339, t340, t341, t342, t343, t344⟩, A7, H⟩ := H
  dsimp only at H A7
  replace H := bO H
  obtain ⟨⟨t345, t346, t347, t348, t349, t350, t351, t352, t353, t354⟩, A8, H⟩ := H
  dsimp only at H A8
  replace H := bO H
  obtain ⟨t356, A9, H⟩ := H
  by_cases c10 : t356 = true
  ·subst c10
   replace H := iT H
   by_cases c11 : t353 = t334
   ·rw [if_pos c11] at H
    have c11b0 := beq_iff_eq.mpr c11
    have c11b1 := bne_eq_false_iff_eq.mpr c11
    clear c11
    by_cases c12 : (t354 != t335) = true
    ·rw [if_pos c12] at H
     have c12b0 : (t354 != t335) = true := c12
     (try (have c12b1 : decide (t354 = t335) = false := by simpa using c12))
     (try (have c12b2 : (t354 == t335) = false := by simpa using c12))
     (try (have c12b3 : ¬ (t354 = t335) := by simpa using c12))
     clear c12
     obtain rfl := Option.some.inj H
     go_enter Tryd.func3, Tryd.ntmps3
     go_wp2_with (first | ((with_reducible refine qH (N := 3) rfl ?_); refine bE (N := 3) (cs := #[.int .i64 a1_0, .int .i64 a1_1, .int .i64 a1_2, .int .i64 a1_3, .int .i64 a1_4, .int .i64 a1_5, .int .i64 a1_6, .int .i64 a1_7]) (t := 25) ?_; intro gb317 hg w13 hbox hb; have BK317 := aM (hbox); have GW317 := aM ((gg hg)); have GE317 := aM ((gg hg)); replace HB := aM (qB bl hb); clear hb hbox hg; (refine cb8 BK317 ?_; intro _ _ _ _ _ _ _ _); (refine cz8 BK317 ?_; intro _ _ _ _ _ _ _ _)) | ((with_reducible refine qJ (f := 5) rfl ?_); refine qZ (some 17) rfl rfl Tryd.func5 (by kernel_rfl) rfl #[.agg #[.int .i64 a1_0, .int .i64 a1_1, .int .i64 a1_2, .int .i64 a1_3, .int .i64 a1_4, .int .i64 a1_5, .int .i64 a1_6, .int .i64 a1_7]] rfl gA ?_; (with_reducible refine (qEA.calls a1_0 a1_1 a1_2 a1_3 a1_4 a1_5 a1_6 a1_7 t318 t319 t320 t321 t322 t323 t324 t325 _ A5.out).mono ?_); rintro e w15 ⟨rfl, hb⟩; refine ⟨_, rfl, ?_⟩; replace BK317 := aM (bb BK317 hb); replace HB := aM (qB bl hb); (try clear hb); (try clear hb2); (try clear hk); (try clear hi)) | ((with_reducible refine qJ (f := 4) rfl ?_); refine qZ (some 18) rfl rfl Tryd.func4 (by kernel_rfl) rfl #[.string a0, .agg #[.int .i64 t318, .int .i64 t319, .int .i64 t320, .int .i64 t321, .int .i64 t322, .int .i64 t323, .int .i64 t324, .int .i64 t325]] rfl gA ?_; (with_reducible refine (qR.calls k a0 t318 t319 t320 t321 t322 t323 t324 t325 t326 t327 t328 t329 t330 t331 t332 t333 t334 t335 _ A6.out).mono ?_); rintro e w16 ⟨rfl, hb⟩; refine ⟨_, rfl, ?_⟩; replace BK317 := aM (bb BK317 hb); replace HB := aM (qB bl hb); (try clear hb); (try clear hb2); (try clear hk); (try clear hi)) | ((with_reducible refine qH (N := 5) rfl ?_); refine bE (N := 5) (cs := #[.int .i64 0, .int .i64 0, .int .i64 0, .int .i64 0, .int .i64 0, .int .i64 0, .int .i64 0, .int .i64 0]) (t := 28) ?_; intro gb336 hg w17 hbox hb; have BK336 := aM (hbox); have GW336 := aM ((gg hg)); have GE336 := aM ((gg hg)); have NB317_336 := aM ((nl BK317 hg)); have NB336_317 := aM ((nr BK317 hg)); replace BK317 := aM (bb BK317 hb); replace HB := aM (qB bl hb); clear hb hbox hg; have hnb18 := NB336_317.out; have hnc18 := NB317_336.out; (refine cb8 BK336 ?_; intro _ _ _ _ _ _ _ _); (refine cz8 BK336 ?_; intro _ _ _ _ _ _ _ _); (refine cb8 BK317 ?_; intro _ _ _ _ _ _ _ _); (refine cz8 BK317 ?_; intro _ _ _ _ _ _ _ _)) | ((with_reducible refine qJ (f := 5) rfl ?_); refine qZ (some 25) rfl rfl Tryd.func5 (by kernel_rfl) rfl #[.agg #[.int .i64 a1_0, .int .i64 a1_1, .int .i64 a1_2, .int .i64 a1_3, .int .i64 a1_4, .int .i64 a1_5, .int .i64 a1_6, .int .i64 a1_7]] rfl gA ?_; (with_reducible refine (qEA.calls a1_0 a1_1 a1_2 a1_3 a1_4 a1_5 a1_6 a1_7 t337 t338 t339 t340 t341 t342 t343 t344 _ A7.out).mono ?_); rintro e w21 ⟨rfl, hb⟩; refine ⟨_, rfl, ?_⟩; replace BK317 := aM (qS (g := gb317) (o := .cells #[.int .i64 a1_0, .int .i64 a1_1, .int .i64 a1_2, .int .i64 a1_3, .int .i64 a1_4, .int .i64 a1_5, .int .i64 a1_6, .int .i64 a1_7] 25 (0, 0)) (bF BK317 NB317_336) hb); replace BK336 := aM (qS (g := gb336) (o := .cells #[.int .i64 t326, .int .i64 t327, .int .i64 t328, .int .i64 t329, .int .i64 t330, .int .i64 t331, .int .i64 t332, .int .i64 t333] 28 (0, 0)) (by (with_reducible repeat (first | refine qG ?_ _ | refine qE ?_ | refine qF ?_ _)); exact bP8 BK336) hb); replace HB := aM (qB bl hb); (try clear hb); (try clear hb2); (try clear hk); (try clear hi)) | ((with_reducible refine qJ (f := 6) rfl ?_); refine qZ (some 26) rfl rfl Tryd.func6 (by kernel_rfl) rfl #[.string a0, .agg #[.int .i64 t337, .int .i64 t338, .int .i64 t339, .int .i64 t340, .int .i64 t341, .int .i64 t342, .int .i64 t343, .int .i64 t344]] rfl gA ?_; (with_reducible refine (qu.calls a0 t337 t338 t339 t340 t341 t342 t343 t344 t345 t346 t347 t348 t349 t350 t351 t352 t353 t354 _ ?side1 A8.out).mono ?_); (case side1 => first | (with_reducible exact HLD.out) | exact Laid.below HLD.out bl); rintro e w22 ⟨rfl, hb⟩; refine ⟨_, rfl, ?_⟩; replace BK317 := aM (bb BK317 hb); replace BK336 := aM (bb BK336 hb); replace HB := aM (qB bl hb); (try clear hb); (try clear hb2); (try clear hk); (try clear hi)) | ((with_reducible refine qH (N := 8) rfl ?_); refine bE (N := 8) (cs := #[.int .i64 0, .int .i64 0, .int .i64 0, .int .i64 0, .int .i64 0, .int .i64 0, .int .i64 0, .int .i64 0]) (t := 28) ?_; intro gb355 hg w23 hbox hb; have BK355 := aM (hbox); have GW355 := aM ((gg hg)); have GE355 := aM ((gg hg)); have NB317_355 := aM ((nl BK317 hg)); have NB355_317 := aM ((nr BK317 hg)); have NB336_355 := aM ((nl BK336 hg)); have NB355_336 := aM ((nr BK336 hg)); replace BK317 := aM (bb BK317 hb); replace BK336 := aM (bb BK336 hb); replace HB := aM (qB bl hb); clear hb hbox hg; have hnb24 := NB355_317.out; have hnc24 := NB317_355.out; have hnb25 := NB355_336.out; have hnc25 := NB336_355.out; (refine cb8 BK355 ?_; intro _ _ _ _ _ _ _ _); (refine cz8 BK355 ?_; intro _ _ _ _ _ _ _ _); (refine cb8 BK336 ?_; intro _ _ _ _ _ _ _ _); (refine cz8 BK336 ?_; intro _ _ _ _ _ _ _ _)) | ((with_reducible refine qJ (f := 7) rfl ?_); refine qZ (some 32) rfl rfl Tryd.func7 (by kernel_rfl) rfl #[.agg #[.int .i64 t345, .int .i64 t346, .int .i64 t347, .int .i64 t348, .int .i64 t349, .int .i64 t350, .int .i64 t351, .int .i64 t352], .agg #[.int .i64 t326, .int .i64 t327, .int .i64 t328, .int .i64 t329, .int .i64 t330, .int .i64 t331, .int .i64 t332, .int .i64 t333]] rfl gA ?_; (with_reducible refine (qZA.calls t345 t346 t347 t348 t349 t350 t351 t352 t326 t327 t328 t329 t330 t331 t332 t333 true _ A9.out).mono ?_); rintro e w28 ⟨rfl, hb⟩; refine ⟨_, rfl, ?_⟩; replace BK317 := aM (qS (g := gb317) (o := .cells #[.int .i64 a1_0, .int .i64 a1_1, .int .i64 a1_2, .int .i64 a1_3, .int .i64 a1_4, .int .i64 a1_5, .int .i64 a1_6, .int .i64 a1_7] 25 (0, 0)) (bF BK317 NB317_355) hb); replace BK336 := aM (qS (g := gb336) (o := .cells #[.int .i64 t326, .int .i64 t327, .int .i64 t328, .int .i64 t329, .int .i64 t330, .int .i64 t331, .int .i64 t332, .int .i64 t333] 28 (0, 0)) (bF BK336 NB336_355) hb); replace BK355 := aM (qS (g := gb355) (o := .cells #[.int .i64 t345, .int .i64 t346, .int .i64 t347, .int .i64 t348, .int .i64 t349, .int .i64 t350, .int .i64 t351, .int .i64 t352] 28 (0, 0)) (by (with_reducible repeat (first | refine qG ?_ _ | refine qE ?_ | refine qF ?_ _)); exact bP8 BK355) hb); replace HB := aM (qB bl hb); (try clear hb); (try clear hb2); (try clear hk); (try clear hi)))
     go_ret
     exact ⟨sR, bl⟩
    ·rw [if_neg c12] at H
     have c12b0 : (t354 != t335) = false := by simpa using c12
     (try (have c12b1 : decide (t354 = t335) = true := by simpa using c12))
     (try (have c12b2 : (t354 == t335) = true := by simpa using c12))
     clear c12
     obtain rfl := Option.some.inj H
     go_enter Tryd.func3, Tryd.ntmps3
     go_wp2_with (first | ((with_reducible refine qH (N := 3) rfl ?_); refine bE (N := 3) (cs := #[.int .i64 a1_0, .int .i64 a1_1, .int .i64 a1_2, .int .i64 a1_3, .int .i64 a1_4, .int .i64 a1_5, .int .i64 a1_6, .int .i64 a1_7]) (t := 25) ?_; intro gb317 hg w29 hbox hb; have BK317 := aM (hbox); have GW317 := aM ((gg hg)); have GE317 := aM ((gg hg)); replace HB := aM (qB bl hb); clear hb hbox hg; (refine cb8 BK317 ?_; intro _ _ _ _ _ _ _ _); (refine cz8 BK317 ?_; intro _ _ _ _ _ _ _ _)) | ((with_reducible refine qJ (f := 5) rfl ?_); refine qZ (some 17) rfl rfl Tryd.func5 (by kernel_rfl) rfl #[.agg #[.int .i64 a1_0, .int .i64 a1_1, .int .i64 a1_2, .int .i64 a1_3, .int .i64 a1_4, .int .i64 a1_5, .int .i64 a1_6, .int .i64 a1_7]] rfl gA ?_; (with_reducible refine (qEA.calls a1_0 a1_1 a1_2 a1_3 a1_4 a1_5 a1_6 a1_7 t318 t319 t320 t321 t322 t323 t324 t325 _ A5.out).mono ?_); rintro e w31 ⟨rfl, hb⟩; refine ⟨_, rfl, ?_⟩; replace BK317 := aM (bb BK317 hb); replace HB := aM (qB bl hb); (try clear hb); (try clear hb2); (try clear hk); (try clear hi)) | ((with_reducible refine qJ (f := 4) rfl ?_); refine qZ (some 18) rfl rfl Tryd.func4 (by kernel_rfl) rfl #[.string a0, .agg #[.int .i64 t318, .int .i64 t319, .int .i64 t320, .int .i64 t321, .int .i64 t322, .int .i64 t323, .int .i64 t324, .int .i64 t325]] rfl gA ?_; (with_reducible refine (qR.calls k a0 t318 t319 t320 t321 t322 t323 t324 t325 t326 t327 t328 t329 t330 t331 t332 t333 t334 t335 _ A6.out).mono ?_); rintro e w32 ⟨rfl, hb⟩; refine ⟨_, rfl, ?_⟩; replace BK317 := aM (bb BK317 hb); replace HB := aM (qB bl hb); (try clear hb); (try clear hb2); (try clear hk); (try clear hi)) | ((with_reducible refine qH (N := 5) rfl ?_); refine bE (N := 5) (cs := #[.int .i64 0, .int .i64 0, .int .i64 0, .int .i64 0, .int .i64 0, .int .i64 0, .int .i64 0, .int .i64 0]) (t := 28) ?_; intro gb336 hg w33 hbox hb; have BK336 := aM (hbox); have GW336 := aM ((gg hg)); have GE336 := aM ((gg hg)); have NB317_336 := aM ((nl BK317 hg)); have NB336_317 := aM ((nr BK317 hg)); replace BK317 := aM (bb BK317 hb); replace HB := aM (qB bl hb); clear hb hbox hg; have hnb34 := NB336_317.out; have hnc34 := NB317_336.out; (refine cb8 BK336 ?_; intro _ _ _ _ _ _ _ _); (refine cz8 BK336 ?_; intro _ _ _ _ _ _ _ _); (refine cb8 BK317 ?_; intro _ _ _ _ _ _ _ _); (refine cz8 BK317 ?_; intro _ _ _ _ _ _ _ _)) | ((with_reducible refine qJ (f := 5) rfl ?_); refine qZ (some 25) rfl rfl Tryd.func5 (by kernel_rfl) rfl #[.agg #[.int .i64 a1_0, .int .i64 a1_1, .int .i64 a1_2, .int .i64 a1_3, .int .i64 a1_4, .int .i64 a1_5, .int .i64 a1_6, .int .i64 a1_7]] rfl gA ?_; (with_reducible refine (qEA.calls a1_0 a1_1 a1_2 a1_3 a1_4 a1_5 a1_6 a1_7 t337 t338 t339 t340 t341 t342 t343 t344 _ A7.out).mono ?_); rintro e w37 ⟨rfl, hb⟩; refine ⟨_, rfl, ?_⟩; replace BK317 := aM (qS (g := gb317) (o := .cells #[.int .i64 a1_0, .int .i64 a1_1, .int .i64 a1_2, .int .i64 a1_3, .int .i64 a1_4, .int .i64 a1_5, .int .i64 a1_6, .int .i64 a1_7] 25 (0, 0)) (bF BK317 NB317_336) hb); replace BK336 := aM (qS (g := gb336) (o := .cells #[.int .i64 t326, .int .i64 t327, .int .i64 t328, .int .i64 t329, .int .i64 t330, .int .i64 t331, .int .i64 t332, .int .i64 t333] 28 (0, 0)) (by (with_reducible repeat (first | refine qG ?_ _ | refine qE ?_ | refine qF ?_ _)); exact bP8 BK336) hb); replace HB := aM (qB bl hb); (try clear hb); (try clear hb2); (try clear hk); (try clear hi)) | ((with_reducible refine qJ (f := 6) rfl ?_); refine qZ (some 26) rfl rfl Tryd.func6 (by kernel_rfl) rfl #[.string a0, .agg #[.int .i64 t337, .int .i64 t338, .int .i64 t339, .int .i64 t340, .int .i64 t341, .int .i64 t342, .int .i64 t343, .int .i64 t344]] rfl gA ?_; (with_reducible refine (qu.calls a0 t337 t338 t339 t340 t341 t342 t343 t344 t345 t346 t347 t348 t349 t350 t351 t352 t353 t354 _ ?side1 A8.out).mono ?_); (case side1 => first | (with_reducible exact HLD.out) | exact Laid.below HLD.out bl); rintro e w38 ⟨rfl, hb⟩; refine ⟨_, rfl, ?_⟩; replace BK317 := aM (bb BK317 hb); replace BK336 := aM (bb BK336 hb); replace HB := aM (qB bl hb); (try clear hb); (try clear hb2); (try clear hk); (try clear hi)) | ((with_reducible refine qH (N := 8) rfl ?_); refine bE (N := 8) (cs := #[.int .i64 0, .int .i64 0, .int .i64 0, .int .i64 0, .int .i64 0, .int .i64 0, .int .i64 0, .int .i64 0]) (t := 28) ?_; intro gb355 hg w39 hbox hb; have BK355 := aM (hbox); have GW355 := aM ((gg hg)); have GE355 := aM ((gg hg)); have NB317_355 := aM ((nl BK317 hg)); have NB355_317 := aM ((nr BK317 hg)); have NB336_355 := aM ((nl BK336 hg)); have NB355_336 := aM ((nr BK336 hg)); replace BK317 := aM (bb BK317 hb); replace BK336 := aM (bb BK336 hb); replace HB := aM (qB bl hb); clear hb hbox hg; have hnb40 := NB355_317.out; have hnc40 := NB317_355.out; have hnb41 := NB355_336.out; have hnc41 := NB336_355.out; (refine cb8 BK355 ?_; intro _ _ _ _ _ _ _ _); (refine cz8 BK355 ?_; intro _ _ _ _ _ _ _ _); (refine cb8 BK336 ?_; intro _ _ _ _ _ _ _ _); (refine cz8 BK336 ?_; intro _ _ _ _ _ _ _ _)) | ((with_reducible refine qJ (f := 7) rfl ?_); refine qZ (some 32) rfl rfl Tryd.func7 (by kernel_rfl) rfl #[.agg #[.int .i64 t345, .int .i64 t346, .int .i64 t347, .int .i64 t348, .int .i64 t349, .int .i64 t350, .int .i64 t351, .int .i64 t352], .agg #[.int .i64 t326, .int .i64 t327, .int .i64 t328, .int .i64 t329, .int .i64 t330, .int .i64 t331, .int .i64 t332, .int .i64 t333]] rfl gA ?_; (with_reducible refine (qZA.calls t345 t346 t347 t348 t349 t350 t351 t352 t326 t327 t328 t329 t330 t331 t332 t333 true _ A9.out).mono ?_); rintro e w44 ⟨rfl, hb⟩; refine ⟨_, rfl, ?_⟩; replace BK317 := aM (qS (g := gb317) (o := .cells #[.int .i64 a1_0, .int .i64 a1_1, .int .i64 a1_2, .int .i64 a1_3, .int .i64 a1_4, .int .i64 a1_5, .int .i64 a1_6, .int .i64 a1_7] 25 (0, 0)) (bF BK317 NB317_355) hb); replace BK336 := aM (qS (g := gb336) (o := .cells #[.int .i64 t326, .int .i64 t327, .int .i64 t328, .int .i64 t329, .int .i64 t330, .int .i64 t331, .int .i64 t332, .int .i64 t333] 28 (0, 0)) (bF BK336 NB336_355) hb); replace BK355 := aM (qS (g := gb355) (o := .cells #[.int .i64 t345, .int .i64 t346, .int .i64 t347, .int .i64 t348, .int .i64 t349, .int .i64 t350, .int .i64 t351, .int .i64 t352] 28 (0, 0)) (by (with_reducible repeat (first | refine qG ?_ _ | refine qE ?_ | refine qF ?_ _)); exact bP8 BK355) hb); replace HB := aM (qB bl hb); (try clear hb); (try clear hb2); (try clear hk); (try clear hi)))
     go_ret
     exact ⟨sR, bl⟩
   ·rw [if_neg c11] at H
    have c11b0 := beq_eq_false_iff_ne.mpr c11
    have c11b1 := bne_iff_ne.mpr c11
    obtain rfl := Option.some.inj H
    go_enter Tryd.func3, Tryd.ntmps3
    go_wp2_with (first | ((with_reducible refine qH (N := 3) rfl ?_); refine bE (N := 3) (cs := #[.int .i64 a1_0, .int .i64 a1_1, .int .i64 a1_2, .int .i64 a1_3, .int .i64 a1_4, .int .i64 a1_5, .int .i64 a1_6, .int .i64 a1_7]) (t := 25) ?_; intro gb317 hg w45 hbox hb; have BK317 := aM (hbox); have GW317 := aM ((gg hg)); have GE317 := aM ((gg hg)); replace HB := aM (qB bl hb); clear hb hbox hg; (refine cb8 BK317 ?_; intro _ _ _ _ _ _ _ _); (refine cz8 BK317 ?_; intro _ _ _ _ _ _ _ _)) | ((with_reducible refine qJ (f := 5) rfl ?_); refine qZ (some 17) rfl rfl Tryd.func5 (by kernel_rfl) rfl #[.agg #[.int .i64 a1_0, .int .i64 a1_1, .int .i64 a1_2, .int .i64 a1_3, .int .i64 a1_4, .int .i64 a1_5, .int .i64 a1_6, .int .i64 a1_7]] rfl gA ?_; (with_reducible refine (qEA.calls a1_0 a1_1 a1_2 a1_3 a1_4 a1_5 a1_6 a1_7 t318 t319 t320 t321 t322 t323 t324 t325 _ A5.out).mono ?_); rintro e w47 ⟨rfl, hb⟩; refine ⟨_, rfl, ?_⟩; replace BK317 := aM (bb BK317 hb); replace HB := aM (qB bl hb); (try clear hb); (try clear hb2); (try clear hk); (try clear hi)) | ((with_reducible refine qJ (f := 4) rfl ?_); refine qZ (some 18) rfl rfl Tryd.func4 (by kernel_rfl) rfl #[.string a0, .agg #[.int .i64 t318, .int .i64 t319, .int .i64 t320, .int .i64 t321, .int .i64 t322, .int .i64 t323, .int .i64 t324, .int .i64 t325]] rfl gA ?_; (with_reducible refine (qR.calls k a0 t318 t319 t320 t321 t322 t323 t324 t325 t326 t327 t328 t329 t330 t331 t332 t333 t334 t335 _ A6.out).mono ?_); rintro e w48 ⟨rfl, hb⟩; refine ⟨_, rfl, ?_⟩; replace BK317 := aM (bb BK317 hb); replace HB := aM (qB bl hb); (try clear hb); (try clear hb2); (try clear hk); (try clear hi)) | ((with_reducible refine qH (N := 5) rfl ?_); refine bE (N := 5) (cs := #[.int .i64 0, .int .i64 0, .int .i64 0, .int .i64 0, .int .i64 0, .int .i64 0, .int .i64 0, .int .i64 0]) (t := 28) ?_; intro gb336 hg w49 hbox hb; have BK336 := aM (hbox); have GW336 := aM ((gg hg)); have GE336 := aM ((gg hg)); have NB317_336 := aM ((nl BK317 hg)); have NB336_317 := aM ((nr BK317 hg)); replace BK317 := aM (bb BK317 hb); replace HB := aM (qB bl hb); clear hb hbox hg; have hnb50 := NB336_317.out; have hnc50 := NB317_336.out; (refine cb8 BK336 ?_; intro _ _ _ _ _ _ _ _); (refine cz8 BK336 ?_; intro _ _ _ _ _ _ _ _); (refine cb8 BK317 ?_; intro _ _ _ _ _ _ _ _); (refine cz8 BK317 ?_; intro _ _ _ _ _ _ _ _)) | ((with_reducible refine qJ (f := 5) rfl ?_); refine qZ (some 25) rfl rfl Tryd.func5 (by kernel_rfl) rfl #[.agg #[.int .i64 a1_0, .int .i64 a1_1, .int .i64 a1_2, .int .i64 a1_3, .int .i64 a1_4, .int .i64 a1_5, .int .i64 a1_6, .int .i64 a1_7]] rfl gA ?_; (with_reducible refine (qEA.calls a1_0 a1_1 a1_2 a1_3 a1_4 a1_5 a1_6 a1_7 t337 t338 t339 t340 t341 t342 t343 t344 _ A7.out).mono ?_); rintro e w53 ⟨rfl, hb⟩; refine ⟨_, rfl, ?_⟩; replace BK317 := aM (qS (g := gb317) (o := .cells #[.int .i64 a1_0, .int .i64 a1_1, .int .i64 a1_2, .int .i64 a1_3, .int .i64 a1_4, .int .i64 a1_5, .int .i64 a1_6, .int .i64 a1_7] 25 (0, 0)) (bF BK317 NB317_336) hb); replace BK336 := aM (qS (g := gb336) (o := .cells #[.int .i64 t326, .int .i64 t327, .int .i64 t328, .int .i64 t329, .int .i64 t330, .int .i64 t331, .int .i64 t332, .int .i64 t333] 28 (0, 0)) (by (with_reducible repeat (first | refine qG ?_ _ | refine qE ?_ | refine qF ?_ _)); exact bP8 BK336) hb); replace HB := aM (qB bl hb); (try clear hb); (try clear hb2); (try clear hk); (try clear hi)) | ((with_reducible refine qJ (f := 6) rfl ?_); refine qZ (some 26) rfl rfl Tryd.func6 (by kernel_rfl) rfl #[.string a0, .agg #[.int .i64 t337, .int .i64 t338, .int .i64 t339, .int .i64 t340, .int .i64 t341, .int .i64 t342, .int .i64 t343, .int .i64 t344]] rfl gA ?_; (with_reducible refine (qu.calls a0 t337 t338 t339 t340 t341 t342 t343 t344 t345 t346 t347 t348 t349 t350 t351 t352 t353 t354 _ ?side1 A8.out).mono ?_); (case side1 => first | (with_reducible exact HLD.out) | exact Laid.below HLD.out bl); rintro e w54 ⟨rfl, hb⟩; refine ⟨_, rfl, ?_⟩; replace BK317 := aM (bb BK317 hb); replace BK336 := aM (bb BK336 hb); replace HB := aM (qB bl hb); (try clear hb); (try clear hb2); (try clear hk); (try clear hi)) | ((with_reducible refine qH (N := 8) rfl ?_); refine bE (N := 8) (cs := #[.int .i64 0, .int .i64 0, .int .i64 0, .int .i64 0, .int .i64 0, .int .i64 0, .int .i64 0, .int .i64 0]) (t := 28) ?_; intro gb355 hg w55 hbox hb; have BK355 := aM (hbox); have GW355 := aM ((gg hg)); have GE355 := aM ((gg hg)); have NB317_355 := aM ((nl BK317 hg)); have NB355_317 := aM ((nr BK317 hg)); have NB336_355 := aM ((nl BK336 hg)); have NB355_336 := aM ((nr BK336 hg)); replace BK317 := aM (bb BK317 hb); replace BK336 := aM (bb BK336 hb); replace HB := aM (qB bl hb); clear hb hbox hg; have hnb56 := NB355_317.out; have hnc56 := NB317_355.out; have hnb57 := NB355_336.out; have hnc57 := NB336_355.out; (refine cb8 BK355 ?_; intro _ _ _ _ _ _ _ _); (refine cz8 BK355 ?_; intro _ _ _ _ _ _ _ _); (refine cb8 BK336 ?_; intro _ _ _ _ _ _ _ _); (refine cz8 BK336 ?_; intro _ _ _ _ _ _ _ _)) | ((with_reducible refine qJ (f := 7) rfl ?_); refine qZ (some 32) rfl rfl Tryd.func7 (by kernel_rfl) rfl #[.agg #[.int .i64 t345, .int .i64 t346, .int .i64 t347, .int .i64 t348, .int .i64 t349, .int .i64 t350, .int .i64 t351, .int .i64 t352], .agg #[.int .i64 t326, .int .i64 t327, .int .i64 t328, .int .i64 t329, .int .i64 t330, .int .i64 t331, .int .i64 t332, .int .i64 t333]] rfl gA ?_; (with_reducible refine (qZA.calls t345 t346 t347 t348 t349 t350 t351 t352 t326 t327 t328 t329 t330 t331 t332 t333 true _ A9.out).mono ?_); rintro e w60 ⟨rfl, hb⟩; refine ⟨_, rfl, ?_⟩; replace BK317 := aM (qS (g := gb317) (o := .cells #[.int .i64 a1_0, .int .i64 a1_1, .int .i64 a1_2, .int .i64 a1_3, .int .i64 a1_4, .int .i64 a1_5, .int .i64 a1_6, .int .i64 a1_7] 25 (0, 0)) (bF BK317 NB317_355) hb); replace BK336 := aM (qS (g := gb336) (o := .cells #[.int .i64 t326, .int .i64 t327, .int .i64 t328, .int .i64 t329, .int .i64 t330, .int .i64 t331, .int .i64 t332, .int .i64 t333] 28 (0, 0)) (bF BK336 NB336_355) hb); replace BK355 := aM (qS (g := gb355) (o := .cells #[.int .i64 t345, .int .i64 t346, .int .i64 t347, .int .i64 t348, .int .i64 t349, .int .i64 t350, .int .i64 t351, .int .i64 t352] 28 (0, 0)) (by (with_reducible repeat (first | refine qG ?_ _ | refine qE ?_ | refine qF ?_ _)); exact bP8 BK355) hb); replace HB := aM (qB bl hb); (try clear hb); (try clear hb2); (try clear hk); (try clear hi)))
    go_ret
    exact ⟨sR, bl⟩
  ·replace c10 := Bool.eq_false_iff.mpr c10
   subst c10
   replace H := iF H
   obtain rfl := Option.some.inj H
   go_enter Tryd.func3, Tryd.ntmps3
   go_wp2_with (first | ((with_reducible refine qH (N := 3) rfl ?_); refine bE (N := 3) (cs := #[.int .i64 a1_0, .int .i64 a1_1, .int .i64 a1_2, .int .i64 a1_3, .int .i64 a1_4, .int .i64 a1_5, .int .i64 a1_6, .int .i64 a1_7]) (t := 25) ?_; intro gb317 hg w61 hbox hb; have BK317 := aM (hbox); have GW317 := aM ((gg hg)); have GE317 := aM ((gg hg)); replace HB := aM (qB bl hb); clear hb hbox hg; (refine cb8 BK317 ?_; intro _ _ _ _ _ _ _ _); (refine cz8 BK317 ?_; intro _ _ _ _ _ _ _ _)) | ((with_reducible refine qJ (f := 5) rfl ?_); refine qZ (some 17) rfl rfl Tryd.func5 (by kernel_rfl) rfl #[.agg #[.int .i64 a1_0, .int .i64 a1_1, .int .i64 a1_2, .int .i64 a1_3, .int .i64 a1_4, .int .i64 a1_5, .int .i64 a1_6, .int .i64 a1_7]] rfl gA ?_; (with_reducible refine (qEA.calls a1_0 a1_1 a1_2 a1_3 a1_4 a1_5 a1_6 a1_7 t318 t319 t320 t321 t322 t323 t324 t325 _ A5.out).mono ?_); rintro e w63 ⟨rfl, hb⟩; refine ⟨_, rfl, ?_⟩; replace BK317 := aM (bb BK317 hb); replace HB := aM (qB bl hb); (try clear hb); (try clear hb2); (try clear hk); (try clear hi)) | ((with_reducible refine qJ (f := 4) rfl ?_); refine qZ (some 18) rfl rfl Tryd.func4 (by kernel_rfl) rfl #[.string a0, .agg #[.int .i64 t318, .int .i64 t319, .int .i64 t320, .int .i64 t321, .int .i64 t322, .int .i64 t323, .int .i64 t324, .int .i64 t325]] rfl gA ?_; (with_reducible refine (qR.calls k a0 t318 t319 t320 t321 t322 t323 t324 t325 t326 t327 t328 t329 t330 t331 t332 t333 t334 t335 _ A6.out).mono ?_); rintro e w64 ⟨rfl, hb⟩; refine ⟨_, rfl, ?_⟩; replace BK317 := aM (bb BK317 hb); replace HB := aM (qB bl hb); (try clear hb); (try clear hb2); (try clear hk); (try clear hi)) | ((with_reducible refine qH (N := 5) rfl ?_); refine bE (N := 5) (cs := #[.int .i64 0, .int .i64 0, .int .i64 0, .int .i64 0, .int .i64 0, .int .i64 0, .int .i64 0, .int .i64 0]) (t := 28) ?_; intro gb336 hg w65 hbox hb; have BK336 := aM (hbox); have GW336 := aM ((gg hg)); have GE336 := aM ((gg hg)); have NB317_336 := aM ((nl BK317 hg)); have NB336_317 := aM ((nr BK317 hg)); replace BK317 := aM (bb BK317 hb); replace HB := aM (qB bl hb); clear hb hbox hg; have hnb66 := NB336_317.out; have hnc66 := NB317_336.out; (refine cb8 BK336 ?_; intro _ _ _ _ _ _ _ _); (refine cz8 BK336 ?_; intro _ _ _ _ _ _ _ _); (refine cb8 BK317 ?_; intro _ _ _ _ _ _ _ _); (refine cz8 BK317 ?_; intro _ _ _ _ _ _ _ _)) | ((with_reducible refine qJ (f := 5) rfl ?_); refine qZ (some 25) rfl rfl Tryd.func5 (by kernel_rfl) rfl #[.agg #[.int .i64 a1_0, .int .i64 a1_1, .int .i64 a1_2, .int .i64 a1_3, .int .i64 a1_4, .int .i64 a1_5, .int .i64 a1_6, .int .i64 a1_7]] rfl gA ?_; (with_reducible refine (qEA.calls a1_0 a1_1 a1_2 a1_3 a1_4 a1_5 a1_6 a1_7 t337 t338 t339 t340 t341 t342 t343 t344 _ A7.out).mono ?_); rintro e w69 ⟨rfl, hb⟩; refine ⟨_, rfl, ?_⟩; replace BK317 := aM (qS (g := gb317) (o := .cells #[.int .i64 a1_0, .int .i64 a1_1, .int .i64 a1_2, .int .i64 a1_3, .int .i64 a1_4, .int .i64 a1_5, .int .i64 a1_6, .int .i64 a1_7] 25 (0, 0)) (bF BK317 NB317_336) hb); replace BK336 := aM (qS (g := gb336) (o := .cells #[.int .i64 t326, .int .i64 t327, .int .i64 t328, .int .i64 t329, .int .i64 t330, .int .i64 t331, .int .i64 t332, .int .i64 t333] 28 (0, 0)) (by (with_reducible repeat (first | refine qG ?_ _ | refine qE ?_ | refine qF ?_ _)); exact bP8 BK336) hb); replace HB := aM (qB bl hb); (try clear hb); (try clear hb2); (try clear hk); (try clear hi)) | ((with_reducible refine qJ (f := 6) rfl ?_); refine qZ (some 26) rfl rfl Tryd.func6 (by kernel_rfl) rfl #[.string a0, .agg #[.int .i64 t337, .int .i64 t338, .int .i64 t339, .int .i64 t340, .int .i64 t341, .int .i64 t342, .int .i64 t343, .int .i64 t344]] rfl gA ?_; (with_reducible refine (qu.calls a0 t337 t338 t339 t340 t341 t342 t343 t344 t345 t346 t347 t348 t349 t350 t351 t352 t353 t354 _ ?side1 A8.out).mono ?_); (case side1 => first | (with_reducible exact HLD.out) | exact Laid.below HLD.out bl); rintro e w70 ⟨rfl, hb⟩; refine ⟨_, rfl, ?_⟩; replace BK317 := aM (bb BK317 hb); replace BK336 := aM (bb BK336 hb); replace HB := aM (qB bl hb); (try clear hb); (try clear hb2); (try clear hk); (try clear hi)) | ((with_reducible refine qH (N := 8) rfl ?_); refine bE (N := 8) (cs := #[.int .i64 0, .int .i64 0, .int .i64 0, .int .i64 0, .int .i64 0, .int .i64 0, .int .i64 0, .int .i64 0]) (t := 28) ?_; intro gb355 hg w71 hbox hb; have BK355 := aM (hbox); have GW355 := aM ((gg hg)); have GE355 := aM ((gg hg)); have NB317_355 := aM ((nl BK317 hg)); have NB355_317 := aM ((nr BK317 hg)); have NB336_355 := aM ((nl BK336 hg)); have NB355_336 := aM ((nr BK336 hg)); replace BK317 := aM (bb BK317 hb); replace BK336 := aM (bb BK336 hb); replace HB := aM (qB bl hb); clear hb hbox hg; have hnb72 := NB355_317.out; have hnc72 := NB317_355.out; have hnb73 := NB355_336.out; have hnc73 := NB336_355.out; (refine cb8 BK355 ?_; intro _ _ _ _ _ _ _ _); (refine cz8 BK355 ?_; intro _ _ _ _ _ _ _ _); (refine cb8 BK336 ?_; intro _ _ _ _ _ _ _ _); (refine cz8 BK336 ?_; intro _ _ _ _ _ _ _ _)) | ((with_reducible refine qJ (f := 7) rfl ?_); refine qZ (some 32) rfl rfl Tryd.func7 (by kernel_rfl) rfl #[.agg #[.int .i64 t345, .int .i64 t346, .int .i64 t347, .int .i64 t348, .int .i64 t349, .int .i64 t350, .int .i64 t351, .int .i64 t352], .agg #[.int .i64 t326, .int .i64 t327, .int .i64 t328, .int .i64 t329, .int .i64 t330, .int .i64 t331, .int .i64 t332, .int .i64 t333]] rfl gA ?_; (with_reducible refine (qZA.calls t345 t346 t347 t348 t349 t350 t351 t352 t326 t327 t328 t329 t330 t331 t332 t333 false _ A9.out).mono ?_); rintro e w76 ⟨rfl, hb⟩; refine ⟨_, rfl, ?_⟩; replace BK317 := aM (qS (g := gb317) (o := .cells #[.int .i64 a1_0, .int .i64 a1_1, .int .i64 a1_2, .int .i64 a1_3, .int .i64 a1_4, .int .i64 a1_5, .int .i64 a1_6, .int .i64 a1_7] 25 (0, 0)) (bF BK317 NB317_355) hb); replace BK336 := aM (qS (g := gb336) (o := .cells #[.int .i64 t326, .int .i64 t327, .int .i64 t328, .int .i64 t329, .int .i64 t330, .int .i64 t331, .int .i64 t332, .int .i64 t333] 28 (0, 0)) (bF BK336 NB336_355) hb); replace BK355 := aM (qS (g := gb355) (o := .cells #[.int .i64 t345, .int .i64 t346, .int .i64 t347, .int .i64 t348, .int .i64 t349, .int .i64 t350, .int .i64 t351, .int .i64 t352] 28 (0, 0)) (by (with_reducible repeat (first | refine qG ?_ _ | refine qE ?_ | refine qF ?_ _)); exact bP8 BK355) hb); replace HB := aM (qB bl hb); (try clear hb); (try clear hb2); (try clear hk); (try clear hi)))
   go_ret
   exact ⟨sR, bl⟩
def qv.Pure : Prop := ∀ (a0 : ByteArray) (a1_0 : Int) (a1_1 : Int) (a1_2 : Int) (a1_3 : Int) (a1_4 : Int) (a1_5 : Int) (a1_6 : Int) (a1_7 : Int), a0.size ≤ 140737488351232 → (Lit.int .i64 a1_0).wf = true → (Lit.int .i64 a1_1).wf = true → (Lit.int .i64 a1_2).wf = true → (Lit.int .i64 a1_3).wf = true → (Lit.int .i64 a1_4).wf = true → (Lit.int .i64 a1_5).wf = true → (Lit.int .i64 a1_6).wf = true → (Lit.int .i64 a1_7).wf = true → ∃ k, qv.f k a0 a1_0 a1_1 a1_2 a1_3 a1_4 a1_5 a1_6 a1_7 = some true
end Go.Proofs.YtdhbimankkpllaaDoor.P
namespace Go.Proofs.YtdhbimankkpllaaDoor
open Go.ChangeShapes Go.WideShapes Go.Deep Go.RowKit Go.Proofs.YtdhbimankkpllaaDoorW.PrintWords
set_option linter.unusedVariables false
set_option linter.unusedSimpArgs false
theorem list_of_8 : ∀ zs : List Int, zs.length = 8 → ∃ x0 x1 x2 x3 x4 x5 x6 x7 : Int, zs = [x0, x1, x2, x3, x4, x5, x6, x7]
 | [x0, x1, x2, x3, x4, x5, x6, x7], _ => ⟨x0, x1, x2, x3, x4, x5, x6, x7, rfl⟩
def laidB (P : Program) : List Field → Nat → Nat → Bool
 | [], o, n => decide (o = n)
 | f :: fs, o, n => decide (f.offset = o) && laidB P fs (o + P.cellsOf f.type) n
def flatB (P : Program) : Nat → TypeId → Bool
 | 0, _ => false
 | m + 1, t => match P.underlying t with
  | some (.int .i64) => decide (P.cellsOf t = 1)
  | some (.struct fs) => laidB P fs.toList 0 (P.cellsOf t) && fs.toList.all fun f => flatB P m f.type
  | _ => false
section
variable {H : Type} {enc : TypeId × Value → H} {P : Program} {w : World} {base : Nat} {spare : Nat → Bool} {held : Bool}
theorem fields_flat {n : Nat} (cs : List Value) (rd : TypeId → List Value → Option (DataW H × List MemPlace)) :
  ∀ (fs : List Field) (o : Nat) (xs : List (DataW H × List MemPlace)), laidB P fs o n = true → xs.length = fs.length →
   (∀ (i : Nat) (f : Field), fs[i]? = some f → rd f.type ((cs.drop f.offset).take (P.cellsOf f.type)) = xs[i]?) →
   (∀ f ∈ fs, ∀ cs' x, rd f.type cs' = some x → cs'.length = P.cellsOf f.type ∧ ∃ zs : List Int, cs' = zs.map (Value.int .i64) ∧ ∀ z ∈ zs, (Lit.int .i64 z).wf = true) →
   o ≤ n ∧ ∃ zs : List Int, (cs.drop o).take (n - o) = zs.map (Value.int .i64) ∧ ∀ z ∈ zs, (Lit.int .i64 z).wf = true
 | [], o, xs, hl, hx, hr, hi => by
  have : o = n := by simpa [laidB] using hl
  subst this
  exact ⟨Nat.le_refl _, [], by simp, by simp⟩
 | f :: fs, o, xs, hl, hx, hr, hi => by
  simp only [laidB, Bool.and_eq_true, decide_eq_true_eq] at hl
  obtain ⟨ho, hl⟩ := hl
  match xs, hx with
  | x :: xs, hx =>
   have h0 := hr 0 f rfl
   rw [ho] at h0
   obtain ⟨hlen, zs, hz, hw⟩ := hi f (by simp) _ x h0
   obtain ⟨hle, ws, hw2, hw3⟩ := fields_flat cs rd fs (o + P.cellsOf f.type) xs hl (by simpa using hx) (fun i g hg => by have := hr (i + 1) g (by simpa using hg); simpa using this) (fun g hg => hi g (by simp [hg]))
   refine ⟨by omega, zs ++ ws, ?_, fun z hz' => ?_⟩
   ·rw [List.map_append, ← hz, ← hw2, ← List.drop_drop, show n - o = P.cellsOf f.type + (n - (o + P.cellsOf f.type)) by omega, List.take_add]
   ·rcases List.mem_append.1 hz' with h | h
    ·exact hw z h
    ·exact hw3 z h
theorem trod_flat (m : Nat) : ∀ {t : TypeId} {fuel : Nat} {cs : List Value} {x : DataW H × List MemPlace}, flatB P m t = true → DataW.trod enc P w base spare held fuel t cs = some x → (∃ k, P.underlying t = some (.int k)) → cs.length = 1 ∧ ∃ zs : List Int, cs = zs.map (Value.int .i64) ∧ ∀ z ∈ zs, (Lit.int .i64 z).wf = true := by
 intro t fuel cs x hf h ⟨k, hk⟩
 cases m with
 | zero => simp [flatB] at hf
 | succ m =>
  unfold flatB at hf
  rw [hk] at hf
  have : k = .i64 := by
   cases k <;> first | rfl | (simp at hf)
  subst this
  obtain ⟨n, rfl, _, hw⟩ := DataW.trod_int hk h
  exact ⟨rfl, [n], rfl, by simpa using hw⟩
theorem trod_flat_all (m : Nat) : ∀ {t : TypeId} {fuel : Nat} {cs : List Value} {x : DataW H × List MemPlace}, flatB P m t = true → DataW.trod enc P w base spare held fuel t cs = some x →
  cs.length = P.cellsOf t ∧ ∃ zs : List Int, cs = zs.map (Value.int .i64) ∧ ∀ z ∈ zs, (Lit.int .i64 z).wf = true := by
 induction m with
 | zero => intro t fuel cs x hf h; simp [flatB] at hf
 | succ m ih =>
  intro t fuel cs x hf h
  have hf0 := hf
  unfold flatB at hf
  split at hf
  ·rename_i hu
   obtain ⟨hl, hz⟩ := trod_flat (m + 1) hf0 h ⟨_, hu⟩
   exact ⟨by rw [hl, of_decide_eq_true hf], hz⟩
  ·rename_i fs hu
   rw [Bool.and_eq_true, List.all_eq_true] at hf
   obtain ⟨hl, ha⟩ := hf
   obtain ⟨xs, n, _, _, hlen, hxl, hg⟩ := DataW.trod_struct hu h
   obtain ⟨_, zs, hz, hw⟩ := fields_flat (n := P.cellsOf t) cs (fun t cs => DataW.trod enc P w base spare held n t cs) fs.toList 0 xs hl (by simpa using hxl)
    (fun i f hf => hg i f (by simpa using hf)) (fun f hf cs' x hx => ih (ha f hf) hx)
   refine ⟨hlen, zs, ?_, hw⟩
   rw [← hz, List.drop_zero, Nat.sub_zero, ← hlen, List.take_length]
  ·cases hf
theorem open_flat {r : Reach} {b0 m : Nat} {t : TypeId} {fs : Array Field} {v : Value} {d : DataW H} {p : List MemPlace} (hu : P.underlying t = some (.struct fs)) (hf : flatB P m t = true)
  (hv : Value.okWide P w r b0 t v) (h : DataW.Trod enc P w base spare held t v d p) : ∃ zs : List Int, v = .agg (zs.map (Value.int .i64)).toArray ∧ zs.length = P.cellsOf t ∧ ∀ z ∈ zs, (Lit.int .i64 z).wf = true := by
 obtain ⟨cs, rfl, hsz⟩ := okWide_struct hu hv
 obtain ⟨fuel, hf'⟩ := h
 obtain ⟨hl, zs, hz, hw⟩ := trod_flat_all m hf hf'
 simp only [Value.cells] at hz hl
 refine ⟨zs, ?_, by rw [← hl, hz, List.length_map], hw⟩
 rw [← hz]
end
end Go.Proofs.YtdhbimankkpllaaDoor
namespace Go.Proofs.YtdhbimankkpllaaDoor
open Go.RowKit Go.Proofs.YtdhbimankkpllaaDoor.P Go.Proofs.YtdhbimankkpllaaDoorW.PrintWords Go.Proofs.YtdhbimankkpllaaDoorW.PrintLast
set_option linter.unusedVariables false
set_option linter.unusedSimpArgs false
abbrev WN := S43
def er (n : WN) : XS × WB := (n.f0, (n.f1, (n.f3, n.f4)))
def codesY (a : ByteArray) (L : List (XS × WB)) : List Int := L.map fun z => codeY a z.1
theorem rdWN (l : List WN) (i : Nat) (h : i < l.length) : qA l (i : Int) = l[i] := by
 unfold qA
 simp [h]
theorem qpC (l : List WN) (i : Nat) (h : i < l.length) (v : WN) (hv : er v = er l[i]) : (l.set i v).map er = l.map er := by
 rw [List.map_set, hv]
 apply List.ext_getElem?
 intro j
 rw [List.getElem?_set]
 by_cases e : i = j
 case pos => subst e; rw [if_pos rfl, if_pos (by rw [List.length_map]; exact h), List.getElem?_map, List.getElem?_eq_getElem h]; rfl
 rw [if_neg e]
theorem er_get {x5 : List WN} {L : List (XS × WB)} (h : x5.map er = L) {i : Nat} (hi : i < x5.length) {z : XS × WB} (hz : L[i]? = some z) : er x5[i] = z := by
 rw [← h, List.getElem?_map, List.getElem?_eq_getElem hi] at hz
 exact Option.some.inj hz
theorem plc_not (n : Int) : ∀ (l : List Int) (i : Nat), ¬ n ∈ l → plc n l i = -1
 | [], _, _ => rfl
 | x :: l, i, h => by
  rw [List.mem_cons, not_or] at h
  unfold plc
  rw [if_neg (fun e => h.1 (by first | exact e | exact e.symm))]
  exact plc_not n l (i + 1) h.2
def nx (n : WN) (d v : Int) : WN := ⟨n.f0, n.f1, n.f2, n.f3, n.f4, ⟨if d = 0 then v else n.f5.f0, if d = 1 then v else n.f5.f1, if d = 2 then v else n.f5.f2, if d = 3 then v else n.f5.f3⟩⟩
def nw (n m : WN) : WN := ⟨n.f0, n.f1, wrap64 (n.f2 + m.f2), n.f3, n.f4, n.f5⟩
theorem wy_j2 (W H : Int) (cs : List Int) (x5 : List WN) (x6 : List Int) (i d at_ : Nat) (hi : i < x5.length) (hat : at_ < x5.length) (hd : d < 4) :
  ∃ y5, y5.map er = x5.map er ∧ ∀ R, Ev (fun k => qK.l1 k y5 x6 (i : Int) ((d + 1 : Nat) : Int) W H cs) R → Ev (fun k => qK.j2 k x5 x6 (i : Int) (d : Int) (at_ : Int) W H cs) R := by
 have w : wrap64 ((d : Int) + 1) = ((d + 1 : Nat) : Int) := by unfold wrap64; omega
 by_cases he : x5[at_].f1 = wrap64 (x5[i].f1 + 1)
 ·obtain ⟨y, hy⟩ : ∃ y, x5.set at_ (nw x5[at_] x5[i]) = y := ⟨_, rfl⟩
  have hyl : i < y.length := by rw [← hy, List.length_set]; exact hi
  refine ⟨y.set i (nx y[i] (d : Int) (at_ : Int)), ?_, fun R hR => Ev.step (f := fun k => _) (fun k => by rw [qK.j2]) ?_⟩
  ·refine (qpC y i hyl (nx y[i] (d : Int) (at_ : Int)) rfl).trans ?_
   rw [← hy]
   exact qpC x5 at_ hat (nw x5[at_] x5[i]) rfl
  ·simp only [w, Int.toNat_natCast, rdWN x5 at_ hat, rdWN x5 i hi]
   refine Ev.pos (by omega) (Ev.pos (by omega) (Ev.pos (by omega) (Ev.pos (by omega) (Ev.pos he (Ev.bindc (a := y) (by rw [← hy]; rfl) ?_)))))
   simp only [rdWN y i hyl]
   exact Ev.pos (by omega) (Ev.pos (by omega) hR)
 ·refine ⟨x5.set i (nx x5[i] (d : Int) (at_ : Int)), qpC x5 i hi (nx x5[i] (d : Int) (at_ : Int)) rfl, fun R hR => Ev.step (f := fun k => _) (fun k => by rw [qK.j2]) ?_⟩
  simp only [w, Int.toNat_natCast, rdWN x5 at_ hat, rdWN x5 i hi]
  exact Ev.pos (by omega) (Ev.pos (by omega) (Ev.pos (by omega) (Ev.pos (by omega) (Ev.neg he (Ev.pos (by omega) (Ev.pos (by omega) hR))))))
theorem codes_mem {a : ByteArray} (g : Gnd a) {L : List (XS × WB)} (h : FoundW a L) {z : XS} (hz : stateB a z = true) : codeY a z ∈ codesY a L ↔ z ∈ L.map Prod.fst := by
 constructor
 ·intro hm
  obtain ⟨y, hy, e⟩ := List.mem_map.1 hm
  have := codeY_inj g (h.ok y hy) hz e
  subst this
  exact List.mem_map.2 ⟨y, hy, rfl⟩
 ·intro hm
  obtain ⟨y, hy, rfl⟩ := List.mem_map.1 hm
  exact List.mem_map.2 ⟨y, hy, rfl⟩
theorem wy_l1 {a : ByteArray} (g : Gnd a) (x5 : List WN) (L : List (XS × WB)) (hL : x5.map er = L) (hF : FoundW a L) (i : Nat) (x : XS) (p : WB) (hx : L[i]? = some (x, p)) (hp : 0 ≤ p.1 ∧ p.1 ≤ 49000000) (d : Nat) (hd : d < 4) :
  ∃ y5, y5.map er = Bfs.put L (rollO a x (d : Int)) ((p.1.toNat : Int) + 1, ((i : Int), (d : Int))) ∧ ∀ R, Ev (fun k => qK.l1 k y5 (codesY a (Bfs.put L (rollO a x (d : Int)) ((p.1.toNat : Int) + 1, ((i : Int), (d : Int))))) (i : Int) ((d + 1 : Nat) : Int) (wideT a : Int) (highT a : Int) (csOf a)) R →
   Ev (fun k => qK.l1 k x5 (codesY a L) (i : Int) (d : Int) (wideT a : Int) (highT a : Int) (csOf a)) R := by
 have w : wrap64 ((d : Int) + 1) = ((d + 1 : Nat) : Int) := by unfold wrap64; omega
 have hlen : x5.length = L.length := by rw [← hL, List.length_map]
 have hn := hF.len g
 have hi : i < x5.length := by rw [hlen]; exact (List.getElem?_eq_some_iff.1 hx).1
 have hi5 := er_get hL hi hx
 obtain ⟨y, hy⟩ : ∃ y, x5.set i (nx x5[i] (d : Int) (-1)) = y := ⟨_, rfl⟩
 have hyl : i < y.length := by rw [← hy, List.length_set]; exact hi
 have hyL : y.map er = L := by rw [← hy, ← hL]; exact qpC x5 i hi (nx x5[i] (d : Int) (-1)) rfl
 have hyi := er_get hyL hyl hx
 have hy0 : y[i].f0 = x := congrArg Prod.fst hyi
 have hy1 : y[i].f1 = p.1 := congrArg (fun z => z.2.1) hyi
 have hylen : y.length = x5.length := by rw [← hy, List.length_set]
 have hroll := specRoll_eq g x (d : Int)
 have hxs : stateB a x = true := hF.ok (x, p) (List.mem_of_getElem? hx)
 have hcl : (codesY a L).length ≤ 100000000 := by unfold codesY; rw [List.length_map]; omega
 have pre : ∀ R, Ev (fun k => (qhA.f (wideT a : Int) (highT a : Int) (csOf a) x.f0 x.f1 x.f2.f0 x.f2.f1 x.f2.f2 x.f2.f3 x.f2.f4 x.f2.f5 (d : Int)).bind fun bt169 => (if bt169.2.2.2.2.2.2.2.2 = true then ((qj.f k (wideT a : Int) (highT a : Int) (csOf a) bt169.1 bt169.2.1 bt169.2.2.1 bt169.2.2.2.1 bt169.2.2.2.2.1 bt169.2.2.2.2.2.1 bt169.2.2.2.2.2.2.1 bt169.2.2.2.2.2.2.2.1).bind fun t179 => ((qCA.f k (codesY a L) t179).bind fun t180 => (if t180 < 0 then (if y.length < 1099511627776 then ((qj.f k (wideT a : Int) (highT a : Int) (csOf a) bt169.1 bt169.2.1 bt169.2.2.1 bt169.2.2.2.1 bt169.2.2.2.2.1 bt169.2.2.2.2.2.1 bt169.2.2.2.2.2.2.1 bt169.2.2.2.2.2.2.2.1).bind fun t185 => (if (codesY a L).length < 17592186044416 then (qK.j2 k (y ++ [(⟨⟨bt169.1, bt169.2.1, ⟨bt169.2.2.1, bt169.2.2.2.1, bt169.2.2.2.2.1, bt169.2.2.2.2.2.1, bt169.2.2.2.2.2.2.1, bt169.2.2.2.2.2.2.2.1⟩⟩, wrap64 (p.1 + 1), 0, (i : Int), (d : Int), ⟨0, 0, 0, 0⟩⟩ : WN)]) (codesY a L ++ [t185]) (i : Int) (d : Int) (x5.length : Int) (wideT a : Int) (highT a : Int) (csOf a)) else (none))) else (none)) else (qK.j2 k y (codesY a L) (i : Int) (d : Int) t180 (wideT a : Int) (highT a : Int) (csOf a))))) else (qK.l1 k y (codesY a L) (i : Int) ((d + 1 : Nat) : Int) (wideT a : Int) (highT a : Int) (csOf a)))) R →
   Ev (fun k => qK.l1 k x5 (codesY a L) (i : Int) (d : Int) (wideT a : Int) (highT a : Int) (csOf a)) R := by
  intro R hR
  refine Ev.step (f := fun k => _) (fun k => by rw [qK.l1]) ?_
  simp only [w, Int.toNat_natCast, rdWN x5 i hi]
  refine Ev.pos (by omega) (Ev.pos (by omega) (Ev.pos (by omega) (Ev.pos (by omega) (Ev.bindc (a := y) (by rw [← hy]; rfl) ?_))))
  simp only [rdWN y i hyl, hy0, hy1]
  exact hR
 cases hf : floorB a (rollS x (d : Int)).f0 (rollS x (d : Int)).f1 with
 | false =>
  rw [if_neg (by rw [hf]; decide)] at hroll
  have hro : rollO a x (d : Int) = none := by unfold rollO; rw [if_neg (by rw [hf]; decide)]
  rw [hro]
  exact ⟨y, hyL, fun R hR => pre R (Ev.bindc hroll (Ev.neg (by decide) hR))⟩
 | true =>
  rw [if_pos hf] at hroll
  have hro : rollO a x (d : Int) = some (rollS x (d : Int)) := by unfold rollO; rw [if_pos hf]
  have hz := qpB hxs hro
  have hc := wyCodeY_ev g hz
  have hpl := wyPlace_ev (codesY a L) hcl (codeY a (rollS x (d : Int)))
  rw [hro]
  by_cases hm : rollS x (d : Int) ∈ L.map Prod.fst
  ·obtain ⟨j, hj, hj2, _⟩ := plc_mem _ _ 0 ((codes_mem g hF hz).2 hm)
   rw [Nat.zero_add] at hj2
   have hjl : j < y.length := by unfold codesY at hj; rw [List.length_map] at hj; omega
   obtain ⟨y5, h5, hs⟩ := wy_j2 (wideT a : Int) (highT a : Int) (csOf a) y (codesY a L) i d j hyl hjl hd
   rw [Bfs.put_met hm]
   rw [hj2] at hpl
   exact ⟨y5, h5.trans hyL, fun R hR => pre R (Ev.bindc hroll (Ev.pos rfl (Ev.bind hc (Ev.bind hpl (Ev.neg (by omega) (hs R hR))))))⟩
  ·have hnm : ¬ codeY a (rollS x (d : Int)) ∈ codesY a L := fun q => hm ((codes_mem g hF hz).1 q)
   rw [plc_not _ _ 0 hnm] at hpl
   rw [Bfs.qiC hm]
   have hw : wrap64 (p.1 + 1) = (p.1.toNat : Int) + 1 := by unfold wrap64; omega
   obtain ⟨y5, h5, hs⟩ := wy_j2 (wideT a : Int) (highT a : Int) (csOf a) (y ++ [(⟨rollS x (d : Int), wrap64 (p.1 + 1), 0, (i : Int), (d : Int), ⟨0, 0, 0, 0⟩⟩ : WN)]) (codesY a L ++ [codeY a (rollS x (d : Int))]) i d x5.length (by rw [List.length_append]; omega) (by rw [List.length_append, hylen]; simp) hd
   refine ⟨y5, h5.trans (by rw [List.map_append, hyL, hw]; rfl), fun R hR => pre R (Ev.bindc hroll (Ev.pos rfl (Ev.bind hc (Ev.bind hpl (Ev.pos (by omega) (Ev.pos (by omega) (Ev.bind hc (Ev.pos (by omega) (hs R ?_)))))))))⟩
   unfold codesY at hR ⊢
   rw [List.map_append] at hR
   exact hR
theorem wy_dirs {a : ByteArray} (g : Gnd a) (i : Nat) (x : XS) (p : WB) (hp : 0 ≤ p.1 ∧ p.1 ≤ 49000000) : ∀ (n d : Nat) (x5 : List WN) (L : List (XS × WB)), d + n = 4 → x5.map er = L → FoundW a L → L[i]? = some (x, p) →
  ∃ y5, y5.map er = Bfs.puts L (stepsW a i x p n d) ∧ ∀ R, Ev (fun k => qK.l0 k y5 (codesY a (Bfs.puts L (stepsW a i x p n d))) ((i + 1 : Nat) : Int) (wideT a : Int) (highT a : Int) (csOf a)) R →
   Ev (fun k => qK.l1 k x5 (codesY a L) (i : Int) (d : Int) (wideT a : Int) (highT a : Int) (csOf a)) R
 | 0, d, x5, L, hd, hL, hF, hx => by
  have hn := hF.len g
  have hi := (List.getElem?_eq_some_iff.1 hx).1
  have w : wrap64 ((i : Int) + 1) = ((i + 1 : Nat) : Int) := by unfold wrap64; omega
  refine ⟨x5, hL, fun R hR => Ev.step (f := fun k => _) (fun k => by rw [qK.l1]) ?_⟩
  rw [w]
  exact Ev.neg (by omega) hR
 | n + 1, d, x5, L, hd, hL, hF, hx => by
  obtain ⟨y5, h5, hs⟩ := wy_l1 g x5 L hL hF i x p hx hp d (by omega)
  have hxs : stateB a x = true := hF.ok (x, p) (List.mem_of_getElem? hx)
  obtain ⟨z5, h6, hs2⟩ := wy_dirs g i x p hp n (d + 1) y5 _ (by omega) h5 (hF.put _ _ fun z hz => qpB hxs hz) (putW_get hx _ _)
  exact ⟨z5, h6, fun R hR => hs R (hs2 R hR)⟩
theorem wy_run {a : ByteArray} (g : Gnd a) : ∀ (n i : Nat) (L : List (XS × WB)) (x5 : List WN), FoundW a L → FarOk L i → i ≤ L.length → 49000000 ≤ i + n → x5.map er = L →
  ∃ R, R.map er = Bfs.run (nextW a) n i L ∧ Ev (fun k => qK.l0 k x5 (codesY a L) (i : Int) (wideT a : Int) (highT a : Int) (csOf a)) R
 | 0, i, L, x5, hF, hf, hi, hn, hL => by
  have hl := hF.len g
  have hlen : x5.length = L.length := by rw [← hL, List.length_map]
  exact ⟨x5, hL, Ev.step (f := fun k => _) (fun k => by rw [qK.l0]) (Ev.neg (by omega) (Ev.now _))⟩
 | n + 1, i, L, x5, hF, hf, hi, hn, hL => by
  have hl := hF.len g
  have hlen : x5.length = L.length := by rw [← hL, List.length_map]
  unfold Bfs.run
  by_cases h : i < L.length
  ·rw [if_pos h]
   obtain ⟨⟨x, p⟩, hx⟩ : ∃ z, L[i]? = some z := ⟨_, List.getElem?_eq_getElem h⟩
   have hp := hf (x, p) (List.mem_of_getElem? hx)
   have hr : Bfs.round (nextW a) i L = Bfs.puts L (stepsW a i x p 4 0) := by unfold Bfs.round; rw [hx]; rfl
   obtain ⟨y5, h5, hs⟩ := wy_dirs g i x p ⟨hp.1, by have := hp.2; simp only at this; omega⟩ 4 0 x5 L rfl hL hF hx
   have hF2 : FoundW a (Bfs.puts L (stepsW a i x p 4 0)) := by rw [← hr]; exact hF.round i
   have hle : i + 1 ≤ (Bfs.puts L (stepsW a i x p 4 0)).length := by
    obtain ⟨t, ht⟩ := Bfs.puts_prefix (stepsW a i x p 4 0) L
    rw [← ht, List.length_append]; omega
   obtain ⟨R, h6, hR⟩ := wy_run g n (i + 1) _ y5 hF2 (hf.puts hx) hle (by omega) h5
   rw [hr]
   refine ⟨R, h6, Ev.step (f := fun k => _) (fun k => by rw [qK.l0]) (Ev.pos (by omega) ?_)⟩
   exact hs R hR
  ·rw [if_neg h]
   exact ⟨x5, hL, Ev.step (f := fun k => _) (fun k => by rw [qK.l0]) (Ev.neg (by omega) (Ev.now _))⟩
theorem wyAll_ev {a : ByteArray} (g : Gnd a) {s : XS} (h : stateB a s = true) :
  ∃ R, R.map er = reachW a s ∧ Ev (fun k => qK.f k (wideT a : Int) (highT a : Int) (csOf a) s.f0 s.f1 s.f2.f0 s.f2.f1 s.f2.f2 s.f2.f3 s.f2.f4 s.f2.f5) R := by
 obtain ⟨R, h1, h2⟩ := wy_run g 49000000 0 [(s, (0, (-1, 0)))] [(⟨s, 0, 1, -1, 0, ⟨0, 0, 0, 0⟩⟩ : WN)] (FoundW.start h _) (fun z hz => by rw [List.mem_singleton] at hz; subst hz; exact ⟨Int.le_refl _, Int.le_refl _⟩) (Nat.zero_le _) (by omega) rfl
 unfold qK.f
 exact ⟨R, h1, Ev.bind (wyCodeY_ev g h) h2⟩
theorem rd_isD (l : List Int) (i : Nat) {x : Int} (h : i < l.length) (e : l[i] = x) : rd l (i : Int) = x := by
 unfold rd
 rw [Int.toNat_natCast, List.getD_eq_getElem?_getD, List.getElem?_eq_getElem h, e]; rfl
theorem less_loop (l m : List Int) (hl : l.length ≤ 100000) (hm : m.length = l.length) : ∀ (u v : List Int) (i : Nat), l.drop i = u → m.drop i = v → i ≤ l.length →
  Ev (fun k => qU.l0 k l m (l.length : Int) (i : Int)) (decide (lexI u v < 0))
 | [], v, i, hu, hv, h1 => by
  have hi := Sorts.qOB hu
  have hv' : v = [] := by rw [← hv]; exact List.drop_eq_nil_of_le (by omega)
  subst hv'
  refine Ev.step (f := fun k => _) (fun k => by rw [qU.l0]) ?_
  exact Ev.neg (by omega) (Ev.some_ rfl)
 | a :: u, v, i, hu, hv, h1 => by
  obtain ⟨h3, e3, hu'⟩ := Sorts.qHB hu
  have ea := rd_isD l i h3 e3
  have w : wrap64 ((i : Int) + 1) = ((i + 1 : Nat) : Int) := by unfold wrap64; omega
  clear hu e3
  refine Ev.step (f := fun k => _) (fun k => by rw [qU.l0]) ?_
  rw [w, ea]
  refine Ev.pos (by omega) (Ev.pos (by omega) (Ev.pos (by omega) (Ev.pos (by omega) ?_)))
  match v, hv with
  | [], hv =>
   have := Sorts.qOB hv
   omega
  | b :: v, hv =>
   obtain ⟨h4, e4, hv'⟩ := Sorts.qHB hv
   have eb := rd_isD m i h4 e4
   have ih := less_loop l m hl hm u v (i + 1) hu' hv' (by omega)
   clear hv e4 hu' hv'
   rw [eb]
   have hn := qIB a b u v
   by_cases h0 : a = b
   ·refine Ev.pos h0 ?_
    rw [show decide (lexI (a :: u) (b :: v) < 0) = decide (lexI u v < 0) from decide_eq_decide.2 (by omega)]
    exact ih
   ·refine Ev.neg h0 (Ev.some_ ?_)
    exact decide_eq_decide.2 (by omega)
theorem diLess_ev (x y : DD) : Ev (fun k => qU.f k x.f0 x.f1 x.f2 x.f3 x.f4 x.f5 y.f0 y.f1 y.f2 y.f3 y.f4 y.f5) (ltD x y) := by
 unfold qU.f
 exact Ev.bindc (show qz.f _ _ _ _ _ _ = some (facesD x) from rfl) (Ev.bindc (show qz.f _ _ _ _ _ _ = some (facesD y) from rfl) (less_loop (facesD x) (facesD y) (by simp [facesD]) rfl (facesD x) (facesD y) 0 rfl rfl (by simp)))
theorem wyLess_ev (t u : XS) : Ev (fun k => qAB.f k t.f0 t.f1 t.f2.f0 t.f2.f1 t.f2.f2 t.f2.f3 t.f2.f4 t.f2.f5 u.f0 u.f1 u.f2.f0 u.f2.f1 u.f2.f2 u.f2.f3 u.f2.f4 u.f2.f5) (ltS t u) := by
 unfold qAB.f ltS numsS
 have h1 := qIB t.f1 u.f1 (t.f0 :: facesD t.f2) (u.f0 :: facesD u.f2)
 have h2 := qIB t.f0 u.f0 (facesD t.f2) (facesD u.f2)
 by_cases e1 : t.f1 = u.f1
 ·refine Ev.pos e1 ?_
  by_cases e2 : t.f0 = u.f0
  ·refine Ev.pos e2 (Ev.bind (diLess_ev t.f2 u.f2) (Ev.some_ ?_))
   exact decide_eq_decide.2 (by omega)
  ·refine Ev.neg e2 (Ev.some_ ?_)
   exact decide_eq_decide.2 (by omega)
 ·refine Ev.neg e1 (Ev.some_ ?_)
  exact decide_eq_decide.2 (by omega)
theorem boAsked_ev (a : ByteArray) (s : XS) : ∃ (w h : Int) (cs : List Int), Ev (fun k => qt.f k a s.f0 s.f1 s.f2.f0 s.f2.f1 s.f2.f2 s.f2.f3 s.f2.f4 s.f2.f5) (w, h, cs, askS a s) ∧ (askS a s = true → w = (wideT a : Int) ∧ h = (highT a : Int) ∧ cs = csOf a) := by
 have h2 := boRead_ev a
 unfold qt.f askS
 cases hg : boardB a with
 | false =>
  rw [hg, if_neg (by decide)] at h2
  exact ⟨_, _, _, Ev.bind h2 (Ev.neg (by simp [badG]) (Ev.now _)), fun h => by cases h⟩
 | true =>
  have g := qhC hg
  rw [hg, if_pos rfl] at h2
  exact ⟨_, _, _, Ev.bind h2 (Ev.pos rfl (Ev.bind (boState_ev g s) (Ev.now _))), fun _ => ⟨rfl, rfl, rfl⟩⟩
theorem far_loop (R : List WN) (hR : R.length ≤ 100000000) : ∀ (r : List WN) (i : Nat) (b : XS) (m : Int), R.drop i = r → i ≤ R.length →
  Ev (fun k => qR.l0 k m R (R.length : Int) (i : Int) b.f0 b.f1 b.f2.f0 b.f2.f1 b.f2.f2 b.f2.f3 b.f2.f4 b.f2.f5) (tupS (farS b m (r.map fun n => sf (er n))).1 (farS b m (r.map fun n => sf (er n))).2 true)
 | [], i, b, m, hd, hi => by
  have := Sorts.qOB hd
  refine Ev.step (f := fun k => _) (fun k => by rw [qR.l0]) (Ev.neg (by omega) ?_)
  exact Ev.now _
 | n :: r, i, b, m, hd, hi => by
  obtain ⟨hlt, hc, hd'⟩ := Sorts.qHB hd
  have w : wrap64 ((i : Int) + 1) = ((i + 1 : Nat) : Int) := by unfold wrap64; omega
  have ih := fun b m => far_loop R hR r (i + 1) b m hd' (by omega)
  rw [List.map_cons]
  show Ev _ (tupS (farS b m ((n.f0, n.f1) :: r.map fun n => sf (er n))).1 (farS b m ((n.f0, n.f1) :: r.map fun n => sf (er n))).2 true)
  refine Ev.step (f := fun k => _) (fun k => by rw [qR.l0]) ?_
  rw [w, rdWN R i hlt, hc]
  clear hd hd' hc
  refine Ev.pos (by omega) (Ev.pos (by omega) (Ev.pos (by omega) ?_))
  simp only [farS]
  by_cases h1 : n.f1 > m
  case pos => rw [if_pos h1]; exact Ev.pos h1 (ih n.f0 n.f1)
  rw [if_neg h1]
  refine Ev.neg h1 ?_
  by_cases h2 : n.f1 = m
  ·rw [if_pos h2]
   refine Ev.pos h2 (Ev.bind (wyLess_ev n.f0 b) ?_)
   cases hq : ltS n.f0 b with
   | true => rw [if_pos rfl]; exact Ev.pos rfl (ih n.f0 n.f1)
   | false => rw [if_neg (by decide)]; exact Ev.neg (by decide) (ih b m)
  ·rw [if_neg h2]
   exact Ev.neg h2 (ih b m)
theorem farthest_ev (a : ByteArray) (s : XS) : Ev (fun k => qR.f k a s.f0 s.f1 s.f2.f0 s.f2.f1 s.f2.f2 s.f2.f3 s.f2.f4 s.f2.f5)
  (if askS a s = true then tupS (farS s 0 ((reachW a s).map sf)).1 (farS s 0 ((reachW a s).map sf)).2 true else (0, 0, 0, 0, 0, 0, 0, 0, 0, false)) := by
 obtain ⟨w, h, cs, h1, h2⟩ := boAsked_ev a s
 unfold qR.f
 cases hb : askS a s with
 | false =>
  rw [hb] at h1
  rw [if_neg (by decide)]
  exact Ev.bind h1 (Ev.neg (by simp) (Ev.now _))
 | true =>
  rw [hb] at h1
  obtain ⟨rfl, rfl, rfl⟩ := h2 hb
  rw [if_pos rfl]
  unfold askS at hb
  rw [Bool.and_eq_true] at hb
  have g := qhC hb.1
  obtain ⟨R, hR, hev⟩ := wyAll_ev g hb.2
  have hl : R.length ≤ 49000000 := by
   have := ((FoundW.start hb.2 (0, (-1, 0))).run 49000000 0).len g
   rw [show R.length = (R.map er).length by rw [List.length_map], hR]
   exact this
  have hf := far_loop R (by omega) R 0 s 0 rfl (Nat.zero_le _)
  rw [show (R.map fun n => sf (er n)) = (reachW a s).map sf by rw [← hR, List.map_map]; rfl] at hf
  exact Ev.bind h1 (Ev.pos rfl (Ev.bind hev hf))
def farN (p : WB) : Nat := p.1.toNat
theorem stepsW_next (a : ByteArray) (i : Nat) (x : XS) (p : WB) : ∀ (n d : Nat), ∀ s ∈ stepsW a i x p n d, s.1.isSome → farN s.2 = farN p + 1 := fun n d s hs _ => by
 have h := qnB a i x p n d s hs
 unfold farN
 omega
theorem reach_pair (a : ByteArray) (s : XS) : (reachW a s).Pairwise fun x y => farN x.2 ≤ farN y.2 :=
 Bfs.run_layers (nextW a) farN (fun i x p s hs h => stepsW_next a i x p 4 0 s hs h) 49000000 0 (Bfs.layers_start _ _ _)
theorem qRC (a : ByteArray) {s : XS} : ∀ z ∈ reachW a s, 0 ≤ z.2.1 :=
 Bfs.qXC (nextW a) (Q := fun z : XS × WB => 0 ≤ z.2.1) (fun i x p _ s hs z _ => by
  have h := qnB a i x p 4 0 s hs
  show 0 ≤ s.2.1
  omega) 49000000 0 (fun z hz => by rw [List.mem_singleton] at hz; subst hz; exact Int.le_refl _)
theorem reach_far (a : ByteArray) (s : XS) (z : XS × WB) (hz : (reachW a s).getLast? = some z) : farS s 0 ((reachW a s).map sf) = (minS z.2.1 z.1 ((reachW a s).map sf), z.2.1) := by
 obtain ⟨t, ht⟩ := qxB a s
 have hmem : z ∈ reachW a s := List.mem_of_getLast? hz
 refine far_min (m := 0) (List.mem_map.2 ⟨(s, (0, (-1, 0))), by rw [ht]; exact List.mem_cons_self, rfl⟩) (fun y hy => ?_) (List.mem_map.2 ⟨z, hmem, rfl⟩) (fun y hy => ?_)
 ·obtain ⟨q, hq, rfl⟩ := List.mem_map.1 hy
  exact qRC a q hq
 ·obtain ⟨q, hq, rfl⟩ := List.mem_map.1 hy
  have hp := reach_pair a s
  have h1 := qRC a q hq
  have h2 := qRC a z hmem
  obtain ⟨L, hL⟩ : ∃ L, reachW a s = L ++ [z] := by
   rw [List.getLast?_eq_some_iff] at hz
   exact hz
  rw [hL] at hp hq
  rcases List.mem_append.1 hq with h | h
  ·have h3 := (List.pairwise_append.1 hp).2.2 q h z (by simp)
   unfold farN at h3
   show q.2.1 ≤ z.2.1
   omega
  ·rw [List.mem_singleton] at h
   subst h
   exact Int.le_refl _
end Go.Proofs.YtdhbimankkpllaaDoor
namespace Go.Proofs.YtdhbimankkpllaaDoor.Pure
open Go.RowKit Go.Proofs.YtdhbimankkpllaaDoor.P Go.Proofs.YtdhbimankkpllaaDoorW.PrintWords Go.Proofs.YtdhbimankkpllaaDoorW.PrintLast
set_option linter.unusedVariables false
set_option linter.unusedSimpArgs false
theorem FnExactFarthestState : qv.Pure := by
 intro a s0 s1 s2 s3 s4 s5 s6 s7 _ _ _ _ _ _ _ _ _
 refine Ev.rounds (r := true) ?_
 unfold qv.f
 by_cases ha : a.size ≤ 1048576
 ·refine Ev.neg (by omega) ?_
  have ht : qEA.f s0 s1 s2 s3 s4 s5 s6 s7 = some (s0, s1, s2, s3, s4, s5, s6, s7) := rfl
  have hs := farthest_ev a ⟨s0, s1, ⟨s2, s3, s4, s5, s6, s7⟩⟩
  obtain ⟨s, hS⟩ : ∃ s : XS, (⟨s0, s1, ⟨s2, s3, s4, s5, s6, s7⟩⟩ : XS) = s := ⟨_, rfl⟩
  have hi : qu.f a s0 s1 s2 s3 s4 s5 s6 s7 = some (tupS (farB a s).1 (farB a s).2.1 (farB a s).2.2) := by
   unfold qu.f
   rw [if_pos ha, hS]
  have e : (if askS a s = true then tupS (farS s 0 ((reachW a s).map sf)).1 (farS s 0 ((reachW a s).map sf)).2 true else (0, 0, 0, 0, 0, 0, 0, 0, 0, false)) = tupS (farB a s).1 (farB a s).2.1 (farB a s).2.2 := by
   unfold farB
   cases hA : askS a s with
   | false => rfl
   | true =>
    rw [if_pos rfl, if_pos rfl]
    obtain ⟨t, ht⟩ := qxB a s
    have hne : reachW a s ≠ [] := by rw [ht]; simp
    have hz := List.getLast?_eq_some_getLast hne
    rw [hz, reach_far a s _ hz]
  rw [hS] at hs
  rw [show s0 = s.f0 from by rw [← hS], show s1 = s.f1 from by rw [← hS], show s2 = s.f2.f0 from by rw [← hS], show s3 = s.f2.f1 from by rw [← hS], show s4 = s.f2.f2 from by rw [← hS], show s5 = s.f2.f3 from by rw [← hS], show s6 = s.f2.f4 from by rw [← hS], show s7 = s.f2.f5 from by rw [← hS]] at ht hi ⊢
  rw [e] at hs
  generalize farB a s = F at hi hs
  have he : qZA.f F.1.f0 F.1.f1 F.1.f2.f0 F.1.f2.f1 F.1.f2.f2 F.1.f2.f3 F.1.f2.f4 F.1.f2.f5 F.1.f0 F.1.f1 F.1.f2.f0 F.1.f2.f1 F.1.f2.f2 F.1.f2.f3 F.1.f2.f4 F.1.f2.f5 = some true := by
   unfold qZA.f qLB.f
   simp
  exact Ev.bindc ht (Ev.bind hs (Ev.bindc ht (Ev.bindc hi (Ev.bindc he (Ev.pos rfl (Ev.pos rfl (Ev.neg (by simp) (Ev.now _))))))))
 ·exact Ev.pos (by omega) (Ev.now _)
end Go.Proofs.YtdhbimankkpllaaDoor.Pure
