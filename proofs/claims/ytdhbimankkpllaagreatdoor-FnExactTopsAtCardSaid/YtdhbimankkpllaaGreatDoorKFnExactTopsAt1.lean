/- The program's TopsAt and the reference's: the same, at all texts, states and cells. -/
import Derived.Test.YtdhbimankkpllaaGreatDoorKFnExactTopsAt0

namespace Go.Proofs.YtdhbimankkpllaaGreatDoor.P
open Go.RowKit Go.Proofs.YtdhbimankkpllaaGreatDoorW.PrintWords Go.Proofs.YtdhbimankkpllaaGreatDoorW.PrintLast Go.Proofs.YtdhbimankkpllaaGreatDoorW.PrintMore
attribute [local go_sem] qq qo qBA qAA qe qd qp qn
set_option linter.unusedVariables false
set_option linter.unusedSimpArgs false
def qDA.f (k : Nat) (a0 : ByteArray) (a1_0 : Int) (a1_1 : Int) (a1_2 : Int) (a1_3 : Int) (a1_4 : Int) (a1_5 : Int) (a1_6 : Int) (a1_7 : Int) : Option (Int × Int × List Int × Bool) := (qP.f k a0).bind fun bt129 => (if bt129.2.2.2 = true then ((qDB.f k bt129.1 bt129.2.1 bt129.2.2.1 a1_0 a1_1 a1_2 a1_3 a1_4 a1_5 a1_6 a1_7).bind fun t136 => (some (bt129.1, bt129.2.1, bt129.2.2.1, t136))) else (some (bt129.1, bt129.2.1, bt129.2.2.1, false)))
def qDA.T2 : Bool × List (List Nat × List Nat) := (true, [([], []), ([], []), ([1], [1]), ([2], [2]), ([2], [2]), ([3, 4, 2, 2], [2, 3, 4]), ([2, 5], [2, 5]), ([0, 5, 0], [0]), ([6, 7, 0, 1, 2, 3, 4, 5, 6, 7], [6])])
def qDA.B2 : List Nat := [0, 0, 2, 6, 6, 30, 62, 63, 255]
theorem qDA.tab2 : rtab .any (opsOf Tryz.f26 2) = qDA.T2 := by kernel_rfl
theorem qDA.bits2 : waitsOk qDA.T2.2 qDA.B2 = true := by kernel_rfl
set_option maxHeartbeats 8000000 in
set_option maxRecDepth 100000 in
theorem qDA.calls (k : Nat) (a0 : ByteArray) (a1_0 : Int) (a1_1 : Int) (a1_2 : Int) (a1_3 : Int) (a1_4 : Int) (a1_5 : Int) (a1_6 : Int) (a1_7 : Int) (r1 : Int) (r2 : Int) (r3 : List Int) (r4 : Bool) (w : World) (h : qDA.f k a0 a1_0 a1_1 a1_2 a1_3 a1_4 a1_5 a1_6 a1_7 = some (r1, r2, r3, r4)) :
  Calls Tryz.prog 26 #[.string a0, .agg #[.int .i64 a1_0, .int .i64 a1_1, .int .i64 a1_2, .int .i64 a1_3, .int .i64 a1_4, .int .i64 a1_5, .int .i64 a1_6, .int .i64 a1_7]] w fun e w' => ∃ v2_ : Value, e = .returned (.tuple #[.agg #[.int .i64 r1, .int .i64 r2, v2_], .bool r4]) ∧ Kd.R (Kd.int .u8) 5 w' w.heap.size (fun _ => True) v2_ r3 ∧ Below w.heap.size w w' := by
 have hu31 := Tryz.underlying31
 have hu61 := Tryz.underlying61
 have HB := aM (Below.refl w.heap.size w)
 have H : ((qP.f k a0).bind fun bt129 => (if bt129.2.2.2 = true then ((qDB.f k bt129.1 bt129.2.1 bt129.2.2.1 a1_0 a1_1 a1_2 a1_3 a1_4 a1_5 a1_6 a1_7).bind fun t136 => (some (bt129.1, bt129.2.1, bt129.2.2.1, t136))) else (some (bt129.1, bt129.2.1, bt129.2.2.1, false)))) = some (r1, r2, r3, r4) := h
 clear h
 replace H := bO H
 obtain ⟨⟨t129, t130, t131, t134⟩, A3, H⟩ := H
 dsimp only at H A3
 by_cases c4 : t134 = true
 ·subst c4
  replace H := iT H
  replace H := bO H
  obtain ⟨t136, A5, H⟩ := H
  simp only [Option.some.injEq, Prod.mk.injEq] at H
  obtain ⟨rfl, rfl, rfl, rfl⟩ := H
  go_enter Tryz.func26, Tryz.ntmps26
  try go_wp2_with (first | ((with_reducible refine qN (N := 3) rfl ?_); refine bE (N := 3) (cs := #[.int .i64 a1_0, .int .i64 a1_1, .int .i64 a1_2, .int .i64 a1_3, .int .i64 a1_4, .int .i64 a1_5, .int .i64 a1_6, .int .i64 a1_7]) (t := 31) ?_; intro gb127 hg w6 hbox hb; have BK127 := aM (hbox); have GW127 := aM ((gg hg)); have GE127 := aM ((gg hg)); replace HB := aM (qB bl hb); clear hb hbox hg) | ((with_reducible refine qN (N := 4) rfl ?_); refine bE (N := 4) (cs := #[.int .i64 0, .int .i64 0, .slice none 0 0]) (t := 61) ?_; intro gb128 hg w7 hbox hb; have BK128 := aM (hbox); have GW128 := aM ((gg hg)); have GE128 := aM ((gg hg)); have NB127_128 := aM ((nl BK127 hg)); have NB128_127 := aM ((nr BK127 hg)); replace BK127 := aM (bb BK127 hb); replace HB := aM (qB bl hb); clear hb hbox hg) | ((with_reducible refine qF (f := 36) rfl ?_); refine qh (some 10) rfl rfl Tryz.func36 (by kernel_rfl) rfl #[.string a0] rfl gA ?_; (with_reducible refine (qP.calls k a0 t129 t130 t131 true _ A3.out).mono ?_); rintro e w8 ⟨v132, rfl, ho0, hb⟩; refine ⟨_, rfl, ?_⟩; have HO133 := aM (Kd.qHA ho0 (qT bl)); replace BK127 := aM (bb BK127 hb); replace BK128 := aM (bb BK128 hb); replace HB := aM (qB bl hb); (try clear hb); (try clear hb2); (try clear hk); (try clear hi); (try clear ho0)) | ((with_reducible refine qN (N := 6) rfl ?_); refine bE (N := 6) (cs := #[.int .i64 0, .int .i64 0, .slice none 0 0]) (t := 61) ?_; intro gb135 hg w9 hbox hb; have BK135 := aM (hbox); have GW135 := aM ((gg hg)); have GE135 := aM ((gg hg)); have NB127_135 := aM ((nl BK127 hg)); have NB135_127 := aM ((nr BK127 hg)); have NB128_135 := aM ((nl BK128 hg)); have NB135_128 := aM ((nr BK128 hg)); replace HO133 := aM (Kd.qj (rR HO133) hb); replace BK127 := aM (bb BK127 hb); replace BK128 := aM (bb BK128 hb); replace HB := aM (qB bl hb); clear hb hbox hg; have hnb10 := NB135_127.out; have hnc10 := NB127_135.out; have hnb11 := NB135_128.out; have hnc11 := NB128_135.out; (refine cb3 BK135 ?_; intro _ _ _); (refine cz3 BK135 ?_; intro _ _ _); obtain ⟨Ao13, co13, eo13⟩ := Kd.qi HO133.out; subst eo13))
  have n0_ : Aside0 (Kd.R (Kd.int .u8) 5 (((w9.setCell ⟨gb135, 0, none⟩ (.int .i64 t129)).setCell ⟨gb135, 1, none⟩ (.int .i64 t130)).setCell ⟨gb135, 2, none⟩ (.slice Ao13 t131.length co13)) w.heap.size (fun _ => True) (.slice Ao13 t131.length co13) t131) := ⟨by (with_reducible repeat (first | apply Kd.qR | apply Kd.qU | apply Kd.qQ)); exact Kd.qY (Kd.R_far (p := ⟨gb135, 2, none⟩) (Kd.R_far (p := ⟨gb135, 1, none⟩) (Kd.R_far (p := ⟨gb135, 0, none⟩) (Kd.qlA HO133.out BK135.out (by decide)) (fun _ hk => hk.2) (.int .i64 t129)) (fun _ hk => hk.2) (.int .i64 t130)) (fun _ hk => hk.2) (.slice Ao13 t131.length co13)) (fun _ hk => trivial)⟩
  have n1_ : Aside0 ((((w9.setCell ⟨gb135, 0, none⟩ (.int .i64 t129)).setCell ⟨gb135, 1, none⟩ (.int .i64 t130)).setCell ⟨gb135, 2, none⟩ (.slice Ao13 t131.length co13)).heap[gb127]? = some (.cells #[.int .i64 a1_0, .int .i64 a1_1, .int .i64 a1_2, .int .i64 a1_3, .int .i64 a1_4, .int .i64 a1_5, .int .i64 a1_6, .int .i64 a1_7] 31 (0, 0))) := ⟨bF BK127 NB127_135⟩
  have n2_ : Aside0 ((((w9.setCell ⟨gb135, 0, none⟩ (.int .i64 t129)).setCell ⟨gb135, 1, none⟩ (.int .i64 t130)).setCell ⟨gb135, 2, none⟩ (.slice Ao13 t131.length co13)).heap[gb128]? = some (.cells #[.int .i64 0, .int .i64 0, .slice none 0 0] 61 (0, 0))) := ⟨bF BK128 NB128_135⟩
  have n3_ : Aside0 ((((w9.setCell ⟨gb135, 0, none⟩ (.int .i64 t129)).setCell ⟨gb135, 1, none⟩ (.int .i64 t130)).setCell ⟨gb135, 2, none⟩ (.slice Ao13 t131.length co13)).heap[gb135]? = some (.cells #[.int .i64 t129, .int .i64 t130, .slice Ao13 t131.length co13] 61 (0, 0))) := ⟨by (with_reducible repeat (first | refine qL ?_ _ | refine qH ?_ | refine qK ?_ _)); exact bP3 BK135⟩
  have n4_ : Aside0 (Below w.heap.size w (((w9.setCell ⟨gb135, 0, none⟩ (.int .i64 t129)).setCell ⟨gb135, 1, none⟩ (.int .i64 t130)).setCell ⟨gb135, 2, none⟩ (.slice Ao13 t131.length co13))) := ⟨bl⟩
  (try clear HO133); (try clear BK127); (try clear BK128); (try clear BK135); (try clear HB)
  generalize (((w9.setCell ⟨gb135, 0, none⟩ (.int .i64 t129)).setCell ⟨gb135, 1, none⟩ (.int .i64 t130)).setCell ⟨gb135, 2, none⟩ (.slice Ao13 t131.length co13)) = w14 at n0_ n1_ n2_ n3_ n4_ ⊢
  have HO133 := n0_
  have BK127 := n1_
  have BK128 := n2_
  have BK135 := n3_
  have HB := n4_
  clear n0_ n1_ n2_ n3_ n4_
  replace HO133 := aM (Kd.qQ HO133.out)
  replace BK127 := aM (qH BK127.out)
  replace BK128 := aM (qH BK128.out)
  replace BK135 := aM (qH BK135.out)
  replace HB := aM (qm HB.out)
  refine qAB (n := 9) (S := fun w' => w'.cell? ⟨gb135, 0, none⟩ = some (.int .i64 t129) ∧ w'.cell? ⟨gb135, 1, none⟩ = some (.int .i64 t130) ∧ w'.cell? ⟨gb135, 2, none⟩ = some (.slice Ao13 t131.length co13) ∧ w'.cell? ⟨gb127, 0, none⟩ = some (.int .i64 a1_0) ∧ w'.cell? ⟨gb127, 1, none⟩ = some (.int .i64 a1_1) ∧ w'.cell? ⟨gb127, 2, none⟩ = some (.int .i64 a1_2) ∧ w'.cell? ⟨gb127, 3, none⟩ = some (.int .i64 a1_3) ∧ w'.cell? ⟨gb127, 4, none⟩ = some (.int .i64 a1_4) ∧ w'.cell? ⟨gb127, 5, none⟩ = some (.int .i64 a1_5) ∧ w'.cell? ⟨gb127, 6, none⟩ = some (.int .i64 a1_6) ∧ w'.cell? ⟨gb127, 7, none⟩ = some (.int .i64 a1_7)) (ds := []) #[false, false, false, false, false, false, false, false, false] (by kernel_rfl) rfl rfl ⟨bc BK135 0, bc BK135 1, bc BK135 2, bc BK127 0, bc BK127 1, bc BK127 2, bc BK127 3, bc BK127 4, bc BK127 5, bc BK127 6, bc BK127 7⟩ (fun hHeld => ?_); refine qMA qDA.tab2 qDA.bits2 (fun HT_ HW_ => ?_)
  generalize w14.drew = w15 at HO133 BK127 BK128 BK135 HB hHeld ⊢
  refine pS (i := 1) (N := some 14) #[false, true, false, false, false, false, false, false, false] HT_ ?_
  refine pS (i := 2) (N := some 15) #[false, true, true, false, false, false, false, false, false] HT_ ?_
  refine tS (i := 0) (N := some 13) #[true, true, true, false, false, false, false, false, false] HT_ HW_ hHeld ?_
  refine tS (i := 3) (N := some 16) #[true, true, true, true, false, false, false, false, false] HT_ HW_ hHeld ?_
  refine tS (i := 4) (N := some 17) #[true, true, true, true, true, false, false, false, false] HT_ HW_ hHeld ?_
  refine one_ (i := 5) (N := some 18) #[true, true, true, true, true, true, false, false, false] rfl rfl (qrA HT_.out (by kernel_rfl)) (by decide) (fun K hK => ?_)
  refine goes_ Tryz.func37 (by kernel_rfl) rfl #[.agg #[.int .i64 t129, .int .i64 t130, .slice Ao13 t131.length co13], .agg #[.int .i64 a1_0, .int .i64 a1_1, .int .i64 a1_2, .int .i64 a1_3, .int .i64 a1_4, .int .i64 a1_5, .int .i64 a1_6, .int .i64 a1_7]] (by rfl) rfl rfl gA ?_
  with_reducible refine (qDB.calls k t129 t130 _ _ t131 a1_0 a1_1 a1_2 a1_3 a1_4 a1_5 a1_6 a1_7 t136 _ ?side1 ?side2 A5.out).mono ?_
  (case side1 => repeat (first | exact (Kd.qE HO133.out).2.2 | (with_reducible refine Kd.qc ?_ _) | (with_reducible refine Kd.qb ?_ _) | (with_reducible refine Kd.qu ?_)))
  (case side2 => exact (Kd.qE HO133.out).2.1)
  rintro e w16 ⟨rfl, hb⟩
  refine ⟨_, rfl, ?_⟩
  replace HO133 := aM (Kd.qj (rR HO133) hb)
  replace BK127 := aM (bb BK127 hb)
  replace BK128 := aM (bb BK128 hb)
  replace BK135 := aM (bb BK135 hb)
  replace HB := aM (qB bl hb); (try clear hb); (try clear hb2); (try clear hk); (try clear hi)
  refine hK.out _ _ ⟨bc BK135 0, bc BK135 1, bc BK135 2, bc BK127 0, bc BK127 1, bc BK127 2, bc BK127 3, bc BK127 4, bc BK127 5, bc BK127 6, bc BK127 7⟩ (fun hHeld => ?_)
  clear hK K
  refine norm_ (a' := ?_) ?_ ?_
  rotate_left
  ·show Act.put _ (some 18) _ = _
   simp only [Act.put, List.setIfInBounds_toArray, List.set_cons_zero, List.set_cons_succ, i64_w, i32_w]
   rfl
  refine pS (i := 6) (N := some 19) #[true, true, true, true, true, true, true, false, false] HT_ ?_
  refine one_ (i := 7) (N := none) #[true, true, true, true, true, true, true, true, false] rfl rfl (qrA HT_.out (by kernel_rfl)) (by decide) (fun K hK => ?_)
  have hs17 : w16.cell? ⟨gb128, 0, none⟩ = some (.int .i64 0) := bc BK128 0
  have hfs17 := qJ BK128.out 0
  have hns17_0 := NB127_128.out
  have hns17_2 := NB135_128.out
  have hms17_0 := NB128_127.out
  have hms17_2 := NB128_135.out
  have hs18 : w16.cell? ⟨gb128, 1, none⟩ = some (.int .i64 0) := bc BK128 1
  have hfs18 := qJ BK128.out 1
  have hns18_0 := NB127_128.out
  have hns18_2 := NB135_128.out
  have hms18_0 := NB128_127.out
  have hms18_2 := NB128_135.out
  have hs19 : w16.cell? ⟨gb128, 2, none⟩ = some (.slice none 0 0) := bc BK128 2
  have hfs19 := qJ BK128.out 2
  have hns19_0 := NB127_128.out
  have hns19_2 := NB135_128.out
  have hms19_0 := NB128_127.out
  have hms19_2 := NB128_135.out
  refine skip_ (w1 := ?_) (by rfl) rfl ?_ ?_
  rotate_left
  ·go_simp
   rfl
  refine hK.out _ _ ⟨((qk (p := ⟨gb128, _, none⟩) NB135_128.out _).trans (((qk (p := ⟨gb128, _, none⟩) NB135_128.out _).trans (((qk (p := ⟨gb128, _, none⟩) NB135_128.out _).trans (hHeld.1)))))), ((qk (p := ⟨gb128, _, none⟩) NB135_128.out _).trans (((qk (p := ⟨gb128, _, none⟩) NB135_128.out _).trans (((qk (p := ⟨gb128, _, none⟩) NB135_128.out _).trans (hHeld.2.1)))))), ((qk (p := ⟨gb128, _, none⟩) NB135_128.out _).trans (((qk (p := ⟨gb128, _, none⟩) NB135_128.out _).trans (((qk (p := ⟨gb128, _, none⟩) NB135_128.out _).trans (hHeld.2.2.1)))))), ((qk (p := ⟨gb128, _, none⟩) NB127_128.out _).trans (((qk (p := ⟨gb128, _, none⟩) NB127_128.out _).trans (((qk (p := ⟨gb128, _, none⟩) NB127_128.out _).trans (hHeld.2.2.2.1)))))), ((qk (p := ⟨gb128, _, none⟩) NB127_128.out _).trans (((qk (p := ⟨gb128, _, none⟩) NB127_128.out _).trans (((qk (p := ⟨gb128, _, none⟩) NB127_128.out _).trans (hHeld.2.2.2.2.1)))))), ((qk (p := ⟨gb128, _, none⟩) NB127_128.out _).trans (((qk (p := ⟨gb128, _, none⟩) NB127_128.out _).trans (((qk (p := ⟨gb128, _, none⟩) NB127_128.out _).trans (hHeld.2.2.2.2.2.1)))))), ((qk (p := ⟨gb128, _, none⟩) NB127_128.out _).trans (((qk (p := ⟨gb128, _, none⟩) NB127_128.out _).trans (((qk (p := ⟨gb128, _, none⟩) NB127_128.out _).trans (hHeld.2.2.2.2.2.2.1)))))), ((qk (p := ⟨gb128, _, none⟩) NB127_128.out _).trans (((qk (p := ⟨gb128, _, none⟩) NB127_128.out _).trans (((qk (p := ⟨gb128, _, none⟩) NB127_128.out _).trans (hHeld.2.2.2.2.2.2.2.1)))))), ((qk (p := ⟨gb128, _, none⟩) NB127_128.out _).trans (((qk (p := ⟨gb128, _, none⟩) NB127_128.out _).trans (((qk (p := ⟨gb128, _, none⟩) NB127_128.out _).trans (hHeld.2.2.2.2.2.2.2.2.1)))))), ((qk (p := ⟨gb128, _, none⟩) NB127_128.out _).trans (((qk (p := ⟨gb128, _, none⟩) NB127_128.out _).trans (((qk (p := ⟨gb128, _, none⟩) NB127_128.out _).trans (hHeld.2.2.2.2.2.2.2.2.2.1)))))), ((qk (p := ⟨gb128, _, none⟩) NB127_128.out _).trans (((qk (p := ⟨gb128, _, none⟩) NB127_128.out _).trans (((qk (p := ⟨gb128, _, none⟩) NB127_128.out _).trans (hHeld.2.2.2.2.2.2.2.2.2.2))))))⟩ (fun hHeld => ?_)
  clear hK K
  refine pS (i := 8) (N := some 5) #[true, true, true, true, true, true, true, true, true] HT_ ?_
  refine done_ (qHB HT_.out (by kernel_rfl)) ?_
  try go_wp2
  refine bodyPost_ret (qfA rfl _ _ gb128 61 #[.int .i64 t129, .int .i64 t130, .slice Ao13 t131.length co13] (0, 0) _ rfl (by (with_reducible repeat (first | refine qL ?_ _ | refine qH ?_ | refine qK ?_ _)); exact bP3 BK128) Tryz.underlying61 rfl (by kernel_rfl)) rfl ?_
  exact ⟨_, sR, by (with_reducible repeat (first | apply Kd.qR | apply Kd.qU | apply Kd.qQ)); exact Kd.qY (Kd.R_far (p := ⟨gb128, 2, none⟩) (Kd.R_far (p := ⟨gb128, 1, none⟩) (Kd.R_far (p := ⟨gb128, 0, none⟩) (Kd.qlA HO133.out BK128.out (by decide)) (fun _ hk => hk.2) (.int .i64 t129)) (fun _ hk => hk.2) (.int .i64 t130)) (fun _ hk => hk.2) (.slice Ao13 t131.length co13)) (fun _ hk => trivial), bl⟩
 ·replace c4 := Bool.eq_false_iff.mpr c4
  subst c4
  replace H := iF H
  simp only [Option.some.injEq, Prod.mk.injEq] at H
  obtain ⟨rfl, rfl, rfl, rfl⟩ := H
  go_enter Tryz.func26, Tryz.ntmps26
  try go_wp2_with (first | ((with_reducible refine qN (N := 3) rfl ?_); refine bE (N := 3) (cs := #[.int .i64 a1_0, .int .i64 a1_1, .int .i64 a1_2, .int .i64 a1_3, .int .i64 a1_4, .int .i64 a1_5, .int .i64 a1_6, .int .i64 a1_7]) (t := 31) ?_; intro gb127 hg w20 hbox hb; have BK127 := aM (hbox); have GW127 := aM ((gg hg)); have GE127 := aM ((gg hg)); replace HB := aM (qB bl hb); clear hb hbox hg) | ((with_reducible refine qN (N := 4) rfl ?_); refine bE (N := 4) (cs := #[.int .i64 0, .int .i64 0, .slice none 0 0]) (t := 61) ?_; intro gb128 hg w21 hbox hb; have BK128 := aM (hbox); have GW128 := aM ((gg hg)); have GE128 := aM ((gg hg)); have NB127_128 := aM ((nl BK127 hg)); have NB128_127 := aM ((nr BK127 hg)); replace BK127 := aM (bb BK127 hb); replace HB := aM (qB bl hb); clear hb hbox hg) | ((with_reducible refine qF (f := 36) rfl ?_); refine qh (some 10) rfl rfl Tryz.func36 (by kernel_rfl) rfl #[.string a0] rfl gA ?_; (with_reducible refine (qP.calls k a0 t129 t130 t131 false _ A3.out).mono ?_); rintro e w22 ⟨v132, rfl, ho0, hb⟩; refine ⟨_, rfl, ?_⟩; have HO133 := aM (Kd.qHA ho0 (qT bl)); replace BK127 := aM (bb BK127 hb); replace BK128 := aM (bb BK128 hb); replace HB := aM (qB bl hb); (try clear hb); (try clear hb2); (try clear hk); (try clear hi); (try clear ho0)) | ((with_reducible refine qN (N := 6) rfl ?_); refine bE (N := 6) (cs := #[.int .i64 0, .int .i64 0, .slice none 0 0]) (t := 61) ?_; intro gb135 hg w23 hbox hb; have BK135 := aM (hbox); have GW135 := aM ((gg hg)); have GE135 := aM ((gg hg)); have NB127_135 := aM ((nl BK127 hg)); have NB135_127 := aM ((nr BK127 hg)); have NB128_135 := aM ((nl BK128 hg)); have NB135_128 := aM ((nr BK128 hg)); replace HO133 := aM (Kd.qj (rR HO133) hb); replace BK127 := aM (bb BK127 hb); replace BK128 := aM (bb BK128 hb); replace HB := aM (qB bl hb); clear hb hbox hg; have hnb24 := NB135_127.out; have hnc24 := NB127_135.out; have hnb25 := NB135_128.out; have hnc25 := NB128_135.out; (refine cb3 BK135 ?_; intro _ _ _); (refine cz3 BK135 ?_; intro _ _ _); obtain ⟨Ao27, co27, eo27⟩ := Kd.qi HO133.out; subst eo27))
  have n0_ : Aside0 (Kd.R (Kd.int .u8) 5 (((w23.setCell ⟨gb135, 0, none⟩ (.int .i64 t129)).setCell ⟨gb135, 1, none⟩ (.int .i64 t130)).setCell ⟨gb135, 2, none⟩ (.slice Ao27 t131.length co27)) w.heap.size (fun _ => True) (.slice Ao27 t131.length co27) t131) := ⟨by (with_reducible repeat (first | apply Kd.qR | apply Kd.qU | apply Kd.qQ)); exact Kd.qY (Kd.R_far (p := ⟨gb135, 2, none⟩) (Kd.R_far (p := ⟨gb135, 1, none⟩) (Kd.R_far (p := ⟨gb135, 0, none⟩) (Kd.qlA HO133.out BK135.out (by decide)) (fun _ hk => hk.2) (.int .i64 t129)) (fun _ hk => hk.2) (.int .i64 t130)) (fun _ hk => hk.2) (.slice Ao27 t131.length co27)) (fun _ hk => trivial)⟩
  have n1_ : Aside0 ((((w23.setCell ⟨gb135, 0, none⟩ (.int .i64 t129)).setCell ⟨gb135, 1, none⟩ (.int .i64 t130)).setCell ⟨gb135, 2, none⟩ (.slice Ao27 t131.length co27)).heap[gb127]? = some (.cells #[.int .i64 a1_0, .int .i64 a1_1, .int .i64 a1_2, .int .i64 a1_3, .int .i64 a1_4, .int .i64 a1_5, .int .i64 a1_6, .int .i64 a1_7] 31 (0, 0))) := ⟨bF BK127 NB127_135⟩
  have n2_ : Aside0 ((((w23.setCell ⟨gb135, 0, none⟩ (.int .i64 t129)).setCell ⟨gb135, 1, none⟩ (.int .i64 t130)).setCell ⟨gb135, 2, none⟩ (.slice Ao27 t131.length co27)).heap[gb128]? = some (.cells #[.int .i64 0, .int .i64 0, .slice none 0 0] 61 (0, 0))) := ⟨bF BK128 NB128_135⟩
  have n3_ : Aside0 ((((w23.setCell ⟨gb135, 0, none⟩ (.int .i64 t129)).setCell ⟨gb135, 1, none⟩ (.int .i64 t130)).setCell ⟨gb135, 2, none⟩ (.slice Ao27 t131.length co27)).heap[gb135]? = some (.cells #[.int .i64 t129, .int .i64 t130, .slice Ao27 t131.length co27] 61 (0, 0))) := ⟨by (with_reducible repeat (first | refine qL ?_ _ | refine qH ?_ | refine qK ?_ _)); exact bP3 BK135⟩
  have n4_ : Aside0 (Below w.heap.size w (((w23.setCell ⟨gb135, 0, none⟩ (.int .i64 t129)).setCell ⟨gb135, 1, none⟩ (.int .i64 t130)).setCell ⟨gb135, 2, none⟩ (.slice Ao27 t131.length co27))) := ⟨bl⟩
  (try clear HO133); (try clear BK127); (try clear BK128); (try clear BK135); (try clear HB)
  generalize (((w23.setCell ⟨gb135, 0, none⟩ (.int .i64 t129)).setCell ⟨gb135, 1, none⟩ (.int .i64 t130)).setCell ⟨gb135, 2, none⟩ (.slice Ao27 t131.length co27)) = w28 at n0_ n1_ n2_ n3_ n4_ ⊢
  have HO133 := n0_
  have BK127 := n1_
  have BK128 := n2_
  have BK135 := n3_
  have HB := n4_
  clear n0_ n1_ n2_ n3_ n4_
  replace HO133 := aM (Kd.qQ HO133.out)
  replace BK127 := aM (qH BK127.out)
  replace BK128 := aM (qH BK128.out)
  replace BK135 := aM (qH BK135.out)
  replace HB := aM (qm HB.out)
  refine qAB (n := 9) (S := fun w' => w'.cell? ⟨gb135, 0, none⟩ = some (.int .i64 t129) ∧ w'.cell? ⟨gb135, 1, none⟩ = some (.int .i64 t130) ∧ w'.cell? ⟨gb135, 2, none⟩ = some (.slice Ao27 t131.length co27)) (ds := []) #[false, false, false, false, false, false, false, false, false] (by kernel_rfl) rfl rfl ⟨bc BK135 0, bc BK135 1, bc BK135 2⟩ (fun hHeld => ?_); refine qMA qDA.tab2 qDA.bits2 (fun HT_ HW_ => ?_)
  generalize w28.drew = w29 at HO133 BK127 BK128 BK135 HB hHeld ⊢
  refine pS (i := 1) (N := some 14) #[false, true, false, false, false, false, false, false, false] HT_ ?_
  refine pS (i := 2) (N := some 15) #[false, true, true, false, false, false, false, false, false] HT_ ?_
  refine pure_ (i := 3) (N := some 16) (v := undef) (a' := ?_) #[false, true, true, true, false, false, false, false, false] rfl rfl (qvB HT_.out (by kernel_rfl)) (fun _ _ _ h => h) (Or.inr ⟨by rfl, rfl⟩) ?_ ?_
  rotate_left
  ·simp only [Act.put, List.setIfInBounds_toArray, List.set_cons_zero, List.set_cons_succ, i64_w, i32_w]
   rfl
  refine pure_ (i := 4) (N := some 17) (v := undef) (a' := ?_) #[false, true, true, true, true, false, false, false, false] rfl rfl (qvB HT_.out (by kernel_rfl)) (fun _ _ _ h => h) (Or.inr ⟨by rfl, rfl⟩) ?_ ?_
  rotate_left
  ·simp only [Act.put, List.setIfInBounds_toArray, List.set_cons_zero, List.set_cons_succ, i64_w, i32_w]
   rfl
  refine pure_ (i := 5) (N := some 18) (v := undef) (a' := ?_) #[false, true, true, true, true, true, false, false, false] rfl rfl (qvB HT_.out (by kernel_rfl)) (fun _ _ _ h => h) (Or.inr ⟨by rfl, rfl⟩) ?_ ?_
  rotate_left
  ·simp only [Act.put, List.setIfInBounds_toArray, List.set_cons_zero, List.set_cons_succ, i64_w, i32_w]
   rfl
  refine pS (i := 6) (N := some 19) #[false, true, true, true, true, true, true, false, false] HT_ ?_
  refine tS (i := 0) (N := some 13) #[true, true, true, true, true, true, true, false, false] HT_ HW_ hHeld ?_
  refine one_ (i := 7) (N := none) #[true, true, true, true, true, true, true, true, false] rfl rfl (qrA HT_.out (by kernel_rfl)) (by decide) (fun K hK => ?_)
  have hs30 : w29.cell? ⟨gb128, 0, none⟩ = some (.int .i64 0) := bc BK128 0
  have hfs30 := qJ BK128.out 0
  have hns30_0 := NB127_128.out
  have hns30_2 := NB135_128.out
  have hms30_0 := NB128_127.out
  have hms30_2 := NB128_135.out
  have hs31 : w29.cell? ⟨gb128, 1, none⟩ = some (.int .i64 0) := bc BK128 1
  have hfs31 := qJ BK128.out 1
  have hns31_0 := NB127_128.out
  have hns31_2 := NB135_128.out
  have hms31_0 := NB128_127.out
  have hms31_2 := NB128_135.out
  have hs32 : w29.cell? ⟨gb128, 2, none⟩ = some (.slice none 0 0) := bc BK128 2
  have hfs32 := qJ BK128.out 2
  have hns32_0 := NB127_128.out
  have hns32_2 := NB135_128.out
  have hms32_0 := NB128_127.out
  have hms32_2 := NB128_135.out
  refine skip_ (w1 := ?_) (by rfl) rfl ?_ ?_
  rotate_left
  ·go_simp
   rfl
  refine hK.out _ _ ⟨((qk (p := ⟨gb128, _, none⟩) NB135_128.out _).trans (((qk (p := ⟨gb128, _, none⟩) NB135_128.out _).trans (((qk (p := ⟨gb128, _, none⟩) NB135_128.out _).trans (hHeld.1)))))), ((qk (p := ⟨gb128, _, none⟩) NB135_128.out _).trans (((qk (p := ⟨gb128, _, none⟩) NB135_128.out _).trans (((qk (p := ⟨gb128, _, none⟩) NB135_128.out _).trans (hHeld.2.1)))))), ((qk (p := ⟨gb128, _, none⟩) NB135_128.out _).trans (((qk (p := ⟨gb128, _, none⟩) NB135_128.out _).trans (((qk (p := ⟨gb128, _, none⟩) NB135_128.out _).trans (hHeld.2.2))))))⟩ (fun hHeld => ?_)
  clear hK K
  refine pS (i := 8) (N := some 5) #[true, true, true, true, true, true, true, true, true] HT_ ?_
  refine done_ (qHB HT_.out (by kernel_rfl)) ?_
  try go_wp2
  refine bodyPost_ret (qfA rfl _ _ gb128 61 #[.int .i64 t129, .int .i64 t130, .slice Ao27 t131.length co27] (0, 0) _ rfl (by (with_reducible repeat (first | refine qL ?_ _ | refine qH ?_ | refine qK ?_ _)); exact bP3 BK128) Tryz.underlying61 rfl (by kernel_rfl)) rfl ?_
  exact ⟨_, sR, by (with_reducible repeat (first | apply Kd.qR | apply Kd.qU | apply Kd.qQ)); exact Kd.qY (Kd.R_far (p := ⟨gb128, 2, none⟩) (Kd.R_far (p := ⟨gb128, 1, none⟩) (Kd.R_far (p := ⟨gb128, 0, none⟩) (Kd.qlA HO133.out BK128.out (by decide)) (fun _ hk => hk.2) (.int .i64 t129)) (fun _ hk => hk.2) (.int .i64 t130)) (fun _ hk => hk.2) (.slice Ao27 t131.length co27)) (fun _ hk => trivial), bl⟩
def qv.l0 : Nat → Int → List Int → Int → Int → Option (Int)
 | 0, _, _, _, _ => none
 | k + 1, x5, x18, x19, x20 => if x20 < x19 then (if 0 ≤ x20 then (if x20 < (x18.length : Int) then (qv.l0 k (wrap64 ((wrap64 (10 * x5)) + (rd x18 x20))) x18 x19 (wrap64 (x20 + 1))) else (none)) else (none)) else (some x5)
def qv.f (k : Nat) (a0_0 : Int) (a0_1 : Int) (l0_2 : List Int) (a1_0 : Int) (a1_1 : Int) (a1_2 : Int) (a1_3 : Int) (a1_4 : Int) (a1_5 : Int) (a1_6 : Int) (a1_7 : Int) : Option (Int) := (qIA.f a1_2 a1_3 a1_4 a1_5 a1_6 a1_7).bind fun t139 => (qv.l0 k (wrap64 ((wrap64 (a1_1 * a0_0)) + a1_0)) t139 (t139.length : Int) 0)
set_option maxHeartbeats 8000000 in
set_option maxRecDepth 100000 in
theorem qv.calls (k : Nat) (a0_0 : Int) (a0_1 : Int) (A0_2 : Option Addr) (c0_2 : Nat) (l0_2 : List Int) (a1_0 : Int) (a1_1 : Int) (a1_2 : Int) (a1_3 : Int) (a1_4 : Int) (a1_5 : Int) (a1_6 : Int) (a1_7 : Int) (r : Int) (w : World) (hr0_2 : Kd.C (Kd.int .u8) w A0_2 l0_2.length l0_2) (hc0_2 : l0_2.length ≤ c0_2) (h : qv.f k a0_0 a0_1 l0_2 a1_0 a1_1 a1_2 a1_3 a1_4 a1_5 a1_6 a1_7 = some r) :
  Calls Tryz.prog 39 #[.agg #[.int .i64 a0_0, .int .i64 a0_1, .slice A0_2 l0_2.length c0_2], .agg #[.int .i64 a1_0, .int .i64 a1_1, .int .i64 a1_2, .int .i64 a1_3, .int .i64 a1_4, .int .i64 a1_5, .int .i64 a1_6, .int .i64 a1_7]] w fun e w' => e = .returned (.int .i64 r) ∧ Below w.heap.size w w' := by
 have hu61 := Tryz.underlying61
 have hu31 := Tryz.underlying31
 have hu29 := Tryz.underlying29
 have HR0_2 := aM hr0_2
 have HC0_2 := aM hc0_2
 clear hr0_2 hc0_2
 have HB := aM (Below.refl w.heap.size w)
 have H : ((qIA.f a1_2 a1_3 a1_4 a1_5 a1_6 a1_7).bind fun t139 => (qv.l0 k (wrap64 ((wrap64 (a1_1 * a0_0)) + a1_0)) t139 (t139.length : Int) 0)) = some r := h
 clear h
 replace H := bO H
 obtain ⟨t139, A3, H⟩ := H
 have H' := aM H
 clear H
 go_enter Tryz.func39, Tryz.ntmps39
 go_wp2_with (first | ((with_reducible refine qN (N := 2) rfl ?_); refine bE (N := 2) (cs := #[.int .i64 a0_0, .int .i64 a0_1, .slice A0_2 l0_2.length c0_2]) (t := 61) ?_; intro gb137 hg w4 hbox hb; have BK137 := aM (hbox); have GW137 := aM ((gg hg)); have GE137 := aM ((gg hg)); replace HB := aM (qB bl hb); clear hb hbox hg) | ((with_reducible refine qN (N := 3) rfl ?_); refine bE (N := 3) (cs := #[.int .i64 a1_0, .int .i64 a1_1, .int .i64 a1_2, .int .i64 a1_3, .int .i64 a1_4, .int .i64 a1_5, .int .i64 a1_6, .int .i64 a1_7]) (t := 31) ?_; intro gb138 hg w5 hbox hb; have BK138 := aM (hbox); have GW138 := aM ((gg hg)); have GE138 := aM ((gg hg)); have NB137_138 := aM ((nl BK137 hg)); have NB138_137 := aM ((nr BK137 hg)); replace BK137 := aM (bb BK137 hb); replace HB := aM (qB bl hb); clear hb hbox hg; have hnb6 := NB138_137.out; have hnc6 := NB137_138.out; (refine cb8 BK138 ?_; intro hcz7_0 hcz7_1 hcz7_2 hcz7_3 hcz7_4 hcz7_5 hcz7_6 hcz7_7); (refine cz8 BK138 ?_; intro hfz7_0 hfz7_1 hfz7_2 hfz7_3 hfz7_4 hfz7_5 hfz7_6 hfz7_7); (refine cb3 BK137 ?_; intro hcz8_0 hcz8_1 hcz8_2); (refine cz3 BK137 ?_; intro hfz8_0 hfz8_1 hfz8_2)) | ((with_reducible refine qF (f := 42) rfl ?_); refine qh (some 18) rfl rfl Tryz.func42 (by kernel_rfl) rfl #[.agg #[.int .i64 a1_2, .int .i64 a1_3, .int .i64 a1_4, .int .i64 a1_5, .int .i64 a1_6, .int .i64 a1_7]] rfl gA ?_; (with_reducible refine (qIA.calls a1_2 a1_3 a1_4 a1_5 a1_6 a1_7 t139 _ A3.out).mono ?_); rintro e w9 ⟨v140, rfl, ho0, hb⟩; refine ⟨_, rfl, ?_⟩; have HO141 := aM (Kd.qHA ho0 (qT bl)); replace BK137 := aM (bb BK137 hb); replace BK138 := aM (bb BK138 hb); replace HB := aM (qB bl hb); (try clear hb); (try clear hb2); (try clear hk); (try clear hi); (try clear ho0); obtain ⟨Ao10, co10, eo10⟩ := Kd.qi HO141.out; subst eo10))
 go_loopg [5, 20] k (fun kq v5 v20 w' => ∃ (x5_1 : Int) (x20_1 : Int), v5 = .int .i64 x5_1 ∧ v20 = .int .i64 x20_1 ∧ Aside0 (qv.l0 kq x5_1 t139 (t139.length : Int) x20_1 = some r) ∧ Aside0 (kq ≤ k) ∧ Aside0 (Kd.R (Kd.int .i64) 3 w' w.heap.size (fun _ => True) (.slice Ao10 t139.length co10) t139) ∧ Aside0 (w'.heap[gb137]? = some (.cells #[.int .i64 a0_0, .int .i64 a0_1, (.slice A0_2 l0_2.length c0_2)] 61 (0, 0))) ∧ Aside0 (w'.heap[gb138]? = some (.cells #[.int .i64 a1_0, .int .i64 a1_1, .int .i64 a1_2, .int .i64 a1_3, .int .i64 a1_4, .int .i64 a1_5, .int .i64 a1_6, .int .i64 a1_7] 31 (0, 0))) ∧ Aside0 (Below w.heap.size w w'))
 case atStart => exact ⟨(wrap64 ((wrap64 (a1_1 * a0_0)) + a1_0)), (0), sD, sD, H', ⟨Nat.le_refl _⟩, ⟨rR HO141⟩, ⟨rB BK137⟩, ⟨rB BK138⟩, ⟨bl⟩⟩
 case round =>
  clear H'; (try clear p2); (try clear c3); (try clear c4); (try clear c6); (try clear p6); (try clear hcz7_0 hcz7_1 hcz7_2 hcz7_3 hcz7_4 hcz7_5 hcz7_6 hcz7_7); (try clear hcz8_0 hcz8_1 hcz8_2); (try clear hfz7_0 hfz7_1 hfz7_2 hfz7_3 hfz7_4 hfz7_5 hfz7_6 hfz7_7); (try clear hfz8_0 hfz8_1 hfz8_2)
  obtain ⟨x5_1, x20_1, rfl, rfl, HA, HK1, HO_18, BK137, BK138, HB⟩ := hrel
  cases gk with
  | zero => exact absurd HA.out (by simp [qv.l0])
  | succ k1 =>
   have H := HA.out
   clear HA
   simp only [qv.l0] at H
   by_cases c11 : x20_1 < (t139.length : Int)
   ·rw [if_pos c11] at H
    have c11b0 := decide_eq_true c11
    clear c11
    by_cases c12 : 0 ≤ x20_1
    case neg => exact nN c12 H
    rw [if_pos c12] at H
    have c12b0 := decide_eq_true c12
    clear c12
    by_cases c13 : x20_1 < (t139.length : Int)
    case neg => exact nN c13 H
    rw [if_pos c13] at H
    have c13b0 := decide_eq_true c13
    clear c13
    have H' := aM H
    clear H
    have p142 : 0 ≤ (x20_1 : Int) := of_decide_eq_true am
    have q142 : x20_1 < (t139.length : Int) := of_decide_eq_true am
    obtain ⟨ad142, e142, hx142_0⟩ := Kd.qjA (Kd.qE HO_18.out).2.2 x20_1 p142 q142
    cases e142
    replace p142 := eq_true p142
    replace q142 := eq_true q142
    go_wp2
    go_roundg k1
    case measure => have := HK1.out; omega
    case rel => exact ⟨(wrap64 ((wrap64 (10 * x5_1)) + (rd t139 x20_1))), (wrap64 (x20_1 + 1)), sD, sD, H', ⟨by have := HK1.out; omega⟩, ⟨rR HO_18⟩, ⟨rB BK137⟩, ⟨rB BK138⟩, ⟨bl⟩⟩
   ·rw [if_neg c11] at H
    have c11b0 := decide_eq_false c11
    clear c11
    obtain rfl := Option.some.inj H
    go_wp2
    go_ret
    exact ⟨sR, bl⟩
def qEB.f (a0 : Int) (a1 : Int) (a2 : Int) : Option (Int × Int) := if a2 = 0 then (some (a0, wrap64 (a1 - 1))) else (if a2 = 1 then (some (wrap64 (a0 + 1), a1)) else (if a2 = 2 then (some (a0, wrap64 (a1 + 1))) else (some (wrap64 (a0 - 1), a1))))
set_option maxHeartbeats 8000000 in
set_option maxRecDepth 100000 in
theorem qEB.calls (a0 : Int) (a1 : Int) (a2 : Int) (r1 : Int) (r2 : Int) (w : World) (h : qEB.f a0 a1 a2 = some (r1, r2)) :
  Calls Tryz.prog 54 #[.int .i64 a0, .int .i64 a1, .int .i64 a2] w fun e w' => e = .returned (.tuple #[.int .i64 r1, .int .i64 r2]) ∧ Drawn0 w w' := by
 have H : (if a2 = 0 then (some (a0, wrap64 (a1 - 1))) else (if a2 = 1 then (some (wrap64 (a0 + 1), a1)) else (if a2 = 2 then (some (a0, wrap64 (a1 + 1))) else (some (wrap64 (a0 - 1), a1))))) = some (r1, r2) := h
 clear h
 by_cases c4 : a2 = 0
 ·rw [if_pos c4] at H
  have c4b0 := beq_iff_eq.mpr c4
  have c4b1 := bne_eq_false_iff_eq.mpr c4
  clear c4
  simp only [Option.some.injEq, Prod.mk.injEq] at H
  obtain ⟨rfl, rfl⟩ := H
  go_enter Tryz.func54, Tryz.ntmps54
  go_wp2
  go_ret2
  exact ⟨by first | rfl | (simp; done) | (simp [*]; done), dR⟩
 ·rw [if_neg c4] at H
  have c4b0 := beq_eq_false_iff_ne.mpr c4
  have c4b1 := bne_iff_ne.mpr c4
  by_cases c5 : a2 = 1
  ·rw [if_pos c5] at H
   have c5b0 := beq_iff_eq.mpr c5
   have c5b1 := bne_eq_false_iff_eq.mpr c5
   clear c5
   simp only [Option.some.injEq, Prod.mk.injEq] at H
   obtain ⟨rfl, rfl⟩ := H
   go_enter Tryz.func54, Tryz.ntmps54
   go_wp2
   go_ret2
   exact ⟨by first | rfl | (simp; done) | (simp [*]; done), dR⟩
  ·rw [if_neg c5] at H
   have c5b0 := beq_eq_false_iff_ne.mpr c5
   have c5b1 := bne_iff_ne.mpr c5
   by_cases c6 : a2 = 2
   ·rw [if_pos c6] at H
    have c6b0 := beq_iff_eq.mpr c6
    have c6b1 := bne_eq_false_iff_eq.mpr c6
    clear c6
    simp only [Option.some.injEq, Prod.mk.injEq] at H
    obtain ⟨rfl, rfl⟩ := H
    go_enter Tryz.func54, Tryz.ntmps54
    go_wp2
    go_ret2
    exact ⟨by first | rfl | (simp; done) | (simp [*]; done), dR⟩
   ·rw [if_neg c6] at H
    have c6b0 := beq_eq_false_iff_ne.mpr c6
    have c6b1 := bne_iff_ne.mpr c6
    simp only [Option.some.injEq, Prod.mk.injEq] at H
    obtain ⟨rfl, rfl⟩ := H
    go_enter Tryz.func54, Tryz.ntmps54
    go_wp2
    go_ret2
    exact ⟨by first | rfl | (simp; done) | (simp [*]; done), dR⟩
def qQB.f (a0_0 : Int) (a0_1 : Int) (a0_2 : Int) (a0_3 : Int) (a0_4 : Int) (a0_5 : Int) (a1 : Int) : Option (Int × Int × Int × Int × Int × Int) := if a1 = 0 then (some (a0_3, a0_0, a0_2, a0_5, a0_4, a0_1)) else (if a1 = 1 then (some (a0_4, a0_1, a0_0, a0_3, a0_5, a0_2)) else (if a1 = 2 then (some (a0_1, a0_5, a0_2, a0_0, a0_4, a0_3)) else (some (a0_2, a0_1, a0_5, a0_3, a0_0, a0_4))))
set_option maxHeartbeats 8000000 in
set_option maxRecDepth 100000 in
theorem qQB.calls (a0_0 : Int) (a0_1 : Int) (a0_2 : Int) (a0_3 : Int) (a0_4 : Int) (a0_5 : Int) (a1 : Int) (r1 : Int) (r2 : Int) (r3 : Int) (r4 : Int) (r5 : Int) (r6 : Int) (w : World) (h : qQB.f a0_0 a0_1 a0_2 a0_3 a0_4 a0_5 a1 = some (r1, r2, r3, r4, r5, r6)) :
  Calls Tryz.prog 55 #[.agg #[.int .i64 a0_0, .int .i64 a0_1, .int .i64 a0_2, .int .i64 a0_3, .int .i64 a0_4, .int .i64 a0_5], .int .i64 a1] w fun e w' => e = .returned (.agg #[.int .i64 r1, .int .i64 r2, .int .i64 r3, .int .i64 r4, .int .i64 r5, .int .i64 r6]) ∧ Below w.heap.size w w' := by
 have hu29 := Tryz.underlying29
 have HB := aM (Below.refl w.heap.size w)
 have H : (if a1 = 0 then (some (a0_3, a0_0, a0_2, a0_5, a0_4, a0_1)) else (if a1 = 1 then (some (a0_4, a0_1, a0_0, a0_3, a0_5, a0_2)) else (if a1 = 2 then (some (a0_1, a0_5, a0_2, a0_0, a0_4, a0_3)) else (some (a0_2, a0_1, a0_5, a0_3, a0_0, a0_4))))) = some (r1, r2, r3, r4, r5, r6) := h
 clear h
 by_cases c3 : a1 = 0
 ·rw [if_pos c3] at H
  have c3b0 := beq_iff_eq.mpr c3
  have c3b1 := bne_eq_false_iff_eq.mpr c3
  clear c3
  simp only [Option.some.injEq, Prod.mk.injEq] at H
  obtain ⟨rfl, rfl, rfl, rfl, rfl, rfl⟩ := H
  go_enter Tryz.func55, Tryz.ntmps55
  go_wp2_with (first | ((with_reducible refine qN (N := 2) rfl ?_); refine bE (N := 2) (cs := #[.int .i64 a0_0, .int .i64 a0_1, .int .i64 a0_2, .int .i64 a0_3, .int .i64 a0_4, .int .i64 a0_5]) (t := 29) ?_; intro gb143 hg w4 hbox hb; have BK143 := aM (hbox); have GW143 := aM ((gg hg)); have GE143 := aM ((gg hg)); replace HB := aM (qB bl hb); clear hb hbox hg) | ((with_reducible refine qN (N := 4) rfl ?_); refine bE (N := 4) (cs := #[.int .i64 0, .int .i64 0, .int .i64 0, .int .i64 0, .int .i64 0, .int .i64 0]) (t := 29) ?_; intro gb144 hg w5 hbox hb; have BK144 := aM (hbox); have GW144 := aM ((gg hg)); have GE144 := aM ((gg hg)); have NB143_144 := aM ((nl BK143 hg)); have NB144_143 := aM ((nr BK143 hg)); replace BK143 := aM (bb BK143 hb); replace HB := aM (qB bl hb); clear hb hbox hg; have hnb6 := NB143_144.out; have hnc6 := NB144_143.out; (refine cb6 BK143 ?_; intro _ _ _ _ _ _); (refine cz6 BK143 ?_; intro _ _ _ _ _ _); (refine cb6 BK144 ?_; intro _ _ _ _ _ _); (refine cz6 BK144 ?_; intro _ _ _ _ _ _)))
  refine bodyPost_ret (results_cell_row rfl _ _ gb144 29 #[.int .i64 a0_3, .int .i64 a0_0, .int .i64 a0_2, .int .i64 a0_5, .int .i64 a0_4, .int .i64 a0_1] (0, 0) _ rfl (by (with_reducible repeat (first | refine qL ?_ _ | refine qH ?_ | refine qK ?_ _)); exact bP6 BK144) Tryz.underlying29 rfl (by kernel_rfl)) rfl ?_
  exact ⟨sR, bl⟩
 ·rw [if_neg c3] at H
  have c3b0 := beq_eq_false_iff_ne.mpr c3
  have c3b1 := bne_iff_ne.mpr c3
  by_cases c9 : a1 = 1
  ·rw [if_pos c9] at H
   have c9b0 := beq_iff_eq.mpr c9
   have c9b1 := bne_eq_false_iff_eq.mpr c9
   clear c9
   simp only [Option.some.injEq, Prod.mk.injEq] at H
   obtain ⟨rfl, rfl, rfl, rfl, rfl, rfl⟩ := H
   go_enter Tryz.func55, Tryz.ntmps55
   go_wp2_with (first | ((with_reducible refine qN (N := 2) rfl ?_); refine bE (N := 2) (cs := #[.int .i64 a0_0, .int .i64 a0_1, .int .i64 a0_2, .int .i64 a0_3, .int .i64 a0_4, .int .i64 a0_5]) (t := 29) ?_; intro gb143 hg w10 hbox hb; have BK143 := aM (hbox); have GW143 := aM ((gg hg)); have GE143 := aM ((gg hg)); replace HB := aM (qB bl hb); clear hb hbox hg) | ((with_reducible refine qN (N := 4) rfl ?_); refine bE (N := 4) (cs := #[.int .i64 0, .int .i64 0, .int .i64 0, .int .i64 0, .int .i64 0, .int .i64 0]) (t := 29) ?_; intro gb144 hg w11 hbox hb; have BK144 := aM (hbox); have GW144 := aM ((gg hg)); have GE144 := aM ((gg hg)); have NB143_144 := aM ((nl BK143 hg)); have NB144_143 := aM ((nr BK143 hg)); replace BK143 := aM (bb BK143 hb); replace HB := aM (qB bl hb); clear hb hbox hg; have hnb12 := NB143_144.out; have hnc12 := NB144_143.out; (refine cb6 BK143 ?_; intro _ _ _ _ _ _); (refine cz6 BK143 ?_; intro _ _ _ _ _ _); (refine cb6 BK144 ?_; intro _ _ _ _ _ _); (refine cz6 BK144 ?_; intro _ _ _ _ _ _)))
   refine bodyPost_ret (results_cell_row rfl _ _ gb144 29 #[.int .i64 a0_4, .int .i64 a0_1, .int .i64 a0_0, .int .i64 a0_3, .int .i64 a0_5, .int .i64 a0_2] (0, 0) _ rfl (by (with_reducible repeat (first | refine qL ?_ _ | refine qH ?_ | refine qK ?_ _)); exact bP6 BK144) Tryz.underlying29 rfl (by kernel_rfl)) rfl ?_
   exact ⟨sR, bl⟩
  ·rw [if_neg c9] at H
   have c9b0 := beq_eq_false_iff_ne.mpr c9
   have c9b1 := bne_iff_ne.mpr c9
   by_cases c15 : a1 = 2
   ·rw [if_pos c15] at H
    have c15b0 := beq_iff_eq.mpr c15
    have c15b1 := bne_eq_false_iff_eq.mpr c15
    clear c15
    simp only [Option.some.injEq, Prod.mk.injEq] at H
    obtain ⟨rfl, rfl, rfl, rfl, rfl, rfl⟩ := H
    go_enter Tryz.func55, Tryz.ntmps55
    go_wp2_with (first | ((with_reducible refine qN (N := 2) rfl ?_); refine bE (N := 2) (cs := #[.int .i64 a0_0, .int .i64 a0_1, .int .i64 a0_2, .int .i64 a0_3, .int .i64 a0_4, .int .i64 a0_5]) (t := 29) ?_; intro gb143 hg w16 hbox hb; have BK143 := aM (hbox); have GW143 := aM ((gg hg)); have GE143 := aM ((gg hg)); replace HB := aM (qB bl hb); clear hb hbox hg) | ((with_reducible refine qN (N := 4) rfl ?_); refine bE (N := 4) (cs := #[.int .i64 0, .int .i64 0, .int .i64 0, .int .i64 0, .int .i64 0, .int .i64 0]) (t := 29) ?_; intro gb144 hg w17 hbox hb; have BK144 := aM (hbox); have GW144 := aM ((gg hg)); have GE144 := aM ((gg hg)); have NB143_144 := aM ((nl BK143 hg)); have NB144_143 := aM ((nr BK143 hg)); replace BK143 := aM (bb BK143 hb); replace HB := aM (qB bl hb); clear hb hbox hg; have hnb18 := NB143_144.out; have hnc18 := NB144_143.out; (refine cb6 BK143 ?_; intro _ _ _ _ _ _); (refine cz6 BK143 ?_; intro _ _ _ _ _ _); (refine cb6 BK144 ?_; intro _ _ _ _ _ _); (refine cz6 BK144 ?_; intro _ _ _ _ _ _)))
    refine bodyPost_ret (results_cell_row rfl _ _ gb144 29 #[.int .i64 a0_1, .int .i64 a0_5, .int .i64 a0_2, .int .i64 a0_0, .int .i64 a0_4, .int .i64 a0_3] (0, 0) _ rfl (by (with_reducible repeat (first | refine qL ?_ _ | refine qH ?_ | refine qK ?_ _)); exact bP6 BK144) Tryz.underlying29 rfl (by kernel_rfl)) rfl ?_
    exact ⟨sR, bl⟩
   ·rw [if_neg c15] at H
    have c15b0 := beq_eq_false_iff_ne.mpr c15
    have c15b1 := bne_iff_ne.mpr c15
    simp only [Option.some.injEq, Prod.mk.injEq] at H
    obtain ⟨rfl, rfl, rfl, rfl, rfl, rfl⟩ := H
    go_enter Tryz.func55, Tryz.ntmps55
    go_wp2_with (first | ((with_reducible refine qN (N := 2) rfl ?_); refine bE (N := 2) (cs := #[.int .i64 a0_0, .int .i64 a0_1, .int .i64 a0_2, .int .i64 a0_3, .int .i64 a0_4, .int .i64 a0_5]) (t := 29) ?_; intro gb143 hg w21 hbox hb; have BK143 := aM (hbox); have GW143 := aM ((gg hg)); have GE143 := aM ((gg hg)); replace HB := aM (qB bl hb); clear hb hbox hg) | ((with_reducible refine qN (N := 4) rfl ?_); refine bE (N := 4) (cs := #[.int .i64 0, .int .i64 0, .int .i64 0, .int .i64 0, .int .i64 0, .int .i64 0]) (t := 29) ?_; intro gb144 hg w22 hbox hb; have BK144 := aM (hbox); have GW144 := aM ((gg hg)); have GE144 := aM ((gg hg)); have NB143_144 := aM ((nl BK143 hg)); have NB144_143 := aM ((nr BK143 hg)); replace BK143 := aM (bb BK143 hb); replace HB := aM (qB bl hb); clear hb hbox hg; have hnb23 := NB143_144.out; have hnc23 := NB144_143.out; (refine cb6 BK143 ?_; intro _ _ _ _ _ _); (refine cz6 BK143 ?_; intro _ _ _ _ _ _); (refine cb6 BK144 ?_; intro _ _ _ _ _ _); (refine cz6 BK144 ?_; intro _ _ _ _ _ _)))
    refine bodyPost_ret (results_cell_row rfl _ _ gb144 29 #[.int .i64 a0_2, .int .i64 a0_1, .int .i64 a0_5, .int .i64 a0_3, .int .i64 a0_0, .int .i64 a0_4] (0, 0) _ rfl (by (with_reducible repeat (first | refine qL ?_ _ | refine qH ?_ | refine qK ?_ _)); exact bP6 BK144) Tryz.underlying29 rfl (by kernel_rfl)) rfl ?_
    exact ⟨sR, bl⟩
def qpA.f (a0_0 : Int) (a0_1 : Int) (l0_2 : List Int) (a1_0 : Int) (a1_1 : Int) (a1_2 : Int) (a1_3 : Int) (a1_4 : Int) (a1_5 : Int) (a1_6 : Int) (a1_7 : Int) (a2 : Int) : Option (Int × Int × Int × Int × Int × Int × Int × Int × Bool) := (qEB.f a1_0 a1_1 a2).bind fun bt148 => ((qUA.f a0_0 a0_1 l0_2 bt148.1 bt148.2).bind fun t150 => (if t150 = true then ((qQB.f a1_2 a1_3 a1_4 a1_5 a1_6 a1_7 a2).bind fun bt151 => (some (bt148.1, bt148.2, bt151.1, bt151.2.1, bt151.2.2.1, bt151.2.2.2.1, bt151.2.2.2.2.1, bt151.2.2.2.2.2, true))) else (some (0, 0, 0, 0, 0, 0, 0, 0, false))))
set_option maxHeartbeats 8000000 in
set_option maxRecDepth 100000 in
theorem qpA.calls (a0_0 : Int) (a0_1 : Int) (A0_2 : Option Addr) (c0_2 : Nat) (l0_2 : List Int) (a1_0 : Int) (a1_1 : Int) (a1_2 : Int) (a1_3 : Int) (a1_4 : Int) (a1_5 : Int) (a1_6 : Int) (a1_7 : Int) (a2 : Int) (r1 : Int) (r2 : Int) (r3 : Int) (r4 : Int) (r5 : Int) (r6 : Int) (r7 : Int) (r8 : Int) (r9 : Bool) (w : World) (hr0_2 : Kd.C (Kd.int .u8) w A0_2 l0_2.length l0_2) (hc0_2 : l0_2.length ≤ c0_2) (h : qpA.f a0_0 a0_1 l0_2 a1_0 a1_1 a1_2 a1_3 a1_4 a1_5 a1_6 a1_7 a2 = some (r1, r2, r3, r4, r5, r6, r7, r8, r9)) :
  Calls Tryz.prog 40 #[.agg #[.int .i64 a0_0, .int .i64 a0_1, .slice A0_2 l0_2.length c0_2], .agg #[.int .i64 a1_0, .int .i64 a1_1, .int .i64 a1_2, .int .i64 a1_3, .int .i64 a1_4, .int .i64 a1_5, .int .i64 a1_6, .int .i64 a1_7], .int .i64 a2] w fun e w' => e = .returned (.tuple #[.agg #[.int .i64 r1, .int .i64 r2, .int .i64 r3, .int .i64 r4, .int .i64 r5, .int .i64 r6, .int .i64 r7, .int .i64 r8], .bool r9]) ∧ Below w.heap.size w w' := by
 have hu61 := Tryz.underlying61
 have hu31 := Tryz.underlying31
 have hu29 := Tryz.underlying29
 have HR0_2 := aM hr0_2
 have HC0_2 := aM hc0_2
 clear hr0_2 hc0_2
 have HB := aM (Below.refl w.heap.size w)
 have H : ((qEB.f a1_0 a1_1 a2).bind fun bt148 => ((qUA.f a0_0 a0_1 l0_2 bt148.1 bt148.2).bind fun t150 => (if t150 = true then ((qQB.f a1_2 a1_3 a1_4 a1_5 a1_6 a1_7 a2).bind fun bt151 => (some (bt148.1, bt148.2, bt151.1, bt151.2.1, bt151.2.2.1, bt151.2.2.2.1, bt151.2.2.2.2.1, bt151.2.2.2.2.2, true))) else (some (0, 0, 0, 0, 0, 0, 0, 0, false))))) = some (r1, r2, r3, r4, r5, r6, r7, r8, r9) := h
 clear h
 replace H := bO H
 obtain ⟨⟨t148, t149⟩, A4, H⟩ := H
 dsimp only at H A4
 replace H := bO H
 obtain ⟨t150, A5, H⟩ := H
 by_cases c6 : t150 = true
 ·subst c6
  replace H := iT H
  replace H := bO H
  obtain ⟨⟨t151, t152, t153, t154, t155, t156⟩, A7, H⟩ := H
  dsimp only at H A7
  simp only [Option.some.injEq, Prod.mk.injEq] at H
  obtain ⟨rfl, rfl, rfl, rfl, rfl, rfl, rfl, rfl, rfl⟩ := H
  go_enter Tryz.func40, Tryz.ntmps40
  go_wp2_with (first | ((with_reducible refine qN (N := 3) rfl ?_); refine bE (N := 3) (cs := #[.int .i64 a0_0, .int .i64 a0_1, .slice A0_2 l0_2.length c0_2]) (t := 61) ?_; intro gb145 hg w8 hbox hb; have BK145 := aM (hbox); have GW145 := aM ((gg hg)); have GE145 := aM ((gg hg)); replace HB := aM (qB bl hb); clear hb hbox hg) | ((with_reducible refine qN (N := 4) rfl ?_); refine bE (N := 4) (cs := #[.int .i64 a1_0, .int .i64 a1_1, .int .i64 a1_2, .int .i64 a1_3, .int .i64 a1_4, .int .i64 a1_5, .int .i64 a1_6, .int .i64 a1_7]) (t := 31) ?_; intro gb146 hg w9 hbox hb; have BK146 := aM (hbox); have GW146 := aM ((gg hg)); have GE146 := aM ((gg hg)); have NB145_146 := aM ((nl BK145 hg)); have NB146_145 := aM ((nr BK145 hg)); replace BK145 := aM (bb BK145 hb); replace HB := aM (qB bl hb); clear hb hbox hg) | ((with_reducible refine qN (N := 6) rfl ?_); refine bE (N := 6) (cs := #[.int .i64 0, .int .i64 0, .int .i64 0, .int .i64 0, .int .i64 0, .int .i64 0, .int .i64 0, .int .i64 0]) (t := 31) ?_; intro gb147 hg w10 hbox hb; have BK147 := aM (hbox); have GW147 := aM ((gg hg)); have GE147 := aM ((gg hg)); have NB145_147 := aM ((nl BK145 hg)); have NB147_145 := aM ((nr BK145 hg)); have NB146_147 := aM ((nl BK146 hg)); have NB147_146 := aM ((nr BK146 hg)); replace BK145 := aM (bb BK145 hb); replace BK146 := aM (bb BK146 hb); replace HB := aM (qB bl hb); clear hb hbox hg; have hnb11 := NB146_145.out; have hnc11 := NB145_146.out; have hnb12 := NB146_147.out; have hnc12 := NB147_146.out; (refine cb8 BK146 ?_; intro _ _ _ _ _ _ _ _); (refine cz8 BK146 ?_; intro _ _ _ _ _ _ _ _)) | ((with_reducible refine qF (f := 54) rfl ?_); refine qh (some 16) rfl rfl Tryz.func54 (by kernel_rfl) rfl #[.int .i64 a1_0, .int .i64 a1_1, .int .i64 a2] rfl gA ?_; (with_reducible refine (qEB.calls a1_0 a1_1 a2 t148 t149 _ A4.out).mono ?_); rintro e w' ⟨rfl, ⟨nd, rfl⟩⟩; refine ⟨_, rfl, ?_⟩; (try (rw [qFC w10]; generalize hq_ : World.drewN w10 _ = w10; have n0_ : Aside0 (w10.heap[gb145]? = some (.cells #[.int .i64 a0_0, .int .i64 a0_1, .slice A0_2 l0_2.length c0_2] 61 (0, 0))) := ⟨by rw [← hq_]; exact (rB BK145)⟩; have n1_ : Aside0 (w10.heap[gb146]? = some (.cells #[.int .i64 a1_0, .int .i64 a1_1, .int .i64 a1_2, .int .i64 a1_3, .int .i64 a1_4, .int .i64 a1_5, .int .i64 a1_6, .int .i64 a1_7] 31 (0, 0))) := ⟨by rw [← hq_]; exact (rB BK146)⟩; have n2_ : Aside0 (w10.heap[gb147]? = some (.cells #[.int .i64 0, .int .i64 0, .int .i64 0, .int .i64 0, .int .i64 0, .int .i64 0, .int .i64 0, .int .i64 0] 31 (0, 0))) := ⟨by rw [← hq_]; exact (rB BK147)⟩; have n3_ : Aside0 (Below w.heap.size w w10) := ⟨by rw [← hq_]; exact bl⟩; clear BK145 BK146 BK147 HB hq_; have BK145 := n0_; have BK146 := n1_; have BK147 := n2_; have HB := n3_; clear n0_ n1_ n2_ n3_)); have hnb14 := NB145_147.out; have hnc14 := NB147_145.out; (refine cb3 BK145 ?_; intro _ _ _); (refine cz3 BK145 ?_; intro _ _ _)) | ((with_reducible refine qF (f := 52) rfl ?_); refine qh (some 22) rfl rfl Tryz.func52 (by kernel_rfl) rfl #[.agg #[.int .i64 a0_0, .int .i64 a0_1, .slice A0_2 l0_2.length c0_2], .int .i64 t148, .int .i64 t149] rfl gA ?_; (with_reducible refine (qUA.calls a0_0 a0_1 _ _ l0_2 t148 t149 true _ ?side1 ?side2 A5.out).mono ?_); (case side1 => repeat (first | exact (Kd.qPA HR0_2.out HB.out) | (with_reducible refine Kd.qc ?_ _) | (with_reducible refine Kd.qb ?_ _) | (with_reducible refine Kd.qu ?_))); (case side2 => exact HC0_2.out); rintro e w16 ⟨rfl, hb⟩; refine ⟨_, rfl, ?_⟩; replace BK145 := aM (bb BK145 hb); replace BK146 := aM (bb BK146 hb); replace BK147 := aM (bb BK147 hb); replace HB := aM (qB bl hb); (try clear hb); (try clear hb2); (try clear hk); (try clear hi); (refine cb8 BK146 ?_; intro _ _ _ _ _ _ _ _); (refine cz8 BK146 ?_; intro _ _ _ _ _ _ _ _)) | ((with_reducible refine qF (f := 55) rfl ?_); refine qh (some 30) rfl rfl Tryz.func55 (by kernel_rfl) rfl #[.agg #[.int .i64 a1_2, .int .i64 a1_3, .int .i64 a1_4, .int .i64 a1_5, .int .i64 a1_6, .int .i64 a1_7], .int .i64 a2] rfl gA ?_; (with_reducible refine (qQB.calls a1_2 a1_3 a1_4 a1_5 a1_6 a1_7 a2 t151 t152 t153 t154 t155 t156 _ A7.out).mono ?_); rintro e w18 ⟨rfl, hb⟩; refine ⟨_, rfl, ?_⟩; replace BK145 := aM (bb BK145 hb); replace BK146 := aM (bb BK146 hb); replace BK147 := aM (bb BK147 hb); replace HB := aM (qB bl hb); (try clear hb); (try clear hb2); (try clear hk); (try clear hi); (refine cb8 BK147 ?_; intro _ _ _ _ _ _ _ _); (refine cz8 BK147 ?_; intro _ _ _ _ _ _ _ _)))
  refine bodyPost_ret (qfA rfl _ _ gb147 31 #[.int .i64 t148, .int .i64 t149, .int .i64 t151, .int .i64 t152, .int .i64 t153, .int .i64 t154, .int .i64 t155, .int .i64 t156] (0, 0) _ rfl (by (with_reducible repeat (first | refine qL ?_ _ | refine qH ?_ | refine qK ?_ _)); exact bP8 BK147) Tryz.underlying31 rfl (by kernel_rfl)) rfl ?_
  exact ⟨sR, bl⟩
 ·replace c6 := Bool.eq_false_iff.mpr c6
  subst c6
  replace H := iF H
  simp only [Option.some.injEq, Prod.mk.injEq] at H
  obtain ⟨rfl, rfl, rfl, rfl, rfl, rfl, rfl, rfl, rfl⟩ := H
  go_enter Tryz.func40, Tryz.ntmps40
  go_wp2_with (first | ((with_reducible refine qN (N := 3) rfl ?_); refine bE (N := 3) (cs := #[.int .i64 a0_0, .int .i64 a0_1, .slice A0_2 l0_2.length c0_2]) (t := 61) ?_; intro gb145 hg w20 hbox hb; have BK145 := aM (hbox); have GW145 := aM ((gg hg)); have GE145 := aM ((gg hg)); replace HB := aM (qB bl hb); clear hb hbox hg) | ((with_reducible refine qN (N := 4) rfl ?_); refine bE (N := 4) (cs := #[.int .i64 a1_0, .int .i64 a1_1, .int .i64 a1_2, .int .i64 a1_3, .int .i64 a1_4, .int .i64 a1_5, .int .i64 a1_6, .int .i64 a1_7]) (t := 31) ?_; intro gb146 hg w21 hbox hb; have BK146 := aM (hbox); have GW146 := aM ((gg hg)); have GE146 := aM ((gg hg)); have NB145_146 := aM ((nl BK145 hg)); have NB146_145 := aM ((nr BK145 hg)); replace BK145 := aM (bb BK145 hb); replace HB := aM (qB bl hb); clear hb hbox hg) | ((with_reducible refine qN (N := 6) rfl ?_); refine bE (N := 6) (cs := #[.int .i64 0, .int .i64 0, .int .i64 0, .int .i64 0, .int .i64 0, .int .i64 0, .int .i64 0, .int .i64 0]) (t := 31) ?_; intro gb147 hg w22 hbox hb; have BK147 := aM (hbox); have GW147 := aM ((gg hg)); have GE147 := aM ((gg hg)); have NB145_147 := aM ((nl BK145 hg)); have NB147_145 := aM ((nr BK145 hg)); have NB146_147 := aM ((nl BK146 hg)); have NB147_146 := aM ((nr BK146 hg)); replace BK145 := aM (bb BK145 hb); replace BK146 := aM (bb BK146 hb); replace HB := aM (qB bl hb); clear hb hbox hg; have hnb23 := NB146_145.out; have hnc23 := NB145_146.out; have hnb24 := NB146_147.out; have hnc24 := NB147_146.out; (refine cb8 BK146 ?_; intro _ _ _ _ _ _ _ _); (refine cz8 BK146 ?_; intro _ _ _ _ _ _ _ _)) | ((with_reducible refine qF (f := 54) rfl ?_); refine qh (some 16) rfl rfl Tryz.func54 (by kernel_rfl) rfl #[.int .i64 a1_0, .int .i64 a1_1, .int .i64 a2] rfl gA ?_; (with_reducible refine (qEB.calls a1_0 a1_1 a2 t148 t149 _ A4.out).mono ?_); rintro e w' ⟨rfl, ⟨nd, rfl⟩⟩; refine ⟨_, rfl, ?_⟩; (try (rw [qFC w22]; generalize hq_ : World.drewN w22 _ = w22; have n0_ : Aside0 (w22.heap[gb145]? = some (.cells #[.int .i64 a0_0, .int .i64 a0_1, .slice A0_2 l0_2.length c0_2] 61 (0, 0))) := ⟨by rw [← hq_]; exact (rB BK145)⟩; have n1_ : Aside0 (w22.heap[gb146]? = some (.cells #[.int .i64 a1_0, .int .i64 a1_1, .int .i64 a1_2, .int .i64 a1_3, .int .i64 a1_4, .int .i64 a1_5, .int .i64 a1_6, .int .i64 a1_7] 31 (0, 0))) := ⟨by rw [← hq_]; exact (rB BK146)⟩; have n2_ : Aside0 (w22.heap[gb147]? = some (.cells #[.int .i64 0, .int .i64 0, .int .i64 0, .int .i64 0, .int .i64 0, .int .i64 0, .int .i64 0, .int .i64 0] 31 (0, 0))) := ⟨by rw [← hq_]; exact (rB BK147)⟩; have n3_ : Aside0 (Below w.heap.size w w22) := ⟨by rw [← hq_]; exact bl⟩; clear BK145 BK146 BK147 HB hq_; have BK145 := n0_; have BK146 := n1_; have BK147 := n2_; have HB := n3_; clear n0_ n1_ n2_ n3_)); have hnb26 := NB145_147.out; have hnc26 := NB147_145.out; (refine cb3 BK145 ?_; intro _ _ _); (refine cz3 BK145 ?_; intro _ _ _)) | ((with_reducible refine qF (f := 52) rfl ?_); refine qh (some 22) rfl rfl Tryz.func52 (by kernel_rfl) rfl #[.agg #[.int .i64 a0_0, .int .i64 a0_1, .slice A0_2 l0_2.length c0_2], .int .i64 t148, .int .i64 t149] rfl gA ?_; (with_reducible refine (qUA.calls a0_0 a0_1 _ _ l0_2 t148 t149 false _ ?side1 ?side2 A5.out).mono ?_); (case side1 => repeat (first | exact (Kd.qPA HR0_2.out HB.out) | (with_reducible refine Kd.qc ?_ _) | (with_reducible refine Kd.qb ?_ _) | (with_reducible refine Kd.qu ?_))); (case side2 => exact HC0_2.out); rintro e w28 ⟨rfl, hb⟩; refine ⟨_, rfl, ?_⟩; replace BK145 := aM (bb BK145 hb); replace BK146 := aM (bb BK146 hb); replace BK147 := aM (bb BK147 hb); replace HB := aM (qB bl hb); (try clear hb); (try clear hb2); (try clear hk); (try clear hi); (refine cb8 BK147 ?_; intro _ _ _ _ _ _ _ _); (refine cz8 BK147 ?_; intro _ _ _ _ _ _ _ _)))
  refine bodyPost_ret (qfA rfl _ _ gb147 31 #[.int .i64 0, .int .i64 0, .int .i64 0, .int .i64 0, .int .i64 0, .int .i64 0, .int .i64 0, .int .i64 0] (0, 0) _ rfl (by (with_reducible repeat (first | refine qL ?_ _ | refine qH ?_ | refine qK ?_ _)); exact bP8 BK147) Tryz.underlying31 rfl (by kernel_rfl)) rfl ?_
  exact ⟨sR, bl⟩
def qJA.l0 : Nat → Int → List Int → Int → Int → Option (Int)
 | 0, _, _, _, _ => none
 | k + 1, x1, x7, x8, x9 => if x9 < x8 then (if 0 ≤ x9 then (if x9 < (x7.length : Int) then (if (rd x7 x9) = x1 then (some x9) else (qJA.l0 k x1 x7 x8 (wrap64 (x9 + 1)))) else (none)) else (none)) else (some (-1))
def qJA.f (k : Nat) (l0 : List Int) (a1 : Int) : Option (Int) := qJA.l0 k a1 l0 (l0.length : Int) 0
set_option maxHeartbeats 8000000 in
set_option maxRecDepth 100000 in
theorem qJA.calls (k : Nat) (A0 : Option Addr) (c0 : Nat) (l0 : List Int) (a1 : Int) (r : Int) (w : World) (hr0 : Kd.C (Kd.int .i64) w A0 l0.length l0) (hc0 : l0.length ≤ c0) (h : qJA.f k l0 a1 = some r) :
  Calls Tryz.prog 41 #[.slice A0 l0.length c0, .int .i64 a1] w fun e w' => e = .returned (.int .i64 r) ∧ Drawn0 w w' := by
 have HR0 := aM hr0
 have HC0 := aM hc0
 clear hr0 hc0
 have H : (qJA.l0 k a1 l0 (l0.length : Int) 0) = some r := h
 clear h
 have H' := aM H
 clear H
 go_enter Tryz.func41, Tryz.ntmps41
 go_wp2
 go_loopg [9] k (fun kq v9 w' => ∃ (x9_1 : Int), v9 = .int .i64 x9_1 ∧ Aside0 (qJA.l0 kq a1 l0 (l0.length : Int) x9_1 = some r) ∧ Aside0 (kq ≤ k) ∧ Drawn0 w w')
 case atStart => exact ⟨(0), sD, H', ⟨Nat.le_refl _⟩, dR⟩
 case round =>
  clear H'; (try clear p2)
  obtain ⟨x9_1, rfl, HA, HK1, ⟨m1, rfl⟩⟩ := hrel
  cases gk with
  | zero => exact absurd HA.out (by simp [qJA.l0])
  | succ k1 =>
   have H := HA.out
   clear HA
   simp only [qJA.l0] at H
   by_cases c3 : x9_1 < (l0.length : Int)
   ·rw [if_pos c3] at H
    have c3b0 := decide_eq_true c3
    clear c3
    by_cases c4 : 0 ≤ x9_1
    case neg => exact nN c4 H
    rw [if_pos c4] at H
    have c4b0 := decide_eq_true c4
    clear c4
    by_cases c5 : x9_1 < (l0.length : Int)
    case neg => exact nN c5 H
    rw [if_pos c5] at H
    have c5b0 := decide_eq_true c5
    clear c5
    by_cases c6 : (rd l0 x9_1) = a1
    ·rw [if_pos c6] at H
     have c6b0 := beq_iff_eq.mpr c6
     have c6b1 := bne_eq_false_iff_eq.mpr c6
     clear c6
     obtain rfl := Option.some.inj H
     have p157 : 0 ≤ (x9_1 : Int) := of_decide_eq_true am
     have q157 : x9_1 < (l0.length : Int) := of_decide_eq_true am
     obtain ⟨ad157, e157, hx157_0⟩ := Kd.qjA HR0.out x9_1 p157 q157
     cases e157
     replace p157 := eq_true p157
     replace q157 := eq_true q157
     go_wp2
     go_ret
     exact ⟨by first | rfl | (simp; done) | (simp [*]; done), dR⟩
    ·rw [if_neg c6] at H
     have c6b0 := beq_eq_false_iff_ne.mpr c6
     have c6b1 := bne_iff_ne.mpr c6
     have H' := aM H
     clear H
     have p157 : 0 ≤ (x9_1 : Int) := of_decide_eq_true am
     have q157 : x9_1 < (l0.length : Int) := of_decide_eq_true am
     obtain ⟨ad157, e157, hx157_0⟩ := Kd.qjA HR0.out x9_1 p157 q157
     cases e157
     replace p157 := eq_true p157
     replace q157 := eq_true q157
     go_wp2
     go_roundg k1
     case measure => have := HK1.out; omega
     case rel => exact ⟨(wrap64 (x9_1 + 1)), sD, H', ⟨by have := HK1.out; omega⟩, dR⟩
   ·rw [if_neg c3] at H
    have c3b0 := decide_eq_false c3
    clear c3
    obtain rfl := Option.some.inj H
    go_wp2
    go_ret
    exact ⟨by first | rfl | (simp; done) | (simp [*]; done), dR⟩
mutual
def qI.l0 : Nat → List (S68) → List Int → Int → Int → Int → List Int → Option ((List (S68)))
 | 0, _, _, _, _, _, _ => none
 | k + 1, x5, x6, x7, x159000, x159001, x159002 => if x7 < (x5.length : Int) then (qI.l1 k x5 x6 x7 0 x159000 x159001 x159002) else (some x5)
def qI.l1 : Nat → List (S68) → List Int → Int → Int → Int → Int → List Int → Option ((List (S68)))
 | 0, _, _, _, _, _, _, _ => none
 | k + 1, x5, x6, x7, x8, x159000, x159001, x159002 => if x8 < 4 then (if 0 ≤ x7 then (if x7 < (x5.length : Int) then (if 0 ≤ x8 then ((some (x5.set (x7 : Int).toNat (⟨(⟨(qA x5 x7).f0.f0, (qA x5 x7).f0.f1, (⟨(qA x5 x7).f0.f2.f0, (qA x5 x7).f0.f2.f1, (qA x5 x7).f0.f2.f2, (qA x5 x7).f0.f2.f3, (qA x5 x7).f0.f2.f4, (qA x5 x7).f0.f2.f5⟩ : S29)⟩ : S31), (qA x5 x7).f1, (qA x5 x7).f2, (qA x5 x7).f3, (qA x5 x7).f4, (⟨(if x8 = 0 then (-1) else (qA x5 x7).f5.f0), (if x8 = 1 then (-1) else (qA x5 x7).f5.f1), (if x8 = 2 then (-1) else (qA x5 x7).f5.f2), (if x8 = 3 then (-1) else (qA x5 x7).f5.f3)⟩ : S66)⟩ : S68) : List (S68))).bind fun y167 => ((qpA.f x159000 x159001 x159002 ((qA y167 x7).f0.f0) ((qA y167 x7).f0.f1) ((qA y167 x7).f0.f2.f0) ((qA y167 x7).f0.f2.f1) ((qA y167 x7).f0.f2.f2) ((qA y167 x7).f0.f2.f3) ((qA y167 x7).f0.f2.f4) ((qA y167 x7).f0.f2.f5) x8).bind fun bt169 => (if bt169.2.2.2.2.2.2.2.2 = true then ((qv.f k x159000 x159001 x159002 bt169.1 bt169.2.1 bt169.2.2.1 bt169.2.2.2.1 bt169.2.2.2.2.1 bt169.2.2.2.2.2.1 bt169.2.2.2.2.2.2.1 bt169.2.2.2.2.2.2.2.1).bind fun t179 => ((qJA.f k x6 t179).bind fun t180 => (if t180 < 0 then (if y167.length < 1099511627776 then ((qv.f k x159000 x159001 x159002 bt169.1 bt169.2.1 bt169.2.2.1 bt169.2.2.2.1 bt169.2.2.2.2.1 bt169.2.2.2.2.2.1 bt169.2.2.2.2.2.2.1 bt169.2.2.2.2.2.2.2.1).bind fun t185 => (if x6.length < 17592186044416 then (qI.j2 k (y167 ++ [(⟨(⟨bt169.1, bt169.2.1, (⟨bt169.2.2.1, bt169.2.2.2.1, bt169.2.2.2.2.1, bt169.2.2.2.2.2.1, bt169.2.2.2.2.2.2.1, bt169.2.2.2.2.2.2.2.1⟩ : S29)⟩ : S31), wrap64 (((qA y167 x7).f1) + 1), 0, x7, x8, (⟨0, 0, 0, 0⟩ : S66)⟩ : S68)]) (x6 ++ [t185]) x7 x8 (x5.length : Int) x159000 x159001 x159002) else (none))) else (none)) else (qI.j2 k y167 x6 x7 x8 t180 x159000 x159001 x159002)))) else (qI.l1 k y167 x6 x7 (wrap64 (x8 + 1)) x159000 x159001 x159002)))) else (none)) else (none)) else (none)) else (qI.l0 k x5 x6 (wrap64 (x7 + 1)) x159000 x159001 x159002)
def qI.j2 : Nat → List (S68) → List Int → Int → Int → Int → Int → Int → List Int → Option ((List (S68)))
 | 0, _, _, _, _, _, _, _, _ => none
 | k + 1, x5, x6, x7, x8, x11, x159000, x159001, x159002 => if 0 ≤ x11 then (if x11 < (x5.length : Int) then (if 0 ≤ x7 then (if x7 < (x5.length : Int) then (if ((qA x5 x11).f1) = (wrap64 (((qA x5 x7).f1) + 1)) then ((some (x5.set (x11 : Int).toNat (⟨(⟨(qA x5 x11).f0.f0, (qA x5 x11).f0.f1, (⟨(qA x5 x11).f0.f2.f0, (qA x5 x11).f0.f2.f1, (qA x5 x11).f0.f2.f2, (qA x5 x11).f0.f2.f3, (qA x5 x11).f0.f2.f4, (qA x5 x11).f0.f2.f5⟩ : S29)⟩ : S31), (qA x5 x11).f1, wrap64 (((qA x5 x11).f2) + ((qA x5 x7).f2)), (qA x5 x11).f3, (qA x5 x11).f4, (⟨(qA x5 x11).f5.f0, (qA x5 x11).f5.f1, (qA x5 x11).f5.f2, (qA x5 x11).f5.f3⟩ : S66)⟩ : S68) : List (S68))).bind fun y193 => (if 0 ≤ x8 then (if x8 < 4 then (qI.l1 k (y193.set (x7 : Int).toNat (⟨(⟨(qA y193 x7).f0.f0, (qA y193 x7).f0.f1, (⟨(qA y193 x7).f0.f2.f0, (qA y193 x7).f0.f2.f1, (qA y193 x7).f0.f2.f2, (qA y193 x7).f0.f2.f3, (qA y193 x7).f0.f2.f4, (qA y193 x7).f0.f2.f5⟩ : S29)⟩ : S31), (qA y193 x7).f1, (qA y193 x7).f2, (qA y193 x7).f3, (qA y193 x7).f4, (⟨(if x8 = 0 then x11 else (qA y193 x7).f5.f0), (if x8 = 1 then x11 else (qA y193 x7).f5.f1), (if x8 = 2 then x11 else (qA y193 x7).f5.f2), (if x8 = 3 then x11 else (qA y193 x7).f5.f3)⟩ : S66)⟩ : S68)) x6 x7 (wrap64 (x8 + 1)) x159000 x159001 x159002) else (none)) else (none))) else (if 0 ≤ x8 then (if x8 < 4 then (qI.l1 k (x5.set (x7 : Int).toNat (⟨(⟨(qA x5 x7).f0.f0, (qA x5 x7).f0.f1, (⟨(qA x5 x7).f0.f2.f0, (qA x5 x7).f0.f2.f1, (qA x5 x7).f0.f2.f2, (qA x5 x7).f0.f2.f3, (qA x5 x7).f0.f2.f4, (qA x5 x7).f0.f2.f5⟩ : S29)⟩ : S31), (qA x5 x7).f1, (qA x5 x7).f2, (qA x5 x7).f3, (qA x5 x7).f4, (⟨(if x8 = 0 then x11 else (qA x5 x7).f5.f0), (if x8 = 1 then x11 else (qA x5 x7).f5.f1), (if x8 = 2 then x11 else (qA x5 x7).f5.f2), (if x8 = 3 then x11 else (qA x5 x7).f5.f3)⟩ : S66)⟩ : S68)) x6 x7 (wrap64 (x8 + 1)) x159000 x159001 x159002) else (none)) else (none))) else (none)) else (none)) else (none)) else (none)
end
def qI.f (k : Nat) (a0_0 : Int) (a0_1 : Int) (l0_2 : List Int) (a1_0 : Int) (a1_1 : Int) (a1_2 : Int) (a1_3 : Int) (a1_4 : Int) (a1_5 : Int) (a1_6 : Int) (a1_7 : Int) : Option ((List (S68))) := (qv.f k a0_0 a0_1 l0_2 a1_0 a1_1 a1_2 a1_3 a1_4 a1_5 a1_6 a1_7).bind fun t163 => (qI.l0 k (([(⟨(⟨a1_0, a1_1, (⟨a1_2, a1_3, a1_4, a1_5, a1_6, a1_7⟩ : S29)⟩ : S31), 0, 1, (-1), 0, (⟨0, 0, 0, 0⟩ : S66)⟩ : S68)] : List (S68))) (([t163] : List Int)) 0 a0_0 a0_1 l0_2)
def qI.T10 : Bool × List (List Nat × List Nat) := (true, [([], []), ([], []), ([], []), ([1, 2], [1, 2]), ([3], [3]), ([4], [4]), ([], []), ([0, 5, 6], [0, 5, 6]), ([7], [7]), ([8], [8]), ([8], [8]), ([], []), ([11, 9, 7, 0, 1, 2, 3, 4, 5, 6, 7, 8, 9, 11], [9, 11]), ([10, 12, 0, 1, 2, 3, 4, 5, 6, 7, 8, 9, 10, 11, 12], [10])])
def qI.B10 : List Nat := [0, 0, 0, 6, 14, 30, 0, 127, 255, 511, 511, 0, 3071, 8191]
theorem qI.tab10 : rtab .any (opsOf Tryz.f28 10) = qI.T10 := by kernel_rfl
theorem qI.bits10 : waitsOk qI.T10.2 qI.B10 = true := by kernel_rfl
def qI.T15 : Bool × List (List Nat × List Nat) := (true, [([], []), ([], []), ([], []), ([], []), ([2, 3], [2, 3]), ([4], [4]), ([5], [5]), ([6], [6]), ([], []), ([], []), ([1, 7, 8, 9], [1, 7, 8, 9]), ([10], [10]), ([0, 11], [0, 11]), ([12, 12, 0, 1, 2, 3, 4, 5, 6, 7, 8, 9, 10, 11, 12], [0, 2, 12])])
def qI.B15 : List Nat := [0, 0, 0, 0, 12, 28, 60, 124, 0, 0, 1022, 2046, 4095, 8191]
theorem qI.tab15 : rtab .any (opsOf Tryz.f28 15) = qI.T15 := by kernel_rfl
theorem qI.bits15 : waitsOk qI.T15.2 qI.B15 = true := by kernel_rfl
def qI.T17 : Bool × List (List Nat × List Nat) := (true, [([], []), ([], []), ([0, 1], [0, 1]), ([2], [2]), ([3], [3]), ([], []), ([], []), ([5, 6], [5, 6]), ([7], [7]), ([8], [8]), ([9], [9]), ([4, 10], [4, 10])])
def qI.B17 : List Nat := [0, 0, 3, 7, 15, 0, 0, 96, 224, 480, 992, 2047]
theorem qI.tab17 : rtab .any (opsOf Tryz.f28 17) = qI.T17 := by kernel_rfl
theorem qI.bits17 : waitsOk qI.T17.2 qI.B17 = true := by kernel_rfl
def qI.T18 : Bool × List (List Nat × List Nat) := (true, [([], []), ([], []), ([0, 1], [0, 1]), ([2], [2]), ([3], [3]), ([], []), ([], []), ([5, 6], [5, 6]), ([7], [7]), ([8], [8]), ([4, 9], [4, 9]), ([0, 1, 0, 1, 2, 3, 4, 5, 6, 7, 8, 9, 10], [0, 1]), ([11, 0, 1, 2, 3, 4, 5, 6, 7, 8, 9, 10], [11]), ([12, 10, 0, 1, 2, 3, 4, 5, 6, 7, 8, 9, 10], [10, 12])])
def qI.B18 : List Nat := [0, 0, 3, 7, 15, 0, 0, 96, 224, 480, 1023, 2047, 4095, 8191]
theorem qI.tab18 : rtab .any (opsOf Tryz.f28 18) = qI.T18 := by kernel_rfl
theorem qI.bits18 : waitsOk qI.T18.2 qI.B18 = true := by kernel_rfl
set_option maxRecDepth 100000 in
theorem wyStore_ {ρ : Operand → Value} {o : Oper} {w : World} (p v : Operand) (g : Nat) (y0 y1 y2 y3 y4 y5 y6 y7 : Int) (hop : o.op = Op.store 31 p v) (hp : ρ p = .pointer (some ⟨g, 0, none⟩))
  (hv : ρ v = .agg #[.int .i64 y0, .int .i64 y1, .int .i64 y2, .int .i64 y3, .int .i64 y4, .int .i64 y5, .int .i64 y6, .int .i64 y7])
  (h0 : w.cell? ⟨g, 0, none⟩ = some (.int .i64 0)) (h1 : w.cell? ⟨g, 1, none⟩ = some (.int .i64 0)) (h2 : w.cell? ⟨g, 2, none⟩ = some (.int .i64 0)) (h3 : w.cell? ⟨g, 3, none⟩ = some (.int .i64 0))
  (h4 : w.cell? ⟨g, 4, none⟩ = some (.int .i64 0)) (h5 : w.cell? ⟨g, 5, none⟩ = some (.int .i64 0)) (h6 : w.cell? ⟨g, 6, none⟩ = some (.int .i64 0)) (h7 : w.cell? ⟨g, 7, none⟩ = some (.int .i64 0))
  (hf : ∀ i, w.frozen? ⟨g, i, none⟩ = false) :
  (execOp ρ o).run Tryz.prog w = .ok .skip ((((((((w.setCell ⟨g, 0, none⟩ (.int .i64 y0)).setCell ⟨g, 1, none⟩ (.int .i64 y1)).setCell ⟨g, 2, none⟩ (.int .i64 y2)).setCell ⟨g, 3, none⟩ (.int .i64 y3)).setCell ⟨g, 4, none⟩ (.int .i64 y4)).setCell ⟨g, 5, none⟩ (.int .i64 y5)).setCell ⟨g, 6, none⟩ (.int .i64 y6)).setCell ⟨g, 7, none⟩ (.int .i64 y7)) := by
 have hu_ := Tryz.underlying31
 have f0 := hf 0
 have f1 := hf 1
 have f2 := hf 2
 have f3 := hf 3
 have f4 := hf 4
 have f5 := hf 5
 have f6 := hf 6
 have f7 := hf 7
 clear hf
 unfold execOp
 simp only [hop, hp, hv]
 go_simp
theorem far8_ {w : World} {g : Nat} {v0 v1 v2 v3 v4 v5 v6 v7 : Value} {a : Addr} {u : Option Value} (h : a.block ≠ g) (hu : w.cell? a = u) : ((((((((w.setCell ⟨g, 0, none⟩ v0).setCell ⟨g, 1, none⟩ v1).setCell ⟨g, 2, none⟩ v2).setCell ⟨g, 3, none⟩ v3).setCell ⟨g, 4, none⟩ v4).setCell ⟨g, 5, none⟩ v5).setCell ⟨g, 6, none⟩ v6).setCell ⟨g, 7, none⟩ v7).cell? a = u :=
 (qk h _).trans ((qk h _).trans ((qk h _).trans ((qk h _).trans ((qk h _).trans ((qk h _).trans ((qk h _).trans ((qk h _).trans hu)))))))
set_option maxHeartbeats 8000000 in
set_option maxRecDepth 100000 in
theorem qI.calls (k : Nat) (a0_0 : Int) (a0_1 : Int) (A0_2 : Option Addr) (c0_2 : Nat) (l0_2 : List Int) (a1_0 : Int) (a1_1 : Int) (a1_2 : Int) (a1_3 : Int) (a1_4 : Int) (a1_5 : Int) (a1_6 : Int) (a1_7 : Int) (r : List (S68)) (w : World) (hr0_2 : Kd.C (Kd.int .u8) w A0_2 l0_2.length l0_2) (hc0_2 : l0_2.length ≤ c0_2) (h : qI.f k a0_0 a0_1 l0_2 a1_0 a1_1 a1_2 a1_3 a1_4 a1_5 a1_6 a1_7 = some r) :
  Calls Tryz.prog 28 #[.agg #[.int .i64 a0_0, .int .i64 a0_1, .slice A0_2 l0_2.length c0_2], .agg #[.int .i64 a1_0, .int .i64 a1_1, .int .i64 a1_2, .int .i64 a1_3, .int .i64 a1_4, .int .i64 a1_5, .int .i64 a1_6, .int .i64 a1_7]] w fun e w' => ∃ v0_ : Value, e = .returned (v0_) ∧ Kd.R k68 68 w' w.heap.size (fun _ => True) v0_ r ∧ Below w.heap.size w w' := by
 have hu61 := Tryz.underlying61
 have hu31 := Tryz.underlying31
 have hu68 := Tryz.underlying68
 have HR0_2 := aM hr0_2
 have HC0_2 := aM hc0_2
 clear hr0_2 hc0_2
 have HB := aM (Below.refl w.heap.size w)
 have H : ((qv.f k a0_0 a0_1 l0_2 a1_0 a1_1 a1_2 a1_3 a1_4 a1_5 a1_6 a1_7).bind fun t163 => (qI.l0 k (([(⟨(⟨a1_0, a1_1, (⟨a1_2, a1_3, a1_4, a1_5, a1_6, a1_7⟩ : S29)⟩ : S31), 0, 1, (-1), 0, (⟨0, 0, 0, 0⟩ : S66)⟩ : S68)] : List (S68))) (([t163] : List Int)) 0 a0_0 a0_1 l0_2)) = some r := h
 clear h
 obtain ⟨y160, hy160⟩ : ∃ y_ : List (S68), y_ = (([(⟨(⟨a1_0, a1_1, (⟨a1_2, a1_3, a1_4, a1_5, a1_6, a1_7⟩ : S29)⟩ : S31), 0, 1, (-1), 0, (⟨0, 0, 0, 0⟩ : S66)⟩ : S68)] : List (S68))) := ⟨_, rfl⟩
 replace H : ((qv.f k a0_0 a0_1 l0_2 a1_0 a1_1 a1_2 a1_3 a1_4 a1_5 a1_6 a1_7).bind fun t163 => (qI.l0 k y160 (([t163] : List Int)) 0 a0_0 a0_1 l0_2)) = some r := by first | (rw [hy160]; with_reducible exact H) | (have H2_ := (Option.bind_some _ _).symm.trans H; rw [hy160]; with_reducible exact H2_) | (have H2_ := (Option.bind_some _ _).symm.trans H; with_reducible exact H2_) | with_reducible exact H | (rw [hy160]; exact H) | exact H
 have Ny160 := aM hy160
 clear hy160
 replace H := bO H
 obtain ⟨t163, A3, H⟩ := H
 obtain ⟨y164, hy164⟩ : ∃ y_ : List Int, y_ = (([t163] : List Int)) := ⟨_, rfl⟩
 replace H : (qI.l0 k y160 y164 0 a0_0 a0_1 l0_2) = some r := by first | (rw [hy164]; with_reducible exact H) | (have H2_ := (Option.bind_some _ _).symm.trans H; rw [hy164]; with_reducible exact H2_) | (have H2_ := (Option.bind_some _ _).symm.trans H; with_reducible exact H2_) | with_reducible exact H | (rw [hy164]; exact H) | exact H
 have Ny164 := aM hy164
 clear hy164
 have H' := aM H
 clear H
 go_enter Tryz.func28, Tryz.ntmps28
 go_wp2_with (first | ((with_reducible refine qN (N := 2) rfl ?_); refine bE (N := 2) (cs := #[.int .i64 a0_0, .int .i64 a0_1, .slice A0_2 l0_2.length c0_2]) (t := 61) ?_; intro gb158 hg w4 hbox hb; have BK158 := aM (hbox); have GW158 := aM ((gg hg)); have GE158 := aM ((gg hg)); replace HB := aM (qB bl hb); clear hb hbox hg) | ((with_reducible refine qN (N := 3) rfl ?_); refine bE (N := 3) (cs := #[.int .i64 a1_0, .int .i64 a1_1, .int .i64 a1_2, .int .i64 a1_3, .int .i64 a1_4, .int .i64 a1_5, .int .i64 a1_6, .int .i64 a1_7]) (t := 31) ?_; intro gb159 hg w5 hbox hb; have BK159 := aM (hbox); have GW159 := aM ((gg hg)); have GE159 := aM ((gg hg)); have NB158_159 := aM ((nl BK158 hg)); have NB159_158 := aM ((nr BK158 hg)); replace BK158 := aM (bb BK158 hb); replace HB := aM (qB bl hb); clear hb hbox hg; have hnb6 := NB159_158.out; have hnc6 := NB158_159.out; (refine cb8 BK159 ?_; intro hcz7_0 hcz7_1 hcz7_2 hcz7_3 hcz7_4 hcz7_5 hcz7_6 hcz7_7); (refine cz8 BK159 ?_; intro hfz7_0 hfz7_1 hfz7_2 hfz7_3 hfz7_4 hfz7_5 hfz7_6 hfz7_7)) | ((with_reducible refine qN (N := 14) rfl ?_); refine Kd.R_lit k68 _ 68 ?hg (N := 14) ?hd (xs := ([(⟨(⟨a1_0, a1_1, (⟨a1_2, a1_3, a1_4, a1_5, a1_6, a1_7⟩ : S29)⟩ : S31), 0, 1, (-1), 0, (⟨0, 0, 0, 0⟩ : S66)⟩ : S68)] : List (S68))) (inner := [.int .i64 a1_0, .int .i64 a1_1, .int .i64 a1_2, .int .i64 a1_3, .int .i64 a1_4, .int .i64 a1_5, .int .i64 a1_6, .int .i64 a1_7, .int .i64 0, .int .i64 1, .int .i64 (-1), .int .i64 0, .int .i64 0, .int .i64 0, .int .i64 0, .int .i64 0]) (ok := fun _ => True) (okp := fun _ => True) ?hr ?hp (fun _ hk => hk) trivial (Below.refl _ _) (Nat.le_refl _) (by simp) ?_; (case hd => rfl); (case hg => rfl); (case hr => exact gS); (case hp => exact (Reps.front (show Kd.M k68 _ _ _ (⟨(⟨a1_0, a1_1, (⟨a1_2, a1_3, a1_4, a1_5, a1_6, a1_7⟩ : S29)⟩ : S31), 0, 1, (-1), 0, (⟨0, 0, 0, 0⟩ : S66)⟩ : S68) [.int .i64 a1_0, .int .i64 a1_1, .int .i64 a1_2, .int .i64 a1_3, .int .i64 a1_4, .int .i64 a1_5, .int .i64 a1_6, .int .i64 a1_7, .int .i64 0, .int .i64 1, .int .i64 (-1), .int .i64 0, .int .i64 0, .int .i64 0, .int .i64 0, .int .i64 0] from (qOC _ _ _ (⟨(⟨a1_0, a1_1, (⟨a1_2, a1_3, a1_4, a1_5, a1_6, a1_7⟩ : S29)⟩ : S31), 0, 1, (-1), 0, (⟨0, 0, 0, 0⟩ : S66)⟩ : S68) )) rfl (Reps.none _ _) rfl)); intro v161 w8 ho9 hb hg_ hnew_; clear hg_ hnew_; (first | rw [← Ny160.out] at ho9 | (simp only [Int.reduceToNat] at ho9; rw [← Ny160.out] at ho9)); have HO162 := aM (Kd.qHA ho9 (qT bl)); replace BK158 := aM (bb BK158 hb); replace BK159 := aM (bb BK159 hb); replace HB := aM (qB bl hb); clear hb ho9; (refine cb3 BK158 ?_; intro hcz10_0 hcz10_1 hcz10_2); (refine cz3 BK158 ?_; intro hfz10_0 hfz10_1 hfz10_2); (refine cb8 BK159 ?_; intro hcz11_0 hcz11_1 hcz11_2 hcz11_3 hcz11_4 hcz11_5 hcz11_6 hcz11_7); (refine cz8 BK159 ?_; intro hfz11_0 hfz11_1 hfz11_2 hfz11_3 hfz11_4 hfz11_5 hfz11_6 hfz11_7)) | ((with_reducible refine qF (f := 39) rfl ?_); refine qh (some 17) rfl rfl Tryz.func39 (by kernel_rfl) rfl #[.agg #[.int .i64 a0_0, .int .i64 a0_1, .slice A0_2 l0_2.length c0_2], .agg #[.int .i64 a1_0, .int .i64 a1_1, .int .i64 a1_2, .int .i64 a1_3, .int .i64 a1_4, .int .i64 a1_5, .int .i64 a1_6, .int .i64 a1_7]] rfl gA ?_; (with_reducible refine (qv.calls k a0_0 a0_1 _ _ l0_2 a1_0 a1_1 a1_2 a1_3 a1_4 a1_5 a1_6 a1_7 t163 _ ?side1 ?side2 A3.out).mono ?_); (case side1 => repeat (first | exact (Kd.qPA HR0_2.out HB.out) | (with_reducible refine Kd.qc ?_ _) | (with_reducible refine Kd.qb ?_ _) | (with_reducible refine Kd.qu ?_))); (case side2 => exact HC0_2.out); rintro e w12 ⟨rfl, hb⟩; refine ⟨_, rfl, ?_⟩; replace HO162 := aM (Kd.qj (rR HO162) hb); replace BK158 := aM (bb BK158 hb); replace BK159 := aM (bb BK159 hb); replace HB := aM (qB bl hb); (try clear hb); (try clear hb2); (try clear hk); (try clear hi)) | ((with_reducible refine qN (N := 18) rfl ?_); refine Kd.R_lit (Kd.int .i64) _ 3 ?hg (N := 18) ?hd (xs := ([t163] : List Int)) (inner := [.int .i64 t163]) (ok := fun _ => True) (okp := fun _ => True) ?hr ?hp (fun _ hk => hk) trivial (Below.refl _ _) (Nat.le_refl _) (by simp) ?_; (case hd => rfl); (case hg => rfl); (case hr => exact gS); (case hp => exact (Reps.one (show Kd.M (Kd.int .i64) _ _ _ t163 [.int .i64 t163] from rfl) (Reps.none _ _))); intro v165 w13 ho14 hb hg_ hnew_; clear hg_ hnew_; (first | rw [← Ny164.out] at ho14 | (simp only [Int.reduceToNat] at ho14; rw [← Ny164.out] at ho14)); have HO166 := aM (Kd.qHA ho14 (qT bl)); replace HO162 := aM (Kd.qj (rR HO162) hb); replace BK158 := aM (bb BK158 hb); replace BK159 := aM (bb BK159 hb); replace HB := aM (qB bl hb); clear hb ho14))
 go_loopg [5, 6, 7] k (fun kq v5 v6 v7 w' => ∃ (x5_1 : List (S68)) (x6_1 : List Int) (x7_1 : Int), v7 = .int .i64 x7_1 ∧ Aside0 (qI.l0 kq x5_1 x6_1 x7_1 a0_0 a0_1 l0_2 = some r) ∧ Aside0 (kq ≤ k) ∧ Aside0 (Kd.R k68 68 w' w.heap.size (fun _ => True) v5 x5_1) ∧ Aside0 (Kd.R (Kd.int .i64) 3 w' w.heap.size (fun _ => True) v6 x6_1) ∧ Aside0 (w'.heap[gb158]? = some (.cells #[.int .i64 a0_0, .int .i64 a0_1, (.slice A0_2 l0_2.length c0_2)] 61 (0, 0))) ∧ Aside0 (w'.heap[gb159]? = some (.cells #[.int .i64 a1_0, .int .i64 a1_1, .int .i64 a1_2, .int .i64 a1_3, .int .i64 a1_4, .int .i64 a1_5, .int .i64 a1_6, .int .i64 a1_7] 31 (0, 0))) ∧ Aside0 (Below w.heap.size w w'))
 case atStart => exact ⟨(y160), (y164), (0), sD, H', ⟨Nat.le_refl _⟩, ⟨rR HO162⟩, ⟨rR HO166⟩, ⟨rB BK158⟩, ⟨rB BK159⟩, ⟨bl⟩⟩
 case round =>
  clear H'; (try clear c2); (try clear p2); (try clear c3); (try clear c6); (try clear hcz10_0 hcz10_1 hcz10_2); (try clear hcz11_0 hcz11_1 hcz11_2 hcz11_3 hcz11_4 hcz11_5 hcz11_6 hcz11_7); (try clear hcz7_0 hcz7_1 hcz7_2 hcz7_3 hcz7_4 hcz7_5 hcz7_6 hcz7_7); (try clear hfz10_0 hfz10_1 hfz10_2); (try clear hfz11_0 hfz11_1 hfz11_2 hfz11_3 hfz11_4 hfz11_5 hfz11_6 hfz11_7); (try clear hfz7_0 hfz7_1 hfz7_2 hfz7_3 hfz7_4 hfz7_5 hfz7_6 hfz7_7)
  obtain ⟨x5_1, x6_1, x7_1, rfl, HA, HK1, HO_5, HO_6, BK158, BK159, HB⟩ := hrel
  cases gk with
  | zero => exact absurd HA.out (by simp [qI.l0])
  | succ k1 =>
   have H := HA.out
   clear HA
   simp only [qI.l0] at H
   by_cases c15 : x7_1 < (x5_1.length : Int)
   ·rw [if_pos c15] at H
    have c15b0 := decide_eq_true c15
    clear c15
    have H' := aM H
    clear H
    obtain ⟨Ao16, co16, eo16⟩ := Kd.qi HO_5.out
    subst eo16
    go_wp2
    go_loopg [5, 6, 8] k1 (fun kq v5 v6 v8 w' => ∃ (x5_2 : List (S68)) (x6_2 : List Int) (x8_2 : Int), v8 = .int .i64 x8_2 ∧ Aside0 (qI.l1 kq x5_2 x6_2 x7_1 x8_2 a0_0 a0_1 l0_2 = some r) ∧ Aside0 (kq ≤ k1) ∧ Aside0 (Kd.R k68 68 w' w.heap.size (fun _ => True) v5 x5_2) ∧ Aside0 (Kd.R (Kd.int .i64) 3 w' w.heap.size (fun _ => True) v6 x6_2) ∧ Aside0 (w'.heap[gb158]? = some (.cells #[.int .i64 a0_0, .int .i64 a0_1, (.slice A0_2 l0_2.length c0_2)] 61 (0, 0))) ∧ Aside0 (w'.heap[gb159]? = some (.cells #[.int .i64 a1_0, .int .i64 a1_1, .int .i64 a1_2, .int .i64 a1_3, .int .i64 a1_4, .int .i64 a1_5, .int .i64 a1_6, .int .i64 a1_7] 31 (0, 0))) ∧ Aside0 (Below w.heap.size w w'))
    case atStart => exact ⟨(x5_1), (x6_1), (0), sD, H', ⟨Nat.le_refl _⟩, ⟨rR HO_5⟩, ⟨rR HO_6⟩, ⟨rB BK158⟩, ⟨rB BK159⟩, ⟨bl⟩⟩
    case round =>
     clear H'; (try clear c1); (try clear c2); (try clear p2); (try clear c3); (try clear c6); (try clear c15); (try clear c15b0); (try clear hcz10_0 hcz10_1 hcz10_2); (try clear hcz11_0 hcz11_1 hcz11_2 hcz11_3 hcz11_4 hcz11_5 hcz11_6 hcz11_7); (try clear hcz7_0 hcz7_1 hcz7_2 hcz7_3 hcz7_4 hcz7_5 hcz7_6 hcz7_7); (try clear hfz10_0 hfz10_1 hfz10_2); (try clear hfz11_0 hfz11_1 hfz11_2 hfz11_3 hfz11_4 hfz11_5 hfz11_6 hfz11_7); (try clear hfz7_0 hfz7_1 hfz7_2 hfz7_3 hfz7_4 hfz7_5 hfz7_6 hfz7_7); (try clear p2)
     obtain ⟨x5_2, x6_2, x8_2, rfl, HA, HK2, HO_5, HO_6, BK158, BK159, HB⟩ := hrel
     cases gk with
     | zero => exact absurd HA.out (by simp [qI.l1])
     | succ k2 =>
      have H := HA.out
      clear HA
      simp only [qI.l1] at H
      by_cases c17 : x8_2 < 4
      ·rw [if_pos c17] at H
       have c17b0 := decide_eq_true c17
       clear c17
       by_cases c18 : 0 ≤ x7_1
       case neg => exact nN c18 H
       rw [if_pos c18] at H
       have c18b0 := decide_eq_true c18
       clear c18
       by_cases c19 : x7_1 < (x5_2.length : Int)
       case neg => exact nN c19 H
       rw [if_pos c19] at H
       have c19b0 := decide_eq_true c19
       clear c19
       by_cases c21 : 0 ≤ x8_2
       case neg => exact nN c21 H
       rw [if_pos c21] at H
       have c21b0 := decide_eq_true c21
       clear c21
       replace H := bS H
       obtain ⟨y167, Ny167, H⟩ := H
       replace H := bO H
       obtain ⟨⟨t169, t170, t171, t172, t173, t174, t175, t176, t177⟩, A22, H⟩ := H
       dsimp only at H A22
       by_cases c23 : t177 = true
       ·subst c23
        replace H := iT H
        replace H := bO H
        obtain ⟨t179, A24, H⟩ := H
        replace H := bO H
        obtain ⟨t180, A25, H⟩ := H
        have HC26 := aM H
        clear H
        have p20 : 0 ≤ (x7_1 : Int) := of_decide_eq_true am
        have q20 : (x7_1 : Int) < ((x5_2.length : Int) : Int) := of_decide_eq_true am
        obtain ⟨go20, co20, eo20, gb20, gl20, cl20, HG20⟩ := Kd.qRD HO_5.out (by omega)
        (first | cases eo20 | (injection eo20 with ea_ en_ ec_; (first | subst ea_ | (injection ea_ with ea_; subst ea_)); subst ec_; clear en_))
        have GB20 := aM gb20
        have GG20 := aM HG20
        clear gb20 gl20 HG20
        obtain ⟨ce20, hcl20, hM20, hcc20, hfr20⟩ := Kd.qIC HO_5.out z68 (x7_1 : Int) p20 q20
        obtain rfl := qNB hM20
        have hx20_0 : wr.cell? ⟨go20, (x7_1 : Int).toNat * 16, none⟩ = some (.int .i64 ((qA x5_2 x7_1).f0.f0)) := hcc20 0 _ rfl
        have hx20_1 : wr.cell? ⟨go20, (x7_1 : Int).toNat * 16 + 1, none⟩ = some (.int .i64 ((qA x5_2 x7_1).f0.f1)) := hcc20 1 _ rfl
        have hx20_2 : wr.cell? ⟨go20, (x7_1 : Int).toNat * 16 + 2, none⟩ = some (.int .i64 ((qA x5_2 x7_1).f0.f2.f0)) := hcc20 2 _ rfl
        have hx20_3 : wr.cell? ⟨go20, (x7_1 : Int).toNat * 16 + 3, none⟩ = some (.int .i64 ((qA x5_2 x7_1).f0.f2.f1)) := hcc20 3 _ rfl
        have hx20_4 : wr.cell? ⟨go20, (x7_1 : Int).toNat * 16 + 4, none⟩ = some (.int .i64 ((qA x5_2 x7_1).f0.f2.f2)) := hcc20 4 _ rfl
        have hx20_5 : wr.cell? ⟨go20, (x7_1 : Int).toNat * 16 + 5, none⟩ = some (.int .i64 ((qA x5_2 x7_1).f0.f2.f3)) := hcc20 5 _ rfl
        have hx20_6 : wr.cell? ⟨go20, (x7_1 : Int).toNat * 16 + 6, none⟩ = some (.int .i64 ((qA x5_2 x7_1).f0.f2.f4)) := hcc20 6 _ rfl
        have hx20_7 : wr.cell? ⟨go20, (x7_1 : Int).toNat * 16 + 7, none⟩ = some (.int .i64 ((qA x5_2 x7_1).f0.f2.f5)) := hcc20 7 _ rfl
        have hx20_8 : wr.cell? ⟨go20, (x7_1 : Int).toNat * 16 + 8, none⟩ = some (.int .i64 ((qA x5_2 x7_1).f1)) := hcc20 8 _ rfl
        have hx20_9 : wr.cell? ⟨go20, (x7_1 : Int).toNat * 16 + 9, none⟩ = some (.int .i64 ((qA x5_2 x7_1).f2)) := hcc20 9 _ rfl
        have hx20_10 : wr.cell? ⟨go20, (x7_1 : Int).toNat * 16 + 10, none⟩ = some (.int .i64 ((qA x5_2 x7_1).f3)) := hcc20 10 _ rfl
        have hx20_11 : wr.cell? ⟨go20, (x7_1 : Int).toNat * 16 + 11, none⟩ = some (.int .i64 ((qA x5_2 x7_1).f4)) := hcc20 11 _ rfl
        have hx20_12 : wr.cell? ⟨go20, (x7_1 : Int).toNat * 16 + 12, none⟩ = some (.int .i64 ((qA x5_2 x7_1).f5.f0)) := hcc20 12 _ rfl
        have hx20_13 : wr.cell? ⟨go20, (x7_1 : Int).toNat * 16 + 13, none⟩ = some (.int .i64 ((qA x5_2 x7_1).f5.f1)) := hcc20 13 _ rfl
        have hx20_14 : wr.cell? ⟨go20, (x7_1 : Int).toNat * 16 + 14, none⟩ = some (.int .i64 ((qA x5_2 x7_1).f5.f2)) := hcc20 14 _ rfl
        have hx20_15 : wr.cell? ⟨go20, (x7_1 : Int).toNat * 16 + 15, none⟩ = some (.int .i64 ((qA x5_2 x7_1).f5.f3)) := hcc20 15 _ rfl
        have hf20_0 : wr.frozen? ⟨go20, (x7_1 : Int).toNat * 16, none⟩ = false := hfr20 0
        have hf20_1 : wr.frozen? ⟨go20, (x7_1 : Int).toNat * 16 + 1, none⟩ = false := hfr20 1
        have hf20_2 : wr.frozen? ⟨go20, (x7_1 : Int).toNat * 16 + 2, none⟩ = false := hfr20 2
        have hf20_3 : wr.frozen? ⟨go20, (x7_1 : Int).toNat * 16 + 3, none⟩ = false := hfr20 3
        have hf20_4 : wr.frozen? ⟨go20, (x7_1 : Int).toNat * 16 + 4, none⟩ = false := hfr20 4
        have hf20_5 : wr.frozen? ⟨go20, (x7_1 : Int).toNat * 16 + 5, none⟩ = false := hfr20 5
        have hf20_6 : wr.frozen? ⟨go20, (x7_1 : Int).toNat * 16 + 6, none⟩ = false := hfr20 6
        have hf20_7 : wr.frozen? ⟨go20, (x7_1 : Int).toNat * 16 + 7, none⟩ = false := hfr20 7
        have hf20_8 : wr.frozen? ⟨go20, (x7_1 : Int).toNat * 16 + 8, none⟩ = false := hfr20 8
        have hf20_9 : wr.frozen? ⟨go20, (x7_1 : Int).toNat * 16 + 9, none⟩ = false := hfr20 9
        have hf20_10 : wr.frozen? ⟨go20, (x7_1 : Int).toNat * 16 + 10, none⟩ = false := hfr20 10
        have hf20_11 : wr.frozen? ⟨go20, (x7_1 : Int).toNat * 16 + 11, none⟩ = false := hfr20 11
        have hf20_12 : wr.frozen? ⟨go20, (x7_1 : Int).toNat * 16 + 12, none⟩ = false := hfr20 12
        have hf20_13 : wr.frozen? ⟨go20, (x7_1 : Int).toNat * 16 + 13, none⟩ = false := hfr20 13
        have hf20_14 : wr.frozen? ⟨go20, (x7_1 : Int).toNat * 16 + 14, none⟩ = false := hfr20 14
        have hf20_15 : wr.frozen? ⟨go20, (x7_1 : Int).toNat * 16 + 15, none⟩ = false := hfr20 15
        clear hcl20 hcc20 hfr20 hM20
        replace p20 := eq_true p20
        replace q20 := eq_true q20
        have HX27 := aM (show Kd.R k68 68 wr w.heap.size (fun _ => True) (.slice (some ⟨go20, 0, none⟩) x5_2.length co20) x5_2 from (rR HO_5))
        obtain ⟨ce27, hcl27, hM27, hcc27, hfr27⟩ := Kd.qIC HX27.out z68 (x7_1 : Int) (of_decide_eq_true am) (by have h_ : (x7_1 : Int) < ((x5_2.length : Int) : Int) := of_decide_eq_true am; first | exact h_ | (have e_ := (Kd.qE HO_5.out).1; omega) | simpa using h_)
        obtain rfl := qNB hM27
        have h4_ : (x8_2 : Int) < 4 := of_decide_eq_true am
        have h0_ : 0 ≤ (x8_2 : Int) := of_decide_eq_true am
        have HP27 := Kd.R_seg HX27.out (x7_1 : Int) (of_decide_eq_true am) (by have h_ : (x7_1 : Int) < ((x5_2.length : Int) : Int) := of_decide_eq_true am; first | exact h_ | (have e_ := (Kd.qE HO_5.out).1; omega) | simpa using h_) (seg := [.int .i64 (-1)]) (j := 12 + (x8_2 : Int).toNat) hcl27 hcc27 (by show 12 + (x8_2 : Int).toNat + 1 ≤ 16; omega) (x' := (⟨(⟨(qA x5_2 x7_1).f0.f0, (qA x5_2 x7_1).f0.f1, (⟨(qA x5_2 x7_1).f0.f2.f0, (qA x5_2 x7_1).f0.f2.f1, (qA x5_2 x7_1).f0.f2.f2, (qA x5_2 x7_1).f0.f2.f3, (qA x5_2 x7_1).f0.f2.f4, (qA x5_2 x7_1).f0.f2.f5⟩ : S29)⟩ : S31), (qA x5_2 x7_1).f1, (qA x5_2 x7_1).f2, (qA x5_2 x7_1).f3, (qA x5_2 x7_1).f4, (⟨(if x8_2 = 0 then (-1) else (qA x5_2 x7_1).f5.f0), (if x8_2 = 1 then (-1) else (qA x5_2 x7_1).f5.f1), (if x8_2 = 2 then (-1) else (qA x5_2 x7_1).f5.f2), (if x8_2 = 3 then (-1) else (qA x5_2 x7_1).f5.f3)⟩ : S66)⟩ : S68)) (by rcases (show x8_2 = 0 ∨ x8_2 = 1 ∨ x8_2 = 2 ∨ x8_2 = 3 by omega) with e_ | e_ | e_ | e_ <;> rw [e_] <;> exact qOC _ _ _ _) (fun _ hk => hk)
        rw [← Nat.add_assoc] at HP27
        have hx27_12 := hcc27 (12 + (x8_2 : Int).toNat) _ (List.getElem?_eq_getElem (by show 12 + (x8_2 : Int).toNat < 16; omega))
        (try simp only [show (k68).sz = 16 from rfl, Nat.mul_one, Nat.add_zero] at hx27_12)
        have hf27_12 := hfr27 (12 + (x8_2 : Int).toNat)
        (try simp only [show (k68).sz = 16 from rfl, Nat.mul_one, Nat.add_zero] at hf27_12)
        (try rw [← Nat.add_assoc] at hx27_12)
        (try rw [← Nat.add_assoc] at hf27_12)
        clear hcl27 hcc27 hfr27 hM27
        try go_wp2_with (first | ((with_reducible refine qyA (t := 3) (p := 34) rfl ?_); refine qBB (t := 3) (p := 34) (v := ?vo_w28) (w1 := (wr.setCell ⟨go20, (x7_1 : Int).toNat * 16 + 12 + (x8_2 : Int).toNat, none⟩ (.int .i64 (-1)))) ?hg ?ho ?hn ?hr ?_; (case ho => rfl); (case hg => rfl); (case hn => rfl); (case hr => exact gS); intro w28 hw; have hg : wr.grownBy w28 (some go20) := (by rw [hw]; exact HP27.2); have hp_ : Kd.R k68 68 w28 w.heap.size (fun _ => True) (.slice (some ⟨go20, 0, none⟩) x5_2.length co20) y167 := (by rw [hw, Ny167.out]; exact HP27.1); clear HP27; replace HO_6 := aM (Kd.qoA (v := (.slice (some ⟨go20, 0, none⟩) x5_2.length co20)) (rR HO_6) (Kd.qeA HO_5.out) (by decide) hg); replace BK158 := aM (qf (rB BK158) hg (Kd.R_ne HO_5.out BK158.out (by decide))); replace BK159 := aM (qf (rB BK159) hg (Kd.R_ne HO_5.out BK159.out (by decide))); replace HO_5 := aM (hp_); replace HB := aM ((by rw [hw]; exact qw (HB.out) GB20.out : Below w.heap.size w w28)); clear hg hw hp_))
        (try clear hx27_12); (try clear hf27_12); (try clear h4_); (try clear h0_)
        replace HO_5 := aM (Kd.qQ HO_5.out)
        replace HO_6 := aM (Kd.qQ HO_6.out)
        replace BK158 := aM (qH BK158.out)
        replace BK159 := aM (qH BK159.out)
        replace HB := aM (qm HB.out)
        have p168 : 0 ≤ (x7_1 : Int) := of_decide_eq_true am
        have q168 : x7_1 < (y167.length : Int) := (by have h_ : (x7_1 : Int) < ((x5_2.length : Int) : Int) := of_decide_eq_true am; first | (have e_ := (Kd.qE HO_5.out).1; omega) | simpa only [Ny167.out, List.length_set] using h_)
        have ql168 : ((x7_1 : Int) < ((x5_2.length : Int) : Int)) = True := eq_true (of_decide_eq_true am)
        obtain ⟨ad168, e168, hx168_0, hx168_1, hx168_2, hx168_3, hx168_4, hx168_5, hx168_6, hx168_7, hx168_8, hx168_9, hx168_10, hx168_11, hx168_12, hx168_13, hx168_14, hx168_15⟩ := qHC (Kd.qE HO_5.out).2.2 x7_1 p168 q168
        obtain rfl : (⟨go20, 0, none⟩ : Addr) = ad168 := (by injection e168)
        (first | simp only [qC] at hx168_0 | simp only [qLA] at hx168_0 | simp only [Addr.add, Nat.zero_add] at hx168_0 | skip)
        (first | simp only [qC] at hx168_1 | simp only [qLA] at hx168_1 | simp only [Addr.add, Nat.zero_add] at hx168_1 | skip)
        (first | simp only [qC] at hx168_2 | simp only [qLA] at hx168_2 | simp only [Addr.add, Nat.zero_add] at hx168_2 | skip)
        (first | simp only [qC] at hx168_3 | simp only [qLA] at hx168_3 | simp only [Addr.add, Nat.zero_add] at hx168_3 | skip)
        (first | simp only [qC] at hx168_4 | simp only [qLA] at hx168_4 | simp only [Addr.add, Nat.zero_add] at hx168_4 | skip)
        (first | simp only [qC] at hx168_5 | simp only [qLA] at hx168_5 | simp only [Addr.add, Nat.zero_add] at hx168_5 | skip)
        (first | simp only [qC] at hx168_6 | simp only [qLA] at hx168_6 | simp only [Addr.add, Nat.zero_add] at hx168_6 | skip)
        (first | simp only [qC] at hx168_7 | simp only [qLA] at hx168_7 | simp only [Addr.add, Nat.zero_add] at hx168_7 | skip)
        (first | simp only [qC] at hx168_8 | simp only [qLA] at hx168_8 | simp only [Addr.add, Nat.zero_add] at hx168_8 | skip)
        (first | simp only [qC] at hx168_9 | simp only [qLA] at hx168_9 | simp only [Addr.add, Nat.zero_add] at hx168_9 | skip)
        (first | simp only [qC] at hx168_10 | simp only [qLA] at hx168_10 | simp only [Addr.add, Nat.zero_add] at hx168_10 | skip)
        (first | simp only [qC] at hx168_11 | simp only [qLA] at hx168_11 | simp only [Addr.add, Nat.zero_add] at hx168_11 | skip)
        (first | simp only [qC] at hx168_12 | simp only [qLA] at hx168_12 | simp only [Addr.add, Nat.zero_add] at hx168_12 | skip)
        (first | simp only [qC] at hx168_13 | simp only [qLA] at hx168_13 | simp only [Addr.add, Nat.zero_add] at hx168_13 | skip)
        (first | simp only [qC] at hx168_14 | simp only [qLA] at hx168_14 | simp only [Addr.add, Nat.zero_add] at hx168_14 | skip)
        (first | simp only [qC] at hx168_15 | simp only [qLA] at hx168_15 | simp only [Addr.add, Nat.zero_add] at hx168_15 | skip)
        replace p168 := eq_true p168
        replace q168 := eq_true q168
        refine qAB (n := 14) (S := fun w' => w'.cell? ⟨gb158, 0, none⟩ = some (.int .i64 a0_0) ∧ w'.cell? ⟨gb158, 1, none⟩ = some (.int .i64 a0_1) ∧ w'.cell? ⟨gb158, 2, none⟩ = some (.slice A0_2 l0_2.length c0_2) ∧ w'.cell? ⟨go20, (x7_1).toNat * 16, none⟩ = some (.int .i64 ((qA y167 x7_1).f0.f0)) ∧ w'.cell? ⟨go20, (x7_1).toNat * 16 + 1, none⟩ = some (.int .i64 ((qA y167 x7_1).f0.f1)) ∧ w'.cell? ⟨go20, (x7_1).toNat * 16 + 2, none⟩ = some (.int .i64 ((qA y167 x7_1).f0.f2.f0)) ∧ w'.cell? ⟨go20, (x7_1).toNat * 16 + 3, none⟩ = some (.int .i64 ((qA y167 x7_1).f0.f2.f1)) ∧ w'.cell? ⟨go20, (x7_1).toNat * 16 + 4, none⟩ = some (.int .i64 ((qA y167 x7_1).f0.f2.f2)) ∧ w'.cell? ⟨go20, (x7_1).toNat * 16 + 5, none⟩ = some (.int .i64 ((qA y167 x7_1).f0.f2.f3)) ∧ w'.cell? ⟨go20, (x7_1).toNat * 16 + 6, none⟩ = some (.int .i64 ((qA y167 x7_1).f0.f2.f4)) ∧ w'.cell? ⟨go20, (x7_1).toNat * 16 + 7, none⟩ = some (.int .i64 ((qA y167 x7_1).f0.f2.f5)) ∧ w'.cell? ⟨go20, (x7_1).toNat * 16 + 8, none⟩ = some (.int .i64 ((qA y167 x7_1).f1)) ∧ w'.cell? ⟨go20, (x7_1).toNat * 16 + 9, none⟩ = some (.int .i64 ((qA y167 x7_1).f2)) ∧ w'.cell? ⟨go20, (x7_1).toNat * 16 + 10, none⟩ = some (.int .i64 ((qA y167 x7_1).f3)) ∧ w'.cell? ⟨go20, (x7_1).toNat * 16 + 11, none⟩ = some (.int .i64 ((qA y167 x7_1).f4)) ∧ w'.cell? ⟨go20, (x7_1).toNat * 16 + 12, none⟩ = some (.int .i64 ((qA y167 x7_1).f5.f0)) ∧ w'.cell? ⟨go20, (x7_1).toNat * 16 + 13, none⟩ = some (.int .i64 ((qA y167 x7_1).f5.f1)) ∧ w'.cell? ⟨go20, (x7_1).toNat * 16 + 14, none⟩ = some (.int .i64 ((qA y167 x7_1).f5.f2)) ∧ w'.cell? ⟨go20, (x7_1).toNat * 16 + 15, none⟩ = some (.int .i64 ((qA y167 x7_1).f5.f3))) (ds := []) #[false, false, false, false, false, false, false, false, false, false, false, false, false, false] (by kernel_rfl) rfl rfl ⟨bc BK158 0, bc BK158 1, bc BK158 2, hx168_0, hx168_1, hx168_2, hx168_3, hx168_4, hx168_5, hx168_6, hx168_7, hx168_8, hx168_9, hx168_10, hx168_11, hx168_12, hx168_13, hx168_14, hx168_15⟩ (fun hHeld => ?_); refine qMA qI.tab10 qI.bits10 (fun HT_ HW_ => ?_)
        generalize w28.drew = w29 at HO_5 HO_6 BK158 BK159 HB hx168_0 hx168_1 hx168_10 hx168_11 hx168_12 hx168_13 hx168_14 hx168_15 hx168_2 hx168_3 hx168_4 hx168_5 hx168_6 hx168_7 hx168_8 hx168_9 hHeld ⊢
        refine pS (i := 1) (N := some 37) #[false, true, false, false, false, false, false, false, false, false, false, false, false, false] HT_ ?_
        refine pS (i := 2) (N := some 38) #[false, true, true, false, false, false, false, false, false, false, false, false, false, false] HT_ ?_
        refine pS (i := 3) (N := some 39) #[false, true, true, true, false, false, false, false, false, false, false, false, false, false] HT_ ?_
        refine pS (i := 4) (N := some 40) #[false, true, true, true, true, false, false, false, false, false, false, false, false, false] HT_ ?_
        refine pS (i := 6) (N := some 42) #[false, true, true, true, true, false, true, false, false, false, false, false, false, false] HT_ ?_
        refine tS (i := 0) (N := some 36) #[true, true, true, true, true, false, true, false, false, false, false, false, false, false] HT_ HW_ hHeld ?_
        refine tS (i := 5) (N := some 41) #[true, true, true, true, true, true, true, false, false, false, false, false, false, false] HT_ HW_ hHeld ?_
        refine join_ (σ := Nat) 2 #[true, true, true, true, true, true, true, true, true, true, true, true, false, false] (fun s_ => [(43, .tuple #[.agg #[.int .i64 t169, .int .i64 t170, .int .i64 t171, .int .i64 t172, .int .i64 t173, .int .i64 t174, .int .i64 t175, .int .i64 t176], .bool true]), (9, .pointer (some ⟨s_, 0, none⟩)), (35, .tuple #[.agg #[.int .i64 t169, .int .i64 t170, .int .i64 t171, .int .i64 t172, .int .i64 t173, .int .i64 t174, .int .i64 t175, .int .i64 t176], .bool true]), (44, .agg #[.int .i64 t169, .int .i64 t170, .int .i64 t171, .int .i64 t172, .int .i64 t173, .int .i64 t174, .int .i64 t175, .int .i64 t176]), (45, .bool true)]) (fun s_ w' => (w'.cell? ⟨gb158, 0, none⟩ = some (.int .i64 a0_0) ∧ w'.cell? ⟨gb158, 1, none⟩ = some (.int .i64 a0_1) ∧ w'.cell? ⟨gb158, 2, none⟩ = some (.slice A0_2 l0_2.length c0_2) ∧ w'.cell? ⟨go20, (x7_1).toNat * 16, none⟩ = some (.int .i64 ((qA y167 x7_1).f0.f0)) ∧ w'.cell? ⟨go20, (x7_1).toNat * 16 + 1, none⟩ = some (.int .i64 ((qA y167 x7_1).f0.f1)) ∧ w'.cell? ⟨go20, (x7_1).toNat * 16 + 2, none⟩ = some (.int .i64 ((qA y167 x7_1).f0.f2.f0)) ∧ w'.cell? ⟨go20, (x7_1).toNat * 16 + 3, none⟩ = some (.int .i64 ((qA y167 x7_1).f0.f2.f1)) ∧ w'.cell? ⟨go20, (x7_1).toNat * 16 + 4, none⟩ = some (.int .i64 ((qA y167 x7_1).f0.f2.f2)) ∧ w'.cell? ⟨go20, (x7_1).toNat * 16 + 5, none⟩ = some (.int .i64 ((qA y167 x7_1).f0.f2.f3)) ∧ w'.cell? ⟨go20, (x7_1).toNat * 16 + 6, none⟩ = some (.int .i64 ((qA y167 x7_1).f0.f2.f4)) ∧ w'.cell? ⟨go20, (x7_1).toNat * 16 + 7, none⟩ = some (.int .i64 ((qA y167 x7_1).f0.f2.f5)) ∧ w'.cell? ⟨go20, (x7_1).toNat * 16 + 8, none⟩ = some (.int .i64 ((qA y167 x7_1).f1)) ∧ w'.cell? ⟨go20, (x7_1).toNat * 16 + 9, none⟩ = some (.int .i64 ((qA y167 x7_1).f2)) ∧ w'.cell? ⟨go20, (x7_1).toNat * 16 + 10, none⟩ = some (.int .i64 ((qA y167 x7_1).f3)) ∧ w'.cell? ⟨go20, (x7_1).toNat * 16 + 11, none⟩ = some (.int .i64 ((qA y167 x7_1).f4)) ∧ w'.cell? ⟨go20, (x7_1).toNat * 16 + 12, none⟩ = some (.int .i64 ((qA y167 x7_1).f5.f0)) ∧ w'.cell? ⟨go20, (x7_1).toNat * 16 + 13, none⟩ = some (.int .i64 ((qA y167 x7_1).f5.f1)) ∧ w'.cell? ⟨go20, (x7_1).toNat * 16 + 14, none⟩ = some (.int .i64 ((qA y167 x7_1).f5.f2)) ∧ w'.cell? ⟨go20, (x7_1).toNat * 16 + 15, none⟩ = some (.int .i64 ((qA y167 x7_1).f5.f3))) ∧ (Kd.R k68 68 w' w.heap.size (fun _ => True) (.slice (some ⟨go20, 0, none⟩) x5_2.length co20) y167) ∧ (Kd.R (Kd.int .i64) 3 w' w.heap.size (fun _ => True) u6 x6_2) ∧ (w'.heap[gb158]? = some (.cells #[.int .i64 a0_0, .int .i64 a0_1, .slice A0_2 l0_2.length c0_2] 61 (0, 0))) ∧ (w'.heap[gb159]? = some (.cells #[.int .i64 a1_0, .int .i64 a1_1, .int .i64 a1_2, .int .i64 a1_3, .int .i64 a1_4, .int .i64 a1_5, .int .i64 a1_6, .int .i64 a1_7] 31 (0, 0))) ∧ (w'.heap[s_]? = some (.cells #[.int .i64 0, .int .i64 0, .int .i64 0, .int .i64 0, .int .i64 0, .int .i64 0, .int .i64 0, .int .i64 0] 31 (0, 0))) ∧ (w.heap.size ≤ s_) ∧ (w.heap.size ≤ s_) ∧ (gb158 ≠ s_) ∧ (s_ ≠ gb158) ∧ (gb159 ≠ s_) ∧ (s_ ≠ gb159) ∧ (Below w.heap.size w w')) ?_ ?_
        rotate_left
        ·intro hCont
         refine two_ (i := 7) (j := 11) (Ni := some 43) (Nj := some 9) #[true, true, true, true, true, true, true, true, false, false, false, false, false, false] #[true, true, true, true, true, true, true, false, false, false, false, true, false, false] rfl rfl rfl rfl (qDD HT_.out (by kernel_rfl)) (by decide) (by decide) (fun K hK => ?_) (fun K hK => ?_)
         ·skip
          refine goes_ Tryz.func40 (by kernel_rfl) rfl #[.agg #[.int .i64 a0_0, .int .i64 a0_1, .slice A0_2 l0_2.length c0_2], .agg #[.int .i64 ((qA y167 x7_1).f0.f0), .int .i64 ((qA y167 x7_1).f0.f1), .int .i64 ((qA y167 x7_1).f0.f2.f0), .int .i64 ((qA y167 x7_1).f0.f2.f1), .int .i64 ((qA y167 x7_1).f0.f2.f2), .int .i64 ((qA y167 x7_1).f0.f2.f3), .int .i64 ((qA y167 x7_1).f0.f2.f4), .int .i64 ((qA y167 x7_1).f0.f2.f5)], .int .i64 x8_2] (by rfl) rfl rfl gA ?_
          with_reducible refine (qpA.calls a0_0 a0_1 _ _ l0_2 ((qA y167 x7_1).f0.f0) ((qA y167 x7_1).f0.f1) ((qA y167 x7_1).f0.f2.f0) ((qA y167 x7_1).f0.f2.f1) ((qA y167 x7_1).f0.f2.f2) ((qA y167 x7_1).f0.f2.f3) ((qA y167 x7_1).f0.f2.f4) ((qA y167 x7_1).f0.f2.f5) x8_2 t169 t170 t171 t172 t173 t174 t175 t176 true _ ?side1 ?side2 A22.out).mono ?_
          (case side1 => repeat (first | exact (Kd.qPA HR0_2.out HB.out) | (with_reducible refine Kd.qc ?_ _) | (with_reducible refine Kd.qb ?_ _) | (with_reducible refine Kd.qu ?_)))
          (case side2 => exact HC0_2.out)
          rintro e w30 ⟨rfl, hb⟩
          have HS3_ := (hb.cell (World.block_lt_of_cell? _ _ (hHeld.2.2.2.1))).trans (hHeld.2.2.2.1)
          have HS4_ := (hb.cell (World.block_lt_of_cell? _ _ (hHeld.2.2.2.2.1))).trans (hHeld.2.2.2.2.1)
          have HS5_ := (hb.cell (World.block_lt_of_cell? _ _ (hHeld.2.2.2.2.2.1))).trans (hHeld.2.2.2.2.2.1)
          have HS6_ := (hb.cell (World.block_lt_of_cell? _ _ (hHeld.2.2.2.2.2.2.1))).trans (hHeld.2.2.2.2.2.2.1)
          have HS7_ := (hb.cell (World.block_lt_of_cell? _ _ (hHeld.2.2.2.2.2.2.2.1))).trans (hHeld.2.2.2.2.2.2.2.1)
          have HS8_ := (hb.cell (World.block_lt_of_cell? _ _ (hHeld.2.2.2.2.2.2.2.2.1))).trans (hHeld.2.2.2.2.2.2.2.2.1)
          have HS9_ := (hb.cell (World.block_lt_of_cell? _ _ (hHeld.2.2.2.2.2.2.2.2.2.1))).trans (hHeld.2.2.2.2.2.2.2.2.2.1)
          have HS10_ := (hb.cell (World.block_lt_of_cell? _ _ (hHeld.2.2.2.2.2.2.2.2.2.2.1))).trans (hHeld.2.2.2.2.2.2.2.2.2.2.1)
          have HS11_ := (hb.cell (World.block_lt_of_cell? _ _ (hHeld.2.2.2.2.2.2.2.2.2.2.2.1))).trans (hHeld.2.2.2.2.2.2.2.2.2.2.2.1)
          have HS12_ := (hb.cell (World.block_lt_of_cell? _ _ (hHeld.2.2.2.2.2.2.2.2.2.2.2.2.1))).trans (hHeld.2.2.2.2.2.2.2.2.2.2.2.2.1)
          have HS13_ := (hb.cell (World.block_lt_of_cell? _ _ (hHeld.2.2.2.2.2.2.2.2.2.2.2.2.2.1))).trans (hHeld.2.2.2.2.2.2.2.2.2.2.2.2.2.1)
          have HS14_ := (hb.cell (World.block_lt_of_cell? _ _ (hHeld.2.2.2.2.2.2.2.2.2.2.2.2.2.2.1))).trans (hHeld.2.2.2.2.2.2.2.2.2.2.2.2.2.2.1)
          have HS15_ := (hb.cell (World.block_lt_of_cell? _ _ (hHeld.2.2.2.2.2.2.2.2.2.2.2.2.2.2.2.1))).trans (hHeld.2.2.2.2.2.2.2.2.2.2.2.2.2.2.2.1)
          have HS16_ := (hb.cell (World.block_lt_of_cell? _ _ (hHeld.2.2.2.2.2.2.2.2.2.2.2.2.2.2.2.2.1))).trans (hHeld.2.2.2.2.2.2.2.2.2.2.2.2.2.2.2.2.1)
          have HS17_ := (hb.cell (World.block_lt_of_cell? _ _ (hHeld.2.2.2.2.2.2.2.2.2.2.2.2.2.2.2.2.2.1))).trans (hHeld.2.2.2.2.2.2.2.2.2.2.2.2.2.2.2.2.2.1)
          have HS18_ := (hb.cell (World.block_lt_of_cell? _ _ (hHeld.2.2.2.2.2.2.2.2.2.2.2.2.2.2.2.2.2.2))).trans (hHeld.2.2.2.2.2.2.2.2.2.2.2.2.2.2.2.2.2.2)
          refine ⟨_, rfl, ?_⟩
          replace HO_5 := aM (Kd.qj (rR HO_5) hb)
          replace HO_6 := aM (Kd.qj (rR HO_6) hb)
          replace BK158 := aM (bb BK158 hb)
          replace BK159 := aM (bb BK159 hb)
          replace HB := aM (qB bl hb); (try clear hb); (try clear hb2); (try clear hk); (try clear hi)
          refine hK.out _ _ ⟨bc BK158 0, bc BK158 1, bc BK158 2, HS3_, HS4_, HS5_, HS6_, HS7_, HS8_, HS9_, HS10_, HS11_, HS12_, HS13_, HS14_, HS15_, HS16_, HS17_, HS18_⟩ (fun hHeld => ?_)
          clear hK K
          refine norm_ (a' := ?_) ?_ ?_
          rotate_left
          ·show Act.put _ (some 43) _ = _
           simp only [Act.put, List.setIfInBounds_toArray, List.set_cons_zero, List.set_cons_succ, i64_w, i32_w]
           rfl
          refine pS (i := 8) (N := some 35) #[true, true, true, true, true, true, true, true, true, false, false, false, false, false] HT_ ?_
          refine pS (i := 9) (N := some 44) #[true, true, true, true, true, true, true, true, true, true, false, false, false, false] HT_ ?_
          refine pS (i := 10) (N := some 45) #[true, true, true, true, true, true, true, true, true, true, true, false, false, false] HT_ ?_
          refine one_ (i := 11) (N := some 9) #[true, true, true, true, true, true, true, true, true, true, true, true, false, false] rfl rfl (qrA HT_.out (by kernel_rfl)) (by decide) (fun K hK => ?_)
          refine qGC ?hg (N := 9) ?hd (cs := #[.int .i64 0, .int .i64 0, .int .i64 0, .int .i64 0, .int .i64 0, .int .i64 0, .int .i64 0, .int .i64 0]) (t := 31) ?hr ?_; (case hd => rfl); (case hg => rfl); (case hr => exact gS)
          intro gb178 hg w31 hbox hb
          have HS3_ := (hb.cell (World.block_lt_of_cell? _ _ (hHeld.2.2.2.1))).trans (hHeld.2.2.2.1)
          have HS4_ := (hb.cell (World.block_lt_of_cell? _ _ (hHeld.2.2.2.2.1))).trans (hHeld.2.2.2.2.1)
          have HS5_ := (hb.cell (World.block_lt_of_cell? _ _ (hHeld.2.2.2.2.2.1))).trans (hHeld.2.2.2.2.2.1)
          have HS6_ := (hb.cell (World.block_lt_of_cell? _ _ (hHeld.2.2.2.2.2.2.1))).trans (hHeld.2.2.2.2.2.2.1)
          have HS7_ := (hb.cell (World.block_lt_of_cell? _ _ (hHeld.2.2.2.2.2.2.2.1))).trans (hHeld.2.2.2.2.2.2.2.1)
          have HS8_ := (hb.cell (World.block_lt_of_cell? _ _ (hHeld.2.2.2.2.2.2.2.2.1))).trans (hHeld.2.2.2.2.2.2.2.2.1)
          have HS9_ := (hb.cell (World.block_lt_of_cell? _ _ (hHeld.2.2.2.2.2.2.2.2.2.1))).trans (hHeld.2.2.2.2.2.2.2.2.2.1)
          have HS10_ := (hb.cell (World.block_lt_of_cell? _ _ (hHeld.2.2.2.2.2.2.2.2.2.2.1))).trans (hHeld.2.2.2.2.2.2.2.2.2.2.1)
          have HS11_ := (hb.cell (World.block_lt_of_cell? _ _ (hHeld.2.2.2.2.2.2.2.2.2.2.2.1))).trans (hHeld.2.2.2.2.2.2.2.2.2.2.2.1)
          have HS12_ := (hb.cell (World.block_lt_of_cell? _ _ (hHeld.2.2.2.2.2.2.2.2.2.2.2.2.1))).trans (hHeld.2.2.2.2.2.2.2.2.2.2.2.2.1)
          have HS13_ := (hb.cell (World.block_lt_of_cell? _ _ (hHeld.2.2.2.2.2.2.2.2.2.2.2.2.2.1))).trans (hHeld.2.2.2.2.2.2.2.2.2.2.2.2.2.1)
          have HS14_ := (hb.cell (World.block_lt_of_cell? _ _ (hHeld.2.2.2.2.2.2.2.2.2.2.2.2.2.2.1))).trans (hHeld.2.2.2.2.2.2.2.2.2.2.2.2.2.2.1)
          have HS15_ := (hb.cell (World.block_lt_of_cell? _ _ (hHeld.2.2.2.2.2.2.2.2.2.2.2.2.2.2.2.1))).trans (hHeld.2.2.2.2.2.2.2.2.2.2.2.2.2.2.2.1)
          have HS16_ := (hb.cell (World.block_lt_of_cell? _ _ (hHeld.2.2.2.2.2.2.2.2.2.2.2.2.2.2.2.2.1))).trans (hHeld.2.2.2.2.2.2.2.2.2.2.2.2.2.2.2.2.1)
          have HS17_ := (hb.cell (World.block_lt_of_cell? _ _ (hHeld.2.2.2.2.2.2.2.2.2.2.2.2.2.2.2.2.2.1))).trans (hHeld.2.2.2.2.2.2.2.2.2.2.2.2.2.2.2.2.2.1)
          have HS18_ := (hb.cell (World.block_lt_of_cell? _ _ (hHeld.2.2.2.2.2.2.2.2.2.2.2.2.2.2.2.2.2.2))).trans (hHeld.2.2.2.2.2.2.2.2.2.2.2.2.2.2.2.2.2.2)
          have BK178 := aM (hbox)
          have GW178 := aM ((gg hg))
          have GE178 := aM ((gg hg))
          have NB158_178 := aM ((nl BK158 hg))
          have NB178_158 := aM ((nr BK158 hg))
          have NB159_178 := aM ((nl BK159 hg))
          have NB178_159 := aM ((nr BK159 hg))
          replace HO_5 := aM (Kd.qj (rR HO_5) hb)
          replace HO_6 := aM (Kd.qj (rR HO_6) hb)
          replace BK158 := aM (bb BK158 hb)
          replace BK159 := aM (bb BK159 hb)
          replace HB := aM (qB bl hb)
          clear hb hbox hg
          refine hK.out _ _ ⟨bc BK158 0, bc BK158 1, bc BK158 2, HS3_, HS4_, HS5_, HS6_, HS7_, HS8_, HS9_, HS10_, HS11_, HS12_, HS13_, HS14_, HS15_, HS16_, HS17_, HS18_⟩ (fun hHeld => ?_)
          clear hK K
          refine norm_ (a' := ?_) ?_ ?_
          rotate_left
          ·show Act.put _ (some 9) _ = _
           simp only [Act.put, List.setIfInBounds_toArray, List.set_cons_zero, List.set_cons_succ, i64_w, i32_w]
           rfl
          exact norm_ (by simp only [putAll, Act.put, List.setIfInBounds_toArray, List.set_cons_zero, List.set_cons_succ]) (hCont (gb178) _ ⟨hHeld, (rR HO_5), (rR HO_6), (rB BK158), (rB BK159), (rB BK178), GW178.out, GE178.out, NB158_178.out, NB178_158.out, NB159_178.out, NB178_159.out, bl⟩)
         ·skip
          refine qGC ?hg (N := 9) ?hd (cs := #[.int .i64 0, .int .i64 0, .int .i64 0, .int .i64 0, .int .i64 0, .int .i64 0, .int .i64 0, .int .i64 0]) (t := 31) ?hr ?_; (case hd => rfl); (case hg => rfl); (case hr => exact gS)
          intro gb178 hg w30 hbox hb
          have HS3_ := (hb.cell (World.block_lt_of_cell? _ _ (hHeld.2.2.2.1))).trans (hHeld.2.2.2.1)
          have HS4_ := (hb.cell (World.block_lt_of_cell? _ _ (hHeld.2.2.2.2.1))).trans (hHeld.2.2.2.2.1)
          have HS5_ := (hb.cell (World.block_lt_of_cell? _ _ (hHeld.2.2.2.2.2.1))).trans (hHeld.2.2.2.2.2.1)
          have HS6_ := (hb.cell (World.block_lt_of_cell? _ _ (hHeld.2.2.2.2.2.2.1))).trans (hHeld.2.2.2.2.2.2.1)
          have HS7_ := (hb.cell (World.block_lt_of_cell? _ _ (hHeld.2.2.2.2.2.2.2.1))).trans (hHeld.2.2.2.2.2.2.2.1)
          have HS8_ := (hb.cell (World.block_lt_of_cell? _ _ (hHeld.2.2.2.2.2.2.2.2.1))).trans (hHeld.2.2.2.2.2.2.2.2.1)
          have HS9_ := (hb.cell (World.block_lt_of_cell? _ _ (hHeld.2.2.2.2.2.2.2.2.2.1))).trans (hHeld.2.2.2.2.2.2.2.2.2.1)
          have HS10_ := (hb.cell (World.block_lt_of_cell? _ _ (hHeld.2.2.2.2.2.2.2.2.2.2.1))).trans (hHeld.2.2.2.2.2.2.2.2.2.2.1)
          have HS11_ := (hb.cell (World.block_lt_of_cell? _ _ (hHeld.2.2.2.2.2.2.2.2.2.2.2.1))).trans (hHeld.2.2.2.2.2.2.2.2.2.2.2.1)
          have HS12_ := (hb.cell (World.block_lt_of_cell? _ _ (hHeld.2.2.2.2.2.2.2.2.2.2.2.2.1))).trans (hHeld.2.2.2.2.2.2.2.2.2.2.2.2.1)
          have HS13_ := (hb.cell (World.block_lt_of_cell? _ _ (hHeld.2.2.2.2.2.2.2.2.2.2.2.2.2.1))).trans (hHeld.2.2.2.2.2.2.2.2.2.2.2.2.2.1)
          have HS14_ := (hb.cell (World.block_lt_of_cell? _ _ (hHeld.2.2.2.2.2.2.2.2.2.2.2.2.2.2.1))).trans (hHeld.2.2.2.2.2.2.2.2.2.2.2.2.2.2.1)
          have HS15_ := (hb.cell (World.block_lt_of_cell? _ _ (hHeld.2.2.2.2.2.2.2.2.2.2.2.2.2.2.2.1))).trans (hHeld.2.2.2.2.2.2.2.2.2.2.2.2.2.2.2.1)
          have HS16_ := (hb.cell (World.block_lt_of_cell? _ _ (hHeld.2.2.2.2.2.2.2.2.2.2.2.2.2.2.2.2.1))).trans (hHeld.2.2.2.2.2.2.2.2.2.2.2.2.2.2.2.2.1)
          have HS17_ := (hb.cell (World.block_lt_of_cell? _ _ (hHeld.2.2.2.2.2.2.2.2.2.2.2.2.2.2.2.2.2.1))).trans (hHeld.2.2.2.2.2.2.2.2.2.2.2.2.2.2.2.2.2.1)
          have HS18_ := (hb.cell (World.block_lt_of_cell? _ _ (hHeld.2.2.2.2.2.2.2.2.2.2.2.2.2.2.2.2.2.2))).trans (hHeld.2.2.2.2.2.2.2.2.2.2.2.2.2.2.2.2.2.2)
          have BK178 := aM (hbox)
          have GW178 := aM ((gg hg))
          have GE178 := aM ((gg hg))
          have NB158_178 := aM ((nl BK158 hg))
          have NB178_158 := aM ((nr BK158 hg))
          have NB159_178 := aM ((nl BK159 hg))
          have NB178_159 := aM ((nr BK159 hg))
          replace HO_5 := aM (Kd.qj (rR HO_5) hb)
          replace HO_6 := aM (Kd.qj (rR HO_6) hb)
          replace BK158 := aM (bb BK158 hb)
          replace BK159 := aM (bb BK159 hb)
          replace HB := aM (qB bl hb)
          clear hb hbox hg
          refine hK.out _ _ ⟨bc BK158 0, bc BK158 1, bc BK158 2, HS3_, HS4_, HS5_, HS6_, HS7_, HS8_, HS9_, HS10_, HS11_, HS12_, HS13_, HS14_, HS15_, HS16_, HS17_, HS18_⟩ (fun hHeld => ?_)
          clear hK K
          refine norm_ (a' := ?_) ?_ ?_
          rotate_left
          ·show Act.put _ (some 9) _ = _
           simp only [Act.put, List.setIfInBounds_toArray, List.set_cons_zero, List.set_cons_succ, i64_w, i32_w]
           rfl
          refine one_ (i := 7) (N := some 43) #[true, true, true, true, true, true, true, true, false, false, false, true, false, false] rfl rfl (qrA HT_.out (by kernel_rfl)) (by decide) (fun K hK => ?_)
          refine goes_ Tryz.func40 (by kernel_rfl) rfl #[.agg #[.int .i64 a0_0, .int .i64 a0_1, .slice A0_2 l0_2.length c0_2], .agg #[.int .i64 ((qA y167 x7_1).f0.f0), .int .i64 ((qA y167 x7_1).f0.f1), .int .i64 ((qA y167 x7_1).f0.f2.f0), .int .i64 ((qA y167 x7_1).f0.f2.f1), .int .i64 ((qA y167 x7_1).f0.f2.f2), .int .i64 ((qA y167 x7_1).f0.f2.f3), .int .i64 ((qA y167 x7_1).f0.f2.f4), .int .i64 ((qA y167 x7_1).f0.f2.f5)], .int .i64 x8_2] (by rfl) rfl rfl gA ?_
          with_reducible refine (qpA.calls a0_0 a0_1 _ _ l0_2 ((qA y167 x7_1).f0.f0) ((qA y167 x7_1).f0.f1) ((qA y167 x7_1).f0.f2.f0) ((qA y167 x7_1).f0.f2.f1) ((qA y167 x7_1).f0.f2.f2) ((qA y167 x7_1).f0.f2.f3) ((qA y167 x7_1).f0.f2.f4) ((qA y167 x7_1).f0.f2.f5) x8_2 t169 t170 t171 t172 t173 t174 t175 t176 true _ ?side1 ?side2 A22.out).mono ?_
          (case side1 => repeat (first | exact (Kd.qPA HR0_2.out HB.out) | (with_reducible refine Kd.qc ?_ _) | (with_reducible refine Kd.qb ?_ _) | (with_reducible refine Kd.qu ?_)))
          (case side2 => exact HC0_2.out)
          rintro e w31 ⟨rfl, hb⟩
          have HS3_ := (hb.cell (World.block_lt_of_cell? _ _ (hHeld.2.2.2.1))).trans (hHeld.2.2.2.1)
          have HS4_ := (hb.cell (World.block_lt_of_cell? _ _ (hHeld.2.2.2.2.1))).trans (hHeld.2.2.2.2.1)
          have HS5_ := (hb.cell (World.block_lt_of_cell? _ _ (hHeld.2.2.2.2.2.1))).trans (hHeld.2.2.2.2.2.1)
          have HS6_ := (hb.cell (World.block_lt_of_cell? _ _ (hHeld.2.2.2.2.2.2.1))).trans (hHeld.2.2.2.2.2.2.1)
          have HS7_ := (hb.cell (World.block_lt_of_cell? _ _ (hHeld.2.2.2.2.2.2.2.1))).trans (hHeld.2.2.2.2.2.2.2.1)
          have HS8_ := (hb.cell (World.block_lt_of_cell? _ _ (hHeld.2.2.2.2.2.2.2.2.1))).trans (hHeld.2.2.2.2.2.2.2.2.1)
          have HS9_ := (hb.cell (World.block_lt_of_cell? _ _ (hHeld.2.2.2.2.2.2.2.2.2.1))).trans (hHeld.2.2.2.2.2.2.2.2.2.1)
          have HS10_ := (hb.cell (World.block_lt_of_cell? _ _ (hHeld.2.2.2.2.2.2.2.2.2.2.1))).trans (hHeld.2.2.2.2.2.2.2.2.2.2.1)
          have HS11_ := (hb.cell (World.block_lt_of_cell? _ _ (hHeld.2.2.2.2.2.2.2.2.2.2.2.1))).trans (hHeld.2.2.2.2.2.2.2.2.2.2.2.1)
          have HS12_ := (hb.cell (World.block_lt_of_cell? _ _ (hHeld.2.2.2.2.2.2.2.2.2.2.2.2.1))).trans (hHeld.2.2.2.2.2.2.2.2.2.2.2.2.1)
          have HS13_ := (hb.cell (World.block_lt_of_cell? _ _ (hHeld.2.2.2.2.2.2.2.2.2.2.2.2.2.1))).trans (hHeld.2.2.2.2.2.2.2.2.2.2.2.2.2.1)
          have HS14_ := (hb.cell (World.block_lt_of_cell? _ _ (hHeld.2.2.2.2.2.2.2.2.2.2.2.2.2.2.1))).trans (hHeld.2.2.2.2.2.2.2.2.2.2.2.2.2.2.1)
          have HS15_ := (hb.cell (World.block_lt_of_cell? _ _ (hHeld.2.2.2.2.2.2.2.2.2.2.2.2.2.2.2.1))).trans (hHeld.2.2.2.2.2.2.2.2.2.2.2.2.2.2.2.1)
          have HS16_ := (hb.cell (World.block_lt_of_cell? _ _ (hHeld.2.2.2.2.2.2.2.2.2.2.2.2.2.2.2.2.1))).trans (hHeld.2.2.2.2.2.2.2.2.2.2.2.2.2.2.2.2.1)
          have HS17_ := (hb.cell (World.block_lt_of_cell? _ _ (hHeld.2.2.2.2.2.2.2.2.2.2.2.2.2.2.2.2.2.1))).trans (hHeld.2.2.2.2.2.2.2.2.2.2.2.2.2.2.2.2.2.1)
          have HS18_ := (hb.cell (World.block_lt_of_cell? _ _ (hHeld.2.2.2.2.2.2.2.2.2.2.2.2.2.2.2.2.2.2))).trans (hHeld.2.2.2.2.2.2.2.2.2.2.2.2.2.2.2.2.2.2)
          refine ⟨_, rfl, ?_⟩
          replace HO_5 := aM (Kd.qj (rR HO_5) hb)
          replace HO_6 := aM (Kd.qj (rR HO_6) hb)
          replace BK158 := aM (bb BK158 hb)
          replace BK159 := aM (bb BK159 hb)
          replace BK178 := aM (bb BK178 hb)
          replace HB := aM (qB bl hb); (try clear hb); (try clear hb2); (try clear hk); (try clear hi)
          refine hK.out _ _ ⟨bc BK158 0, bc BK158 1, bc BK158 2, HS3_, HS4_, HS5_, HS6_, HS7_, HS8_, HS9_, HS10_, HS11_, HS12_, HS13_, HS14_, HS15_, HS16_, HS17_, HS18_⟩ (fun hHeld => ?_)
          clear hK K
          refine norm_ (a' := ?_) ?_ ?_
          rotate_left
          ·show Act.put _ (some 43) _ = _
           simp only [Act.put, List.setIfInBounds_toArray, List.set_cons_zero, List.set_cons_succ, i64_w, i32_w]
           rfl
          refine pS (i := 8) (N := some 35) #[true, true, true, true, true, true, true, true, true, false, false, true, false, false] HT_ ?_
          refine pS (i := 9) (N := some 44) #[true, true, true, true, true, true, true, true, true, true, false, true, false, false] HT_ ?_
          refine pS (i := 10) (N := some 45) #[true, true, true, true, true, true, true, true, true, true, true, true, false, false] HT_ ?_
          exact norm_ (by simp only [putAll, Act.put, List.setIfInBounds_toArray, List.set_cons_zero, List.set_cons_succ]) (hCont (gb178) _ ⟨hHeld, (rR HO_5), (rR HO_6), (rB BK158), (rB BK159), (rB BK178), GW178.out, GE178.out, NB158_178.out, NB178_158.out, NB159_178.out, NB178_159.out, bl⟩)
        rintro gb178 w32 ⟨hS_, h0_, h1_, h2_, h3_, h4_, h5_, h6_, h7_, h8_, h9_, h10_, h11_⟩
        have n0_ : Aside0 (Kd.R k68 68 w32 w.heap.size (fun _ => True) (.slice (some ⟨go20, 0, none⟩) x5_2.length co20) y167) := ⟨h0_⟩
        have n1_ : Aside0 (Kd.R (Kd.int .i64) 3 w32 w.heap.size (fun _ => True) u6 x6_2) := ⟨h1_⟩
        have n2_ : Aside0 (w32.heap[gb158]? = some (.cells #[.int .i64 a0_0, .int .i64 a0_1, .slice A0_2 l0_2.length c0_2] 61 (0, 0))) := ⟨h2_⟩
        have n3_ : Aside0 (w32.heap[gb159]? = some (.cells #[.int .i64 a1_0, .int .i64 a1_1, .int .i64 a1_2, .int .i64 a1_3, .int .i64 a1_4, .int .i64 a1_5, .int .i64 a1_6, .int .i64 a1_7] 31 (0, 0))) := ⟨h3_⟩
        have n4_ : Aside0 (w32.heap[gb178]? = some (.cells #[.int .i64 0, .int .i64 0, .int .i64 0, .int .i64 0, .int .i64 0, .int .i64 0, .int .i64 0, .int .i64 0] 31 (0, 0))) := ⟨h4_⟩
        have n5_ : Aside0 (w.heap.size ≤ gb178) := ⟨h5_⟩
        have n6_ : Aside0 (w.heap.size ≤ gb178) := ⟨h6_⟩
        have n7_ : Aside0 (gb158 ≠ gb178) := ⟨h7_⟩
        have n8_ : Aside0 (gb178 ≠ gb158) := ⟨h8_⟩
        have n9_ : Aside0 (gb159 ≠ gb178) := ⟨h9_⟩
        have n10_ : Aside0 (gb178 ≠ gb159) := ⟨h10_⟩
        have n11_ : Aside0 (Below w.heap.size w w32) := ⟨h11_⟩
        clear HO_5 HO_6 BK158 BK159 HB h0_ h1_ h2_ h3_ h4_ h5_ h6_ h7_ h8_ h9_ h10_ h11_
        have HO_5 := n0_
        have HO_6 := n1_
        have BK158 := n2_
        have BK159 := n3_
        have BK178 := n4_
        have GW178 := n5_
        have GE178 := n6_
        have NB158_178 := n7_
        have NB178_158 := n8_
        have NB159_178 := n9_
        have NB178_159 := n10_
        have HB := n11_
        clear n0_ n1_ n2_ n3_ n4_ n5_ n6_ n7_ n8_ n9_ n10_ n11_
        have hHeld : w32.cell? ⟨gb158, 0, none⟩ = some (.int .i64 a0_0) ∧ w32.cell? ⟨gb158, 1, none⟩ = some (.int .i64 a0_1) ∧ w32.cell? ⟨gb158, 2, none⟩ = some (.slice A0_2 l0_2.length c0_2) ∧ w32.cell? ⟨go20, (x7_1).toNat * 16, none⟩ = some (.int .i64 ((qA y167 x7_1).f0.f0)) ∧ w32.cell? ⟨go20, (x7_1).toNat * 16 + 1, none⟩ = some (.int .i64 ((qA y167 x7_1).f0.f1)) ∧ w32.cell? ⟨go20, (x7_1).toNat * 16 + 2, none⟩ = some (.int .i64 ((qA y167 x7_1).f0.f2.f0)) ∧ w32.cell? ⟨go20, (x7_1).toNat * 16 + 3, none⟩ = some (.int .i64 ((qA y167 x7_1).f0.f2.f1)) ∧ w32.cell? ⟨go20, (x7_1).toNat * 16 + 4, none⟩ = some (.int .i64 ((qA y167 x7_1).f0.f2.f2)) ∧ w32.cell? ⟨go20, (x7_1).toNat * 16 + 5, none⟩ = some (.int .i64 ((qA y167 x7_1).f0.f2.f3)) ∧ w32.cell? ⟨go20, (x7_1).toNat * 16 + 6, none⟩ = some (.int .i64 ((qA y167 x7_1).f0.f2.f4)) ∧ w32.cell? ⟨go20, (x7_1).toNat * 16 + 7, none⟩ = some (.int .i64 ((qA y167 x7_1).f0.f2.f5)) ∧ w32.cell? ⟨go20, (x7_1).toNat * 16 + 8, none⟩ = some (.int .i64 ((qA y167 x7_1).f1)) ∧ w32.cell? ⟨go20, (x7_1).toNat * 16 + 9, none⟩ = some (.int .i64 ((qA y167 x7_1).f2)) ∧ w32.cell? ⟨go20, (x7_1).toNat * 16 + 10, none⟩ = some (.int .i64 ((qA y167 x7_1).f3)) ∧ w32.cell? ⟨go20, (x7_1).toNat * 16 + 11, none⟩ = some (.int .i64 ((qA y167 x7_1).f4)) ∧ w32.cell? ⟨go20, (x7_1).toNat * 16 + 12, none⟩ = some (.int .i64 ((qA y167 x7_1).f5.f0)) ∧ w32.cell? ⟨go20, (x7_1).toNat * 16 + 13, none⟩ = some (.int .i64 ((qA y167 x7_1).f5.f1)) ∧ w32.cell? ⟨go20, (x7_1).toNat * 16 + 14, none⟩ = some (.int .i64 ((qA y167 x7_1).f5.f2)) ∧ w32.cell? ⟨go20, (x7_1).toNat * 16 + 15, none⟩ = some (.int .i64 ((qA y167 x7_1).f5.f3)) := hS_
        refine norm_ (a' := ?_) ?_ ?_
        rotate_left
        ·simp only [putAll, Act.put, List.setIfInBounds_toArray, List.set_cons_zero, List.set_cons_succ]
         rfl
        refine one_ (i := 12) (N := none) #[true, true, true, true, true, true, true, true, true, true, true, true, true, false] rfl rfl (qrA HT_.out (by kernel_rfl)) (by decide) (fun K hK => ?_)
        have hs33 : w32.cell? ⟨gb178, 0, none⟩ = some (.int .i64 0) := bc BK178 0
        have hfs33 := qJ BK178.out 0
        have hns33_0 := NB158_178.out
        have hns33_1 := NB159_178.out
        have hms33_0 := NB178_158.out
        have hms33_1 := NB178_159.out
        have hs34 : w32.cell? ⟨gb178, 1, none⟩ = some (.int .i64 0) := bc BK178 1
        have hfs34 := qJ BK178.out 1
        have hns34_0 := NB158_178.out
        have hns34_1 := NB159_178.out
        have hms34_0 := NB178_158.out
        have hms34_1 := NB178_159.out
        have hs35 : w32.cell? ⟨gb178, 2, none⟩ = some (.int .i64 0) := bc BK178 2
        have hfs35 := qJ BK178.out 2
        have hns35_0 := NB158_178.out
        have hns35_1 := NB159_178.out
        have hms35_0 := NB178_158.out
        have hms35_1 := NB178_159.out
        have hs36 : w32.cell? ⟨gb178, 3, none⟩ = some (.int .i64 0) := bc BK178 3
        have hfs36 := qJ BK178.out 3
        have hns36_0 := NB158_178.out
        have hns36_1 := NB159_178.out
        have hms36_0 := NB178_158.out
        have hms36_1 := NB178_159.out
        have hs37 : w32.cell? ⟨gb178, 4, none⟩ = some (.int .i64 0) := bc BK178 4
        have hfs37 := qJ BK178.out 4
        have hns37_0 := NB158_178.out
        have hns37_1 := NB159_178.out
        have hms37_0 := NB178_158.out
        have hms37_1 := NB178_159.out
        have hs38 : w32.cell? ⟨gb178, 5, none⟩ = some (.int .i64 0) := bc BK178 5
        have hfs38 := qJ BK178.out 5
        have hns38_0 := NB158_178.out
        have hns38_1 := NB159_178.out
        have hms38_0 := NB178_158.out
        have hms38_1 := NB178_159.out
        have hs39 : w32.cell? ⟨gb178, 6, none⟩ = some (.int .i64 0) := bc BK178 6
        have hfs39 := qJ BK178.out 6
        have hns39_0 := NB158_178.out
        have hns39_1 := NB159_178.out
        have hms39_0 := NB178_158.out
        have hms39_1 := NB178_159.out
        have hs40 : w32.cell? ⟨gb178, 7, none⟩ = some (.int .i64 0) := bc BK178 7
        have hfs40 := qJ BK178.out 7
        have hns40_0 := NB158_178.out
        have hns40_1 := NB159_178.out
        have hms40_0 := NB178_158.out
        have hms40_1 := NB178_159.out
        refine skip_ (w1 := ?_) (by rfl) rfl ?_ ?_
        rotate_left
        ·refine wyStore_ (.tmp 9) (.tmp 44) gb178 ?y0 ?y1 ?y2 ?y3 ?y4 ?y5 ?y6 ?y7 ?ha ?hb ?hc hs33 hs34 hs35 hs36 hs37 hs38 hs39 hs40 (qJ BK178.out); (case ha => rfl); (case hb => rfl); (case hc => rfl)
        have hne_ := Kd.qVD (Kd.R_ne HO_5.out BK178.out (by decide))
        refine hK.out _ _ ⟨far8_ NB158_178.out hHeld.1, far8_ NB158_178.out hHeld.2.1, far8_ NB158_178.out hHeld.2.2.1, far8_ hne_ hHeld.2.2.2.1, far8_ hne_ hHeld.2.2.2.2.1, far8_ hne_ hHeld.2.2.2.2.2.1, far8_ hne_ hHeld.2.2.2.2.2.2.1, far8_ hne_ hHeld.2.2.2.2.2.2.2.1, far8_ hne_ hHeld.2.2.2.2.2.2.2.2.1, far8_ hne_ hHeld.2.2.2.2.2.2.2.2.2.1, far8_ hne_ hHeld.2.2.2.2.2.2.2.2.2.2.1, far8_ hne_ hHeld.2.2.2.2.2.2.2.2.2.2.2.1, far8_ hne_ hHeld.2.2.2.2.2.2.2.2.2.2.2.2.1, far8_ hne_ hHeld.2.2.2.2.2.2.2.2.2.2.2.2.2.1, far8_ hne_ hHeld.2.2.2.2.2.2.2.2.2.2.2.2.2.2.1, far8_ hne_ hHeld.2.2.2.2.2.2.2.2.2.2.2.2.2.2.2.1, far8_ hne_ hHeld.2.2.2.2.2.2.2.2.2.2.2.2.2.2.2.2.1, far8_ hne_ hHeld.2.2.2.2.2.2.2.2.2.2.2.2.2.2.2.2.2.1, far8_ hne_ hHeld.2.2.2.2.2.2.2.2.2.2.2.2.2.2.2.2.2.2⟩ (fun hHeld => ?_)
        clear hne_ hK K
        refine pS (i := 13) (N := some 10) #[true, true, true, true, true, true, true, true, true, true, true, true, true, true] HT_ ?_
        refine done_ (qHB HT_.out (by kernel_rfl)) ?_
        have hnb41 := NB158_159.out
        have hnc41 := NB159_158.out
        have hnb42 := NB158_178.out
        have hnc42 := NB178_158.out
        (refine cb3 BK158 ?_; intro hcz43_0 hcz43_1 hcz43_2)
        (refine cz3 BK158 ?_; intro hfz43_0 hfz43_1 hfz43_2)
        have hnb44 := NB178_159.out
        have hnc44 := NB159_178.out
        (refine cb8 BK178 ?_; intro hcz45_0 hcz45_1 hcz45_2 hcz45_3 hcz45_4 hcz45_5 hcz45_6 hcz45_7)
        (refine cz8 BK178 ?_; intro hfz45_0 hfz45_1 hfz45_2 hfz45_3 hfz45_4 hfz45_5 hfz45_6 hfz45_7)
        go_upto_if 54 with (first | ((with_reducible refine qF (f := 39) rfl ?_); refine qh (some 51) rfl rfl Tryz.func39 (by kernel_rfl) rfl #[.agg #[.int .i64 a0_0, .int .i64 a0_1, .slice A0_2 l0_2.length c0_2], .agg #[.int .i64 t169, .int .i64 t170, .int .i64 t171, .int .i64 t172, .int .i64 t173, .int .i64 t174, .int .i64 t175, .int .i64 t176]] rfl gA ?_; (with_reducible refine (qv.calls k2 a0_0 a0_1 _ _ l0_2 t169 t170 t171 t172 t173 t174 t175 t176 t179 _ ?side1 ?side2 A24.out).mono ?_); (case side1 => exact Kd.qPA HR0_2.out bl); (case side2 => exact HC0_2.out); rintro e w46 ⟨rfl, hb⟩; refine ⟨_, rfl, ?_⟩; replace HO_5 := aM (Kd.qj (by (with_reducible repeat (first | apply Kd.qR | apply Kd.qU | apply Kd.qQ)); exact (Kd.qY (Kd.R_far (p := ⟨gb178, 7, none⟩) (Kd.R_far (p := ⟨gb178, 6, none⟩) (Kd.R_far (p := ⟨gb178, 5, none⟩) (Kd.R_far (p := ⟨gb178, 4, none⟩) (Kd.R_far (p := ⟨gb178, 3, none⟩) (Kd.R_far (p := ⟨gb178, 2, none⟩) (Kd.R_far (p := ⟨gb178, 1, none⟩) (Kd.R_far (p := ⟨gb178, 0, none⟩) (Kd.qlA HO_5.out BK178.out (by decide)) (fun _ hk => hk.2) (.int .i64 t169)) (fun _ hk => hk.2) (.int .i64 t170)) (fun _ hk => hk.2) (.int .i64 t171)) (fun _ hk => hk.2) (.int .i64 t172)) (fun _ hk => hk.2) (.int .i64 t173)) (fun _ hk => hk.2) (.int .i64 t174)) (fun _ hk => hk.2) (.int .i64 t175)) (fun _ hk => hk.2) (.int .i64 t176)) (fun _ h_ => h_.1))) hb); replace HO_6 := aM (Kd.qj (by (with_reducible repeat (first | apply Kd.qR | apply Kd.qU | apply Kd.qQ)); exact (Kd.qY (Kd.R_far (p := ⟨gb178, 7, none⟩) (Kd.R_far (p := ⟨gb178, 6, none⟩) (Kd.R_far (p := ⟨gb178, 5, none⟩) (Kd.R_far (p := ⟨gb178, 4, none⟩) (Kd.R_far (p := ⟨gb178, 3, none⟩) (Kd.R_far (p := ⟨gb178, 2, none⟩) (Kd.R_far (p := ⟨gb178, 1, none⟩) (Kd.R_far (p := ⟨gb178, 0, none⟩) (Kd.qlA HO_6.out BK178.out (by decide)) (fun _ hk => hk.2) (.int .i64 t169)) (fun _ hk => hk.2) (.int .i64 t170)) (fun _ hk => hk.2) (.int .i64 t171)) (fun _ hk => hk.2) (.int .i64 t172)) (fun _ hk => hk.2) (.int .i64 t173)) (fun _ hk => hk.2) (.int .i64 t174)) (fun _ hk => hk.2) (.int .i64 t175)) (fun _ hk => hk.2) (.int .i64 t176)) (fun _ h_ => h_.1))) hb); replace BK158 := aM (qWA (g := gb158) (o := .cells #[.int .i64 a0_0, .int .i64 a0_1, .slice A0_2 l0_2.length c0_2] 61 (0, 0)) (bF BK158 NB158_178) hb); replace BK159 := aM (qWA (g := gb159) (o := .cells #[.int .i64 a1_0, .int .i64 a1_1, .int .i64 a1_2, .int .i64 a1_3, .int .i64 a1_4, .int .i64 a1_5, .int .i64 a1_6, .int .i64 a1_7] 31 (0, 0)) (bF BK159 NB159_178) hb); replace BK178 := aM (qWA (g := gb178) (o := .cells #[.int .i64 t169, .int .i64 t170, .int .i64 t171, .int .i64 t172, .int .i64 t173, .int .i64 t174, .int .i64 t175, .int .i64 t176] 31 (0, 0)) (by (with_reducible repeat (first | refine qL ?_ _ | refine qH ?_ | refine qK ?_ _)); exact bP8 BK178) hb); replace HB := aM (qB bl hb); (try clear hb); (try clear hb2); (try clear hk); (try clear hi); obtain ⟨Ao47, co47, eo47⟩ := Kd.qi HO_6.out; subst eo47) | ((with_reducible refine qF (f := 41) rfl ?_); refine qh (some 52) rfl rfl Tryz.func41 (by kernel_rfl) rfl #[.slice Ao47 x6_2.length co47, .int .i64 t179] rfl gA ?_; (with_reducible refine (qJA.calls k2 _ _ x6_2 t179 t180 _ ?side1 ?side2 A25.out).mono ?_); (case side1 => repeat (first | exact (Kd.qE HO_6.out).2.2 | (with_reducible refine Kd.qc ?_ _) | (with_reducible refine Kd.qb ?_ _) | (with_reducible refine Kd.qu ?_))); (case side2 => exact (Kd.qE HO_6.out).2.1); rintro e w' ⟨rfl, ⟨nd, rfl⟩⟩; refine ⟨_, rfl, ?_⟩))
        (try simp only [Act.put, List.setIfInBounds_toArray, List.set_cons_zero, List.set_cons_succ])
        go_cut [5, 6, 11] (fun v5 v6 v11 wc => ∃ (kq : Nat) (x5_25 : List (S68)) (x6_25 : List Int) (x11_25 : Int), v11 = .int .i64 x11_25 ∧ Aside0 (qI.j2 kq x5_25 x6_25 x7_1 x8_2 x11_25 a0_0 a0_1 l0_2 = some r) ∧ Aside0 (kq ≤ k2) ∧ Aside0 (Kd.R k68 68 wc w.heap.size (fun _ => True) v5 x5_25) ∧ Aside0 (Kd.R (Kd.int .i64) 3 wc w.heap.size (fun _ => True) v6 x6_25) ∧ Aside0 (wc.heap[gb158]? = some (.cells #[.int .i64 a0_0, .int .i64 a0_1, (.slice A0_2 l0_2.length c0_2)] 61 (0, 0))) ∧ Aside0 (wc.heap[gb159]? = some (.cells #[.int .i64 a1_0, .int .i64 a1_1, .int .i64 a1_2, .int .i64 a1_3, .int .i64 a1_4, .int .i64 a1_5, .int .i64 a1_6, .int .i64 a1_7] 31 (0, 0))) ∧ Aside0 (wc.heap[gb178]? = some (.cells #[.int .i64 t169, .int .i64 t170, .int .i64 t171, .int .i64 t172, .int .i64 t173, .int .i64 t174, .int .i64 t175, .int .i64 t176] 31 (0, 0))) ∧ Aside0 (Below w.heap.size w wc))
        case first =>
         have H := HC26.out
         clear HC26
         replace HO_5 := aM (Kd.qU HO_5.out nd)
         replace HO_6 := aM (Kd.qU HO_6.out nd)
         replace BK158 := aM (qL BK158.out nd)
         replace BK159 := aM (qL BK159.out nd)
         replace BK178 := aM (qL BK178.out nd)
         replace HB := aM (qVA HB.out nd)
         generalize w46.drewN nd = wz_ at HO_5 HO_6 BK158 BK159 BK178 HB ⊢
         by_cases c48 : t180 < 0
         ·rw [if_pos c48] at H
          have c48b0 := decide_eq_true c48
          clear c48
          (first | rw [c48b0] | (simp only [i64_w, i32_w]; rw [c48b0]) | skip)
          by_cases c49 : y167.length < 1099511627776
          case neg => exact nN c49 H
          rw [if_pos c49] at H
          have LMc49 := aM c49
          clear c49
          obtain ⟨y182, hy182⟩ : ∃ y_ : List (S68), y_ = (y167 ++ [(⟨(⟨t169, t170, (⟨t171, t172, t173, t174, t175, t176⟩ : S29)⟩ : S31), wrap64 (((qA y167 x7_1).f1) + 1), 0, x7_1, x8_2, (⟨0, 0, 0, 0⟩ : S66)⟩ : S68)]) := ⟨_, rfl⟩
          replace H : ((qv.f k2 a0_0 a0_1 l0_2 t169 t170 t171 t172 t173 t174 t175 t176).bind fun t185 => (if x6_2.length < 17592186044416 then (qI.j2 k2 y182 (x6_2 ++ [t185]) x7_1 x8_2 (x5_2.length : Int) a0_0 a0_1 l0_2) else (none))) = some r := by first | (rw [hy182]; with_reducible exact H) | (have H2_ := (Option.bind_some _ _).symm.trans H; rw [hy182]; with_reducible exact H2_) | (have H2_ := (Option.bind_some _ _).symm.trans H; with_reducible exact H2_) | with_reducible exact H | (rw [hy182]; exact H) | exact H
          have Ny182 := aM hy182
          clear hy182
          replace H := bO H
          obtain ⟨t185, A50, H⟩ := H
          by_cases c51 : x6_2.length < 17592186044416
          case neg => exact nN c51 H
          rw [if_pos c51] at H
          have LMc51 := aM c51
          clear c51
          obtain ⟨y186, hy186⟩ : ∃ y_ : List Int, y_ = (x6_2 ++ [t185]) := ⟨_, rfl⟩
          replace H : (qI.j2 k2 y182 y186 x7_1 x8_2 (x5_2.length : Int) a0_0 a0_1 l0_2) = some r := by first | (rw [hy186]; with_reducible exact H) | (have H2_ := (Option.bind_some _ _).symm.trans H; rw [hy186]; with_reducible exact H2_) | (have H2_ := (Option.bind_some _ _).symm.trans H; with_reducible exact H2_) | with_reducible exact H | (rw [hy186]; exact H) | exact H
          have Ny186 := aM hy186
          clear hy186
          have H' := aM H
          clear H
          try go_wp2
          replace HO_5 := aM (Kd.qQ HO_5.out)
          replace HO_6 := aM (Kd.qQ HO_6.out)
          replace BK158 := aM (qH BK158.out)
          replace BK159 := aM (qH BK159.out)
          replace BK178 := aM (qH BK178.out)
          replace HB := aM (qm HB.out)
          have p181 : 0 ≤ (x7_1 : Int) := of_decide_eq_true am
          have q181 : x7_1 < (y167.length : Int) := (by have h_ : (x7_1 : Int) < ((x5_2.length : Int) : Int) := of_decide_eq_true am; first | (have e_ := (Kd.qE HO_5.out).1; omega) | simpa only [Ny167.out, List.length_set] using h_)
          have ql181 : ((x7_1 : Int) < ((x5_2.length : Int) : Int)) = True := eq_true (of_decide_eq_true am)
          obtain ⟨ad181, e181, hx181_0, hx181_1, hx181_2, hx181_3, hx181_4, hx181_5, hx181_6, hx181_7, hx181_8, hx181_9, hx181_10, hx181_11, hx181_12, hx181_13, hx181_14, hx181_15⟩ := qHC (Kd.qE HO_5.out).2.2 x7_1 p181 q181
          obtain rfl : (⟨go20, 0, none⟩ : Addr) = ad181 := (by injection e181)
          (first | simp only [qC] at hx181_0 | simp only [qLA] at hx181_0 | simp only [Addr.add, Nat.zero_add] at hx181_0 | skip)
          (first | simp only [qC] at hx181_1 | simp only [qLA] at hx181_1 | simp only [Addr.add, Nat.zero_add] at hx181_1 | skip)
          (first | simp only [qC] at hx181_2 | simp only [qLA] at hx181_2 | simp only [Addr.add, Nat.zero_add] at hx181_2 | skip)
          (first | simp only [qC] at hx181_3 | simp only [qLA] at hx181_3 | simp only [Addr.add, Nat.zero_add] at hx181_3 | skip)
          (first | simp only [qC] at hx181_4 | simp only [qLA] at hx181_4 | simp only [Addr.add, Nat.zero_add] at hx181_4 | skip)
          (first | simp only [qC] at hx181_5 | simp only [qLA] at hx181_5 | simp only [Addr.add, Nat.zero_add] at hx181_5 | skip)
          (first | simp only [qC] at hx181_6 | simp only [qLA] at hx181_6 | simp only [Addr.add, Nat.zero_add] at hx181_6 | skip)
          (first | simp only [qC] at hx181_7 | simp only [qLA] at hx181_7 | simp only [Addr.add, Nat.zero_add] at hx181_7 | skip)
          (first | simp only [qC] at hx181_8 | simp only [qLA] at hx181_8 | simp only [Addr.add, Nat.zero_add] at hx181_8 | skip)
          (first | simp only [qC] at hx181_9 | simp only [qLA] at hx181_9 | simp only [Addr.add, Nat.zero_add] at hx181_9 | skip)
          (first | simp only [qC] at hx181_10 | simp only [qLA] at hx181_10 | simp only [Addr.add, Nat.zero_add] at hx181_10 | skip)
          (first | simp only [qC] at hx181_11 | simp only [qLA] at hx181_11 | simp only [Addr.add, Nat.zero_add] at hx181_11 | skip)
          (first | simp only [qC] at hx181_12 | simp only [qLA] at hx181_12 | simp only [Addr.add, Nat.zero_add] at hx181_12 | skip)
          (first | simp only [qC] at hx181_13 | simp only [qLA] at hx181_13 | simp only [Addr.add, Nat.zero_add] at hx181_13 | skip)
          (first | simp only [qC] at hx181_14 | simp only [qLA] at hx181_14 | simp only [Addr.add, Nat.zero_add] at hx181_14 | skip)
          (first | simp only [qC] at hx181_15 | simp only [qLA] at hx181_15 | simp only [Addr.add, Nat.zero_add] at hx181_15 | skip)
          replace p181 := eq_true p181
          replace q181 := eq_true q181
          refine qAB (n := 14) (S := fun w' => w'.cell? ⟨gb178, 0, none⟩ = some (.int .i64 t169) ∧ w'.cell? ⟨gb178, 1, none⟩ = some (.int .i64 t170) ∧ w'.cell? ⟨gb178, 2, none⟩ = some (.int .i64 t171) ∧ w'.cell? ⟨gb178, 3, none⟩ = some (.int .i64 t172) ∧ w'.cell? ⟨gb178, 4, none⟩ = some (.int .i64 t173) ∧ w'.cell? ⟨gb178, 5, none⟩ = some (.int .i64 t174) ∧ w'.cell? ⟨gb178, 6, none⟩ = some (.int .i64 t175) ∧ w'.cell? ⟨gb178, 7, none⟩ = some (.int .i64 t176) ∧ w'.cell? ⟨go20, (x7_1).toNat * 16, none⟩ = some (.int .i64 ((qA y167 x7_1).f0.f0)) ∧ w'.cell? ⟨go20, (x7_1).toNat * 16 + 1, none⟩ = some (.int .i64 ((qA y167 x7_1).f0.f1)) ∧ w'.cell? ⟨go20, (x7_1).toNat * 16 + 2, none⟩ = some (.int .i64 ((qA y167 x7_1).f0.f2.f0)) ∧ w'.cell? ⟨go20, (x7_1).toNat * 16 + 3, none⟩ = some (.int .i64 ((qA y167 x7_1).f0.f2.f1)) ∧ w'.cell? ⟨go20, (x7_1).toNat * 16 + 4, none⟩ = some (.int .i64 ((qA y167 x7_1).f0.f2.f2)) ∧ w'.cell? ⟨go20, (x7_1).toNat * 16 + 5, none⟩ = some (.int .i64 ((qA y167 x7_1).f0.f2.f3)) ∧ w'.cell? ⟨go20, (x7_1).toNat * 16 + 6, none⟩ = some (.int .i64 ((qA y167 x7_1).f0.f2.f4)) ∧ w'.cell? ⟨go20, (x7_1).toNat * 16 + 7, none⟩ = some (.int .i64 ((qA y167 x7_1).f0.f2.f5)) ∧ w'.cell? ⟨go20, (x7_1).toNat * 16 + 8, none⟩ = some (.int .i64 ((qA y167 x7_1).f1)) ∧ w'.cell? ⟨go20, (x7_1).toNat * 16 + 9, none⟩ = some (.int .i64 ((qA y167 x7_1).f2)) ∧ w'.cell? ⟨go20, (x7_1).toNat * 16 + 10, none⟩ = some (.int .i64 ((qA y167 x7_1).f3)) ∧ w'.cell? ⟨go20, (x7_1).toNat * 16 + 11, none⟩ = some (.int .i64 ((qA y167 x7_1).f4)) ∧ w'.cell? ⟨go20, (x7_1).toNat * 16 + 12, none⟩ = some (.int .i64 ((qA y167 x7_1).f5.f0)) ∧ w'.cell? ⟨go20, (x7_1).toNat * 16 + 13, none⟩ = some (.int .i64 ((qA y167 x7_1).f5.f1)) ∧ w'.cell? ⟨go20, (x7_1).toNat * 16 + 14, none⟩ = some (.int .i64 ((qA y167 x7_1).f5.f2)) ∧ w'.cell? ⟨go20, (x7_1).toNat * 16 + 15, none⟩ = some (.int .i64 ((qA y167 x7_1).f5.f3))) (ds := [11, 12]) #[false, false, false, false, false, false, false, false, false, false, false, false, false, false] (by kernel_rfl) rfl rfl ⟨bc BK178 0, bc BK178 1, bc BK178 2, bc BK178 3, bc BK178 4, bc BK178 5, bc BK178 6, bc BK178 7, hx181_0, hx181_1, hx181_2, hx181_3, hx181_4, hx181_5, hx181_6, hx181_7, hx181_8, hx181_9, hx181_10, hx181_11, hx181_12, hx181_13, hx181_14, hx181_15⟩ (fun hHeld => ?_); refine qMA qI.tab15 qI.bits15 (fun HT_ HW_ => ?_)
          generalize wz_.drew = w52 at HO_5 HO_6 BK158 BK159 BK178 HB hx181_0 hx181_1 hx181_10 hx181_11 hx181_12 hx181_13 hx181_14 hx181_15 hx181_2 hx181_3 hx181_4 hx181_5 hx181_6 hx181_7 hx181_8 hx181_9 hHeld ⊢
          refine pS (i := 0) (N := some 57) #[true, false, false, false, false, false, false, false, false, false, false, false, false, false] HT_ ?_
          refine pS (i := 2) (N := some 59) #[true, false, true, false, false, false, false, false, false, false, false, false, false, false] HT_ ?_
          refine pS (i := 3) (N := some 60) #[true, false, true, true, false, false, false, false, false, false, false, false, false, false] HT_ ?_
          refine pS (i := 4) (N := some 61) #[true, false, true, true, true, false, false, false, false, false, false, false, false, false] HT_ ?_
          refine pS (i := 5) (N := some 62) #[true, false, true, true, true, true, false, false, false, false, false, false, false, false] HT_ ?_
          refine pS (i := 8) (N := some 65) #[true, false, true, true, true, true, false, false, true, false, false, false, false, false] HT_ ?_
          refine pS (i := 9) (N := some 66) #[true, false, true, true, true, true, false, false, true, true, false, false, false, false] HT_ ?_
          refine tS (i := 1) (N := some 58) #[true, true, true, true, true, true, false, false, true, true, false, false, false, false] HT_ HW_ hHeld ?_
          refine tS (i := 6) (N := some 63) #[true, true, true, true, true, true, true, false, true, true, false, false, false, false] HT_ HW_ hHeld ?_
          refine pS (i := 7) (N := some 64) #[true, true, true, true, true, true, true, true, true, true, false, false, false, false] HT_ ?_
          refine pS (i := 10) (N := some 67) #[true, true, true, true, true, true, true, true, true, true, true, false, false, false] HT_ ?_
          refine last_ (i := 11) (N := some 68) #[true, true, true, true, true, true, true, true, true, true, true, true, false, false] rfl rfl (qrA HT_.out (by kernel_rfl)) (by decide) (fun K hK => ?_)
          refine qNA (w1 := ?_) (v := ?_) (by rfl) rfl ?_ ?_
          rotate_left 2
          ·go_simp
           constructor
           ·rfl
           ·rfl
          refine hK.out _ _ ?_
          clear hK K
          refine norm_ (a' := ?_) ?_ ?_
          rotate_left
          ·show Act.put _ (some 68) _ = _
           simp only [Act.put, List.setIfInBounds_toArray, List.set_cons_zero, List.set_cons_succ, i64_w, i32_w]
           rfl
          refine last_ (i := 12) (N := some 69) #[true, true, true, true, true, true, true, true, true, true, true, true, true, false] rfl rfl (qrA HT_.out (by kernel_rfl)) (by decide) (fun K hK => ?_)
          refine Kd.R_append_step k68 (w0 := w) w.heap.size (by rfl) (.tmp 57) (.tmp 68) 41 68 (.agg #[(.int .i64 0), (.int .i64 0), (.int .i64 0), (.int .i64 0), (.int .i64 0), (.int .i64 0), (.int .i64 0), (.int .i64 0), (.int .i64 0), (.int .i64 0), (.int .i64 0), (.int .i64 0), (.int .i64 0), (.int .i64 0), (.int .i64 0), (.int .i64 0)]) 128 rfl Tryz.underlying41 info68 rfl (by decide) (by omega) (.slice (some ⟨go20, 0, none⟩) x5_2.length co20) y167 (⟨(⟨t169, t170, (⟨t171, t172, t173, t174, t175, t176⟩ : S29)⟩ : S31), wrap64 (((qA y167 x7_1).f1) + 1), 0, x7_1, x8_2, (⟨0, 0, 0, 0⟩ : S66)⟩ : S68) [.int .i64 t169, .int .i64 t170, .int .i64 t171, .int .i64 t172, .int .i64 t173, .int .i64 t174, .int .i64 t175, .int .i64 t176, .int .i64 (wrap64 (((qA y167 x7_1).f1) + 1)), .int .i64 0, .int .i64 x7_1, .int .i64 x8_2, .int .i64 0, .int .i64 0, .int .i64 0, .int .i64 0] (fun _ => True) (fun _ => False) rfl rfl ?aP (fun _ hk => hk.elim) ?aF ?aO ?aB ?aS ?aL ?_
          (case aP => exact qOC _ _ _ (⟨(⟨t169, t170, (⟨t171, t172, t173, t174, t175, t176⟩ : S29)⟩ : S31), wrap64 (((qA y167 x7_1).f1) + 1), 0, x7_1, x8_2, (⟨0, 0, 0, 0⟩ : S66)⟩ : S68))
          (case aB => exact bl)
          (case aF => exact (fun _ _ => trivial))
          (case aO => exact (rR HO_5))
          (case aS => exact (qT bl))
          (case aL => have := LMc49.out; omega)
          intro v183 w53 ho hb hg hat
          rw [← Ny182.out] at ho
          have HO184 := aM (ho)
          replace HO_6 := aM (Kd.qoA (rR HO_6) (Kd.qeA (rR HO_5)) (by decide) hg)
          replace BK158 := aM (qf (rB BK158) hg (Kd.R_ne HO_5.out BK158.out (by decide)))
          replace BK159 := aM (qf (rB BK159) hg (Kd.R_ne HO_5.out BK159.out (by decide)))
          replace BK178 := aM (qf (rB BK178) hg (Kd.R_ne HO_5.out BK178.out (by decide)))
          replace HB := aM (hb)
          clear HO_5
          clear ho hb hg hat
          refine hK.out _ _ ?_
          clear hK K
          refine norm_ (a' := ?_) ?_ ?_
          rotate_left
          ·show Act.put _ (some 69) _ = _
           simp only [Act.put, List.setIfInBounds_toArray, List.set_cons_zero, List.set_cons_succ, i64_w, i32_w]
           rfl
          refine pS (i := 13) (N := some 5) #[true, true, true, true, true, true, true, true, true, true, true, true, true, true] HT_ ?_
          refine done_ (qHB HT_.out (by kernel_rfl)) ?_
          have hnb54 := NB158_159.out
          have hnc54 := NB159_158.out
          have hnb55 := NB158_178.out
          have hnc55 := NB178_158.out
          (refine cb3 BK158 ?_; intro hcz56_0 hcz56_1 hcz56_2)
          (refine cz3 BK158 ?_; intro hfz56_0 hfz56_1 hfz56_2)
          have hnb57 := NB178_159.out
          have hnc57 := NB159_178.out
          (refine cb8 BK178 ?_; intro hcz58_0 hcz58_1 hcz58_2 hcz58_3 hcz58_4 hcz58_5 hcz58_6 hcz58_7)
          (refine cz8 BK178 ?_; intro hfz58_0 hfz58_1 hfz58_2 hfz58_3 hfz58_4 hfz58_5 hfz58_6 hfz58_7)
          try go_wp2_with (first | ((with_reducible refine qF (f := 39) rfl ?_); refine qh (some 73) rfl rfl Tryz.func39 (by kernel_rfl) rfl #[.agg #[.int .i64 a0_0, .int .i64 a0_1, .slice A0_2 l0_2.length c0_2], .agg #[.int .i64 t169, .int .i64 t170, .int .i64 t171, .int .i64 t172, .int .i64 t173, .int .i64 t174, .int .i64 t175, .int .i64 t176]] rfl gA ?_; (with_reducible refine (qv.calls k2 a0_0 a0_1 _ _ l0_2 t169 t170 t171 t172 t173 t174 t175 t176 t185 _ ?side1 ?side2 A50.out).mono ?_); (case side1 => repeat (first | exact (Kd.qPA HR0_2.out HB.out) | (with_reducible refine Kd.qc ?_ _) | (with_reducible refine Kd.qb ?_ _) | (with_reducible refine Kd.qu ?_))); (case side2 => exact HC0_2.out); rintro e w59 ⟨rfl, hb⟩; refine ⟨_, rfl, ?_⟩; replace HO_6 := aM (Kd.qj (rR HO_6) hb); replace HO184 := aM (Kd.qj (rR HO184) hb); replace BK158 := aM (bb BK158 hb); replace BK159 := aM (bb BK159 hb); replace BK178 := aM (bb BK178 hb); replace HB := aM (qB bl hb); (try clear hb); (try clear hb2); (try clear hk); (try clear hi)) | ((with_reducible refine qdA (b := .append) (xs := #[.tmp 70, .tmp 74]) rfl ?_); at_builtin; refine Kd.qYC (Kd.int .i64) (w0 := w) w.heap.size rfl (.tmp 70) (.tmp 74) 26 3 (.int .i64 0) 8 rfl Tryz.underlying26 info3 rfl (by decide) (by omega) (.slice Ao47 x6_2.length co47) x6_2 t185 [.int .i64 t185] (fun _ => True) (fun _ => False) rfl rfl ?aP (fun _ hk => hk.elim) ?aF ?aO ?aB ?aS ?aL ?_; (case aP => exact rfl); (case aB => exact bl); (case aF => exact (fun _ _ => trivial)); (case aO => exact (rR HO_6)); (case aS => exact (qT bl)); (case aL => have := LMc51.out; omega); intro v187 w60 ho hb hg hat; rw [← Ny186.out] at ho; have HO188 := aM (ho); replace BK158 := aM (qf (rB BK158) hg (Kd.R_ne HO_6.out BK158.out (by decide))); replace BK159 := aM (qf (rB BK159) hg (Kd.R_ne HO_6.out BK159.out (by decide))); replace BK178 := aM (qf (rB BK178) hg (Kd.R_ne HO_6.out BK178.out (by decide))); replace HO184 := aM (Kd.qoA (rR HO184) (Kd.qeA (rR HO_6)) (by decide) hg); replace HB := aM (hb); clear HO_6; clear ho hb hg hat))
          go_meet
          case rel => exact ⟨_, (y182), (y186), ((x5_2.length : Int)), sD, H', ⟨by have := HK1.out; have := HK2.out; first | omega | exact Nat.le_refl _⟩, ⟨rR HO184⟩, ⟨rR HO188⟩, ⟨rB BK158⟩, ⟨rB BK159⟩, ⟨rB BK178⟩, ⟨bl⟩⟩
         ·rw [if_neg c48] at H
          have c48b0 := decide_eq_false c48
          clear c48
          (first | rw [c48b0] | (simp only [i64_w, i32_w]; rw [c48b0]) | skip)
          have H' := aM H
          clear H
          go_wp2
          go_meet
          case rel => exact ⟨_, (y167), (x6_2), (t180), sD, H', ⟨by have := HK1.out; have := HK2.out; first | omega | exact Nat.le_refl _⟩, ⟨rR HO_5⟩, ⟨rR HO_6⟩, ⟨rB BK158⟩, ⟨rB BK159⟩, ⟨rB BK178⟩, ⟨bl⟩⟩
        case rest =>
         clear HC26; (try clear p1); (try clear q1); (try clear hx1); (try clear p2); (try clear c3); (try clear c4); (try clear c5); (try clear p6); (try clear p18); (try clear q18); (try clear hx18); (try clear c39); (try clear c40); (try clear c41); (try clear c42); (try clear c44); (try clear c48); (try clear c48b0); (try clear c49); (try clear c51); (try clear c54); (try clear c55); (try clear c57); (try clear hcz43_0 hcz43_1 hcz43_2); (try clear hcz45_0 hcz45_1 hcz45_2 hcz45_3 hcz45_4 hcz45_5 hcz45_6 hcz45_7); (try clear hcz56_0 hcz56_1 hcz56_2); (try clear hcz58_0 hcz58_1 hcz58_2 hcz58_3 hcz58_4 hcz58_5 hcz58_6 hcz58_7); (try clear hfz43_0 hfz43_1 hfz43_2); (try clear hfz45_0 hfz45_1 hfz45_2 hfz45_3 hfz45_4 hfz45_5 hfz45_6 hfz45_7); (try clear hfz56_0 hfz56_1 hfz56_2); (try clear hfz58_0 hfz58_1 hfz58_2 hfz58_3 hfz58_4 hfz58_5 hfz58_6 hfz58_7); (try clear hx181_0); (try clear hx181_1); (try clear hx181_10); (try clear hx181_11); (try clear hx181_12); (try clear hx181_13); (try clear hx181_14); (try clear hx181_15); (try clear hx181_2); (try clear hx181_3); (try clear hx181_4); (try clear hx181_5); (try clear hx181_6); (try clear hx181_7); (try clear hx181_8); (try clear hx181_9); (try clear p181); (try clear q181)
         obtain ⟨kq, x5_25, x6_25, x11_25, rfl, HA, HJ25, HO_5, HO_6, BK158, BK159, BK178, HB⟩ := hcut
         cases kq with
         | zero => exact absurd HA.out (by simp [qI.j2])
         | succ kj25 =>
          have H := HA.out
          clear HA
          simp only [qI.j2] at H
          by_cases c61 : 0 ≤ x11_25
          case neg => exact nN c61 H
          rw [if_pos c61] at H
          have c61b0 := decide_eq_true c61
          clear c61
          by_cases c62 : x11_25 < (x5_25.length : Int)
          case neg => exact nN c62 H
          rw [if_pos c62] at H
          have c62b0 := decide_eq_true c62
          clear c62
          by_cases c63 : 0 ≤ x7_1
          case neg => exact nN c63 H
          rw [if_pos c63] at H
          have c63b0 := decide_eq_true c63
          clear c63
          by_cases c64 : x7_1 < (x5_25.length : Int)
          case neg => exact nN c64 H
          rw [if_pos c64] at H
          have c64b0 := decide_eq_true c64
          clear c64
          by_cases c65 : ((qA x5_25 x11_25).f1) = (wrap64 (((qA x5_25 x7_1).f1) + 1))
          ·rw [if_pos c65] at H
           have c65b0 := beq_iff_eq.mpr c65
           have c65b1 := bne_eq_false_iff_eq.mpr c65
           clear c65
           replace H := bS H
           obtain ⟨y193, Ny193, H⟩ := H
           by_cases c68 : 0 ≤ x8_2
           case neg => exact nN c68 H
           rw [if_pos c68] at H
           have c68b0 := decide_eq_true c68
           clear c68
           by_cases c69 : x8_2 < 4
           case neg => exact nN c69 H
           rw [if_pos c69] at H
           have c69b0 := decide_eq_true c69
           clear c69
           obtain ⟨y194, hy194⟩ : ∃ y_ : List (S68), y_ = (y193.set (x7_1 : Int).toNat (⟨(⟨(qA y193 x7_1).f0.f0, (qA y193 x7_1).f0.f1, (⟨(qA y193 x7_1).f0.f2.f0, (qA y193 x7_1).f0.f2.f1, (qA y193 x7_1).f0.f2.f2, (qA y193 x7_1).f0.f2.f3, (qA y193 x7_1).f0.f2.f4, (qA y193 x7_1).f0.f2.f5⟩ : S29)⟩ : S31), (qA y193 x7_1).f1, (qA y193 x7_1).f2, (qA y193 x7_1).f3, (qA y193 x7_1).f4, (⟨(if x8_2 = 0 then x11_25 else (qA y193 x7_1).f5.f0), (if x8_2 = 1 then x11_25 else (qA y193 x7_1).f5.f1), (if x8_2 = 2 then x11_25 else (qA y193 x7_1).f5.f2), (if x8_2 = 3 then x11_25 else (qA y193 x7_1).f5.f3)⟩ : S66)⟩ : S68)) := ⟨_, rfl⟩
           replace H : (qI.l1 kj25 y194 x6_25 x7_1 (wrap64 (x8_2 + 1)) a0_0 a0_1 l0_2) = some r := by first | (rw [hy194]; with_reducible exact H) | (have H2_ := (Option.bind_some _ _).symm.trans H; rw [hy194]; with_reducible exact H2_) | (have H2_ := (Option.bind_some _ _).symm.trans H; with_reducible exact H2_) | with_reducible exact H | (rw [hy194]; exact H) | exact H
           have Ny194 := aM hy194
           clear hy194
           have H' := aM H
           clear H
           try go_wp2
           replace HO_5 := aM (Kd.qQ HO_5.out)
           replace HO_6 := aM (Kd.qQ HO_6.out)
           replace BK158 := aM (qH BK158.out)
           replace BK159 := aM (qH BK159.out)
           replace BK178 := aM (qH BK178.out)
           replace HB := aM (qm HB.out)
           obtain ⟨Ao71, co71, eo71⟩ := Kd.qi HO_5.out
           (first | subst eo71 | (injection eo71 with f1_ f2_ f3_; have f4_ := f1_.symm; have f5_ := f3_.symm; clear f1_ f2_ f3_; subst f4_; subst f5_))
           have p189 : 0 ≤ (x11_25 : Int) := of_decide_eq_true am
           have q189 : x11_25 < (x5_25.length : Int) := of_decide_eq_true am
           obtain ⟨ad189, e189, hx189_0, hx189_1, hx189_2, hx189_3, hx189_4, hx189_5, hx189_6, hx189_7, hx189_8, hx189_9, hx189_10, hx189_11, hx189_12, hx189_13, hx189_14, hx189_15⟩ := qHC (Kd.qE HO_5.out).2.2 x11_25 p189 q189
           cases e189
           replace p189 := eq_true p189
           replace q189 := eq_true q189
           have p190 : 0 ≤ (x7_1 : Int) := of_decide_eq_true am
           have q190 : x7_1 < (x5_25.length : Int) := of_decide_eq_true am
           obtain ⟨ad190, e190, hx190_0, hx190_1, hx190_2, hx190_3, hx190_4, hx190_5, hx190_6, hx190_7, hx190_8, hx190_9, hx190_10, hx190_11, hx190_12, hx190_13, hx190_14, hx190_15⟩ := qHC (Kd.qE HO_5.out).2.2 x7_1 p190 q190
           obtain rfl : ad189 = ad190 := (by injection e190)
           replace p190 := eq_true p190
           replace q190 := eq_true q190
           refine qAB (n := 12) (S := fun w' => w'.cell? (ad189.add ((x11_25).toNat * 16)) = some (.int .i64 ((qA x5_25 x11_25).f0.f0)) ∧ w'.cell? ⟨(ad189.add ((x11_25).toNat * 16)).block, (ad189.add ((x11_25).toNat * 16)).off + 1, none⟩ = some (.int .i64 ((qA x5_25 x11_25).f0.f1)) ∧ w'.cell? ⟨(ad189.add ((x11_25).toNat * 16)).block, (ad189.add ((x11_25).toNat * 16)).off + 2, none⟩ = some (.int .i64 ((qA x5_25 x11_25).f0.f2.f0)) ∧ w'.cell? ⟨(ad189.add ((x11_25).toNat * 16)).block, (ad189.add ((x11_25).toNat * 16)).off + 3, none⟩ = some (.int .i64 ((qA x5_25 x11_25).f0.f2.f1)) ∧ w'.cell? ⟨(ad189.add ((x11_25).toNat * 16)).block, (ad189.add ((x11_25).toNat * 16)).off + 4, none⟩ = some (.int .i64 ((qA x5_25 x11_25).f0.f2.f2)) ∧ w'.cell? ⟨(ad189.add ((x11_25).toNat * 16)).block, (ad189.add ((x11_25).toNat * 16)).off + 5, none⟩ = some (.int .i64 ((qA x5_25 x11_25).f0.f2.f3)) ∧ w'.cell? ⟨(ad189.add ((x11_25).toNat * 16)).block, (ad189.add ((x11_25).toNat * 16)).off + 6, none⟩ = some (.int .i64 ((qA x5_25 x11_25).f0.f2.f4)) ∧ w'.cell? ⟨(ad189.add ((x11_25).toNat * 16)).block, (ad189.add ((x11_25).toNat * 16)).off + 7, none⟩ = some (.int .i64 ((qA x5_25 x11_25).f0.f2.f5)) ∧ w'.cell? ⟨(ad189.add ((x11_25).toNat * 16)).block, (ad189.add ((x11_25).toNat * 16)).off + 8, none⟩ = some (.int .i64 ((qA x5_25 x11_25).f1)) ∧ w'.cell? ⟨(ad189.add ((x11_25).toNat * 16)).block, (ad189.add ((x11_25).toNat * 16)).off + 9, none⟩ = some (.int .i64 ((qA x5_25 x11_25).f2)) ∧ w'.cell? ⟨(ad189.add ((x11_25).toNat * 16)).block, (ad189.add ((x11_25).toNat * 16)).off + 10, none⟩ = some (.int .i64 ((qA x5_25 x11_25).f3)) ∧ w'.cell? ⟨(ad189.add ((x11_25).toNat * 16)).block, (ad189.add ((x11_25).toNat * 16)).off + 11, none⟩ = some (.int .i64 ((qA x5_25 x11_25).f4)) ∧ w'.cell? ⟨(ad189.add ((x11_25).toNat * 16)).block, (ad189.add ((x11_25).toNat * 16)).off + 12, none⟩ = some (.int .i64 ((qA x5_25 x11_25).f5.f0)) ∧ w'.cell? ⟨(ad189.add ((x11_25).toNat * 16)).block, (ad189.add ((x11_25).toNat * 16)).off + 13, none⟩ = some (.int .i64 ((qA x5_25 x11_25).f5.f1)) ∧ w'.cell? ⟨(ad189.add ((x11_25).toNat * 16)).block, (ad189.add ((x11_25).toNat * 16)).off + 14, none⟩ = some (.int .i64 ((qA x5_25 x11_25).f5.f2)) ∧ w'.cell? ⟨(ad189.add ((x11_25).toNat * 16)).block, (ad189.add ((x11_25).toNat * 16)).off + 15, none⟩ = some (.int .i64 ((qA x5_25 x11_25).f5.f3)) ∧ w'.cell? (ad189.add ((x7_1).toNat * 16)) = some (.int .i64 ((qA x5_25 x7_1).f0.f0)) ∧ w'.cell? ⟨(ad189.add ((x7_1).toNat * 16)).block, (ad189.add ((x7_1).toNat * 16)).off + 1, none⟩ = some (.int .i64 ((qA x5_25 x7_1).f0.f1)) ∧ w'.cell? ⟨(ad189.add ((x7_1).toNat * 16)).block, (ad189.add ((x7_1).toNat * 16)).off + 2, none⟩ = some (.int .i64 ((qA x5_25 x7_1).f0.f2.f0)) ∧ w'.cell? ⟨(ad189.add ((x7_1).toNat * 16)).block, (ad189.add ((x7_1).toNat * 16)).off + 3, none⟩ = some (.int .i64 ((qA x5_25 x7_1).f0.f2.f1)) ∧ w'.cell? ⟨(ad189.add ((x7_1).toNat * 16)).block, (ad189.add ((x7_1).toNat * 16)).off + 4, none⟩ = some (.int .i64 ((qA x5_25 x7_1).f0.f2.f2)) ∧ w'.cell? ⟨(ad189.add ((x7_1).toNat * 16)).block, (ad189.add ((x7_1).toNat * 16)).off + 5, none⟩ = some (.int .i64 ((qA x5_25 x7_1).f0.f2.f3)) ∧ w'.cell? ⟨(ad189.add ((x7_1).toNat * 16)).block, (ad189.add ((x7_1).toNat * 16)).off + 6, none⟩ = some (.int .i64 ((qA x5_25 x7_1).f0.f2.f4)) ∧ w'.cell? ⟨(ad189.add ((x7_1).toNat * 16)).block, (ad189.add ((x7_1).toNat * 16)).off + 7, none⟩ = some (.int .i64 ((qA x5_25 x7_1).f0.f2.f5)) ∧ w'.cell? ⟨(ad189.add ((x7_1).toNat * 16)).block, (ad189.add ((x7_1).toNat * 16)).off + 8, none⟩ = some (.int .i64 ((qA x5_25 x7_1).f1)) ∧ w'.cell? ⟨(ad189.add ((x7_1).toNat * 16)).block, (ad189.add ((x7_1).toNat * 16)).off + 9, none⟩ = some (.int .i64 ((qA x5_25 x7_1).f2)) ∧ w'.cell? ⟨(ad189.add ((x7_1).toNat * 16)).block, (ad189.add ((x7_1).toNat * 16)).off + 10, none⟩ = some (.int .i64 ((qA x5_25 x7_1).f3)) ∧ w'.cell? ⟨(ad189.add ((x7_1).toNat * 16)).block, (ad189.add ((x7_1).toNat * 16)).off + 11, none⟩ = some (.int .i64 ((qA x5_25 x7_1).f4)) ∧ w'.cell? ⟨(ad189.add ((x7_1).toNat * 16)).block, (ad189.add ((x7_1).toNat * 16)).off + 12, none⟩ = some (.int .i64 ((qA x5_25 x7_1).f5.f0)) ∧ w'.cell? ⟨(ad189.add ((x7_1).toNat * 16)).block, (ad189.add ((x7_1).toNat * 16)).off + 13, none⟩ = some (.int .i64 ((qA x5_25 x7_1).f5.f1)) ∧ w'.cell? ⟨(ad189.add ((x7_1).toNat * 16)).block, (ad189.add ((x7_1).toNat * 16)).off + 14, none⟩ = some (.int .i64 ((qA x5_25 x7_1).f5.f2)) ∧ w'.cell? ⟨(ad189.add ((x7_1).toNat * 16)).block, (ad189.add ((x7_1).toNat * 16)).off + 15, none⟩ = some (.int .i64 ((qA x5_25 x7_1).f5.f3))) (ds := []) #[false, false, false, false, false, false, false, false, false, false, false, false] (by kernel_rfl) rfl rfl ⟨hx189_0, hx189_1, hx189_2, hx189_3, hx189_4, hx189_5, hx189_6, hx189_7, hx189_8, hx189_9, hx189_10, hx189_11, hx189_12, hx189_13, hx189_14, hx189_15, hx190_0, hx190_1, hx190_2, hx190_3, hx190_4, hx190_5, hx190_6, hx190_7, hx190_8, hx190_9, hx190_10, hx190_11, hx190_12, hx190_13, hx190_14, hx190_15⟩ (fun hHeld => ?_); refine qMA qI.tab17 qI.bits17 (fun HT_ HW_ => ?_)
           generalize wc.drew = w70 at HO_5 HO_6 BK158 BK159 BK178 HB hx189_0 hx189_1 hx189_10 hx189_11 hx189_12 hx189_13 hx189_14 hx189_15 hx189_2 hx189_3 hx189_4 hx189_5 hx189_6 hx189_7 hx189_8 hx189_9 hx190_0 hx190_1 hx190_10 hx190_11 hx190_12 hx190_13 hx190_14 hx190_15 hx190_2 hx190_3 hx190_4 hx190_5 hx190_6 hx190_7 hx190_8 hx190_9 hHeld ⊢
           refine pS (i := 0) (N := some 76) #[true, false, false, false, false, false, false, false, false, false, false, false] HT_ ?_
           refine pS (i := 1) (N := some 77) #[true, true, false, false, false, false, false, false, false, false, false, false] HT_ ?_
           refine pS (i := 2) (N := some 78) #[true, true, true, false, false, false, false, false, false, false, false, false] HT_ ?_
           refine pS (i := 3) (N := some 79) #[true, true, true, true, false, false, false, false, false, false, false, false] HT_ ?_
           refine pS (i := 5) (N := some 81) #[true, true, true, true, false, true, false, false, false, false, false, false] HT_ ?_
           refine pS (i := 6) (N := some 82) #[true, true, true, true, false, true, true, false, false, false, false, false] HT_ ?_
           refine pS (i := 7) (N := some 83) #[true, true, true, true, false, true, true, true, false, false, false, false] HT_ ?_
           refine pS (i := 8) (N := some 84) #[true, true, true, true, false, true, true, true, true, false, false, false] HT_ ?_
           refine tS (i := 4) (N := some 80) #[true, true, true, true, true, true, true, true, true, false, false, false] HT_ HW_ hHeld ?_
           refine tS (i := 9) (N := some 85) #[true, true, true, true, true, true, true, true, true, true, false, false] HT_ HW_ hHeld ?_
           refine pS (i := 10) (N := some 86) #[true, true, true, true, true, true, true, true, true, true, true, false] HT_ ?_
           refine pS (i := 11) (N := some 87) #[true, true, true, true, true, true, true, true, true, true, true, true] HT_ ?_
           refine done_ (qHB HT_.out (by kernel_rfl)) ?_
           try go_wp2
           replace HO_5 := aM (Kd.qQ HO_5.out)
           replace HO_6 := aM (Kd.qQ HO_6.out)
           replace BK158 := aM (qH BK158.out)
           replace BK159 := aM (qH BK159.out)
           replace BK178 := aM (qH BK178.out)
           replace HB := aM (qm HB.out)
           have p191 : 0 ≤ (x11_25 : Int) := of_decide_eq_true am
           have q191 : x11_25 < (x5_25.length : Int) := of_decide_eq_true am
           obtain ⟨ad191, e191, hx191_0, hx191_1, hx191_2, hx191_3, hx191_4, hx191_5, hx191_6, hx191_7, hx191_8, hx191_9, hx191_10, hx191_11, hx191_12, hx191_13, hx191_14, hx191_15⟩ := qHC (Kd.qE HO_5.out).2.2 x11_25 p191 q191
           obtain rfl : ad189 = ad191 := (by injection e191)
           replace p191 := eq_true p191
           replace q191 := eq_true q191
           have p192 : 0 ≤ (x7_1 : Int) := of_decide_eq_true am
           have q192 : x7_1 < (x5_25.length : Int) := of_decide_eq_true am
           obtain ⟨ad192, e192, hx192_0, hx192_1, hx192_2, hx192_3, hx192_4, hx192_5, hx192_6, hx192_7, hx192_8, hx192_9, hx192_10, hx192_11, hx192_12, hx192_13, hx192_14, hx192_15⟩ := qHC (Kd.qE HO_5.out).2.2 x7_1 p192 q192
           obtain rfl : ad189 = ad192 := (by injection e192)
           replace p192 := eq_true p192
           replace q192 := eq_true q192
           have p66 : 0 ≤ (x11_25 : Int) := of_decide_eq_true am
           have q66 : (x11_25 : Int) < ((x5_25.length : Int) : Int) := of_decide_eq_true am
           obtain ⟨go66, co66, eo66, gb66, gl66, cl66, HG66⟩ := Kd.qRD HO_5.out (by omega)
           (first | cases eo66 | (injection eo66 with ea_ en_ ec_; (first | subst ea_ | (injection ea_ with ea_; subst ea_)); subst ec_; clear en_))
           have GB66 := aM gb66
           have GG66 := aM HG66
           clear gb66 gl66 HG66
           (first | simp only [qC] at hx189_0 | skip)
           (first | simp only [qC] at hx189_1 | skip)
           (first | simp only [qC] at hx189_2 | skip)
           (first | simp only [qC] at hx189_3 | skip)
           (first | simp only [qC] at hx189_4 | skip)
           (first | simp only [qC] at hx189_5 | skip)
           (first | simp only [qC] at hx189_6 | skip)
           (first | simp only [qC] at hx189_7 | skip)
           (first | simp only [qC] at hx189_8 | skip)
           (first | simp only [qC] at hx189_9 | skip)
           (first | simp only [qC] at hx189_10 | skip)
           (first | simp only [qC] at hx189_11 | skip)
           (first | simp only [qC] at hx189_12 | skip)
           (first | simp only [qC] at hx189_13 | skip)
           (first | simp only [qC] at hx189_14 | skip)
           (first | simp only [qC] at hx189_15 | skip)
           (first | simp only [qC] at hx190_0 | skip)
           (first | simp only [qC] at hx190_1 | skip)
           (first | simp only [qC] at hx190_2 | skip)
           (first | simp only [qC] at hx190_3 | skip)
           (first | simp only [qC] at hx190_4 | skip)
           (first | simp only [qC] at hx190_5 | skip)
           (first | simp only [qC] at hx190_6 | skip)
           (first | simp only [qC] at hx190_7 | skip)
           (first | simp only [qC] at hx190_8 | skip)
           (first | simp only [qC] at hx190_9 | skip)
           (first | simp only [qC] at hx190_10 | skip)
           (first | simp only [qC] at hx190_11 | skip)
           (first | simp only [qC] at hx190_12 | skip)
           (first | simp only [qC] at hx190_13 | skip)
           (first | simp only [qC] at hx190_14 | skip)
           (first | simp only [qC] at hx190_15 | skip)
           (first | simp only [qC] at hx191_0 | skip)
           (first | simp only [qC] at hx191_1 | skip)
           (first | simp only [qC] at hx191_2 | skip)
           (first | simp only [qC] at hx191_3 | skip)
           (first | simp only [qC] at hx191_4 | skip)
           (first | simp only [qC] at hx191_5 | skip)
           (first | simp only [qC] at hx191_6 | skip)
           (first | simp only [qC] at hx191_7 | skip)
           (first | simp only [qC] at hx191_8 | skip)
           (first | simp only [qC] at hx191_9 | skip)
           (first | simp only [qC] at hx191_10 | skip)
           (first | simp only [qC] at hx191_11 | skip)
           (first | simp only [qC] at hx191_12 | skip)
           (first | simp only [qC] at hx191_13 | skip)
           (first | simp only [qC] at hx191_14 | skip)
           (first | simp only [qC] at hx191_15 | skip)
           (first | simp only [qC] at hx192_0 | skip)
           (first | simp only [qC] at hx192_1 | skip)
           (first | simp only [qC] at hx192_2 | skip)
           (first | simp only [qC] at hx192_3 | skip)
           (first | simp only [qC] at hx192_4 | skip)
           (first | simp only [qC] at hx192_5 | skip)
           (first | simp only [qC] at hx192_6 | skip)
           (first | simp only [qC] at hx192_7 | skip)
           (first | simp only [qC] at hx192_8 | skip)
           (first | simp only [qC] at hx192_9 | skip)
           (first | simp only [qC] at hx192_10 | skip)
           (first | simp only [qC] at hx192_11 | skip)
           (first | simp only [qC] at hx192_12 | skip)
           (first | simp only [qC] at hx192_13 | skip)
           (first | simp only [qC] at hx192_14 | skip)
           (first | simp only [qC] at hx192_15 | skip)
           obtain ⟨ce66, hcl66, hM66, hcc66, hfr66⟩ := Kd.qIC HO_5.out z68 (x11_25 : Int) p66 q66
           obtain rfl := qNB hM66
           have hx66_0 : World.cell? _ ⟨go66, (x11_25 : Int).toNat * 16, none⟩ = some (.int .i64 ((qA x5_25 x11_25).f0.f0)) := hcc66 0 _ rfl
           have hx66_1 : World.cell? _ ⟨go66, (x11_25 : Int).toNat * 16 + 1, none⟩ = some (.int .i64 ((qA x5_25 x11_25).f0.f1)) := hcc66 1 _ rfl
           have hx66_2 : World.cell? _ ⟨go66, (x11_25 : Int).toNat * 16 + 2, none⟩ = some (.int .i64 ((qA x5_25 x11_25).f0.f2.f0)) := hcc66 2 _ rfl
           have hx66_3 : World.cell? _ ⟨go66, (x11_25 : Int).toNat * 16 + 3, none⟩ = some (.int .i64 ((qA x5_25 x11_25).f0.f2.f1)) := hcc66 3 _ rfl
           have hx66_4 : World.cell? _ ⟨go66, (x11_25 : Int).toNat * 16 + 4, none⟩ = some (.int .i64 ((qA x5_25 x11_25).f0.f2.f2)) := hcc66 4 _ rfl
           have hx66_5 : World.cell? _ ⟨go66, (x11_25 : Int).toNat * 16 + 5, none⟩ = some (.int .i64 ((qA x5_25 x11_25).f0.f2.f3)) := hcc66 5 _ rfl
           have hx66_6 : World.cell? _ ⟨go66, (x11_25 : Int).toNat * 16 + 6, none⟩ = some (.int .i64 ((qA x5_25 x11_25).f0.f2.f4)) := hcc66 6 _ rfl
           have hx66_7 : World.cell? _ ⟨go66, (x11_25 : Int).toNat * 16 + 7, none⟩ = some (.int .i64 ((qA x5_25 x11_25).f0.f2.f5)) := hcc66 7 _ rfl
           have hx66_8 : World.cell? _ ⟨go66, (x11_25 : Int).toNat * 16 + 8, none⟩ = some (.int .i64 ((qA x5_25 x11_25).f1)) := hcc66 8 _ rfl
           have hx66_9 : World.cell? _ ⟨go66, (x11_25 : Int).toNat * 16 + 9, none⟩ = some (.int .i64 ((qA x5_25 x11_25).f2)) := hcc66 9 _ rfl
           have hx66_10 : World.cell? _ ⟨go66, (x11_25 : Int).toNat * 16 + 10, none⟩ = some (.int .i64 ((qA x5_25 x11_25).f3)) := hcc66 10 _ rfl
           have hx66_11 : World.cell? _ ⟨go66, (x11_25 : Int).toNat * 16 + 11, none⟩ = some (.int .i64 ((qA x5_25 x11_25).f4)) := hcc66 11 _ rfl
           have hx66_12 : World.cell? _ ⟨go66, (x11_25 : Int).toNat * 16 + 12, none⟩ = some (.int .i64 ((qA x5_25 x11_25).f5.f0)) := hcc66 12 _ rfl
           have hx66_13 : World.cell? _ ⟨go66, (x11_25 : Int).toNat * 16 + 13, none⟩ = some (.int .i64 ((qA x5_25 x11_25).f5.f1)) := hcc66 13 _ rfl
           have hx66_14 : World.cell? _ ⟨go66, (x11_25 : Int).toNat * 16 + 14, none⟩ = some (.int .i64 ((qA x5_25 x11_25).f5.f2)) := hcc66 14 _ rfl
           have hx66_15 : World.cell? _ ⟨go66, (x11_25 : Int).toNat * 16 + 15, none⟩ = some (.int .i64 ((qA x5_25 x11_25).f5.f3)) := hcc66 15 _ rfl
           have hf66_0 : World.frozen? _ ⟨go66, (x11_25 : Int).toNat * 16, none⟩ = false := hfr66 0
           have hf66_1 : World.frozen? _ ⟨go66, (x11_25 : Int).toNat * 16 + 1, none⟩ = false := hfr66 1
           have hf66_2 : World.frozen? _ ⟨go66, (x11_25 : Int).toNat * 16 + 2, none⟩ = false := hfr66 2
           have hf66_3 : World.frozen? _ ⟨go66, (x11_25 : Int).toNat * 16 + 3, none⟩ = false := hfr66 3
           have hf66_4 : World.frozen? _ ⟨go66, (x11_25 : Int).toNat * 16 + 4, none⟩ = false := hfr66 4
           have hf66_5 : World.frozen? _ ⟨go66, (x11_25 : Int).toNat * 16 + 5, none⟩ = false := hfr66 5
           have hf66_6 : World.frozen? _ ⟨go66, (x11_25 : Int).toNat * 16 + 6, none⟩ = false := hfr66 6
           have hf66_7 : World.frozen? _ ⟨go66, (x11_25 : Int).toNat * 16 + 7, none⟩ = false := hfr66 7
           have hf66_8 : World.frozen? _ ⟨go66, (x11_25 : Int).toNat * 16 + 8, none⟩ = false := hfr66 8
           have hf66_9 : World.frozen? _ ⟨go66, (x11_25 : Int).toNat * 16 + 9, none⟩ = false := hfr66 9
           have hf66_10 : World.frozen? _ ⟨go66, (x11_25 : Int).toNat * 16 + 10, none⟩ = false := hfr66 10
           have hf66_11 : World.frozen? _ ⟨go66, (x11_25 : Int).toNat * 16 + 11, none⟩ = false := hfr66 11
           have hf66_12 : World.frozen? _ ⟨go66, (x11_25 : Int).toNat * 16 + 12, none⟩ = false := hfr66 12
           have hf66_13 : World.frozen? _ ⟨go66, (x11_25 : Int).toNat * 16 + 13, none⟩ = false := hfr66 13
           have hf66_14 : World.frozen? _ ⟨go66, (x11_25 : Int).toNat * 16 + 14, none⟩ = false := hfr66 14
           have hf66_15 : World.frozen? _ ⟨go66, (x11_25 : Int).toNat * 16 + 15, none⟩ = false := hfr66 15
           clear hcl66 hcc66 hfr66 hM66
           replace p66 := eq_true p66
           replace q66 := eq_true q66
           obtain ⟨ce73, hcl73, hM73, hcc73, hfr73⟩ := Kd.qIC (Kd.qMD HO_5.out (Kd.qeA HO_6.out) (by decide)) z68 (x11_25 : Int) (of_decide_eq_true am) (by have h_ : (x11_25 : Int) < ((x5_25.length : Int) : Int) := of_decide_eq_true am; first | exact h_ | (have e_ := (Kd.qE HO_5.out).1; omega) | simpa using h_)
           obtain rfl := qNB hM73
           have HP73 := (Kd.R_seg (Kd.qMD HO_5.out (Kd.qeA HO_6.out) (by decide)) (x11_25 : Int) (of_decide_eq_true am) (by have h_ : (x11_25 : Int) < ((x5_25.length : Int) : Int) := of_decide_eq_true am; first | exact h_ | (have e_ := (Kd.qE HO_5.out).1; omega) | simpa using h_) (seg := [.int .i64 (wrap64 (((qA x5_25 x11_25).f2) + ((qA x5_25 x7_1).f2)))]) (j := 9) hcl73 hcc73 (show 10 ≤ 16 from by decide) (x' := (⟨(⟨(qA x5_25 x11_25).f0.f0, (qA x5_25 x11_25).f0.f1, (⟨(qA x5_25 x11_25).f0.f2.f0, (qA x5_25 x11_25).f0.f2.f1, (qA x5_25 x11_25).f0.f2.f2, (qA x5_25 x11_25).f0.f2.f3, (qA x5_25 x11_25).f0.f2.f4, (qA x5_25 x11_25).f0.f2.f5⟩ : S29)⟩ : S31), (qA x5_25 x11_25).f1, wrap64 (((qA x5_25 x11_25).f2) + ((qA x5_25 x7_1).f2)), (qA x5_25 x11_25).f3, (qA x5_25 x11_25).f4, (⟨(qA x5_25 x11_25).f5.f0, (qA x5_25 x11_25).f5.f1, (qA x5_25 x11_25).f5.f2, (qA x5_25 x11_25).f5.f3⟩ : S66)⟩ : S68)) (qOC _ _ _ (⟨(⟨(qA x5_25 x11_25).f0.f0, (qA x5_25 x11_25).f0.f1, (⟨(qA x5_25 x11_25).f0.f2.f0, (qA x5_25 x11_25).f0.f2.f1, (qA x5_25 x11_25).f0.f2.f2, (qA x5_25 x11_25).f0.f2.f3, (qA x5_25 x11_25).f0.f2.f4, (qA x5_25 x11_25).f0.f2.f5⟩ : S29)⟩ : S31), (qA x5_25 x11_25).f1, wrap64 (((qA x5_25 x11_25).f2) + ((qA x5_25 x7_1).f2)), (qA x5_25 x11_25).f3, (qA x5_25 x11_25).f4, (⟨(qA x5_25 x11_25).f5.f0, (qA x5_25 x11_25).f5.f1, (qA x5_25 x11_25).f5.f2, (qA x5_25 x11_25).f5.f3⟩ : S66)⟩ : S68) ) (fun _ hk => hk)).1
           rw [← Ny193.out] at HP73
           have HQ73 := aM HP73
           clear hcl73 hcc73 hfr73 hM73 HP73
           refine qAB (n := 14) (S := fun w' => w'.cell? ⟨go66, ((x11_25).toNat * 16), none⟩ = some (.int .i64 ((qA x5_25 x11_25).f0.f0)) ∧ w'.cell? ⟨go66, ((x11_25).toNat * 16) + 1, none⟩ = some (.int .i64 ((qA x5_25 x11_25).f0.f1)) ∧ w'.cell? ⟨go66, ((x11_25).toNat * 16) + 2, none⟩ = some (.int .i64 ((qA x5_25 x11_25).f0.f2.f0)) ∧ w'.cell? ⟨go66, ((x11_25).toNat * 16) + 3, none⟩ = some (.int .i64 ((qA x5_25 x11_25).f0.f2.f1)) ∧ w'.cell? ⟨go66, ((x11_25).toNat * 16) + 4, none⟩ = some (.int .i64 ((qA x5_25 x11_25).f0.f2.f2)) ∧ w'.cell? ⟨go66, ((x11_25).toNat * 16) + 5, none⟩ = some (.int .i64 ((qA x5_25 x11_25).f0.f2.f3)) ∧ w'.cell? ⟨go66, ((x11_25).toNat * 16) + 6, none⟩ = some (.int .i64 ((qA x5_25 x11_25).f0.f2.f4)) ∧ w'.cell? ⟨go66, ((x11_25).toNat * 16) + 7, none⟩ = some (.int .i64 ((qA x5_25 x11_25).f0.f2.f5)) ∧ w'.cell? ⟨go66, ((x11_25).toNat * 16) + 8, none⟩ = some (.int .i64 ((qA x5_25 x11_25).f1)) ∧ w'.cell? ⟨go66, ((x11_25).toNat * 16) + 9, none⟩ = some (.int .i64 ((qA x5_25 x11_25).f2)) ∧ w'.cell? ⟨go66, ((x11_25).toNat * 16) + 10, none⟩ = some (.int .i64 ((qA x5_25 x11_25).f3)) ∧ w'.cell? ⟨go66, ((x11_25).toNat * 16) + 11, none⟩ = some (.int .i64 ((qA x5_25 x11_25).f4)) ∧ w'.cell? ⟨go66, ((x11_25).toNat * 16) + 12, none⟩ = some (.int .i64 ((qA x5_25 x11_25).f5.f0)) ∧ w'.cell? ⟨go66, ((x11_25).toNat * 16) + 13, none⟩ = some (.int .i64 ((qA x5_25 x11_25).f5.f1)) ∧ w'.cell? ⟨go66, ((x11_25).toNat * 16) + 14, none⟩ = some (.int .i64 ((qA x5_25 x11_25).f5.f2)) ∧ w'.cell? ⟨go66, ((x11_25).toNat * 16) + 15, none⟩ = some (.int .i64 ((qA x5_25 x11_25).f5.f3)) ∧ w'.cell? ⟨go66, ((x7_1).toNat * 16), none⟩ = some (.int .i64 ((qA x5_25 x7_1).f0.f0)) ∧ w'.cell? ⟨go66, ((x7_1).toNat * 16) + 1, none⟩ = some (.int .i64 ((qA x5_25 x7_1).f0.f1)) ∧ w'.cell? ⟨go66, ((x7_1).toNat * 16) + 2, none⟩ = some (.int .i64 ((qA x5_25 x7_1).f0.f2.f0)) ∧ w'.cell? ⟨go66, ((x7_1).toNat * 16) + 3, none⟩ = some (.int .i64 ((qA x5_25 x7_1).f0.f2.f1)) ∧ w'.cell? ⟨go66, ((x7_1).toNat * 16) + 4, none⟩ = some (.int .i64 ((qA x5_25 x7_1).f0.f2.f2)) ∧ w'.cell? ⟨go66, ((x7_1).toNat * 16) + 5, none⟩ = some (.int .i64 ((qA x5_25 x7_1).f0.f2.f3)) ∧ w'.cell? ⟨go66, ((x7_1).toNat * 16) + 6, none⟩ = some (.int .i64 ((qA x5_25 x7_1).f0.f2.f4)) ∧ w'.cell? ⟨go66, ((x7_1).toNat * 16) + 7, none⟩ = some (.int .i64 ((qA x5_25 x7_1).f0.f2.f5)) ∧ w'.cell? ⟨go66, ((x7_1).toNat * 16) + 8, none⟩ = some (.int .i64 ((qA x5_25 x7_1).f1)) ∧ w'.cell? ⟨go66, ((x7_1).toNat * 16) + 9, none⟩ = some (.int .i64 ((qA x5_25 x7_1).f2)) ∧ w'.cell? ⟨go66, ((x7_1).toNat * 16) + 10, none⟩ = some (.int .i64 ((qA x5_25 x7_1).f3)) ∧ w'.cell? ⟨go66, ((x7_1).toNat * 16) + 11, none⟩ = some (.int .i64 ((qA x5_25 x7_1).f4)) ∧ w'.cell? ⟨go66, ((x7_1).toNat * 16) + 12, none⟩ = some (.int .i64 ((qA x5_25 x7_1).f5.f0)) ∧ w'.cell? ⟨go66, ((x7_1).toNat * 16) + 13, none⟩ = some (.int .i64 ((qA x5_25 x7_1).f5.f1)) ∧ w'.cell? ⟨go66, ((x7_1).toNat * 16) + 14, none⟩ = some (.int .i64 ((qA x5_25 x7_1).f5.f2)) ∧ w'.cell? ⟨go66, ((x7_1).toNat * 16) + 15, none⟩ = some (.int .i64 ((qA x5_25 x7_1).f5.f3))) (ds := [13]) #[false, false, false, false, false, false, false, false, false, false, false, false, false, false] (by kernel_rfl) rfl rfl ⟨hx191_0, hx191_1, hx191_2, hx191_3, hx191_4, hx191_5, hx191_6, hx191_7, hx191_8, hx191_9, hx191_10, hx191_11, hx191_12, hx191_13, hx191_14, hx191_15, hx192_0, hx192_1, hx192_2, hx192_3, hx192_4, hx192_5, hx192_6, hx192_7, hx192_8, hx192_9, hx192_10, hx192_11, hx192_12, hx192_13, hx192_14, hx192_15⟩ (fun hHeld => ?_); refine qMA qI.tab18 qI.bits18 (fun HT_ HW_ => ?_)
           generalize w70.drew = w72 at HO_5 HO_6 BK158 BK159 BK178 HB GG66 HQ73 hf66_0 hf66_1 hf66_10 hf66_11 hf66_12 hf66_13 hf66_14 hf66_15 hf66_2 hf66_3 hf66_4 hf66_5 hf66_6 hf66_7 hf66_8 hf66_9 hx189_0 hx189_1 hx189_10 hx189_11 hx189_12 hx189_13 hx189_14 hx189_15 hx189_2 hx189_3 hx189_4 hx189_5 hx189_6 hx189_7 hx189_8 hx189_9 hx190_0 hx190_1 hx190_10 hx190_11 hx190_12 hx190_13 hx190_14 hx190_15 hx190_2 hx190_3 hx190_4 hx190_5 hx190_6 hx190_7 hx190_8 hx190_9 hx191_0 hx191_1 hx191_10 hx191_11 hx191_12 hx191_13 hx191_14 hx191_15 hx191_2 hx191_3 hx191_4 hx191_5 hx191_6 hx191_7 hx191_8 hx191_9 hx192_0 hx192_1 hx192_10 hx192_11 hx192_12 hx192_13 hx192_14 hx192_15 hx192_2 hx192_3 hx192_4 hx192_5 hx192_6 hx192_7 hx192_8 hx192_9 hx66_0 hx66_1 hx66_10 hx66_11 hx66_12 hx66_13 hx66_14 hx66_15 hx66_2 hx66_3 hx66_4 hx66_5 hx66_6 hx66_7 hx66_8 hx66_9 hHeld ⊢
           refine pS (i := 0) (N := some 88) #[true, false, false, false, false, false, false, false, false, false, false, false, false, false] HT_ ?_
           refine pS (i := 1) (N := some 89) #[true, true, false, false, false, false, false, false, false, false, false, false, false, false] HT_ ?_
           refine pS (i := 2) (N := some 90) #[true, true, true, false, false, false, false, false, false, false, false, false, false, false] HT_ ?_
           refine pS (i := 3) (N := some 91) #[true, true, true, true, false, false, false, false, false, false, false, false, false, false] HT_ ?_
           refine pS (i := 5) (N := some 93) #[true, true, true, true, false, true, false, false, false, false, false, false, false, false] HT_ ?_
           refine pS (i := 6) (N := some 94) #[true, true, true, true, false, true, true, false, false, false, false, false, false, false] HT_ ?_
           refine pS (i := 7) (N := some 95) #[true, true, true, true, false, true, true, true, false, false, false, false, false, false] HT_ ?_
           refine pS (i := 8) (N := some 96) #[true, true, true, true, false, true, true, true, true, false, false, false, false, false] HT_ ?_
           refine tS (i := 4) (N := some 92) #[true, true, true, true, true, true, true, true, true, false, false, false, false, false] HT_ HW_ hHeld ?_
           refine tS (i := 9) (N := some 97) #[true, true, true, true, true, true, true, true, true, true, false, false, false, false] HT_ HW_ hHeld ?_
           refine pS (i := 10) (N := some 98) #[true, true, true, true, true, true, true, true, true, true, true, false, false, false] HT_ ?_
           refine pS (i := 11) (N := some 99) #[true, true, true, true, true, true, true, true, true, true, true, true, false, false] HT_ ?_
           refine pS (i := 12) (N := some 100) #[true, true, true, true, true, true, true, true, true, true, true, true, true, false] HT_ ?_
           refine last_ (i := 13) (N := none) #[true, true, true, true, true, true, true, true, true, true, true, true, true, true] rfl rfl (qrA HT_.out (by kernel_rfl)) (by decide) (fun K hK => ?_)
           refine skip_ (w1 := ?_) (by rfl) rfl ?_ ?_
           rotate_left
           ·go_simp
            rfl
           refine hK.out _ _ ?_
           clear hK K
           refine done_ (qHB HT_.out (by kernel_rfl)) ?_
           have n0_ : Aside0 (Kd.R k68 68 (w72.setCell ⟨go66, (x11_25 : Int).toNat * 16 + 9, none⟩ (.int .i64 (wrap64 (((qA x5_25 x11_25).f2) + ((qA x5_25 x7_1).f2))))) w.heap.size (fun _ => True) (.slice (some ⟨go66, 0, none⟩) x5_25.length co71) y193) := ⟨by (with_reducible repeat (first | apply Kd.qR | apply Kd.qU | apply Kd.qQ)); exact Kd.qY HQ73.out (fun _ hk => trivial)⟩
           have n1_ : Aside0 (Kd.R (Kd.int .i64) 3 (w72.setCell ⟨go66, (x11_25 : Int).toNat * 16 + 9, none⟩ (.int .i64 (wrap64 (((qA x5_25 x11_25).f2) + ((qA x5_25 x7_1).f2))))) w.heap.size (fun _ => True) u6 x6_25) := ⟨by (with_reducible repeat (first | apply Kd.qR | apply Kd.qU | apply Kd.qQ)); exact Kd.qY (Kd.R_far (p := ⟨go66, (x11_25 : Int).toNat * 16 + 9, none⟩) (Kd.qlA HO_6.out (by first | exact GG66.out | exact (Kd.qeA HO_5.out go66 rfl).choose_spec) (by decide)) (fun _ hk => hk.2) (.int .i64 (wrap64 (((qA x5_25 x11_25).f2) + ((qA x5_25 x7_1).f2))))) (fun _ hk => trivial)⟩
           have n2_ : Aside0 ((w72.setCell ⟨go66, (x11_25 : Int).toNat * 16 + 9, none⟩ (.int .i64 (wrap64 (((qA x5_25 x11_25).f2) + ((qA x5_25 x7_1).f2))))).heap[gb158]? = some (.cells #[.int .i64 a0_0, .int .i64 a0_1, .slice A0_2 l0_2.length c0_2] 61 (0, 0))) := ⟨by (with_reducible repeat (first | refine qL ?_ _ | refine qH ?_ | refine qK ?_ _)); refine qvA ?_ (by have h_ := Kd.R_ne HO_5.out BK158.out (by decide); intro e_; exact h_ (by rw [e_]; rfl)) _; (with_reducible repeat (first | refine qL ?_ _ | refine qH ?_ | refine qK ?_ _)); exact BK158.out⟩
           have n3_ : Aside0 ((w72.setCell ⟨go66, (x11_25 : Int).toNat * 16 + 9, none⟩ (.int .i64 (wrap64 (((qA x5_25 x11_25).f2) + ((qA x5_25 x7_1).f2))))).heap[gb159]? = some (.cells #[.int .i64 a1_0, .int .i64 a1_1, .int .i64 a1_2, .int .i64 a1_3, .int .i64 a1_4, .int .i64 a1_5, .int .i64 a1_6, .int .i64 a1_7] 31 (0, 0))) := ⟨by (with_reducible repeat (first | refine qL ?_ _ | refine qH ?_ | refine qK ?_ _)); refine qvA ?_ (by have h_ := Kd.R_ne HO_5.out BK159.out (by decide); intro e_; exact h_ (by rw [e_]; rfl)) _; (with_reducible repeat (first | refine qL ?_ _ | refine qH ?_ | refine qK ?_ _)); exact BK159.out⟩
           have n4_ : Aside0 ((w72.setCell ⟨go66, (x11_25 : Int).toNat * 16 + 9, none⟩ (.int .i64 (wrap64 (((qA x5_25 x11_25).f2) + ((qA x5_25 x7_1).f2))))).heap[gb178]? = some (.cells #[.int .i64 t169, .int .i64 t170, .int .i64 t171, .int .i64 t172, .int .i64 t173, .int .i64 t174, .int .i64 t175, .int .i64 t176] 31 (0, 0))) := ⟨by (with_reducible repeat (first | refine qL ?_ _ | refine qH ?_ | refine qK ?_ _)); refine qvA ?_ (by have h_ := Kd.R_ne HO_5.out BK178.out (by decide); intro e_; exact h_ (by rw [e_]; rfl)) _; (with_reducible repeat (first | refine qL ?_ _ | refine qH ?_ | refine qK ?_ _)); exact BK178.out⟩
           have n5_ : Aside0 (Below w.heap.size w (w72.setCell ⟨go66, (x11_25 : Int).toNat * 16 + 9, none⟩ (.int .i64 (wrap64 (((qA x5_25 x11_25).f2) + ((qA x5_25 x7_1).f2)))))) := ⟨by repeat (first | (with_reducible first | exact HB.out | apply qQA | apply qVA | apply qm | refine qw ?_ GB66.out | refine qw ?_ GE158.out | refine qw ?_ GE159.out | refine qw ?_ GE178.out) | exact HB.out)⟩
           (try clear HO_5); (try clear HO_6); (try clear BK158); (try clear BK159); (try clear BK178); (try clear HB)
           generalize (w72.setCell ⟨go66, (x11_25 : Int).toNat * 16 + 9, none⟩ (.int .i64 (wrap64 (((qA x5_25 x11_25).f2) + ((qA x5_25 x7_1).f2))))) = w74 at n0_ n1_ n2_ n3_ n4_ n5_ ⊢
           have HO_5 := n0_
           have HO_6 := n1_
           have BK158 := n2_
           have BK159 := n3_
           have BK178 := n4_
           have HB := n5_
           clear n0_ n1_ n2_ n3_ n4_ n5_
           have p67 : 0 ≤ (x7_1 : Int) := of_decide_eq_true am
           have q67 : (x7_1 : Int) < ((x5_25.length : Int) : Int) := of_decide_eq_true am
           obtain ⟨ce67, hcl67, hM67, hcc67, hfr67⟩ := Kd.qIC HO_5.out z68 (x7_1 : Int) p67 q67
           obtain rfl := qNB hM67
           have hx67_0 : w74.cell? ⟨go66, (x7_1 : Int).toNat * 16, none⟩ = some (.int .i64 ((qA y193 x7_1).f0.f0)) := hcc67 0 _ rfl
           have hx67_1 : w74.cell? ⟨go66, (x7_1 : Int).toNat * 16 + 1, none⟩ = some (.int .i64 ((qA y193 x7_1).f0.f1)) := hcc67 1 _ rfl
           have hx67_2 : w74.cell? ⟨go66, (x7_1 : Int).toNat * 16 + 2, none⟩ = some (.int .i64 ((qA y193 x7_1).f0.f2.f0)) := hcc67 2 _ rfl
           have hx67_3 : w74.cell? ⟨go66, (x7_1 : Int).toNat * 16 + 3, none⟩ = some (.int .i64 ((qA y193 x7_1).f0.f2.f1)) := hcc67 3 _ rfl
           have hx67_4 : w74.cell? ⟨go66, (x7_1 : Int).toNat * 16 + 4, none⟩ = some (.int .i64 ((qA y193 x7_1).f0.f2.f2)) := hcc67 4 _ rfl
           have hx67_5 : w74.cell? ⟨go66, (x7_1 : Int).toNat * 16 + 5, none⟩ = some (.int .i64 ((qA y193 x7_1).f0.f2.f3)) := hcc67 5 _ rfl
           have hx67_6 : w74.cell? ⟨go66, (x7_1 : Int).toNat * 16 + 6, none⟩ = some (.int .i64 ((qA y193 x7_1).f0.f2.f4)) := hcc67 6 _ rfl
           have hx67_7 : w74.cell? ⟨go66, (x7_1 : Int).toNat * 16 + 7, none⟩ = some (.int .i64 ((qA y193 x7_1).f0.f2.f5)) := hcc67 7 _ rfl
           have hx67_8 : w74.cell? ⟨go66, (x7_1 : Int).toNat * 16 + 8, none⟩ = some (.int .i64 ((qA y193 x7_1).f1)) := hcc67 8 _ rfl
           have hx67_9 : w74.cell? ⟨go66, (x7_1 : Int).toNat * 16 + 9, none⟩ = some (.int .i64 ((qA y193 x7_1).f2)) := hcc67 9 _ rfl
           have hx67_10 : w74.cell? ⟨go66, (x7_1 : Int).toNat * 16 + 10, none⟩ = some (.int .i64 ((qA y193 x7_1).f3)) := hcc67 10 _ rfl
           have hx67_11 : w74.cell? ⟨go66, (x7_1 : Int).toNat * 16 + 11, none⟩ = some (.int .i64 ((qA y193 x7_1).f4)) := hcc67 11 _ rfl
           have hx67_12 : w74.cell? ⟨go66, (x7_1 : Int).toNat * 16 + 12, none⟩ = some (.int .i64 ((qA y193 x7_1).f5.f0)) := hcc67 12 _ rfl
           have hx67_13 : w74.cell? ⟨go66, (x7_1 : Int).toNat * 16 + 13, none⟩ = some (.int .i64 ((qA y193 x7_1).f5.f1)) := hcc67 13 _ rfl
           have hx67_14 : w74.cell? ⟨go66, (x7_1 : Int).toNat * 16 + 14, none⟩ = some (.int .i64 ((qA y193 x7_1).f5.f2)) := hcc67 14 _ rfl
           have hx67_15 : w74.cell? ⟨go66, (x7_1 : Int).toNat * 16 + 15, none⟩ = some (.int .i64 ((qA y193 x7_1).f5.f3)) := hcc67 15 _ rfl
           have hf67_0 : w74.frozen? ⟨go66, (x7_1 : Int).toNat * 16, none⟩ = false := hfr67 0
           have hf67_1 : w74.frozen? ⟨go66, (x7_1 : Int).toNat * 16 + 1, none⟩ = false := hfr67 1
           have hf67_2 : w74.frozen? ⟨go66, (x7_1 : Int).toNat * 16 + 2, none⟩ = false := hfr67 2
           have hf67_3 : w74.frozen? ⟨go66, (x7_1 : Int).toNat * 16 + 3, none⟩ = false := hfr67 3
           have hf67_4 : w74.frozen? ⟨go66, (x7_1 : Int).toNat * 16 + 4, none⟩ = false := hfr67 4
           have hf67_5 : w74.frozen? ⟨go66, (x7_1 : Int).toNat * 16 + 5, none⟩ = false := hfr67 5
           have hf67_6 : w74.frozen? ⟨go66, (x7_1 : Int).toNat * 16 + 6, none⟩ = false := hfr67 6
           have hf67_7 : w74.frozen? ⟨go66, (x7_1 : Int).toNat * 16 + 7, none⟩ = false := hfr67 7
           have hf67_8 : w74.frozen? ⟨go66, (x7_1 : Int).toNat * 16 + 8, none⟩ = false := hfr67 8
           have hf67_9 : w74.frozen? ⟨go66, (x7_1 : Int).toNat * 16 + 9, none⟩ = false := hfr67 9
           have hf67_10 : w74.frozen? ⟨go66, (x7_1 : Int).toNat * 16 + 10, none⟩ = false := hfr67 10
           have hf67_11 : w74.frozen? ⟨go66, (x7_1 : Int).toNat * 16 + 11, none⟩ = false := hfr67 11
           have hf67_12 : w74.frozen? ⟨go66, (x7_1 : Int).toNat * 16 + 12, none⟩ = false := hfr67 12
           have hf67_13 : w74.frozen? ⟨go66, (x7_1 : Int).toNat * 16 + 13, none⟩ = false := hfr67 13
           have hf67_14 : w74.frozen? ⟨go66, (x7_1 : Int).toNat * 16 + 14, none⟩ = false := hfr67 14
           have hf67_15 : w74.frozen? ⟨go66, (x7_1 : Int).toNat * 16 + 15, none⟩ = false := hfr67 15
           clear hcl67 hcc67 hfr67 hM67
           replace p67 := eq_true p67
           replace q67 := eq_true q67
           have HX75 := aM (show Kd.R k68 68 w74 w.heap.size (fun _ => True) (.slice (some ⟨go66, 0, none⟩) x5_25.length co71) y193 from (rR HO_5))
           obtain ⟨ce75, hcl75, hM75, hcc75, hfr75⟩ := Kd.qIC HX75.out z68 (x7_1 : Int) (of_decide_eq_true am) (by have h_ : (x7_1 : Int) < ((x5_25.length : Int) : Int) := of_decide_eq_true am; first | exact h_ | (have e_ := (Kd.qE HO_5.out).1; omega) | simpa using h_)
           obtain rfl := qNB hM75
           have h4_ : (x8_2 : Int) < 4 := of_decide_eq_true am
           have h0_ : 0 ≤ (x8_2 : Int) := of_decide_eq_true am
           have HP75 := Kd.R_seg HX75.out (x7_1 : Int) (of_decide_eq_true am) (by have h_ : (x7_1 : Int) < ((x5_25.length : Int) : Int) := of_decide_eq_true am; first | exact h_ | (have e_ := (Kd.qE HO_5.out).1; omega) | simpa using h_) (seg := [.int .i64 x11_25]) (j := 12 + (x8_2 : Int).toNat) hcl75 hcc75 (by show 12 + (x8_2 : Int).toNat + 1 ≤ 16; omega) (x' := (⟨(⟨(qA y193 x7_1).f0.f0, (qA y193 x7_1).f0.f1, (⟨(qA y193 x7_1).f0.f2.f0, (qA y193 x7_1).f0.f2.f1, (qA y193 x7_1).f0.f2.f2, (qA y193 x7_1).f0.f2.f3, (qA y193 x7_1).f0.f2.f4, (qA y193 x7_1).f0.f2.f5⟩ : S29)⟩ : S31), (qA y193 x7_1).f1, (qA y193 x7_1).f2, (qA y193 x7_1).f3, (qA y193 x7_1).f4, (⟨(if x8_2 = 0 then x11_25 else (qA y193 x7_1).f5.f0), (if x8_2 = 1 then x11_25 else (qA y193 x7_1).f5.f1), (if x8_2 = 2 then x11_25 else (qA y193 x7_1).f5.f2), (if x8_2 = 3 then x11_25 else (qA y193 x7_1).f5.f3)⟩ : S66)⟩ : S68)) (by rcases (show x8_2 = 0 ∨ x8_2 = 1 ∨ x8_2 = 2 ∨ x8_2 = 3 by omega) with e_ | e_ | e_ | e_ <;> rw [e_] <;> exact qOC _ _ _ _) (fun _ hk => hk)
           rw [← Nat.add_assoc] at HP75
           have hx75_12 := hcc75 (12 + (x8_2 : Int).toNat) _ (List.getElem?_eq_getElem (by show 12 + (x8_2 : Int).toNat < 16; omega))
           (try simp only [show (k68).sz = 16 from rfl, Nat.mul_one, Nat.add_zero] at hx75_12)
           have hf75_12 := hfr75 (12 + (x8_2 : Int).toNat)
           (try simp only [show (k68).sz = 16 from rfl, Nat.mul_one, Nat.add_zero] at hf75_12)
           (try rw [← Nat.add_assoc] at hx75_12)
           (try rw [← Nat.add_assoc] at hf75_12)
           clear hcl75 hcc75 hfr75 hM75
           try go_wp2_with (first | ((with_reducible refine qyA (t := 3) (p := 107) rfl ?_); refine qBB (t := 3) (p := 107) (v := ?vo_w76) (w1 := (w74.setCell ⟨go66, (x7_1 : Int).toNat * 16 + 12 + (x8_2 : Int).toNat, none⟩ (.int .i64 x11_25))) ?hg ?ho ?hn ?hr ?_; (case ho => rfl); (case hg => rfl); (case hn => rfl); (case hr => exact gS); intro w76 hw; have hg : w74.grownBy w76 (some go66) := (by rw [hw]; exact HP75.2); have hp_ : Kd.R k68 68 w76 w.heap.size (fun _ => True) (.slice (some ⟨go66, 0, none⟩) x5_25.length co71) y194 := (by rw [hw, Ny194.out]; exact HP75.1); clear HP75; replace HO_6 := aM (Kd.qoA (v := (.slice (some ⟨go66, 0, none⟩) x5_25.length co71)) (rR HO_6) (Kd.qeA HO_5.out) (by decide) hg); replace BK158 := aM (qf (rB BK158) hg (Kd.R_ne HO_5.out BK158.out (by decide))); replace BK159 := aM (qf (rB BK159) hg (Kd.R_ne HO_5.out BK159.out (by decide))); replace BK178 := aM (qf (rB BK178) hg (Kd.R_ne HO_5.out BK178.out (by decide))); replace HO_5 := aM (hp_); replace HB := aM ((by rw [hw]; exact qw (HB.out) GB66.out : Below w.heap.size w w76)); clear hg hw hp_))
           (try clear hx75_12); (try clear hf75_12); (try clear h4_); (try clear h0_)
           go_roundg kj25
           case measure => have := HK1.out; have := HK2.out; have := HJ25.out; omega
           case rel => exact ⟨(y194), (x6_25), (wrap64 (x8_2 + 1)), (by first | rfl | (simp; done) | (simp [*]; done) | (have h1_ : (x8_2 : Int) < 4 := of_decide_eq_true am; have h2_ : 0 ≤ (x8_2 : Int) := of_decide_eq_true am; congr 1; unfold wrap64; omega)), H', ⟨by have := HK1.out; have := HK2.out; have := HJ25.out; omega⟩, ⟨rR HO_5⟩, ⟨rR HO_6⟩, ⟨rB BK158⟩, ⟨rB BK159⟩, ⟨bl⟩⟩
          ·rw [if_neg c65] at H
           have c65b0 := beq_eq_false_iff_ne.mpr c65
           have c65b1 := bne_iff_ne.mpr c65
           by_cases c78 : 0 ≤ x8_2
           case neg => exact nN c78 H
           rw [if_pos c78] at H
           have c78b0 := decide_eq_true c78
           clear c78
           by_cases c79 : x8_2 < 4
           case neg => exact nN c79 H
           rw [if_pos c79] at H
           have c79b0 := decide_eq_true c79
           clear c79
           obtain ⟨y195, hy195⟩ : ∃ y_ : List (S68), y_ = (x5_25.set (x7_1 : Int).toNat (⟨(⟨(qA x5_25 x7_1).f0.f0, (qA x5_25 x7_1).f0.f1, (⟨(qA x5_25 x7_1).f0.f2.f0, (qA x5_25 x7_1).f0.f2.f1, (qA x5_25 x7_1).f0.f2.f2, (qA x5_25 x7_1).f0.f2.f3, (qA x5_25 x7_1).f0.f2.f4, (qA x5_25 x7_1).f0.f2.f5⟩ : S29)⟩ : S31), (qA x5_25 x7_1).f1, (qA x5_25 x7_1).f2, (qA x5_25 x7_1).f3, (qA x5_25 x7_1).f4, (⟨(if x8_2 = 0 then x11_25 else (qA x5_25 x7_1).f5.f0), (if x8_2 = 1 then x11_25 else (qA x5_25 x7_1).f5.f1), (if x8_2 = 2 then x11_25 else (qA x5_25 x7_1).f5.f2), (if x8_2 = 3 then x11_25 else (qA x5_25 x7_1).f5.f3)⟩ : S66)⟩ : S68)) := ⟨_, rfl⟩
           replace H : (qI.l1 kj25 y195 x6_25 x7_1 (wrap64 (x8_2 + 1)) a0_0 a0_1 l0_2) = some r := by first | (rw [hy195]; with_reducible exact H) | (have H2_ := (Option.bind_some _ _).symm.trans H; rw [hy195]; with_reducible exact H2_) | (have H2_ := (Option.bind_some _ _).symm.trans H; with_reducible exact H2_) | with_reducible exact H | (rw [hy195]; exact H) | exact H
           have Ny195 := aM hy195
           clear hy195
           have H' := aM H
           clear H
           try go_wp2
           replace HO_5 := aM (Kd.qQ HO_5.out)
           replace HO_6 := aM (Kd.qQ HO_6.out)
           replace BK158 := aM (qH BK158.out)
           replace BK159 := aM (qH BK159.out)
           replace BK178 := aM (qH BK178.out)
           replace HB := aM (qm HB.out)
           obtain ⟨Ao81, co81, eo81⟩ := Kd.qi HO_5.out
           (first | subst eo81 | (injection eo81 with f1_ f2_ f3_; have f4_ := f1_.symm; have f5_ := f3_.symm; clear f1_ f2_ f3_; subst f4_; subst f5_))
           have p189 : 0 ≤ (x11_25 : Int) := of_decide_eq_true am
           have q189 : x11_25 < (x5_25.length : Int) := of_decide_eq_true am
           obtain ⟨ad189, e189, hx189_0, hx189_1, hx189_2, hx189_3, hx189_4, hx189_5, hx189_6, hx189_7, hx189_8, hx189_9, hx189_10, hx189_11, hx189_12, hx189_13, hx189_14, hx189_15⟩ := qHC (Kd.qE HO_5.out).2.2 x11_25 p189 q189
           cases e189
           replace p189 := eq_true p189
           replace q189 := eq_true q189
           have p190 : 0 ≤ (x7_1 : Int) := of_decide_eq_true am
           have q190 : x7_1 < (x5_25.length : Int) := of_decide_eq_true am
           obtain ⟨ad190, e190, hx190_0, hx190_1, hx190_2, hx190_3, hx190_4, hx190_5, hx190_6, hx190_7, hx190_8, hx190_9, hx190_10, hx190_11, hx190_12, hx190_13, hx190_14, hx190_15⟩ := qHC (Kd.qE HO_5.out).2.2 x7_1 p190 q190
           obtain rfl : ad189 = ad190 := (by injection e190)
           replace p190 := eq_true p190
           replace q190 := eq_true q190
           refine qAB (n := 12) (S := fun w' => w'.cell? (ad189.add ((x11_25).toNat * 16)) = some (.int .i64 ((qA x5_25 x11_25).f0.f0)) ∧ w'.cell? ⟨(ad189.add ((x11_25).toNat * 16)).block, (ad189.add ((x11_25).toNat * 16)).off + 1, none⟩ = some (.int .i64 ((qA x5_25 x11_25).f0.f1)) ∧ w'.cell? ⟨(ad189.add ((x11_25).toNat * 16)).block, (ad189.add ((x11_25).toNat * 16)).off + 2, none⟩ = some (.int .i64 ((qA x5_25 x11_25).f0.f2.f0)) ∧ w'.cell? ⟨(ad189.add ((x11_25).toNat * 16)).block, (ad189.add ((x11_25).toNat * 16)).off + 3, none⟩ = some (.int .i64 ((qA x5_25 x11_25).f0.f2.f1)) ∧ w'.cell? ⟨(ad189.add ((x11_25).toNat * 16)).block, (ad189.add ((x11_25).toNat * 16)).off + 4, none⟩ = some (.int .i64 ((qA x5_25 x11_25).f0.f2.f2)) ∧ w'.cell? ⟨(ad189.add ((x11_25).toNat * 16)).block, (ad189.add ((x11_25).toNat * 16)).off + 5, none⟩ = some (.int .i64 ((qA x5_25 x11_25).f0.f2.f3)) ∧ w'.cell? ⟨(ad189.add ((x11_25).toNat * 16)).block, (ad189.add ((x11_25).toNat * 16)).off + 6, none⟩ = some (.int .i64 ((qA x5_25 x11_25).f0.f2.f4)) ∧ w'.cell? ⟨(ad189.add ((x11_25).toNat * 16)).block, (ad189.add ((x11_25).toNat * 16)).off + 7, none⟩ = some (.int .i64 ((qA x5_25 x11_25).f0.f2.f5)) ∧ w'.cell? ⟨(ad189.add ((x11_25).toNat * 16)).block, (ad189.add ((x11_25).toNat * 16)).off + 8, none⟩ = some (.int .i64 ((qA x5_25 x11_25).f1)) ∧ w'.cell? ⟨(ad189.add ((x11_25).toNat * 16)).block, (ad189.add ((x11_25).toNat * 16)).off + 9, none⟩ = some (.int .i64 ((qA x5_25 x11_25).f2)) ∧ w'.cell? ⟨(ad189.add ((x11_25).toNat * 16)).block, (ad189.add ((x11_25).toNat * 16)).off + 10, none⟩ = some (.int .i64 ((qA x5_25 x11_25).f3)) ∧ w'.cell? ⟨(ad189.add ((x11_25).toNat * 16)).block, (ad189.add ((x11_25).toNat * 16)).off + 11, none⟩ = some (.int .i64 ((qA x5_25 x11_25).f4)) ∧ w'.cell? ⟨(ad189.add ((x11_25).toNat * 16)).block, (ad189.add ((x11_25).toNat * 16)).off + 12, none⟩ = some (.int .i64 ((qA x5_25 x11_25).f5.f0)) ∧ w'.cell? ⟨(ad189.add ((x11_25).toNat * 16)).block, (ad189.add ((x11_25).toNat * 16)).off + 13, none⟩ = some (.int .i64 ((qA x5_25 x11_25).f5.f1)) ∧ w'.cell? ⟨(ad189.add ((x11_25).toNat * 16)).block, (ad189.add ((x11_25).toNat * 16)).off + 14, none⟩ = some (.int .i64 ((qA x5_25 x11_25).f5.f2)) ∧ w'.cell? ⟨(ad189.add ((x11_25).toNat * 16)).block, (ad189.add ((x11_25).toNat * 16)).off + 15, none⟩ = some (.int .i64 ((qA x5_25 x11_25).f5.f3)) ∧ w'.cell? (ad189.add ((x7_1).toNat * 16)) = some (.int .i64 ((qA x5_25 x7_1).f0.f0)) ∧ w'.cell? ⟨(ad189.add ((x7_1).toNat * 16)).block, (ad189.add ((x7_1).toNat * 16)).off + 1, none⟩ = some (.int .i64 ((qA x5_25 x7_1).f0.f1)) ∧ w'.cell? ⟨(ad189.add ((x7_1).toNat * 16)).block, (ad189.add ((x7_1).toNat * 16)).off + 2, none⟩ = some (.int .i64 ((qA x5_25 x7_1).f0.f2.f0)) ∧ w'.cell? ⟨(ad189.add ((x7_1).toNat * 16)).block, (ad189.add ((x7_1).toNat * 16)).off + 3, none⟩ = some (.int .i64 ((qA x5_25 x7_1).f0.f2.f1)) ∧ w'.cell? ⟨(ad189.add ((x7_1).toNat * 16)).block, (ad189.add ((x7_1).toNat * 16)).off + 4, none⟩ = some (.int .i64 ((qA x5_25 x7_1).f0.f2.f2)) ∧ w'.cell? ⟨(ad189.add ((x7_1).toNat * 16)).block, (ad189.add ((x7_1).toNat * 16)).off + 5, none⟩ = some (.int .i64 ((qA x5_25 x7_1).f0.f2.f3)) ∧ w'.cell? ⟨(ad189.add ((x7_1).toNat * 16)).block, (ad189.add ((x7_1).toNat * 16)).off + 6, none⟩ = some (.int .i64 ((qA x5_25 x7_1).f0.f2.f4)) ∧ w'.cell? ⟨(ad189.add ((x7_1).toNat * 16)).block, (ad189.add ((x7_1).toNat * 16)).off + 7, none⟩ = some (.int .i64 ((qA x5_25 x7_1).f0.f2.f5)) ∧ w'.cell? ⟨(ad189.add ((x7_1).toNat * 16)).block, (ad189.add ((x7_1).toNat * 16)).off + 8, none⟩ = some (.int .i64 ((qA x5_25 x7_1).f1)) ∧ w'.cell? ⟨(ad189.add ((x7_1).toNat * 16)).block, (ad189.add ((x7_1).toNat * 16)).off + 9, none⟩ = some (.int .i64 ((qA x5_25 x7_1).f2)) ∧ w'.cell? ⟨(ad189.add ((x7_1).toNat * 16)).block, (ad189.add ((x7_1).toNat * 16)).off + 10, none⟩ = some (.int .i64 ((qA x5_25 x7_1).f3)) ∧ w'.cell? ⟨(ad189.add ((x7_1).toNat * 16)).block, (ad189.add ((x7_1).toNat * 16)).off + 11, none⟩ = some (.int .i64 ((qA x5_25 x7_1).f4)) ∧ w'.cell? ⟨(ad189.add ((x7_1).toNat * 16)).block, (ad189.add ((x7_1).toNat * 16)).off + 12, none⟩ = some (.int .i64 ((qA x5_25 x7_1).f5.f0)) ∧ w'.cell? ⟨(ad189.add ((x7_1).toNat * 16)).block, (ad189.add ((x7_1).toNat * 16)).off + 13, none⟩ = some (.int .i64 ((qA x5_25 x7_1).f5.f1)) ∧ w'.cell? ⟨(ad189.add ((x7_1).toNat * 16)).block, (ad189.add ((x7_1).toNat * 16)).off + 14, none⟩ = some (.int .i64 ((qA x5_25 x7_1).f5.f2)) ∧ w'.cell? ⟨(ad189.add ((x7_1).toNat * 16)).block, (ad189.add ((x7_1).toNat * 16)).off + 15, none⟩ = some (.int .i64 ((qA x5_25 x7_1).f5.f3))) (ds := []) #[false, false, false, false, false, false, false, false, false, false, false, false] (by kernel_rfl) rfl rfl ⟨hx189_0, hx189_1, hx189_2, hx189_3, hx189_4, hx189_5, hx189_6, hx189_7, hx189_8, hx189_9, hx189_10, hx189_11, hx189_12, hx189_13, hx189_14, hx189_15, hx190_0, hx190_1, hx190_2, hx190_3, hx190_4, hx190_5, hx190_6, hx190_7, hx190_8, hx190_9, hx190_10, hx190_11, hx190_12, hx190_13, hx190_14, hx190_15⟩ (fun hHeld => ?_); refine qMA qI.tab17 qI.bits17 (fun HT_ HW_ => ?_)
           generalize wc.drew = w80 at HO_5 HO_6 BK158 BK159 BK178 HB hx189_0 hx189_1 hx189_10 hx189_11 hx189_12 hx189_13 hx189_14 hx189_15 hx189_2 hx189_3 hx189_4 hx189_5 hx189_6 hx189_7 hx189_8 hx189_9 hx190_0 hx190_1 hx190_10 hx190_11 hx190_12 hx190_13 hx190_14 hx190_15 hx190_2 hx190_3 hx190_4 hx190_5 hx190_6 hx190_7 hx190_8 hx190_9 hHeld ⊢
           refine pS (i := 0) (N := some 76) #[true, false, false, false, false, false, false, false, false, false, false, false] HT_ ?_
           refine pS (i := 1) (N := some 77) #[true, true, false, false, false, false, false, false, false, false, false, false] HT_ ?_
           refine pS (i := 2) (N := some 78) #[true, true, true, false, false, false, false, false, false, false, false, false] HT_ ?_
           refine pS (i := 3) (N := some 79) #[true, true, true, true, false, false, false, false, false, false, false, false] HT_ ?_
           refine pS (i := 5) (N := some 81) #[true, true, true, true, false, true, false, false, false, false, false, false] HT_ ?_
           refine pS (i := 6) (N := some 82) #[true, true, true, true, false, true, true, false, false, false, false, false] HT_ ?_
           refine pS (i := 7) (N := some 83) #[true, true, true, true, false, true, true, true, false, false, false, false] HT_ ?_
           refine pS (i := 8) (N := some 84) #[true, true, true, true, false, true, true, true, true, false, false, false] HT_ ?_
           refine tS (i := 4) (N := some 80) #[true, true, true, true, true, true, true, true, true, false, false, false] HT_ HW_ hHeld ?_
           refine tS (i := 9) (N := some 85) #[true, true, true, true, true, true, true, true, true, true, false, false] HT_ HW_ hHeld ?_
           refine pS (i := 10) (N := some 86) #[true, true, true, true, true, true, true, true, true, true, true, false] HT_ ?_
           refine pS (i := 11) (N := some 87) #[true, true, true, true, true, true, true, true, true, true, true, true] HT_ ?_
           refine done_ (qHB HT_.out (by kernel_rfl)) ?_
           have p77 : 0 ≤ (x7_1 : Int) := of_decide_eq_true am
           have q77 : (x7_1 : Int) < ((x5_25.length : Int) : Int) := of_decide_eq_true am
           obtain ⟨go77, co77, eo77, gb77, gl77, cl77, HG77⟩ := Kd.qRD HO_5.out (by omega)
           (first | cases eo77 | (injection eo77 with ea_ en_ ec_; (first | subst ea_ | (injection ea_ with ea_; subst ea_)); subst ec_; clear en_))
           have GB77 := aM gb77
           have GG77 := aM HG77
           clear gb77 gl77 HG77
           (first | simp only [qC] at hx189_0 | skip)
           (first | simp only [qC] at hx189_1 | skip)
           (first | simp only [qC] at hx189_2 | skip)
           (first | simp only [qC] at hx189_3 | skip)
           (first | simp only [qC] at hx189_4 | skip)
           (first | simp only [qC] at hx189_5 | skip)
           (first | simp only [qC] at hx189_6 | skip)
           (first | simp only [qC] at hx189_7 | skip)
           (first | simp only [qC] at hx189_8 | skip)
           (first | simp only [qC] at hx189_9 | skip)
           (first | simp only [qC] at hx189_10 | skip)
           (first | simp only [qC] at hx189_11 | skip)
           (first | simp only [qC] at hx189_12 | skip)
           (first | simp only [qC] at hx189_13 | skip)
           (first | simp only [qC] at hx189_14 | skip)
           (first | simp only [qC] at hx189_15 | skip)
           (first | simp only [qC] at hx190_0 | skip)
           (first | simp only [qC] at hx190_1 | skip)
           (first | simp only [qC] at hx190_2 | skip)
           (first | simp only [qC] at hx190_3 | skip)
           (first | simp only [qC] at hx190_4 | skip)
           (first | simp only [qC] at hx190_5 | skip)
           (first | simp only [qC] at hx190_6 | skip)
           (first | simp only [qC] at hx190_7 | skip)
           (first | simp only [qC] at hx190_8 | skip)
           (first | simp only [qC] at hx190_9 | skip)
           (first | simp only [qC] at hx190_10 | skip)
           (first | simp only [qC] at hx190_11 | skip)
           (first | simp only [qC] at hx190_12 | skip)
           (first | simp only [qC] at hx190_13 | skip)
           (first | simp only [qC] at hx190_14 | skip)
           (first | simp only [qC] at hx190_15 | skip)
           obtain ⟨ce77, hcl77, hM77, hcc77, hfr77⟩ := Kd.qIC HO_5.out z68 (x7_1 : Int) p77 q77
           obtain rfl := qNB hM77
           have hx77_0 : w80.cell? ⟨go77, (x7_1 : Int).toNat * 16, none⟩ = some (.int .i64 ((qA x5_25 x7_1).f0.f0)) := hcc77 0 _ rfl
           have hx77_1 : w80.cell? ⟨go77, (x7_1 : Int).toNat * 16 + 1, none⟩ = some (.int .i64 ((qA x5_25 x7_1).f0.f1)) := hcc77 1 _ rfl
           have hx77_2 : w80.cell? ⟨go77, (x7_1 : Int).toNat * 16 + 2, none⟩ = some (.int .i64 ((qA x5_25 x7_1).f0.f2.f0)) := hcc77 2 _ rfl
           have hx77_3 : w80.cell? ⟨go77, (x7_1 : Int).toNat * 16 + 3, none⟩ = some (.int .i64 ((qA x5_25 x7_1).f0.f2.f1)) := hcc77 3 _ rfl
           have hx77_4 : w80.cell? ⟨go77, (x7_1 : Int).toNat * 16 + 4, none⟩ = some (.int .i64 ((qA x5_25 x7_1).f0.f2.f2)) := hcc77 4 _ rfl
           have hx77_5 : w80.cell? ⟨go77, (x7_1 : Int).toNat * 16 + 5, none⟩ = some (.int .i64 ((qA x5_25 x7_1).f0.f2.f3)) := hcc77 5 _ rfl
           have hx77_6 : w80.cell? ⟨go77, (x7_1 : Int).toNat * 16 + 6, none⟩ = some (.int .i64 ((qA x5_25 x7_1).f0.f2.f4)) := hcc77 6 _ rfl
           have hx77_7 : w80.cell? ⟨go77, (x7_1 : Int).toNat * 16 + 7, none⟩ = some (.int .i64 ((qA x5_25 x7_1).f0.f2.f5)) := hcc77 7 _ rfl
           have hx77_8 : w80.cell? ⟨go77, (x7_1 : Int).toNat * 16 + 8, none⟩ = some (.int .i64 ((qA x5_25 x7_1).f1)) := hcc77 8 _ rfl
           have hx77_9 : w80.cell? ⟨go77, (x7_1 : Int).toNat * 16 + 9, none⟩ = some (.int .i64 ((qA x5_25 x7_1).f2)) := hcc77 9 _ rfl
           have hx77_10 : w80.cell? ⟨go77, (x7_1 : Int).toNat * 16 + 10, none⟩ = some (.int .i64 ((qA x5_25 x7_1).f3)) := hcc77 10 _ rfl
           have hx77_11 : w80.cell? ⟨go77, (x7_1 : Int).toNat * 16 + 11, none⟩ = some (.int .i64 ((qA x5_25 x7_1).f4)) := hcc77 11 _ rfl
           have hx77_12 : w80.cell? ⟨go77, (x7_1 : Int).toNat * 16 + 12, none⟩ = some (.int .i64 ((qA x5_25 x7_1).f5.f0)) := hcc77 12 _ rfl
           have hx77_13 : w80.cell? ⟨go77, (x7_1 : Int).toNat * 16 + 13, none⟩ = some (.int .i64 ((qA x5_25 x7_1).f5.f1)) := hcc77 13 _ rfl
           have hx77_14 : w80.cell? ⟨go77, (x7_1 : Int).toNat * 16 + 14, none⟩ = some (.int .i64 ((qA x5_25 x7_1).f5.f2)) := hcc77 14 _ rfl
           have hx77_15 : w80.cell? ⟨go77, (x7_1 : Int).toNat * 16 + 15, none⟩ = some (.int .i64 ((qA x5_25 x7_1).f5.f3)) := hcc77 15 _ rfl
           have hf77_0 : w80.frozen? ⟨go77, (x7_1 : Int).toNat * 16, none⟩ = false := hfr77 0
           have hf77_1 : w80.frozen? ⟨go77, (x7_1 : Int).toNat * 16 + 1, none⟩ = false := hfr77 1
           have hf77_2 : w80.frozen? ⟨go77, (x7_1 : Int).toNat * 16 + 2, none⟩ = false := hfr77 2
           have hf77_3 : w80.frozen? ⟨go77, (x7_1 : Int).toNat * 16 + 3, none⟩ = false := hfr77 3
           have hf77_4 : w80.frozen? ⟨go77, (x7_1 : Int).toNat * 16 + 4, none⟩ = false := hfr77 4
           have hf77_5 : w80.frozen? ⟨go77, (x7_1 : Int).toNat * 16 + 5, none⟩ = false := hfr77 5
           have hf77_6 : w80.frozen? ⟨go77, (x7_1 : Int).toNat * 16 + 6, none⟩ = false := hfr77 6
           have hf77_7 : w80.frozen? ⟨go77, (x7_1 : Int).toNat * 16 + 7, none⟩ = false := hfr77 7
           have hf77_8 : w80.frozen? ⟨go77, (x7_1 : Int).toNat * 16 + 8, none⟩ = false := hfr77 8
           have hf77_9 : w80.frozen? ⟨go77, (x7_1 : Int).toNat * 16 + 9, none⟩ = false := hfr77 9
           have hf77_10 : w80.frozen? ⟨go77, (x7_1 : Int).toNat * 16 + 10, none⟩ = false := hfr77 10
           have hf77_11 : w80.frozen? ⟨go77, (x7_1 : Int).toNat * 16 + 11, none⟩ = false := hfr77 11
           have hf77_12 : w80.frozen? ⟨go77, (x7_1 : Int).toNat * 16 + 12, none⟩ = false := hfr77 12
           have hf77_13 : w80.frozen? ⟨go77, (x7_1 : Int).toNat * 16 + 13, none⟩ = false := hfr77 13
           have hf77_14 : w80.frozen? ⟨go77, (x7_1 : Int).toNat * 16 + 14, none⟩ = false := hfr77 14
           have hf77_15 : w80.frozen? ⟨go77, (x7_1 : Int).toNat * 16 + 15, none⟩ = false := hfr77 15
           clear hcl77 hcc77 hfr77 hM77
           replace p77 := eq_true p77
           replace q77 := eq_true q77
           have HX82 := aM (show Kd.R k68 68 w80 w.heap.size (fun _ => True) (.slice (some ⟨go77, 0, none⟩) x5_25.length co81) x5_25 from (rR HO_5))
           obtain ⟨ce82, hcl82, hM82, hcc82, hfr82⟩ := Kd.qIC HX82.out z68 (x7_1 : Int) (of_decide_eq_true am) (by have h_ : (x7_1 : Int) < ((x5_25.length : Int) : Int) := of_decide_eq_true am; first | exact h_ | (have e_ := (Kd.qE HO_5.out).1; omega) | simpa using h_)
           obtain rfl := qNB hM82
           have h4_ : (x8_2 : Int) < 4 := of_decide_eq_true am
           have h0_ : 0 ≤ (x8_2 : Int) := of_decide_eq_true am
           have HP82 := Kd.R_seg HX82.out (x7_1 : Int) (of_decide_eq_true am) (by have h_ : (x7_1 : Int) < ((x5_25.length : Int) : Int) := of_decide_eq_true am; first | exact h_ | (have e_ := (Kd.qE HO_5.out).1; omega) | simpa using h_) (seg := [.int .i64 x11_25]) (j := 12 + (x8_2 : Int).toNat) hcl82 hcc82 (by show 12 + (x8_2 : Int).toNat + 1 ≤ 16; omega) (x' := (⟨(⟨(qA x5_25 x7_1).f0.f0, (qA x5_25 x7_1).f0.f1, (⟨(qA x5_25 x7_1).f0.f2.f0, (qA x5_25 x7_1).f0.f2.f1, (qA x5_25 x7_1).f0.f2.f2, (qA x5_25 x7_1).f0.f2.f3, (qA x5_25 x7_1).f0.f2.f4, (qA x5_25 x7_1).f0.f2.f5⟩ : S29)⟩ : S31), (qA x5_25 x7_1).f1, (qA x5_25 x7_1).f2, (qA x5_25 x7_1).f3, (qA x5_25 x7_1).f4, (⟨(if x8_2 = 0 then x11_25 else (qA x5_25 x7_1).f5.f0), (if x8_2 = 1 then x11_25 else (qA x5_25 x7_1).f5.f1), (if x8_2 = 2 then x11_25 else (qA x5_25 x7_1).f5.f2), (if x8_2 = 3 then x11_25 else (qA x5_25 x7_1).f5.f3)⟩ : S66)⟩ : S68)) (by rcases (show x8_2 = 0 ∨ x8_2 = 1 ∨ x8_2 = 2 ∨ x8_2 = 3 by omega) with e_ | e_ | e_ | e_ <;> rw [e_] <;> exact qOC _ _ _ _) (fun _ hk => hk)
           rw [← Nat.add_assoc] at HP82
           have hx82_12 := hcc82 (12 + (x8_2 : Int).toNat) _ (List.getElem?_eq_getElem (by show 12 + (x8_2 : Int).toNat < 16; omega))
           (try simp only [show (k68).sz = 16 from rfl, Nat.mul_one, Nat.add_zero] at hx82_12)
           have hf82_12 := hfr82 (12 + (x8_2 : Int).toNat)
           (try simp only [show (k68).sz = 16 from rfl, Nat.mul_one, Nat.add_zero] at hf82_12)
           (try rw [← Nat.add_assoc] at hx82_12)
           (try rw [← Nat.add_assoc] at hf82_12)
           clear hcl82 hcc82 hfr82 hM82
           try go_wp2_with (first | ((with_reducible refine qyA (t := 3) (p := 107) rfl ?_); refine qBB (t := 3) (p := 107) (v := ?vo_w83) (w1 := (w80.setCell ⟨go77, (x7_1 : Int).toNat * 16 + 12 + (x8_2 : Int).toNat, none⟩ (.int .i64 x11_25))) ?hg ?ho ?hn ?hr ?_; (case ho => rfl); (case hg => rfl); (case hn => rfl); (case hr => exact gS); intro w83 hw; have hg : w80.grownBy w83 (some go77) := (by rw [hw]; exact HP82.2); have hp_ : Kd.R k68 68 w83 w.heap.size (fun _ => True) (.slice (some ⟨go77, 0, none⟩) x5_25.length co81) y195 := (by rw [hw, Ny195.out]; exact HP82.1); clear HP82; replace HO_6 := aM (Kd.qoA (v := (.slice (some ⟨go77, 0, none⟩) x5_25.length co81)) (rR HO_6) (Kd.qeA HO_5.out) (by decide) hg); replace BK158 := aM (qf (rB BK158) hg (Kd.R_ne HO_5.out BK158.out (by decide))); replace BK159 := aM (qf (rB BK159) hg (Kd.R_ne HO_5.out BK159.out (by decide))); replace BK178 := aM (qf (rB BK178) hg (Kd.R_ne HO_5.out BK178.out (by decide))); replace HO_5 := aM (hp_); replace HB := aM ((by rw [hw]; exact qw (HB.out) GB77.out : Below w.heap.size w w83)); clear hg hw hp_))
           (try clear hx82_12); (try clear hf82_12); (try clear h4_); (try clear h0_)
           go_roundg kj25
           case measure => have := HK1.out; have := HK2.out; have := HJ25.out; omega
           case rel => exact ⟨(y195), (x6_25), (wrap64 (x8_2 + 1)), (by first | rfl | (simp; done) | (simp [*]; done) | (have h1_ : (x8_2 : Int) < 4 := of_decide_eq_true am; have h2_ : 0 ≤ (x8_2 : Int) := of_decide_eq_true am; congr 1; unfold wrap64; omega)), H', ⟨by have := HK1.out; have := HK2.out; have := HJ25.out; omega⟩, ⟨rR HO_5⟩, ⟨rR HO_6⟩, ⟨rB BK158⟩, ⟨rB BK159⟩, ⟨bl⟩⟩
       ·replace c23 := Bool.eq_false_iff.mpr c23
        subst c23
        replace H := iF H
        have H' := aM H
        clear H
        have p20 : 0 ≤ (x7_1 : Int) := of_decide_eq_true am
        have q20 : (x7_1 : Int) < ((x5_2.length : Int) : Int) := of_decide_eq_true am
        obtain ⟨go20, co20, eo20, gb20, gl20, cl20, HG20⟩ := Kd.qRD HO_5.out (by omega)
        (first | cases eo20 | (injection eo20 with ea_ en_ ec_; (first | subst ea_ | (injection ea_ with ea_; subst ea_)); subst ec_; clear en_))
        have GB20 := aM gb20
        have GG20 := aM HG20
        clear gb20 gl20 HG20
        obtain ⟨ce20, hcl20, hM20, hcc20, hfr20⟩ := Kd.qIC HO_5.out z68 (x7_1 : Int) p20 q20
        obtain rfl := qNB hM20
        have hx20_0 : wr.cell? ⟨go20, (x7_1 : Int).toNat * 16, none⟩ = some (.int .i64 ((qA x5_2 x7_1).f0.f0)) := hcc20 0 _ rfl
        have hx20_1 : wr.cell? ⟨go20, (x7_1 : Int).toNat * 16 + 1, none⟩ = some (.int .i64 ((qA x5_2 x7_1).f0.f1)) := hcc20 1 _ rfl
        have hx20_2 : wr.cell? ⟨go20, (x7_1 : Int).toNat * 16 + 2, none⟩ = some (.int .i64 ((qA x5_2 x7_1).f0.f2.f0)) := hcc20 2 _ rfl
        have hx20_3 : wr.cell? ⟨go20, (x7_1 : Int).toNat * 16 + 3, none⟩ = some (.int .i64 ((qA x5_2 x7_1).f0.f2.f1)) := hcc20 3 _ rfl
        have hx20_4 : wr.cell? ⟨go20, (x7_1 : Int).toNat * 16 + 4, none⟩ = some (.int .i64 ((qA x5_2 x7_1).f0.f2.f2)) := hcc20 4 _ rfl
        have hx20_5 : wr.cell? ⟨go20, (x7_1 : Int).toNat * 16 + 5, none⟩ = some (.int .i64 ((qA x5_2 x7_1).f0.f2.f3)) := hcc20 5 _ rfl
        have hx20_6 : wr.cell? ⟨go20, (x7_1 : Int).toNat * 16 + 6, none⟩ = some (.int .i64 ((qA x5_2 x7_1).f0.f2.f4)) := hcc20 6 _ rfl
        have hx20_7 : wr.cell? ⟨go20, (x7_1 : Int).toNat * 16 + 7, none⟩ = some (.int .i64 ((qA x5_2 x7_1).f0.f2.f5)) := hcc20 7 _ rfl
        have hx20_8 : wr.cell? ⟨go20, (x7_1 : Int).toNat * 16 + 8, none⟩ = some (.int .i64 ((qA x5_2 x7_1).f1)) := hcc20 8 _ rfl
        have hx20_9 : wr.cell? ⟨go20, (x7_1 : Int).toNat * 16 + 9, none⟩ = some (.int .i64 ((qA x5_2 x7_1).f2)) := hcc20 9 _ rfl
        have hx20_10 : wr.cell? ⟨go20, (x7_1 : Int).toNat * 16 + 10, none⟩ = some (.int .i64 ((qA x5_2 x7_1).f3)) := hcc20 10 _ rfl
        have hx20_11 : wr.cell? ⟨go20, (x7_1 : Int).toNat * 16 + 11, none⟩ = some (.int .i64 ((qA x5_2 x7_1).f4)) := hcc20 11 _ rfl
        have hx20_12 : wr.cell? ⟨go20, (x7_1 : Int).toNat * 16 + 12, none⟩ = some (.int .i64 ((qA x5_2 x7_1).f5.f0)) := hcc20 12 _ rfl
        have hx20_13 : wr.cell? ⟨go20, (x7_1 : Int).toNat * 16 + 13, none⟩ = some (.int .i64 ((qA x5_2 x7_1).f5.f1)) := hcc20 13 _ rfl
        have hx20_14 : wr.cell? ⟨go20, (x7_1 : Int).toNat * 16 + 14, none⟩ = some (.int .i64 ((qA x5_2 x7_1).f5.f2)) := hcc20 14 _ rfl
        have hx20_15 : wr.cell? ⟨go20, (x7_1 : Int).toNat * 16 + 15, none⟩ = some (.int .i64 ((qA x5_2 x7_1).f5.f3)) := hcc20 15 _ rfl
        have hf20_0 : wr.frozen? ⟨go20, (x7_1 : Int).toNat * 16, none⟩ = false := hfr20 0
        have hf20_1 : wr.frozen? ⟨go20, (x7_1 : Int).toNat * 16 + 1, none⟩ = false := hfr20 1
        have hf20_2 : wr.frozen? ⟨go20, (x7_1 : Int).toNat * 16 + 2, none⟩ = false := hfr20 2
        have hf20_3 : wr.frozen? ⟨go20, (x7_1 : Int).toNat * 16 + 3, none⟩ = false := hfr20 3
        have hf20_4 : wr.frozen? ⟨go20, (x7_1 : Int).toNat * 16 + 4, none⟩ = false := hfr20 4
        have hf20_5 : wr.frozen? ⟨go20, (x7_1 : Int).toNat * 16 + 5, none⟩ = false := hfr20 5
        have hf20_6 : wr.frozen? ⟨go20, (x7_1 : Int).toNat * 16 + 6, none⟩ = false := hfr20 6
        have hf20_7 : wr.frozen? ⟨go20, (x7_1 : Int).toNat * 16 + 7, none⟩ = false := hfr20 7
        have hf20_8 : wr.frozen? ⟨go20, (x7_1 : Int).toNat * 16 + 8, none⟩ = false := hfr20 8
        have hf20_9 : wr.frozen? ⟨go20, (x7_1 : Int).toNat * 16 + 9, none⟩ = false := hfr20 9
        have hf20_10 : wr.frozen? ⟨go20, (x7_1 : Int).toNat * 16 + 10, none⟩ = false := hfr20 10
        have hf20_11 : wr.frozen? ⟨go20, (x7_1 : Int).toNat * 16 + 11, none⟩ = false := hfr20 11
        have hf20_12 : wr.frozen? ⟨go20, (x7_1 : Int).toNat * 16 + 12, none⟩ = false := hfr20 12
        have hf20_13 : wr.frozen? ⟨go20, (x7_1 : Int).toNat * 16 + 13, none⟩ = false := hfr20 13
        have hf20_14 : wr.frozen? ⟨go20, (x7_1 : Int).toNat * 16 + 14, none⟩ = false := hfr20 14
        have hf20_15 : wr.frozen? ⟨go20, (x7_1 : Int).toNat * 16 + 15, none⟩ = false := hfr20 15
        clear hcl20 hcc20 hfr20 hM20
        replace p20 := eq_true p20
        replace q20 := eq_true q20
        have HX84 := aM (show Kd.R k68 68 wr w.heap.size (fun _ => True) (.slice (some ⟨go20, 0, none⟩) x5_2.length co20) x5_2 from (rR HO_5))
        obtain ⟨ce84, hcl84, hM84, hcc84, hfr84⟩ := Kd.qIC HX84.out z68 (x7_1 : Int) (of_decide_eq_true am) (by have h_ : (x7_1 : Int) < ((x5_2.length : Int) : Int) := of_decide_eq_true am; first | exact h_ | (have e_ := (Kd.qE HO_5.out).1; omega) | simpa using h_)
        obtain rfl := qNB hM84
        have h4_ : (x8_2 : Int) < 4 := of_decide_eq_true am
        have h0_ : 0 ≤ (x8_2 : Int) := of_decide_eq_true am
        have HP84 := Kd.R_seg HX84.out (x7_1 : Int) (of_decide_eq_true am) (by have h_ : (x7_1 : Int) < ((x5_2.length : Int) : Int) := of_decide_eq_true am; first | exact h_ | (have e_ := (Kd.qE HO_5.out).1; omega) | simpa using h_) (seg := [.int .i64 (-1)]) (j := 12 + (x8_2 : Int).toNat) hcl84 hcc84 (by show 12 + (x8_2 : Int).toNat + 1 ≤ 16; omega) (x' := (⟨(⟨(qA x5_2 x7_1).f0.f0, (qA x5_2 x7_1).f0.f1, (⟨(qA x5_2 x7_1).f0.f2.f0, (qA x5_2 x7_1).f0.f2.f1, (qA x5_2 x7_1).f0.f2.f2, (qA x5_2 x7_1).f0.f2.f3, (qA x5_2 x7_1).f0.f2.f4, (qA x5_2 x7_1).f0.f2.f5⟩ : S29)⟩ : S31), (qA x5_2 x7_1).f1, (qA x5_2 x7_1).f2, (qA x5_2 x7_1).f3, (qA x5_2 x7_1).f4, (⟨(if x8_2 = 0 then (-1) else (qA x5_2 x7_1).f5.f0), (if x8_2 = 1 then (-1) else (qA x5_2 x7_1).f5.f1), (if x8_2 = 2 then (-1) else (qA x5_2 x7_1).f5.f2), (if x8_2 = 3 then (-1) else (qA x5_2 x7_1).f5.f3)⟩ : S66)⟩ : S68)) (by rcases (show x8_2 = 0 ∨ x8_2 = 1 ∨ x8_2 = 2 ∨ x8_2 = 3 by omega) with e_ | e_ | e_ | e_ <;> rw [e_] <;> exact qOC _ _ _ _) (fun _ hk => hk)
        rw [← Nat.add_assoc] at HP84
        have hx84_12 := hcc84 (12 + (x8_2 : Int).toNat) _ (List.getElem?_eq_getElem (by show 12 + (x8_2 : Int).toNat < 16; omega))
        (try simp only [show (k68).sz = 16 from rfl, Nat.mul_one, Nat.add_zero] at hx84_12)
        have hf84_12 := hfr84 (12 + (x8_2 : Int).toNat)
        (try simp only [show (k68).sz = 16 from rfl, Nat.mul_one, Nat.add_zero] at hf84_12)
        (try rw [← Nat.add_assoc] at hx84_12)
        (try rw [← Nat.add_assoc] at hf84_12)
        clear hcl84 hcc84 hfr84 hM84
        try go_wp2_with (first | ((with_reducible refine qyA (t := 3) (p := 34) rfl ?_); refine qBB (t := 3) (p := 34) (v := ?vo_w85) (w1 := (wr.setCell ⟨go20, (x7_1 : Int).toNat * 16 + 12 + (x8_2 : Int).toNat, none⟩ (.int .i64 (-1)))) ?hg ?ho ?hn ?hr ?_; (case ho => rfl); (case hg => rfl); (case hn => rfl); (case hr => exact gS); intro w85 hw; have hg : wr.grownBy w85 (some go20) := (by rw [hw]; exact HP84.2); have hp_ : Kd.R k68 68 w85 w.heap.size (fun _ => True) (.slice (some ⟨go20, 0, none⟩) x5_2.length co20) y167 := (by rw [hw, Ny167.out]; exact HP84.1); clear HP84; replace HO_6 := aM (Kd.qoA (v := (.slice (some ⟨go20, 0, none⟩) x5_2.length co20)) (rR HO_6) (Kd.qeA HO_5.out) (by decide) hg); replace BK158 := aM (qf (rB BK158) hg (Kd.R_ne HO_5.out BK158.out (by decide))); replace BK159 := aM (qf (rB BK159) hg (Kd.R_ne HO_5.out BK159.out (by decide))); replace HO_5 := aM (hp_); replace HB := aM ((by rw [hw]; exact qw (HB.out) GB20.out : Below w.heap.size w w85)); clear hg hw hp_))
        (try clear hx84_12); (try clear hf84_12); (try clear h4_); (try clear h0_)
        replace HO_5 := aM (Kd.qQ HO_5.out)
        replace HO_6 := aM (Kd.qQ HO_6.out)
        replace BK158 := aM (qH BK158.out)
        replace BK159 := aM (qH BK159.out)
        replace HB := aM (qm HB.out)
        have p168 : 0 ≤ (x7_1 : Int) := of_decide_eq_true am
        have q168 : x7_1 < (y167.length : Int) := (by have h_ : (x7_1 : Int) < ((x5_2.length : Int) : Int) := of_decide_eq_true am; first | (have e_ := (Kd.qE HO_5.out).1; omega) | simpa only [Ny167.out, List.length_set] using h_)
        have ql168 : ((x7_1 : Int) < ((x5_2.length : Int) : Int)) = True := eq_true (of_decide_eq_true am)
        obtain ⟨ad168, e168, hx168_0, hx168_1, hx168_2, hx168_3, hx168_4, hx168_5, hx168_6, hx168_7, hx168_8, hx168_9, hx168_10, hx168_11, hx168_12, hx168_13, hx168_14, hx168_15⟩ := qHC (Kd.qE HO_5.out).2.2 x7_1 p168 q168
        obtain rfl : (⟨go20, 0, none⟩ : Addr) = ad168 := (by injection e168)
        (first | simp only [qC] at hx168_0 | simp only [qLA] at hx168_0 | simp only [Addr.add, Nat.zero_add] at hx168_0 | skip)
        (first | simp only [qC] at hx168_1 | simp only [qLA] at hx168_1 | simp only [Addr.add, Nat.zero_add] at hx168_1 | skip)
        (first | simp only [qC] at hx168_2 | simp only [qLA] at hx168_2 | simp only [Addr.add, Nat.zero_add] at hx168_2 | skip)
        (first | simp only [qC] at hx168_3 | simp only [qLA] at hx168_3 | simp only [Addr.add, Nat.zero_add] at hx168_3 | skip)
        (first | simp only [qC] at hx168_4 | simp only [qLA] at hx168_4 | simp only [Addr.add, Nat.zero_add] at hx168_4 | skip)
        (first | simp only [qC] at hx168_5 | simp only [qLA] at hx168_5 | simp only [Addr.add, Nat.zero_add] at hx168_5 | skip)
        (first | simp only [qC] at hx168_6 | simp only [qLA] at hx168_6 | simp only [Addr.add, Nat.zero_add] at hx168_6 | skip)
        (first | simp only [qC] at hx168_7 | simp only [qLA] at hx168_7 | simp only [Addr.add, Nat.zero_add] at hx168_7 | skip)
        (first | simp only [qC] at hx168_8 | simp only [qLA] at hx168_8 | simp only [Addr.add, Nat.zero_add] at hx168_8 | skip)
        (first | simp only [qC] at hx168_9 | simp only [qLA] at hx168_9 | simp only [Addr.add, Nat.zero_add] at hx168_9 | skip)
        (first | simp only [qC] at hx168_10 | simp only [qLA] at hx168_10 | simp only [Addr.add, Nat.zero_add] at hx168_10 | skip)
        (first | simp only [qC] at hx168_11 | simp only [qLA] at hx168_11 | simp only [Addr.add, Nat.zero_add] at hx168_11 | skip)
        (first | simp only [qC] at hx168_12 | simp only [qLA] at hx168_12 | simp only [Addr.add, Nat.zero_add] at hx168_12 | skip)
        (first | simp only [qC] at hx168_13 | simp only [qLA] at hx168_13 | simp only [Addr.add, Nat.zero_add] at hx168_13 | skip)
        (first | simp only [qC] at hx168_14 | simp only [qLA] at hx168_14 | simp only [Addr.add, Nat.zero_add] at hx168_14 | skip)
        (first | simp only [qC] at hx168_15 | simp only [qLA] at hx168_15 | simp only [Addr.add, Nat.zero_add] at hx168_15 | skip)
        replace p168 := eq_true p168
        replace q168 := eq_true q168
        refine qAB (n := 14) (S := fun w' => w'.cell? ⟨gb158, 0, none⟩ = some (.int .i64 a0_0) ∧ w'.cell? ⟨gb158, 1, none⟩ = some (.int .i64 a0_1) ∧ w'.cell? ⟨gb158, 2, none⟩ = some (.slice A0_2 l0_2.length c0_2) ∧ w'.cell? ⟨go20, (x7_1).toNat * 16, none⟩ = some (.int .i64 ((qA y167 x7_1).f0.f0)) ∧ w'.cell? ⟨go20, (x7_1).toNat * 16 + 1, none⟩ = some (.int .i64 ((qA y167 x7_1).f0.f1)) ∧ w'.cell? ⟨go20, (x7_1).toNat * 16 + 2, none⟩ = some (.int .i64 ((qA y167 x7_1).f0.f2.f0)) ∧ w'.cell? ⟨go20, (x7_1).toNat * 16 + 3, none⟩ = some (.int .i64 ((qA y167 x7_1).f0.f2.f1)) ∧ w'.cell? ⟨go20, (x7_1).toNat * 16 + 4, none⟩ = some (.int .i64 ((qA y167 x7_1).f0.f2.f2)) ∧ w'.cell? ⟨go20, (x7_1).toNat * 16 + 5, none⟩ = some (.int .i64 ((qA y167 x7_1).f0.f2.f3)) ∧ w'.cell? ⟨go20, (x7_1).toNat * 16 + 6, none⟩ = some (.int .i64 ((qA y167 x7_1).f0.f2.f4)) ∧ w'.cell? ⟨go20, (x7_1).toNat * 16 + 7, none⟩ = some (.int .i64 ((qA y167 x7_1).f0.f2.f5)) ∧ w'.cell? ⟨go20, (x7_1).toNat * 16 + 8, none⟩ = some (.int .i64 ((qA y167 x7_1).f1)) ∧ w'.cell? ⟨go20, (x7_1).toNat * 16 + 9, none⟩ = some (.int .i64 ((qA y167 x7_1).f2)) ∧ w'.cell? ⟨go20, (x7_1).toNat * 16 + 10, none⟩ = some (.int .i64 ((qA y167 x7_1).f3)) ∧ w'.cell? ⟨go20, (x7_1).toNat * 16 + 11, none⟩ = some (.int .i64 ((qA y167 x7_1).f4)) ∧ w'.cell? ⟨go20, (x7_1).toNat * 16 + 12, none⟩ = some (.int .i64 ((qA y167 x7_1).f5.f0)) ∧ w'.cell? ⟨go20, (x7_1).toNat * 16 + 13, none⟩ = some (.int .i64 ((qA y167 x7_1).f5.f1)) ∧ w'.cell? ⟨go20, (x7_1).toNat * 16 + 14, none⟩ = some (.int .i64 ((qA y167 x7_1).f5.f2)) ∧ w'.cell? ⟨go20, (x7_1).toNat * 16 + 15, none⟩ = some (.int .i64 ((qA y167 x7_1).f5.f3))) (ds := []) #[false, false, false, false, false, false, false, false, false, false, false, false, false, false] (by kernel_rfl) rfl rfl ⟨bc BK158 0, bc BK158 1, bc BK158 2, hx168_0, hx168_1, hx168_2, hx168_3, hx168_4, hx168_5, hx168_6, hx168_7, hx168_8, hx168_9, hx168_10, hx168_11, hx168_12, hx168_13, hx168_14, hx168_15⟩ (fun hHeld => ?_); refine qMA qI.tab10 qI.bits10 (fun HT_ HW_ => ?_)
        generalize w85.drew = w86 at HO_5 HO_6 BK158 BK159 HB hx168_0 hx168_1 hx168_10 hx168_11 hx168_12 hx168_13 hx168_14 hx168_15 hx168_2 hx168_3 hx168_4 hx168_5 hx168_6 hx168_7 hx168_8 hx168_9 hHeld ⊢
        refine pS (i := 1) (N := some 37) #[false, true, false, false, false, false, false, false, false, false, false, false, false, false] HT_ ?_
        refine pS (i := 2) (N := some 38) #[false, true, true, false, false, false, false, false, false, false, false, false, false, false] HT_ ?_
        refine pS (i := 3) (N := some 39) #[false, true, true, true, false, false, false, false, false, false, false, false, false, false] HT_ ?_
        refine pS (i := 4) (N := some 40) #[false, true, true, true, true, false, false, false, false, false, false, false, false, false] HT_ ?_
        refine pS (i := 6) (N := some 42) #[false, true, true, true, true, false, true, false, false, false, false, false, false, false] HT_ ?_
        refine tS (i := 0) (N := some 36) #[true, true, true, true, true, false, true, false, false, false, false, false, false, false] HT_ HW_ hHeld ?_
        refine tS (i := 5) (N := some 41) #[true, true, true, true, true, true, true, false, false, false, false, false, false, false] HT_ HW_ hHeld ?_
        refine join_ (σ := Nat) 2 #[true, true, true, true, true, true, true, true, true, true, true, true, false, false] (fun s_ => [(43, .tuple #[.agg #[.int .i64 t169, .int .i64 t170, .int .i64 t171, .int .i64 t172, .int .i64 t173, .int .i64 t174, .int .i64 t175, .int .i64 t176], .bool false]), (9, .pointer (some ⟨s_, 0, none⟩)), (35, .tuple #[.agg #[.int .i64 t169, .int .i64 t170, .int .i64 t171, .int .i64 t172, .int .i64 t173, .int .i64 t174, .int .i64 t175, .int .i64 t176], .bool false]), (44, .agg #[.int .i64 t169, .int .i64 t170, .int .i64 t171, .int .i64 t172, .int .i64 t173, .int .i64 t174, .int .i64 t175, .int .i64 t176]), (45, .bool false)]) (fun s_ w' => (w'.cell? ⟨gb158, 0, none⟩ = some (.int .i64 a0_0) ∧ w'.cell? ⟨gb158, 1, none⟩ = some (.int .i64 a0_1) ∧ w'.cell? ⟨gb158, 2, none⟩ = some (.slice A0_2 l0_2.length c0_2) ∧ w'.cell? ⟨go20, (x7_1).toNat * 16, none⟩ = some (.int .i64 ((qA y167 x7_1).f0.f0)) ∧ w'.cell? ⟨go20, (x7_1).toNat * 16 + 1, none⟩ = some (.int .i64 ((qA y167 x7_1).f0.f1)) ∧ w'.cell? ⟨go20, (x7_1).toNat * 16 + 2, none⟩ = some (.int .i64 ((qA y167 x7_1).f0.f2.f0)) ∧ w'.cell? ⟨go20, (x7_1).toNat * 16 + 3, none⟩ = some (.int .i64 ((qA y167 x7_1).f0.f2.f1)) ∧ w'.cell? ⟨go20, (x7_1).toNat * 16 + 4, none⟩ = some (.int .i64 ((qA y167 x7_1).f0.f2.f2)) ∧ w'.cell? ⟨go20, (x7_1).toNat * 16 + 5, none⟩ = some (.int .i64 ((qA y167 x7_1).f0.f2.f3)) ∧ w'.cell? ⟨go20, (x7_1).toNat * 16 + 6, none⟩ = some (.int .i64 ((qA y167 x7_1).f0.f2.f4)) ∧ w'.cell? ⟨go20, (x7_1).toNat * 16 + 7, none⟩ = some (.int .i64 ((qA y167 x7_1).f0.f2.f5)) ∧ w'.cell? ⟨go20, (x7_1).toNat * 16 + 8, none⟩ = some (.int .i64 ((qA y167 x7_1).f1)) ∧ w'.cell? ⟨go20, (x7_1).toNat * 16 + 9, none⟩ = some (.int .i64 ((qA y167 x7_1).f2)) ∧ w'.cell? ⟨go20, (x7_1).toNat * 16 + 10, none⟩ = some (.int .i64 ((qA y167 x7_1).f3)) ∧ w'.cell? ⟨go20, (x7_1).toNat * 16 + 11, none⟩ = some (.int .i64 ((qA y167 x7_1).f4)) ∧ w'.cell? ⟨go20, (x7_1).toNat * 16 + 12, none⟩ = some (.int .i64 ((qA y167 x7_1).f5.f0)) ∧ w'.cell? ⟨go20, (x7_1).toNat * 16 + 13, none⟩ = some (.int .i64 ((qA y167 x7_1).f5.f1)) ∧ w'.cell? ⟨go20, (x7_1).toNat * 16 + 14, none⟩ = some (.int .i64 ((qA y167 x7_1).f5.f2)) ∧ w'.cell? ⟨go20, (x7_1).toNat * 16 + 15, none⟩ = some (.int .i64 ((qA y167 x7_1).f5.f3))) ∧ (Kd.R k68 68 w' w.heap.size (fun _ => True) (.slice (some ⟨go20, 0, none⟩) x5_2.length co20) y167) ∧ (Kd.R (Kd.int .i64) 3 w' w.heap.size (fun _ => True) u6 x6_2) ∧ (w'.heap[gb158]? = some (.cells #[.int .i64 a0_0, .int .i64 a0_1, .slice A0_2 l0_2.length c0_2] 61 (0, 0))) ∧ (w'.heap[gb159]? = some (.cells #[.int .i64 a1_0, .int .i64 a1_1, .int .i64 a1_2, .int .i64 a1_3, .int .i64 a1_4, .int .i64 a1_5, .int .i64 a1_6, .int .i64 a1_7] 31 (0, 0))) ∧ (w'.heap[s_]? = some (.cells #[.int .i64 0, .int .i64 0, .int .i64 0, .int .i64 0, .int .i64 0, .int .i64 0, .int .i64 0, .int .i64 0] 31 (0, 0))) ∧ (w.heap.size ≤ s_) ∧ (w.heap.size ≤ s_) ∧ (gb158 ≠ s_) ∧ (s_ ≠ gb158) ∧ (gb159 ≠ s_) ∧ (s_ ≠ gb159) ∧ (Below w.heap.size w w')) ?_ ?_
        rotate_left
        ·intro hCont
         refine two_ (i := 7) (j := 11) (Ni := some 43) (Nj := some 9) #[true, true, true, true, true, true, true, true, false, false, false, false, false, false] #[true, true, true, true, true, true, true, false, false, false, false, true, false, false] rfl rfl rfl rfl (qDD HT_.out (by kernel_rfl)) (by decide) (by decide) (fun K hK => ?_) (fun K hK => ?_)
         ·skip
          refine goes_ Tryz.func40 (by kernel_rfl) rfl #[.agg #[.int .i64 a0_0, .int .i64 a0_1, .slice A0_2 l0_2.length c0_2], .agg #[.int .i64 ((qA y167 x7_1).f0.f0), .int .i64 ((qA y167 x7_1).f0.f1), .int .i64 ((qA y167 x7_1).f0.f2.f0), .int .i64 ((qA y167 x7_1).f0.f2.f1), .int .i64 ((qA y167 x7_1).f0.f2.f2), .int .i64 ((qA y167 x7_1).f0.f2.f3), .int .i64 ((qA y167 x7_1).f0.f2.f4), .int .i64 ((qA y167 x7_1).f0.f2.f5)], .int .i64 x8_2] (by rfl) rfl rfl gA ?_
          with_reducible refine (qpA.calls a0_0 a0_1 _ _ l0_2 ((qA y167 x7_1).f0.f0) ((qA y167 x7_1).f0.f1) ((qA y167 x7_1).f0.f2.f0) ((qA y167 x7_1).f0.f2.f1) ((qA y167 x7_1).f0.f2.f2) ((qA y167 x7_1).f0.f2.f3) ((qA y167 x7_1).f0.f2.f4) ((qA y167 x7_1).f0.f2.f5) x8_2 t169 t170 t171 t172 t173 t174 t175 t176 false _ ?side1 ?side2 A22.out).mono ?_
          (case side1 => repeat (first | exact (Kd.qPA HR0_2.out HB.out) | (with_reducible refine Kd.qc ?_ _) | (with_reducible refine Kd.qb ?_ _) | (with_reducible refine Kd.qu ?_)))
          (case side2 => exact HC0_2.out)
          rintro e w87 ⟨rfl, hb⟩
          have HS3_ := (hb.cell (World.block_lt_of_cell? _ _ (hHeld.2.2.2.1))).trans (hHeld.2.2.2.1)
          have HS4_ := (hb.cell (World.block_lt_of_cell? _ _ (hHeld.2.2.2.2.1))).trans (hHeld.2.2.2.2.1)
          have HS5_ := (hb.cell (World.block_lt_of_cell? _ _ (hHeld.2.2.2.2.2.1))).trans (hHeld.2.2.2.2.2.1)
          have HS6_ := (hb.cell (World.block_lt_of_cell? _ _ (hHeld.2.2.2.2.2.2.1))).trans (hHeld.2.2.2.2.2.2.1)
          have HS7_ := (hb.cell (World.block_lt_of_cell? _ _ (hHeld.2.2.2.2.2.2.2.1))).trans (hHeld.2.2.2.2.2.2.2.1)
          have HS8_ := (hb.cell (World.block_lt_of_cell? _ _ (hHeld.2.2.2.2.2.2.2.2.1))).trans (hHeld.2.2.2.2.2.2.2.2.1)
          have HS9_ := (hb.cell (World.block_lt_of_cell? _ _ (hHeld.2.2.2.2.2.2.2.2.2.1))).trans (hHeld.2.2.2.2.2.2.2.2.2.1)
          have HS10_ := (hb.cell (World.block_lt_of_cell? _ _ (hHeld.2.2.2.2.2.2.2.2.2.2.1))).trans (hHeld.2.2.2.2.2.2.2.2.2.2.1)
          have HS11_ := (hb.cell (World.block_lt_of_cell? _ _ (hHeld.2.2.2.2.2.2.2.2.2.2.2.1))).trans (hHeld.2.2.2.2.2.2.2.2.2.2.2.1)
          have HS12_ := (hb.cell (World.block_lt_of_cell? _ _ (hHeld.2.2.2.2.2.2.2.2.2.2.2.2.1))).trans (hHeld.2.2.2.2.2.2.2.2.2.2.2.2.1)
          have HS13_ := (hb.cell (World.block_lt_of_cell? _ _ (hHeld.2.2.2.2.2.2.2.2.2.2.2.2.2.1))).trans (hHeld.2.2.2.2.2.2.2.2.2.2.2.2.2.1)
          have HS14_ := (hb.cell (World.block_lt_of_cell? _ _ (hHeld.2.2.2.2.2.2.2.2.2.2.2.2.2.2.1))).trans (hHeld.2.2.2.2.2.2.2.2.2.2.2.2.2.2.1)
          have HS15_ := (hb.cell (World.block_lt_of_cell? _ _ (hHeld.2.2.2.2.2.2.2.2.2.2.2.2.2.2.2.1))).trans (hHeld.2.2.2.2.2.2.2.2.2.2.2.2.2.2.2.1)
          have HS16_ := (hb.cell (World.block_lt_of_cell? _ _ (hHeld.2.2.2.2.2.2.2.2.2.2.2.2.2.2.2.2.1))).trans (hHeld.2.2.2.2.2.2.2.2.2.2.2.2.2.2.2.2.1)
          have HS17_ := (hb.cell (World.block_lt_of_cell? _ _ (hHeld.2.2.2.2.2.2.2.2.2.2.2.2.2.2.2.2.2.1))).trans (hHeld.2.2.2.2.2.2.2.2.2.2.2.2.2.2.2.2.2.1)
          have HS18_ := (hb.cell (World.block_lt_of_cell? _ _ (hHeld.2.2.2.2.2.2.2.2.2.2.2.2.2.2.2.2.2.2))).trans (hHeld.2.2.2.2.2.2.2.2.2.2.2.2.2.2.2.2.2.2)
          refine ⟨_, rfl, ?_⟩
          replace HO_5 := aM (Kd.qj (rR HO_5) hb)
          replace HO_6 := aM (Kd.qj (rR HO_6) hb)
          replace BK158 := aM (bb BK158 hb)
          replace BK159 := aM (bb BK159 hb)
          replace HB := aM (qB bl hb); (try clear hb); (try clear hb2); (try clear hk); (try clear hi)
          refine hK.out _ _ ⟨bc BK158 0, bc BK158 1, bc BK158 2, HS3_, HS4_, HS5_, HS6_, HS7_, HS8_, HS9_, HS10_, HS11_, HS12_, HS13_, HS14_, HS15_, HS16_, HS17_, HS18_⟩ (fun hHeld => ?_)
          clear hK K
          refine norm_ (a' := ?_) ?_ ?_
          rotate_left
          ·show Act.put _ (some 43) _ = _
           simp only [Act.put, List.setIfInBounds_toArray, List.set_cons_zero, List.set_cons_succ, i64_w, i32_w]
           rfl
          refine pS (i := 8) (N := some 35) #[true, true, true, true, true, true, true, true, true, false, false, false, false, false] HT_ ?_
          refine pS (i := 9) (N := some 44) #[true, true, true, true, true, true, true, true, true, true, false, false, false, false] HT_ ?_
          refine pS (i := 10) (N := some 45) #[true, true, true, true, true, true, true, true, true, true, true, false, false, false] HT_ ?_
          refine one_ (i := 11) (N := some 9) #[true, true, true, true, true, true, true, true, true, true, true, true, false, false] rfl rfl (qrA HT_.out (by kernel_rfl)) (by decide) (fun K hK => ?_)
          refine qGC ?hg (N := 9) ?hd (cs := #[.int .i64 0, .int .i64 0, .int .i64 0, .int .i64 0, .int .i64 0, .int .i64 0, .int .i64 0, .int .i64 0]) (t := 31) ?hr ?_; (case hd => rfl); (case hg => rfl); (case hr => exact gS)
          intro gb178 hg w88 hbox hb
          have HS3_ := (hb.cell (World.block_lt_of_cell? _ _ (hHeld.2.2.2.1))).trans (hHeld.2.2.2.1)
          have HS4_ := (hb.cell (World.block_lt_of_cell? _ _ (hHeld.2.2.2.2.1))).trans (hHeld.2.2.2.2.1)
          have HS5_ := (hb.cell (World.block_lt_of_cell? _ _ (hHeld.2.2.2.2.2.1))).trans (hHeld.2.2.2.2.2.1)
          have HS6_ := (hb.cell (World.block_lt_of_cell? _ _ (hHeld.2.2.2.2.2.2.1))).trans (hHeld.2.2.2.2.2.2.1)
          have HS7_ := (hb.cell (World.block_lt_of_cell? _ _ (hHeld.2.2.2.2.2.2.2.1))).trans (hHeld.2.2.2.2.2.2.2.1)
          have HS8_ := (hb.cell (World.block_lt_of_cell? _ _ (hHeld.2.2.2.2.2.2.2.2.1))).trans (hHeld.2.2.2.2.2.2.2.2.1)
          have HS9_ := (hb.cell (World.block_lt_of_cell? _ _ (hHeld.2.2.2.2.2.2.2.2.2.1))).trans (hHeld.2.2.2.2.2.2.2.2.2.1)
          have HS10_ := (hb.cell (World.block_lt_of_cell? _ _ (hHeld.2.2.2.2.2.2.2.2.2.2.1))).trans (hHeld.2.2.2.2.2.2.2.2.2.2.1)
          have HS11_ := (hb.cell (World.block_lt_of_cell? _ _ (hHeld.2.2.2.2.2.2.2.2.2.2.2.1))).trans (hHeld.2.2.2.2.2.2.2.2.2.2.2.1)
          have HS12_ := (hb.cell (World.block_lt_of_cell? _ _ (hHeld.2.2.2.2.2.2.2.2.2.2.2.2.1))).trans (hHeld.2.2.2.2.2.2.2.2.2.2.2.2.1)
          have HS13_ := (hb.cell (World.block_lt_of_cell? _ _ (hHeld.2.2.2.2.2.2.2.2.2.2.2.2.2.1))).trans (hHeld.2.2.2.2.2.2.2.2.2.2.2.2.2.1)
          have HS14_ := (hb.cell (World.block_lt_of_cell? _ _ (hHeld.2.2.2.2.2.2.2.2.2.2.2.2.2.2.1))).trans (hHeld.2.2.2.2.2.2.2.2.2.2.2.2.2.2.1)
          have HS15_ := (hb.cell (World.block_lt_of_cell? _ _ (hHeld.2.2.2.2.2.2.2.2.2.2.2.2.2.2.2.1))).trans (hHeld.2.2.2.2.2.2.2.2.2.2.2.2.2.2.2.1)
          have HS16_ := (hb.cell (World.block_lt_of_cell? _ _ (hHeld.2.2.2.2.2.2.2.2.2.2.2.2.2.2.2.2.1))).trans (hHeld.2.2.2.2.2.2.2.2.2.2.2.2.2.2.2.2.1)
          have HS17_ := (hb.cell (World.block_lt_of_cell? _ _ (hHeld.2.2.2.2.2.2.2.2.2.2.2.2.2.2.2.2.2.1))).trans (hHeld.2.2.2.2.2.2.2.2.2.2.2.2.2.2.2.2.2.1)
          have HS18_ := (hb.cell (World.block_lt_of_cell? _ _ (hHeld.2.2.2.2.2.2.2.2.2.2.2.2.2.2.2.2.2.2))).trans (hHeld.2.2.2.2.2.2.2.2.2.2.2.2.2.2.2.2.2.2)
          have BK178 := aM (hbox)
          have GW178 := aM ((gg hg))
          have GE178 := aM ((gg hg))
          have NB158_178 := aM ((nl BK158 hg))
          have NB178_158 := aM ((nr BK158 hg))
          have NB159_178 := aM ((nl BK159 hg))
          have NB178_159 := aM ((nr BK159 hg))
          replace HO_5 := aM (Kd.qj (rR HO_5) hb)
          replace HO_6 := aM (Kd.qj (rR HO_6) hb)
          replace BK158 := aM (bb BK158 hb)
          replace BK159 := aM (bb BK159 hb)
          replace HB := aM (qB bl hb)
          clear hb hbox hg
          refine hK.out _ _ ⟨bc BK158 0, bc BK158 1, bc BK158 2, HS3_, HS4_, HS5_, HS6_, HS7_, HS8_, HS9_, HS10_, HS11_, HS12_, HS13_, HS14_, HS15_, HS16_, HS17_, HS18_⟩ (fun hHeld => ?_)
          clear hK K
          refine norm_ (a' := ?_) ?_ ?_
          rotate_left
          ·show Act.put _ (some 9) _ = _
           simp only [Act.put, List.setIfInBounds_toArray, List.set_cons_zero, List.set_cons_succ, i64_w, i32_w]
           rfl
          exact norm_ (by simp only [putAll, Act.put, List.setIfInBounds_toArray, List.set_cons_zero, List.set_cons_succ]) (hCont (gb178) _ ⟨hHeld, (rR HO_5), (rR HO_6), (rB BK158), (rB BK159), (rB BK178), GW178.out, GE178.out, NB158_178.out, NB178_158.out, NB159_178.out, NB178_159.out, bl⟩)
         ·skip
          refine qGC ?hg (N := 9) ?hd (cs := #[.int .i64 0, .int .i64 0, .int .i64 0, .int .i64 0, .int .i64 0, .int .i64 0, .int .i64 0, .int .i64 0]) (t := 31) ?hr ?_; (case hd => rfl); (case hg => rfl); (case hr => exact gS)
          intro gb178 hg w87 hbox hb
          have HS3_ := (hb.cell (World.block_lt_of_cell? _ _ (hHeld.2.2.2.1))).trans (hHeld.2.2.2.1)
          have HS4_ := (hb.cell (World.block_lt_of_cell? _ _ (hHeld.2.2.2.2.1))).trans (hHeld.2.2.2.2.1)
          have HS5_ := (hb.cell (World.block_lt_of_cell? _ _ (hHeld.2.2.2.2.2.1))).trans (hHeld.2.2.2.2.2.1)
          have HS6_ := (hb.cell (World.block_lt_of_cell? _ _ (hHeld.2.2.2.2.2.2.1))).trans (hHeld.2.2.2.2.2.2.1)
          have HS7_ := (hb.cell (World.block_lt_of_cell? _ _ (hHeld.2.2.2.2.2.2.2.1))).trans (hHeld.2.2.2.2.2.2.2.1)
          have HS8_ := (hb.cell (World.block_lt_of_cell? _ _ (hHeld.2.2.2.2.2.2.2.2.1))).trans (hHeld.2.2.2.2.2.2.2.2.1)
          have HS9_ := (hb.cell (World.block_lt_of_cell? _ _ (hHeld.2.2.2.2.2.2.2.2.2.1))).trans (hHeld.2.2.2.2.2.2.2.2.2.1)
          have HS10_ := (hb.cell (World.block_lt_of_cell? _ _ (hHeld.2.2.2.2.2.2.2.2.2.2.1))).trans (hHeld.2.2.2.2.2.2.2.2.2.2.1)
          have HS11_ := (hb.cell (World.block_lt_of_cell? _ _ (hHeld.2.2.2.2.2.2.2.2.2.2.2.1))).trans (hHeld.2.2.2.2.2.2.2.2.2.2.2.1)
          have HS12_ := (hb.cell (World.block_lt_of_cell? _ _ (hHeld.2.2.2.2.2.2.2.2.2.2.2.2.1))).trans (hHeld.2.2.2.2.2.2.2.2.2.2.2.2.1)
          have HS13_ := (hb.cell (World.block_lt_of_cell? _ _ (hHeld.2.2.2.2.2.2.2.2.2.2.2.2.2.1))).trans (hHeld.2.2.2.2.2.2.2.2.2.2.2.2.2.1)
          have HS14_ := (hb.cell (World.block_lt_of_cell? _ _ (hHeld.2.2.2.2.2.2.2.2.2.2.2.2.2.2.1))).trans (hHeld.2.2.2.2.2.2.2.2.2.2.2.2.2.2.1)
          have HS15_ := (hb.cell (World.block_lt_of_cell? _ _ (hHeld.2.2.2.2.2.2.2.2.2.2.2.2.2.2.2.1))).trans (hHeld.2.2.2.2.2.2.2.2.2.2.2.2.2.2.2.1)
          have HS16_ := (hb.cell (World.block_lt_of_cell? _ _ (hHeld.2.2.2.2.2.2.2.2.2.2.2.2.2.2.2.2.1))).trans (hHeld.2.2.2.2.2.2.2.2.2.2.2.2.2.2.2.2.1)
          have HS17_ := (hb.cell (World.block_lt_of_cell? _ _ (hHeld.2.2.2.2.2.2.2.2.2.2.2.2.2.2.2.2.2.1))).trans (hHeld.2.2.2.2.2.2.2.2.2.2.2.2.2.2.2.2.2.1)
          have HS18_ := (hb.cell (World.block_lt_of_cell? _ _ (hHeld.2.2.2.2.2.2.2.2.2.2.2.2.2.2.2.2.2.2))).trans (hHeld.2.2.2.2.2.2.2.2.2.2.2.2.2.2.2.2.2.2)
          have BK178 := aM (hbox)
          have GW178 := aM ((gg hg))
          have GE178 := aM ((gg hg))
          have NB158_178 := aM ((nl BK158 hg))
          have NB178_158 := aM ((nr BK158 hg))
          have NB159_178 := aM ((nl BK159 hg))
          have NB178_159 := aM ((nr BK159 hg))
          replace HO_5 := aM (Kd.qj (rR HO_5) hb)
          replace HO_6 := aM (Kd.qj (rR HO_6) hb)
          replace BK158 := aM (bb BK158 hb)
          replace BK159 := aM (bb BK159 hb)
          replace HB := aM (qB bl hb)
          clear hb hbox hg
          refine hK.out _ _ ⟨bc BK158 0, bc BK158 1, bc BK158 2, HS3_, HS4_, HS5_, HS6_, HS7_, HS8_, HS9_, HS10_, HS11_, HS12_, HS13_, HS14_, HS15_, HS16_, HS17_, HS18_⟩ (fun hHeld => ?_)
          clear hK K
          refine norm_ (a' := ?_) ?_ ?_
          rotate_left
          ·show Act.put _ (some 9) _ = _
           simp only [Act.put, List.setIfInBounds_toArray, List.set_cons_zero, List.set_cons_succ, i64_w, i32_w]
           rfl
          refine one_ (i := 7) (N := some 43) #[true, true, true, true, true, true, true, true, false, false, false, true, false, false] rfl rfl (qrA HT_.out (by kernel_rfl)) (by decide) (fun K hK => ?_)
          refine goes_ Tryz.func40 (by kernel_rfl) rfl #[.agg #[.int .i64 a0_0, .int .i64 a0_1, .slice A0_2 l0_2.length c0_2], .agg #[.int .i64 ((qA y167 x7_1).f0.f0), .int .i64 ((qA y167 x7_1).f0.f1), .int .i64 ((qA y167 x7_1).f0.f2.f0), .int .i64 ((qA y167 x7_1).f0.f2.f1), .int .i64 ((qA y167 x7_1).f0.f2.f2), .int .i64 ((qA y167 x7_1).f0.f2.f3), .int .i64 ((qA y167 x7_1).f0.f2.f4), .int .i64 ((qA y167 x7_1).f0.f2.f5)], .int .i64 x8_2] (by rfl) rfl rfl gA ?_
          with_reducible refine (qpA.calls a0_0 a0_1 _ _ l0_2 ((qA y167 x7_1).f0.f0) ((qA y167 x7_1).f0.f1) ((qA y167 x7_1).f0.f2.f0) ((qA y167 x7_1).f0.f2.f1) ((qA y167 x7_1).f0.f2.f2) ((qA y167 x7_1).f0.f2.f3) ((qA y167 x7_1).f0.f2.f4) ((qA y167 x7_1).f0.f2.f5) x8_2 t169 t170 t171 t172 t173 t174 t175 t176 false _ ?side1 ?side2 A22.out).mono ?_
          (case side1 => repeat (first | exact (Kd.qPA HR0_2.out HB.out) | (with_reducible refine Kd.qc ?_ _) | (with_reducible refine Kd.qb ?_ _) | (with_reducible refine Kd.qu ?_)))
          (case side2 => exact HC0_2.out)
          rintro e w88 ⟨rfl, hb⟩
          have HS3_ := (hb.cell (World.block_lt_of_cell? _ _ (hHeld.2.2.2.1))).trans (hHeld.2.2.2.1)
          have HS4_ := (hb.cell (World.block_lt_of_cell? _ _ (hHeld.2.2.2.2.1))).trans (hHeld.2.2.2.2.1)
          have HS5_ := (hb.cell (World.block_lt_of_cell? _ _ (hHeld.2.2.2.2.2.1))).trans (hHeld.2.2.2.2.2.1)
          have HS6_ := (hb.cell (World.block_lt_of_cell? _ _ (hHeld.2.2.2.2.2.2.1))).trans (hHeld.2.2.2.2.2.2.1)
          have HS7_ := (hb.cell (World.block_lt_of_cell? _ _ (hHeld.2.2.2.2.2.2.2.1))).trans (hHeld.2.2.2.2.2.2.2.1)
          have HS8_ := (hb.cell (World.block_lt_of_cell? _ _ (hHeld.2.2.2.2.2.2.2.2.1))).trans (hHeld.2.2.2.2.2.2.2.2.1)
          have HS9_ := (hb.cell (World.block_lt_of_cell? _ _ (hHeld.2.2.2.2.2.2.2.2.2.1))).trans (hHeld.2.2.2.2.2.2.2.2.2.1)
          have HS10_ := (hb.cell (World.block_lt_of_cell? _ _ (hHeld.2.2.2.2.2.2.2.2.2.2.1))).trans (hHeld.2.2.2.2.2.2.2.2.2.2.1)
          have HS11_ := (hb.cell (World.block_lt_of_cell? _ _ (hHeld.2.2.2.2.2.2.2.2.2.2.2.1))).trans (hHeld.2.2.2.2.2.2.2.2.2.2.2.1)
          have HS12_ := (hb.cell (World.block_lt_of_cell? _ _ (hHeld.2.2.2.2.2.2.2.2.2.2.2.2.1))).trans (hHeld.2.2.2.2.2.2.2.2.2.2.2.2.1)
          have HS13_ := (hb.cell (World.block_lt_of_cell? _ _ (hHeld.2.2.2.2.2.2.2.2.2.2.2.2.2.1))).trans (hHeld.2.2.2.2.2.2.2.2.2.2.2.2.2.1)
          have HS14_ := (hb.cell (World.block_lt_of_cell? _ _ (hHeld.2.2.2.2.2.2.2.2.2.2.2.2.2.2.1))).trans (hHeld.2.2.2.2.2.2.2.2.2.2.2.2.2.2.1)
          have HS15_ := (hb.cell (World.block_lt_of_cell? _ _ (hHeld.2.2.2.2.2.2.2.2.2.2.2.2.2.2.2.1))).trans (hHeld.2.2.2.2.2.2.2.2.2.2.2.2.2.2.2.1)
          have HS16_ := (hb.cell (World.block_lt_of_cell? _ _ (hHeld.2.2.2.2.2.2.2.2.2.2.2.2.2.2.2.2.1))).trans (hHeld.2.2.2.2.2.2.2.2.2.2.2.2.2.2.2.2.1)
          have HS17_ := (hb.cell (World.block_lt_of_cell? _ _ (hHeld.2.2.2.2.2.2.2.2.2.2.2.2.2.2.2.2.2.1))).trans (hHeld.2.2.2.2.2.2.2.2.2.2.2.2.2.2.2.2.2.1)
          have HS18_ := (hb.cell (World.block_lt_of_cell? _ _ (hHeld.2.2.2.2.2.2.2.2.2.2.2.2.2.2.2.2.2.2))).trans (hHeld.2.2.2.2.2.2.2.2.2.2.2.2.2.2.2.2.2.2)
          refine ⟨_, rfl, ?_⟩
          replace HO_5 := aM (Kd.qj (rR HO_5) hb)
          replace HO_6 := aM (Kd.qj (rR HO_6) hb)
          replace BK158 := aM (bb BK158 hb)
          replace BK159 := aM (bb BK159 hb)
          replace BK178 := aM (bb BK178 hb)
          replace HB := aM (qB bl hb); (try clear hb); (try clear hb2); (try clear hk); (try clear hi)
          refine hK.out _ _ ⟨bc BK158 0, bc BK158 1, bc BK158 2, HS3_, HS4_, HS5_, HS6_, HS7_, HS8_, HS9_, HS10_, HS11_, HS12_, HS13_, HS14_, HS15_, HS16_, HS17_, HS18_⟩ (fun hHeld => ?_)
          clear hK K
          refine norm_ (a' := ?_) ?_ ?_
          rotate_left
          ·show Act.put _ (some 43) _ = _
           simp only [Act.put, List.setIfInBounds_toArray, List.set_cons_zero, List.set_cons_succ, i64_w, i32_w]
           rfl
          refine pS (i := 8) (N := some 35) #[true, true, true, true, true, true, true, true, true, false, false, true, false, false] HT_ ?_
          refine pS (i := 9) (N := some 44) #[true, true, true, true, true, true, true, true, true, true, false, true, false, false] HT_ ?_
          refine pS (i := 10) (N := some 45) #[true, true, true, true, true, true, true, true, true, true, true, true, false, false] HT_ ?_
          exact norm_ (by simp only [putAll, Act.put, List.setIfInBounds_toArray, List.set_cons_zero, List.set_cons_succ]) (hCont (gb178) _ ⟨hHeld, (rR HO_5), (rR HO_6), (rB BK158), (rB BK159), (rB BK178), GW178.out, GE178.out, NB158_178.out, NB178_158.out, NB159_178.out, NB178_159.out, bl⟩)
        rintro gb178 w89 ⟨hS_, h0_, h1_, h2_, h3_, h4_, h5_, h6_, h7_, h8_, h9_, h10_, h11_⟩
        have n0_ : Aside0 (Kd.R k68 68 w89 w.heap.size (fun _ => True) (.slice (some ⟨go20, 0, none⟩) x5_2.length co20) y167) := ⟨h0_⟩
        have n1_ : Aside0 (Kd.R (Kd.int .i64) 3 w89 w.heap.size (fun _ => True) u6 x6_2) := ⟨h1_⟩
        have n2_ : Aside0 (w89.heap[gb158]? = some (.cells #[.int .i64 a0_0, .int .i64 a0_1, .slice A0_2 l0_2.length c0_2] 61 (0, 0))) := ⟨h2_⟩
        have n3_ : Aside0 (w89.heap[gb159]? = some (.cells #[.int .i64 a1_0, .int .i64 a1_1, .int .i64 a1_2, .int .i64 a1_3, .int .i64 a1_4, .int .i64 a1_5, .int .i64 a1_6, .int .i64 a1_7] 31 (0, 0))) := ⟨h3_⟩
        have n4_ : Aside0 (w89.heap[gb178]? = some (.cells #[.int .i64 0, .int .i64 0, .int .i64 0, .int .i64 0, .int .i64 0, .int .i64 0, .int .i64 0, .int .i64 0] 31 (0, 0))) := ⟨h4_⟩
        have n5_ : Aside0 (w.heap.size ≤ gb178) := ⟨h5_⟩
        have n6_ : Aside0 (w.heap.size ≤ gb178) := ⟨h6_⟩
        have n7_ : Aside0 (gb158 ≠ gb178) := ⟨h7_⟩
        have n8_ : Aside0 (gb178 ≠ gb158) := ⟨h8_⟩
        have n9_ : Aside0 (gb159 ≠ gb178) := ⟨h9_⟩
        have n10_ : Aside0 (gb178 ≠ gb159) := ⟨h10_⟩
        have n11_ : Aside0 (Below w.heap.size w w89) := ⟨h11_⟩
        clear HO_5 HO_6 BK158 BK159 HB h0_ h1_ h2_ h3_ h4_ h5_ h6_ h7_ h8_ h9_ h10_ h11_
        have HO_5 := n0_
        have HO_6 := n1_
        have BK158 := n2_
        have BK159 := n3_
        have BK178 := n4_
        have GW178 := n5_
        have GE178 := n6_
        have NB158_178 := n7_
        have NB178_158 := n8_
        have NB159_178 := n9_
        have NB178_159 := n10_
        have HB := n11_
        clear n0_ n1_ n2_ n3_ n4_ n5_ n6_ n7_ n8_ n9_ n10_ n11_
        have hHeld : w89.cell? ⟨gb158, 0, none⟩ = some (.int .i64 a0_0) ∧ w89.cell? ⟨gb158, 1, none⟩ = some (.int .i64 a0_1) ∧ w89.cell? ⟨gb158, 2, none⟩ = some (.slice A0_2 l0_2.length c0_2) ∧ w89.cell? ⟨go20, (x7_1).toNat * 16, none⟩ = some (.int .i64 ((qA y167 x7_1).f0.f0)) ∧ w89.cell? ⟨go20, (x7_1).toNat * 16 + 1, none⟩ = some (.int .i64 ((qA y167 x7_1).f0.f1)) ∧ w89.cell? ⟨go20, (x7_1).toNat * 16 + 2, none⟩ = some (.int .i64 ((qA y167 x7_1).f0.f2.f0)) ∧ w89.cell? ⟨go20, (x7_1).toNat * 16 + 3, none⟩ = some (.int .i64 ((qA y167 x7_1).f0.f2.f1)) ∧ w89.cell? ⟨go20, (x7_1).toNat * 16 + 4, none⟩ = some (.int .i64 ((qA y167 x7_1).f0.f2.f2)) ∧ w89.cell? ⟨go20, (x7_1).toNat * 16 + 5, none⟩ = some (.int .i64 ((qA y167 x7_1).f0.f2.f3)) ∧ w89.cell? ⟨go20, (x7_1).toNat * 16 + 6, none⟩ = some (.int .i64 ((qA y167 x7_1).f0.f2.f4)) ∧ w89.cell? ⟨go20, (x7_1).toNat * 16 + 7, none⟩ = some (.int .i64 ((qA y167 x7_1).f0.f2.f5)) ∧ w89.cell? ⟨go20, (x7_1).toNat * 16 + 8, none⟩ = some (.int .i64 ((qA y167 x7_1).f1)) ∧ w89.cell? ⟨go20, (x7_1).toNat * 16 + 9, none⟩ = some (.int .i64 ((qA y167 x7_1).f2)) ∧ w89.cell? ⟨go20, (x7_1).toNat * 16 + 10, none⟩ = some (.int .i64 ((qA y167 x7_1).f3)) ∧ w89.cell? ⟨go20, (x7_1).toNat * 16 + 11, none⟩ = some (.int .i64 ((qA y167 x7_1).f4)) ∧ w89.cell? ⟨go20, (x7_1).toNat * 16 + 12, none⟩ = some (.int .i64 ((qA y167 x7_1).f5.f0)) ∧ w89.cell? ⟨go20, (x7_1).toNat * 16 + 13, none⟩ = some (.int .i64 ((qA y167 x7_1).f5.f1)) ∧ w89.cell? ⟨go20, (x7_1).toNat * 16 + 14, none⟩ = some (.int .i64 ((qA y167 x7_1).f5.f2)) ∧ w89.cell? ⟨go20, (x7_1).toNat * 16 + 15, none⟩ = some (.int .i64 ((qA y167 x7_1).f5.f3)) := hS_
        refine norm_ (a' := ?_) ?_ ?_
        rotate_left
        ·simp only [putAll, Act.put, List.setIfInBounds_toArray, List.set_cons_zero, List.set_cons_succ]
         rfl
        refine one_ (i := 12) (N := none) #[true, true, true, true, true, true, true, true, true, true, true, true, true, false] rfl rfl (qrA HT_.out (by kernel_rfl)) (by decide) (fun K hK => ?_)
        have hs90 : w89.cell? ⟨gb178, 0, none⟩ = some (.int .i64 0) := bc BK178 0
        have hfs90 := qJ BK178.out 0
        have hns90_0 := NB158_178.out
        have hns90_1 := NB159_178.out
        have hms90_0 := NB178_158.out
        have hms90_1 := NB178_159.out
        have hs91 : w89.cell? ⟨gb178, 1, none⟩ = some (.int .i64 0) := bc BK178 1
        have hfs91 := qJ BK178.out 1
        have hns91_0 := NB158_178.out
        have hns91_1 := NB159_178.out
        have hms91_0 := NB178_158.out
        have hms91_1 := NB178_159.out
        have hs92 : w89.cell? ⟨gb178, 2, none⟩ = some (.int .i64 0) := bc BK178 2
        have hfs92 := qJ BK178.out 2
        have hns92_0 := NB158_178.out
        have hns92_1 := NB159_178.out
        have hms92_0 := NB178_158.out
        have hms92_1 := NB178_159.out
        have hs93 : w89.cell? ⟨gb178, 3, none⟩ = some (.int .i64 0) := bc BK178 3
        have hfs93 := qJ BK178.out 3
        have hns93_0 := NB158_178.out
        have hns93_1 := NB159_178.out
        have hms93_0 := NB178_158.out
        have hms93_1 := NB178_159.out
        have hs94 : w89.cell? ⟨gb178, 4, none⟩ = some (.int .i64 0) := bc BK178 4
        have hfs94 := qJ BK178.out 4
        have hns94_0 := NB158_178.out
        have hns94_1 := NB159_178.out
        have hms94_0 := NB178_158.out
        have hms94_1 := NB178_159.out
        have hs95 : w89.cell? ⟨gb178, 5, none⟩ = some (.int .i64 0) := bc BK178 5
        have hfs95 := qJ BK178.out 5
        have hns95_0 := NB158_178.out
        have hns95_1 := NB159_178.out
        have hms95_0 := NB178_158.out
        have hms95_1 := NB178_159.out
        have hs96 : w89.cell? ⟨gb178, 6, none⟩ = some (.int .i64 0) := bc BK178 6
        have hfs96 := qJ BK178.out 6
        have hns96_0 := NB158_178.out
        have hns96_1 := NB159_178.out
        have hms96_0 := NB178_158.out
        have hms96_1 := NB178_159.out
        have hs97 : w89.cell? ⟨gb178, 7, none⟩ = some (.int .i64 0) := bc BK178 7
        have hfs97 := qJ BK178.out 7
        have hns97_0 := NB158_178.out
        have hns97_1 := NB159_178.out
        have hms97_0 := NB178_158.out
        have hms97_1 := NB178_159.out
        refine skip_ (w1 := ?_) (by rfl) rfl ?_ ?_
        rotate_left
        ·refine wyStore_ (.tmp 9) (.tmp 44) gb178 ?y0 ?y1 ?y2 ?y3 ?y4 ?y5 ?y6 ?y7 ?ha ?hb ?hc hs90 hs91 hs92 hs93 hs94 hs95 hs96 hs97 (qJ BK178.out); (case ha => rfl); (case hb => rfl); (case hc => rfl)
        have hne_ := Kd.qVD (Kd.R_ne HO_5.out BK178.out (by decide))
        refine hK.out _ _ ⟨far8_ NB158_178.out hHeld.1, far8_ NB158_178.out hHeld.2.1, far8_ NB158_178.out hHeld.2.2.1, far8_ hne_ hHeld.2.2.2.1, far8_ hne_ hHeld.2.2.2.2.1, far8_ hne_ hHeld.2.2.2.2.2.1, far8_ hne_ hHeld.2.2.2.2.2.2.1, far8_ hne_ hHeld.2.2.2.2.2.2.2.1, far8_ hne_ hHeld.2.2.2.2.2.2.2.2.1, far8_ hne_ hHeld.2.2.2.2.2.2.2.2.2.1, far8_ hne_ hHeld.2.2.2.2.2.2.2.2.2.2.1, far8_ hne_ hHeld.2.2.2.2.2.2.2.2.2.2.2.1, far8_ hne_ hHeld.2.2.2.2.2.2.2.2.2.2.2.2.1, far8_ hne_ hHeld.2.2.2.2.2.2.2.2.2.2.2.2.2.1, far8_ hne_ hHeld.2.2.2.2.2.2.2.2.2.2.2.2.2.2.1, far8_ hne_ hHeld.2.2.2.2.2.2.2.2.2.2.2.2.2.2.2.1, far8_ hne_ hHeld.2.2.2.2.2.2.2.2.2.2.2.2.2.2.2.2.1, far8_ hne_ hHeld.2.2.2.2.2.2.2.2.2.2.2.2.2.2.2.2.2.1, far8_ hne_ hHeld.2.2.2.2.2.2.2.2.2.2.2.2.2.2.2.2.2.2⟩ (fun hHeld => ?_)
        clear hne_ hK K
        refine pS (i := 13) (N := some 10) #[true, true, true, true, true, true, true, true, true, true, true, true, true, true] HT_ ?_
        refine done_ (qHB HT_.out (by kernel_rfl)) ?_
        try go_wp2
        go_roundg k2
        case measure => have := HK1.out; have := HK2.out; omega
        case rel => exact ⟨(y167), (x6_2), (wrap64 (x8_2 + 1)), (by first | rfl | (simp; done) | (simp [*]; done) | (have h1_ : (x8_2 : Int) < 4 := of_decide_eq_true am; have h2_ : 0 ≤ (x8_2 : Int) := of_decide_eq_true am; congr 1; unfold wrap64; omega)), H', ⟨by have := HK1.out; have := HK2.out; omega⟩, ⟨by (with_reducible repeat (first | apply Kd.qR | apply Kd.qU | apply Kd.qQ)); exact Kd.qY (Kd.R_far (p := ⟨gb178, 7, none⟩) (Kd.R_far (p := ⟨gb178, 6, none⟩) (Kd.R_far (p := ⟨gb178, 5, none⟩) (Kd.R_far (p := ⟨gb178, 4, none⟩) (Kd.R_far (p := ⟨gb178, 3, none⟩) (Kd.R_far (p := ⟨gb178, 2, none⟩) (Kd.R_far (p := ⟨gb178, 1, none⟩) (Kd.R_far (p := ⟨gb178, 0, none⟩) (Kd.qlA HO_5.out BK178.out (by decide)) (fun _ hk => hk.2) (.int .i64 t169)) (fun _ hk => hk.2) (.int .i64 t170)) (fun _ hk => hk.2) (.int .i64 t171)) (fun _ hk => hk.2) (.int .i64 t172)) (fun _ hk => hk.2) (.int .i64 t173)) (fun _ hk => hk.2) (.int .i64 t174)) (fun _ hk => hk.2) (.int .i64 t175)) (fun _ hk => hk.2) (.int .i64 t176)) (fun _ hk => trivial)⟩, ⟨by (with_reducible repeat (first | apply Kd.qR | apply Kd.qU | apply Kd.qQ)); exact Kd.qY (Kd.R_far (p := ⟨gb178, 7, none⟩) (Kd.R_far (p := ⟨gb178, 6, none⟩) (Kd.R_far (p := ⟨gb178, 5, none⟩) (Kd.R_far (p := ⟨gb178, 4, none⟩) (Kd.R_far (p := ⟨gb178, 3, none⟩) (Kd.R_far (p := ⟨gb178, 2, none⟩) (Kd.R_far (p := ⟨gb178, 1, none⟩) (Kd.R_far (p := ⟨gb178, 0, none⟩) (Kd.qlA HO_6.out BK178.out (by decide)) (fun _ hk => hk.2) (.int .i64 t169)) (fun _ hk => hk.2) (.int .i64 t170)) (fun _ hk => hk.2) (.int .i64 t171)) (fun _ hk => hk.2) (.int .i64 t172)) (fun _ hk => hk.2) (.int .i64 t173)) (fun _ hk => hk.2) (.int .i64 t174)) (fun _ hk => hk.2) (.int .i64 t175)) (fun _ hk => hk.2) (.int .i64 t176)) (fun _ hk => trivial)⟩, ⟨bF BK158 NB158_178⟩, ⟨bF BK159 NB159_178⟩, ⟨bl⟩⟩
      ·rw [if_neg c17] at H
       have c17b0 := decide_eq_false c17
       clear c17
       have H' := aM H
       clear H
       go_wp2
       go_roundg k2
       case measure => have := HK1.out; have := HK2.out; omega
       case rel => exact ⟨(x5_2), (x6_2), (wrap64 (x7_1 + 1)), (by first | rfl | (simp; done) | (simp [*]; done) | (have h1_ : (x7_1 : Int) < 4 := of_decide_eq_true am; have h2_ : 0 ≤ (x7_1 : Int) := of_decide_eq_true am; congr 1; unfold wrap64; omega)), H', ⟨by have := HK1.out; have := HK2.out; omega⟩, ⟨rR HO_5⟩, ⟨rR HO_6⟩, ⟨rB BK158⟩, ⟨rB BK159⟩, ⟨bl⟩⟩
   ·rw [if_neg c15] at H
    have c15b0 := decide_eq_false c15
    clear c15
    obtain rfl := Option.some.inj H
    obtain ⟨Ao98, co98, eo98⟩ := Kd.qi HO_5.out
    subst eo98
    go_wp2
    go_ret
    exact ⟨_, sR, by (with_reducible repeat (first | apply Kd.qR | apply Kd.qU | apply Kd.qQ)); exact HO_5.out, bl⟩
def qCB.f (k : Nat) (a0 : ByteArray) (a1_0 : Int) (a1_1 : Int) (a1_2 : Int) (a1_3 : Int) (a1_4 : Int) (a1_5 : Int) (a1_6 : Int) (a1_7 : Int) (a2 : Int) (a3 : Int) : Option ((List (S68)) × Bool) := (qDA.f k a0 a1_0 a1_1 a1_2 a1_3 a1_4 a1_5 a1_6 a1_7).bind fun bt197 => (if bt197.2.2.2 = true then ((qhA.f bt197.1 bt197.2.1 bt197.2.2.1 a2 a3).bind fun t204 => (if t204 = true then ((qI.f k bt197.1 bt197.2.1 bt197.2.2.1 a1_0 a1_1 a1_2 a1_3 a1_4 a1_5 a1_6 a1_7).bind fun t205 => (some (t205, true))) else (some (([] : List (S68)), false)))) else (some (([] : List (S68)), false)))
set_option maxHeartbeats 8000000 in
set_option maxRecDepth 100000 in
theorem qCB.calls (k : Nat) (a0 : ByteArray) (a1_0 : Int) (a1_1 : Int) (a1_2 : Int) (a1_3 : Int) (a1_4 : Int) (a1_5 : Int) (a1_6 : Int) (a1_7 : Int) (a2 : Int) (a3 : Int) (r1 : List (S68)) (r2 : Bool) (w : World) (h : qCB.f k a0 a1_0 a1_1 a1_2 a1_3 a1_4 a1_5 a1_6 a1_7 a2 a3 = some (r1, r2)) :
  Calls Tryz.prog 16 #[.string a0, .agg #[.int .i64 a1_0, .int .i64 a1_1, .int .i64 a1_2, .int .i64 a1_3, .int .i64 a1_4, .int .i64 a1_5, .int .i64 a1_6, .int .i64 a1_7], .int .i64 a2, .int .i64 a3] w fun e w' => ∃ v0_ : Value, e = .returned (.tuple #[v0_, .bool r2]) ∧ Kd.R k68 68 w' w.heap.size (fun _ => True) v0_ r1 ∧ Below w.heap.size w w' := by
 have hu31 := Tryz.underlying31
 have hu61 := Tryz.underlying61
 have HB := aM (Below.refl w.heap.size w)
 have H : ((qDA.f k a0 a1_0 a1_1 a1_2 a1_3 a1_4 a1_5 a1_6 a1_7).bind fun bt197 => (if bt197.2.2.2 = true then ((qhA.f bt197.1 bt197.2.1 bt197.2.2.1 a2 a3).bind fun t204 => (if t204 = true then ((qI.f k bt197.1 bt197.2.1 bt197.2.2.1 a1_0 a1_1 a1_2 a1_3 a1_4 a1_5 a1_6 a1_7).bind fun t205 => (some (t205, true))) else (some (([] : List (S68)), false)))) else (some (([] : List (S68)), false)))) = some (r1, r2) := h
 clear h
 replace H := bO H
 obtain ⟨⟨t197, t198, t199, t202⟩, A5, H⟩ := H
 dsimp only at H A5
 by_cases c6 : t202 = true
 ·subst c6
  replace H := iT H
  replace H := bO H
  obtain ⟨t204, A7, H⟩ := H
  by_cases c8 : t204 = true
  ·subst c8
   replace H := iT H
   replace H := bO H
   obtain ⟨t205, A9, H⟩ := H
   simp only [Option.some.injEq, Prod.mk.injEq] at H
   obtain ⟨rfl, rfl⟩ := H
   go_enter Tryz.func16, Tryz.ntmps16
   go_wp2_with (first | ((with_reducible refine qN (N := 5) rfl ?_); refine bE (N := 5) (cs := #[.int .i64 a1_0, .int .i64 a1_1, .int .i64 a1_2, .int .i64 a1_3, .int .i64 a1_4, .int .i64 a1_5, .int .i64 a1_6, .int .i64 a1_7]) (t := 31) ?_; intro gb196 hg w10 hbox hb; have BK196 := aM (hbox); have GW196 := aM ((gg hg)); have GE196 := aM ((gg hg)); replace HB := aM (qB bl hb); clear hb hbox hg; (refine cb8 BK196 ?_; intro _ _ _ _ _ _ _ _); (refine cz8 BK196 ?_; intro _ _ _ _ _ _ _ _)) | ((with_reducible refine qF (f := 26) rfl ?_); refine qh (some 15) rfl rfl Tryz.func26 (by kernel_rfl) rfl #[.string a0, .agg #[.int .i64 a1_0, .int .i64 a1_1, .int .i64 a1_2, .int .i64 a1_3, .int .i64 a1_4, .int .i64 a1_5, .int .i64 a1_6, .int .i64 a1_7]] rfl gA ?_; (with_reducible refine (qDA.calls k a0 a1_0 a1_1 a1_2 a1_3 a1_4 a1_5 a1_6 a1_7 t197 t198 t199 true _ A5.out).mono ?_); rintro e w12 ⟨v200, rfl, ho0, hb⟩; refine ⟨_, rfl, ?_⟩; have HO201 := aM (Kd.qHA ho0 (qT bl)); replace BK196 := aM (bb BK196 hb); replace HB := aM (qB bl hb); (try clear hb); (try clear hb2); (try clear hk); (try clear hi); (try clear ho0)) | ((with_reducible refine qN (N := 10) rfl ?_); refine bE (N := 10) (cs := #[.int .i64 0, .int .i64 0, .slice none 0 0]) (t := 61) ?_; intro gb203 hg w13 hbox hb; have BK203 := aM (hbox); have GW203 := aM ((gg hg)); have GE203 := aM ((gg hg)); have NB196_203 := aM ((nl BK196 hg)); have NB203_196 := aM ((nr BK196 hg)); replace HO201 := aM (Kd.qj (rR HO201) hb); replace BK196 := aM (bb BK196 hb); replace HB := aM (qB bl hb); clear hb hbox hg; have hnb14 := NB203_196.out; have hnc14 := NB196_203.out; (refine cb3 BK203 ?_; intro _ _ _); (refine cz3 BK203 ?_; intro _ _ _); obtain ⟨Ao16, co16, eo16⟩ := Kd.qi HO201.out; subst eo16) | (go_at_call 27; (with_reducible refine (qhA.calls t197 t198 _ _ t199 a2 a3 true _ ?side1 ?side2 A7.out).mono ?_); (case side1 => refine (Kd.qE (e := 5) (base := w.heap.size) (ok := fun k_ => True) (n := t199.length) (c := co16) ?_).2.2; exact (by (with_reducible repeat (first | apply Kd.qR | apply Kd.qU | apply Kd.qQ)); exact (Kd.qY (Kd.R_far (p := ⟨gb203, 2, none⟩) (Kd.R_far (p := ⟨gb203, 1, none⟩) (Kd.R_far (p := ⟨gb203, 0, none⟩) (Kd.qlA HO201.out BK203.out (by decide)) (fun _ hk => hk.2) (.int .i64 t197)) (fun _ hk => hk.2) (.int .i64 t198)) (fun _ hk => hk.2) (.slice Ao16 t199.length co16)) (fun _ h_ => h_.1)))); (case side2 => exact (Kd.qE HO201.out).2.1); rintro e w17 ⟨rfl, hb⟩; replace HO201 := aM (Kd.qj (by (with_reducible repeat (first | apply Kd.qR | apply Kd.qU | apply Kd.qQ)); exact (Kd.qY (Kd.R_far (p := ⟨gb203, 2, none⟩) (Kd.R_far (p := ⟨gb203, 1, none⟩) (Kd.R_far (p := ⟨gb203, 0, none⟩) (Kd.qlA HO201.out BK203.out (by decide)) (fun _ hk => hk.2) (.int .i64 t197)) (fun _ hk => hk.2) (.int .i64 t198)) (fun _ hk => hk.2) (.slice Ao16 t199.length co16)) (fun _ h_ => h_.1))) hb); replace BK196 := aM (qWA (g := gb196) (o := .cells #[.int .i64 a1_0, .int .i64 a1_1, .int .i64 a1_2, .int .i64 a1_3, .int .i64 a1_4, .int .i64 a1_5, .int .i64 a1_6, .int .i64 a1_7] 31 (0, 0)) (bF BK196 NB196_203) hb); replace BK203 := aM (qWA (g := gb203) (o := .cells #[.int .i64 t197, .int .i64 t198, .slice Ao16 t199.length co16] 61 (0, 0)) (by (with_reducible repeat (first | refine qL ?_ _ | refine qH ?_ | refine qK ?_ _)); exact bP3 BK203) hb); replace HB := aM (qB bl hb); (try clear hb); (try clear hb2); (try clear hk); (try clear hi); (refine cb3 BK203 ?_; intro _ _ _); (refine cz3 BK203 ?_; intro _ _ _); (refine cb8 BK196 ?_; intro _ _ _ _ _ _ _ _); (refine cz8 BK196 ?_; intro _ _ _ _ _ _ _ _)) | ((with_reducible refine qF (f := 28) rfl ?_); refine qh (some 29) rfl rfl Tryz.func28 (by kernel_rfl) rfl #[.agg #[.int .i64 t197, .int .i64 t198, .slice Ao16 t199.length co16], .agg #[.int .i64 a1_0, .int .i64 a1_1, .int .i64 a1_2, .int .i64 a1_3, .int .i64 a1_4, .int .i64 a1_5, .int .i64 a1_6, .int .i64 a1_7]] rfl gA ?_; (with_reducible refine (qI.calls k t197 t198 _ _ t199 a1_0 a1_1 a1_2 a1_3 a1_4 a1_5 a1_6 a1_7 t205 _ ?side1 ?side2 A9.out).mono ?_); (case side1 => repeat (first | exact (Kd.qE HO201.out).2.2 | (with_reducible refine Kd.qc ?_ _) | (with_reducible refine Kd.qb ?_ _) | (with_reducible refine Kd.qu ?_))); (case side2 => exact (Kd.qE HO201.out).2.1); rintro e w20 ⟨v206, rfl, ho0, hb⟩; refine ⟨_, rfl, ?_⟩; have HO207 := aM (Kd.qHA ho0 (qT bl)); replace HO201 := aM (Kd.qj (rR HO201) hb); replace BK196 := aM (bb BK196 hb); replace BK203 := aM (bb BK203 hb); replace HB := aM (qB bl hb); (try clear hb); (try clear hb2); (try clear hk); (try clear hi); (try clear ho0)))
   go_ret2
   exact ⟨_, sR, by (with_reducible repeat (first | apply Kd.qR | apply Kd.qU | apply Kd.qQ)); exact HO207.out, bl⟩
  ·replace c8 := Bool.eq_false_iff.mpr c8
   subst c8
   replace H := iF H
   simp only [Option.some.injEq, Prod.mk.injEq] at H
   obtain ⟨rfl, rfl⟩ := H
   go_enter Tryz.func16, Tryz.ntmps16
   go_wp2_with (first | ((with_reducible refine qN (N := 5) rfl ?_); refine bE (N := 5) (cs := #[.int .i64 a1_0, .int .i64 a1_1, .int .i64 a1_2, .int .i64 a1_3, .int .i64 a1_4, .int .i64 a1_5, .int .i64 a1_6, .int .i64 a1_7]) (t := 31) ?_; intro gb196 hg w21 hbox hb; have BK196 := aM (hbox); have GW196 := aM ((gg hg)); have GE196 := aM ((gg hg)); replace HB := aM (qB bl hb); clear hb hbox hg; (refine cb8 BK196 ?_; intro _ _ _ _ _ _ _ _); (refine cz8 BK196 ?_; intro _ _ _ _ _ _ _ _)) | ((with_reducible refine qF (f := 26) rfl ?_); refine qh (some 15) rfl rfl Tryz.func26 (by kernel_rfl) rfl #[.string a0, .agg #[.int .i64 a1_0, .int .i64 a1_1, .int .i64 a1_2, .int .i64 a1_3, .int .i64 a1_4, .int .i64 a1_5, .int .i64 a1_6, .int .i64 a1_7]] rfl gA ?_; (with_reducible refine (qDA.calls k a0 a1_0 a1_1 a1_2 a1_3 a1_4 a1_5 a1_6 a1_7 t197 t198 t199 true _ A5.out).mono ?_); rintro e w23 ⟨v200, rfl, ho0, hb⟩; refine ⟨_, rfl, ?_⟩; have HO201 := aM (Kd.qHA ho0 (qT bl)); replace BK196 := aM (bb BK196 hb); replace HB := aM (qB bl hb); (try clear hb); (try clear hb2); (try clear hk); (try clear hi); (try clear ho0)) | ((with_reducible refine qN (N := 10) rfl ?_); refine bE (N := 10) (cs := #[.int .i64 0, .int .i64 0, .slice none 0 0]) (t := 61) ?_; intro gb203 hg w24 hbox hb; have BK203 := aM (hbox); have GW203 := aM ((gg hg)); have GE203 := aM ((gg hg)); have NB196_203 := aM ((nl BK196 hg)); have NB203_196 := aM ((nr BK196 hg)); replace HO201 := aM (Kd.qj (rR HO201) hb); replace BK196 := aM (bb BK196 hb); replace HB := aM (qB bl hb); clear hb hbox hg; have hnb25 := NB203_196.out; have hnc25 := NB196_203.out; (refine cb3 BK203 ?_; intro _ _ _); (refine cz3 BK203 ?_; intro _ _ _); obtain ⟨Ao27, co27, eo27⟩ := Kd.qi HO201.out; subst eo27) | (go_at_call 27; (with_reducible refine (qhA.calls t197 t198 _ _ t199 a2 a3 false _ ?side1 ?side2 A7.out).mono ?_); (case side1 => refine (Kd.qE (e := 5) (base := w.heap.size) (ok := fun k_ => True) (n := t199.length) (c := co27) ?_).2.2; exact (by (with_reducible repeat (first | apply Kd.qR | apply Kd.qU | apply Kd.qQ)); exact (Kd.qY (Kd.R_far (p := ⟨gb203, 2, none⟩) (Kd.R_far (p := ⟨gb203, 1, none⟩) (Kd.R_far (p := ⟨gb203, 0, none⟩) (Kd.qlA HO201.out BK203.out (by decide)) (fun _ hk => hk.2) (.int .i64 t197)) (fun _ hk => hk.2) (.int .i64 t198)) (fun _ hk => hk.2) (.slice Ao27 t199.length co27)) (fun _ h_ => h_.1)))); (case side2 => exact (Kd.qE HO201.out).2.1); rintro e w28 ⟨rfl, hb⟩; replace HO201 := aM (Kd.qj (by (with_reducible repeat (first | apply Kd.qR | apply Kd.qU | apply Kd.qQ)); exact (Kd.qY (Kd.R_far (p := ⟨gb203, 2, none⟩) (Kd.R_far (p := ⟨gb203, 1, none⟩) (Kd.R_far (p := ⟨gb203, 0, none⟩) (Kd.qlA HO201.out BK203.out (by decide)) (fun _ hk => hk.2) (.int .i64 t197)) (fun _ hk => hk.2) (.int .i64 t198)) (fun _ hk => hk.2) (.slice Ao27 t199.length co27)) (fun _ h_ => h_.1))) hb); replace BK196 := aM (qWA (g := gb196) (o := .cells #[.int .i64 a1_0, .int .i64 a1_1, .int .i64 a1_2, .int .i64 a1_3, .int .i64 a1_4, .int .i64 a1_5, .int .i64 a1_6, .int .i64 a1_7] 31 (0, 0)) (bF BK196 NB196_203) hb); replace BK203 := aM (qWA (g := gb203) (o := .cells #[.int .i64 t197, .int .i64 t198, .slice Ao27 t199.length co27] 61 (0, 0)) (by (with_reducible repeat (first | refine qL ?_ _ | refine qH ?_ | refine qK ?_ _)); exact bP3 BK203) hb); replace HB := aM (qB bl hb); (try clear hb); (try clear hb2); (try clear hk); (try clear hi)))
   go_ret2
   exact ⟨_, sR, nK, bl⟩
 ·replace c6 := Bool.eq_false_iff.mpr c6
  subst c6
  replace H := iF H
  simp only [Option.some.injEq, Prod.mk.injEq] at H
  obtain ⟨rfl, rfl⟩ := H
  go_enter Tryz.func16, Tryz.ntmps16
  go_wp2_with (first | ((with_reducible refine qN (N := 5) rfl ?_); refine bE (N := 5) (cs := #[.int .i64 a1_0, .int .i64 a1_1, .int .i64 a1_2, .int .i64 a1_3, .int .i64 a1_4, .int .i64 a1_5, .int .i64 a1_6, .int .i64 a1_7]) (t := 31) ?_; intro gb196 hg w29 hbox hb; have BK196 := aM (hbox); have GW196 := aM ((gg hg)); have GE196 := aM ((gg hg)); replace HB := aM (qB bl hb); clear hb hbox hg; (refine cb8 BK196 ?_; intro _ _ _ _ _ _ _ _); (refine cz8 BK196 ?_; intro _ _ _ _ _ _ _ _)) | ((with_reducible refine qF (f := 26) rfl ?_); refine qh (some 15) rfl rfl Tryz.func26 (by kernel_rfl) rfl #[.string a0, .agg #[.int .i64 a1_0, .int .i64 a1_1, .int .i64 a1_2, .int .i64 a1_3, .int .i64 a1_4, .int .i64 a1_5, .int .i64 a1_6, .int .i64 a1_7]] rfl gA ?_; (with_reducible refine (qDA.calls k a0 a1_0 a1_1 a1_2 a1_3 a1_4 a1_5 a1_6 a1_7 t197 t198 t199 false _ A5.out).mono ?_); rintro e w31 ⟨v200, rfl, ho0, hb⟩; refine ⟨_, rfl, ?_⟩; have HO201 := aM (Kd.qHA ho0 (qT bl)); replace BK196 := aM (bb BK196 hb); replace HB := aM (qB bl hb); (try clear hb); (try clear hb2); (try clear hk); (try clear hi); (try clear ho0)) | ((with_reducible refine qN (N := 10) rfl ?_); refine bE (N := 10) (cs := #[.int .i64 0, .int .i64 0, .slice none 0 0]) (t := 61) ?_; intro gb203 hg w32 hbox hb; have BK203 := aM (hbox); have GW203 := aM ((gg hg)); have GE203 := aM ((gg hg)); have NB196_203 := aM ((nl BK196 hg)); have NB203_196 := aM ((nr BK196 hg)); replace HO201 := aM (Kd.qj (rR HO201) hb); replace BK196 := aM (bb BK196 hb); replace HB := aM (qB bl hb); clear hb hbox hg; have hnb33 := NB203_196.out; have hnc33 := NB196_203.out; (refine cb3 BK203 ?_; intro _ _ _); (refine cz3 BK203 ?_; intro _ _ _); obtain ⟨Ao35, co35, eo35⟩ := Kd.qi HO201.out; subst eo35))
  go_ret2
  exact ⟨_, sR, nK, bl⟩
def qa.l0 : Nat → List Int → List Int → Int → Int → Option (Bool)
 | 0, _, _, _, _ => none
 | k + 1, x9, x11, x13, x14 => if x14 < x13 then (if 0 ≤ x14 then (if x14 < (x9.length : Int) then (if x14 < (x11.length : Int) then (if (rd x9 x14) = (rd x11 x14) then (qa.l0 k x9 x11 x13 (wrap64 (x14 + 1))) else (some (decide ((rd x9 x14) < (rd x11 x14))))) else (none)) else (none)) else (none)) else (some false)
def qa.f (k : Nat) (a0_0 : Int) (a0_1 : Int) (a0_2 : Int) (a0_3 : Int) (a0_4 : Int) (a0_5 : Int) (a1_0 : Int) (a1_1 : Int) (a1_2 : Int) (a1_3 : Int) (a1_4 : Int) (a1_5 : Int) : Option (Bool) := (qIA.f a0_0 a0_1 a0_2 a0_3 a0_4 a0_5).bind fun t210 => ((qIA.f a1_0 a1_1 a1_2 a1_3 a1_4 a1_5).bind fun t213 => (qa.l0 k t210 t213 (t210.length : Int) 0))
def qa.T5 : Bool × List (List Nat × List Nat) := (true, [([], []), ([], []), ([0, 1], [0, 1]), ([2], [2]), ([], []), ([], []), ([4, 5], [4, 5]), ([6], [6]), ([3, 7], [3, 7])])
def qa.B5 : List Nat := [0, 0, 3, 7, 0, 0, 48, 112, 255]
theorem qa.tab5 : rtab .any (opsOf Tryz.f29 5) = qa.T5 := by kernel_rfl
theorem qa.bits5 : waitsOk qa.T5.2 qa.B5 = true := by kernel_rfl
def qa.T6 : Bool × List (List Nat × List Nat) := (true, [([], []), ([], []), ([0, 1], [0, 1]), ([2], [2]), ([], []), ([], []), ([4, 5], [4, 5]), ([6], [6]), ([3, 7], [3, 7]), ([8, 0, 1, 2, 3, 4, 5, 6, 7, 8], [8])])
def qa.B6 : List Nat := [0, 0, 3, 7, 0, 0, 48, 112, 255, 511]
theorem qa.tab6 : rtab .any (opsOf Tryz.f29 6) = qa.T6 := by kernel_rfl
theorem qa.bits6 : waitsOk qa.T6.2 qa.B6 = true := by kernel_rfl
set_option maxHeartbeats 8000000 in
set_option maxRecDepth 100000 in
theorem qa.calls (k : Nat) (a0_0 : Int) (a0_1 : Int) (a0_2 : Int) (a0_3 : Int) (a0_4 : Int) (a0_5 : Int) (a1_0 : Int) (a1_1 : Int) (a1_2 : Int) (a1_3 : Int) (a1_4 : Int) (a1_5 : Int) (r : Bool) (w : World) (h : qa.f k a0_0 a0_1 a0_2 a0_3 a0_4 a0_5 a1_0 a1_1 a1_2 a1_3 a1_4 a1_5 = some r) :
  Calls Tryz.prog 29 #[.agg #[.int .i64 a0_0, .int .i64 a0_1, .int .i64 a0_2, .int .i64 a0_3, .int .i64 a0_4, .int .i64 a0_5], .agg #[.int .i64 a1_0, .int .i64 a1_1, .int .i64 a1_2, .int .i64 a1_3, .int .i64 a1_4, .int .i64 a1_5]] w fun e w' => e = .returned (.bool r) ∧ Below w.heap.size w w' := by
 have hu29 := Tryz.underlying29
 have HB := aM (Below.refl w.heap.size w)
 have H : ((qIA.f a0_0 a0_1 a0_2 a0_3 a0_4 a0_5).bind fun t210 => ((qIA.f a1_0 a1_1 a1_2 a1_3 a1_4 a1_5).bind fun t213 => (qa.l0 k t210 t213 (t210.length : Int) 0))) = some r := h
 clear h
 replace H := bO H
 obtain ⟨t210, A3, H⟩ := H
 replace H := bO H
 obtain ⟨t213, A4, H⟩ := H
 have H' := aM H
 clear H
 go_enter Tryz.func29, Tryz.ntmps29
 try go_wp2_with (first | ((with_reducible refine qN (N := 2) rfl ?_); refine bE (N := 2) (cs := #[.int .i64 a0_0, .int .i64 a0_1, .int .i64 a0_2, .int .i64 a0_3, .int .i64 a0_4, .int .i64 a0_5]) (t := 29) ?_; intro gb208 hg w5 hbox hb; have BK208 := aM (hbox); have GW208 := aM ((gg hg)); have GE208 := aM ((gg hg)); replace HB := aM (qB bl hb); clear hb hbox hg) | ((with_reducible refine qN (N := 3) rfl ?_); refine bE (N := 3) (cs := #[.int .i64 a1_0, .int .i64 a1_1, .int .i64 a1_2, .int .i64 a1_3, .int .i64 a1_4, .int .i64 a1_5]) (t := 29) ?_; intro gb209 hg w6 hbox hb; have BK209 := aM (hbox); have GW209 := aM ((gg hg)); have GE209 := aM ((gg hg)); have NB208_209 := aM ((nl BK208 hg)); have NB209_208 := aM ((nr BK208 hg)); replace BK208 := aM (bb BK208 hb); replace HB := aM (qB bl hb); clear hb hbox hg))
 replace BK208 := aM (qH BK208.out)
 replace BK209 := aM (qH BK209.out)
 replace HB := aM (qm HB.out)
 refine qAB (n := 6) (S := fun w' => w'.cell? ⟨gb208, 0, none⟩ = some (.int .i64 a0_0) ∧ w'.cell? ⟨gb208, 1, none⟩ = some (.int .i64 a0_1) ∧ w'.cell? ⟨gb208, 2, none⟩ = some (.int .i64 a0_2) ∧ w'.cell? ⟨gb208, 3, none⟩ = some (.int .i64 a0_3) ∧ w'.cell? ⟨gb208, 4, none⟩ = some (.int .i64 a0_4) ∧ w'.cell? ⟨gb208, 5, none⟩ = some (.int .i64 a0_5) ∧ w'.cell? ⟨gb209, 0, none⟩ = some (.int .i64 a1_0) ∧ w'.cell? ⟨gb209, 1, none⟩ = some (.int .i64 a1_1) ∧ w'.cell? ⟨gb209, 2, none⟩ = some (.int .i64 a1_2) ∧ w'.cell? ⟨gb209, 3, none⟩ = some (.int .i64 a1_3) ∧ w'.cell? ⟨gb209, 4, none⟩ = some (.int .i64 a1_4) ∧ w'.cell? ⟨gb209, 5, none⟩ = some (.int .i64 a1_5)) (ds := []) #[false, false, false, false, false, false] (by kernel_rfl) rfl rfl ⟨bc BK208 0, bc BK208 1, bc BK208 2, bc BK208 3, bc BK208 4, bc BK208 5, bc BK209 0, bc BK209 1, bc BK209 2, bc BK209 3, bc BK209 4, bc BK209 5⟩ (fun hHeld => ?_)
 generalize w6.drew = w7 at BK208 BK209 HB hHeld ⊢
 refine take_ (i := 0) (N := some 8) (v := ?_) (a' := ?_) #[true, false, false, false, false, false] rfl rfl (by kernel_rfl) (fun _ _ _ h => h) (Or.inl ⟨by rfl, ?_⟩) hHeld ?_ ?_
 rotate_left
 ·rintro w' ⟨s0, s1, s2, s3, s4, s5, s6, s7, s8, s9, s10, s11⟩
  go_simp
  first | (with_reducible rfl) | (rw [if_neg (by simp only [ByteArray.size_extract, ByteArray.size_append] at * <;> omega)]; try with_reducible rfl)
 rotate_left
 ·simp only [Act.put, List.setIfInBounds_toArray, List.set_cons_zero, List.set_cons_succ, i64_w, i32_w]
  rfl
 refine take_ (i := 2) (N := some 10) (v := ?_) (a' := ?_) #[true, false, true, false, false, false] rfl rfl (by kernel_rfl) (fun _ _ _ h => h) (Or.inl ⟨by rfl, ?_⟩) hHeld ?_ ?_
 rotate_left
 ·rintro w' ⟨s0, s1, s2, s3, s4, s5, s6, s7, s8, s9, s10, s11⟩
  go_simp
  first | (with_reducible rfl) | (rw [if_neg (by simp only [ByteArray.size_extract, ByteArray.size_append] at * <;> omega)]; try with_reducible rfl)
 rotate_left
 ·simp only [Act.put, List.setIfInBounds_toArray, List.set_cons_zero, List.set_cons_succ, i64_w, i32_w]
  rfl
 refine one_ (i := 1) (N := some 9) #[true, true, true, false, false, false] rfl rfl (by kernel_rfl) (by decide) (fun K hK => ?_)
 refine goes_ Tryz.func42 (by kernel_rfl) rfl #[.agg #[.int .i64 a0_0, .int .i64 a0_1, .int .i64 a0_2, .int .i64 a0_3, .int .i64 a0_4, .int .i64 a0_5]] (by rfl) rfl rfl gA ?_
 with_reducible refine (qIA.calls a0_0 a0_1 a0_2 a0_3 a0_4 a0_5 t210 _ A3.out).mono ?_
 rintro e w8 ⟨v211, rfl, ho0, hb⟩
 refine ⟨_, rfl, ?_⟩
 have HO212 := aM (Kd.qHA ho0 (qT bl))
 replace BK208 := aM (bb BK208 hb)
 replace BK209 := aM (bb BK209 hb)
 replace HB := aM (qB bl hb); (try clear hb); (try clear hb2); (try clear hk); (try clear hi); (try clear ho0)
 refine hK.out _ _ ⟨bc BK208 0, bc BK208 1, bc BK208 2, bc BK208 3, bc BK208 4, bc BK208 5, bc BK209 0, bc BK209 1, bc BK209 2, bc BK209 3, bc BK209 4, bc BK209 5⟩ (fun hHeld => ?_)
 clear hK K
 refine norm_ (a' := ?_) ?_ ?_
 rotate_left
 ·show Act.put _ (some 9) _ = _
  simp only [Act.put, List.setIfInBounds_toArray, List.set_cons_zero, List.set_cons_succ, i64_w, i32_w]
  rfl
 refine one_ (i := 3) (N := some 11) #[true, true, true, true, false, false] rfl rfl (by kernel_rfl) (by decide) (fun K hK => ?_)
 refine goes_ Tryz.func42 (by kernel_rfl) rfl #[.agg #[.int .i64 a1_0, .int .i64 a1_1, .int .i64 a1_2, .int .i64 a1_3, .int .i64 a1_4, .int .i64 a1_5]] (by rfl) rfl rfl gA ?_
 with_reducible refine (qIA.calls a1_0 a1_1 a1_2 a1_3 a1_4 a1_5 t213 _ A4.out).mono ?_
 rintro e w9 ⟨v214, rfl, ho0, hb⟩
 refine ⟨_, rfl, ?_⟩
 have HO215 := aM (Kd.qHA (Kd.qLB ho0 (Kd.R_lt (rR HO212))) (qT bl))
 replace HO212 := aM (Kd.qYA (rR HO212) (Kd.qMB ho0) hb)
 replace BK208 := aM (bb BK208 hb)
 replace BK209 := aM (bb BK209 hb)
 replace HB := aM (qB bl hb); (try clear hb); (try clear hb2); (try clear hk); (try clear hi); (try clear ho0)
 refine hK.out _ _ ⟨bc BK208 0, bc BK208 1, bc BK208 2, bc BK208 3, bc BK208 4, bc BK208 5, bc BK209 0, bc BK209 1, bc BK209 2, bc BK209 3, bc BK209 4, bc BK209 5⟩ (fun hHeld => ?_)
 clear hK K
 refine norm_ (a' := ?_) ?_ ?_
 rotate_left
 ·show Act.put _ (some 11) _ = _
  simp only [Act.put, List.setIfInBounds_toArray, List.set_cons_zero, List.set_cons_succ, i64_w, i32_w]
  rfl
 refine pure_ (i := 4) (N := some 5) (v := ?_) (a' := ?_) #[true, true, true, true, true, false] rfl rfl (by kernel_rfl) (fun _ _ _ h => h) (Or.inl ⟨by rfl, ?_⟩) ?_ ?_
 rotate_left
 ·intro w'
  go_simp
  first | (with_reducible rfl) | (rw [if_neg (by simp only [ByteArray.size_extract, ByteArray.size_append] at * <;> omega)]; try with_reducible rfl)
 rotate_left
 ·simp only [Act.put, List.setIfInBounds_toArray, List.set_cons_zero, List.set_cons_succ, i64_w, i32_w]
  rfl
 refine pure_ (i := 5) (N := some 6) (v := ?_) (a' := ?_) #[true, true, true, true, true, true] rfl rfl (by kernel_rfl) (fun _ _ _ h => h) (Or.inl ⟨by rfl, ?_⟩) ?_ ?_
 rotate_left
 ·intro w'
  go_simp
  first | (with_reducible rfl) | (rw [if_neg (by simp only [ByteArray.size_extract, ByteArray.size_append] at * <;> omega)]; try with_reducible rfl)
 rotate_left
 ·simp only [Act.put, List.setIfInBounds_toArray, List.set_cons_zero, List.set_cons_succ, i64_w, i32_w]
  rfl
 refine done_ (by kernel_rfl) ?_
 obtain ⟨Ao10, co10, eo10⟩ := Kd.qi HO212.out
 subst eo10
 try go_wp2
 go_loopg [14] k (fun kq v14 w' => ∃ (x14_1 : Int), v14 = .int .i64 x14_1 ∧ Aside0 (qa.l0 kq t210 t213 (t210.length : Int) x14_1 = some r) ∧ Aside0 (kq ≤ k) ∧ Aside0 (Kd.R (Kd.int .i64) 3 w' w.heap.size (fun k_ => some k_ ≠ (v214 : Value).ownBlock) (.slice Ao10 t210.length co10) t210) ∧ Aside0 (Kd.R (Kd.int .i64) 3 w' w.heap.size (fun k_ => some k_ ≠ ((.slice Ao10 t210.length co10) : Value).ownBlock) v214 t213) ∧ Aside0 (w'.heap[gb208]? = some (.cells #[.int .i64 a0_0, .int .i64 a0_1, .int .i64 a0_2, .int .i64 a0_3, .int .i64 a0_4, .int .i64 a0_5] 29 (0, 0))) ∧ Aside0 (w'.heap[gb209]? = some (.cells #[.int .i64 a1_0, .int .i64 a1_1, .int .i64 a1_2, .int .i64 a1_3, .int .i64 a1_4, .int .i64 a1_5] 29 (0, 0))) ∧ Aside0 (Below w.heap.size w w'))
 case atStart => exact ⟨(0), sD, H', ⟨Nat.le_refl _⟩, ⟨by (with_reducible repeat (first | apply Kd.qR | apply Kd.qU | apply Kd.qQ)); exact Kd.qY HO212.out (fun _ hk => hk.2)⟩, ⟨by (with_reducible repeat (first | apply Kd.qR | apply Kd.qU | apply Kd.qQ)); exact Kd.qY HO215.out (fun _ hk => hk.2)⟩, ⟨rB BK208⟩, ⟨rB BK209⟩, ⟨bl⟩⟩
 case round =>
  clear H'; (try clear c2); (try clear p2); (try clear c4)
  obtain ⟨x14_1, rfl, HA, HK1, HO_9, HO_11, BK208, BK209, HB⟩ := hrel
  cases gk with
  | zero => exact absurd HA.out (by simp [qa.l0])
  | succ k1 =>
   have H := HA.out
   clear HA
   simp only [qa.l0] at H
   by_cases c11 : x14_1 < (t210.length : Int)
   ·rw [if_pos c11] at H
    have c11b0 := decide_eq_true c11
    clear c11
    by_cases c12 : 0 ≤ x14_1
    case neg => exact nN c12 H
    rw [if_pos c12] at H
    have c12b0 := decide_eq_true c12
    clear c12
    by_cases c13 : x14_1 < (t210.length : Int)
    case neg => exact nN c13 H
    rw [if_pos c13] at H
    have c13b0 := decide_eq_true c13
    clear c13
    by_cases c14 : x14_1 < (t213.length : Int)
    case neg => exact nN c14 H
    rw [if_pos c14] at H
    have c14b0 := decide_eq_true c14
    clear c14
    by_cases c15 : (rd t210 x14_1) = (rd t213 x14_1)
    ·rw [if_pos c15] at H
     have c15b0 := beq_iff_eq.mpr c15
     have c15b1 := bne_eq_false_iff_eq.mpr c15
     clear c15
     have H' := aM H
     clear H
     try go_wp2
     replace HO_9 := aM (Kd.qQ HO_9.out)
     replace HO_11 := aM (Kd.qQ HO_11.out)
     replace BK208 := aM (qH BK208.out)
     replace BK209 := aM (qH BK209.out)
     replace HB := aM (qm HB.out)
     have p216 : 0 ≤ (x14_1 : Int) := of_decide_eq_true am
     have q216 : x14_1 < (t210.length : Int) := of_decide_eq_true am
     obtain ⟨ad216, e216, hx216_0⟩ := Kd.qjA (Kd.qE HO_9.out).2.2 x14_1 p216 q216
     cases e216
     replace p216 := eq_true p216
     replace q216 := eq_true q216
     obtain ⟨Ao17, co17, eo17⟩ := Kd.qi HO_11.out
     (first | subst eo17 | (injection eo17 with f1_ f2_ f3_; have f4_ := f1_.symm; have f5_ := f3_.symm; clear f1_ f2_ f3_; subst f4_; subst f5_))
     have p217 : 0 ≤ (x14_1 : Int) := of_decide_eq_true am
     have q217 : x14_1 < (t213.length : Int) := of_decide_eq_true am
     obtain ⟨ad217, e217, hx217_0⟩ := Kd.qjA (Kd.qE HO_11.out).2.2 x14_1 p217 q217
     cases e217
     replace p217 := eq_true p217
     replace q217 := eq_true q217
     refine qAB (n := 9) (S := fun w' => w'.cell? (ad216.add (x14_1).toNat) = some (.int .i64 (rd t210 x14_1)) ∧ w'.cell? (ad217.add (x14_1).toNat) = some (.int .i64 (rd t213 x14_1))) (ds := []) #[false, false, false, false, false, false, false, false, false] (by kernel_rfl) rfl rfl ⟨hx216_0, hx217_0⟩ (fun hHeld => ?_); refine qMA qa.tab5 qa.bits5 (fun HT_ HW_ => ?_)
     generalize wr.drew = w16 at HO_9 HO_11 BK208 BK209 HB hx216_0 hx217_0 hHeld ⊢
     refine pS (i := 0) (N := some 17) #[true, false, false, false, false, false, false, false, false] HT_ ?_
     refine pS (i := 1) (N := some 18) #[true, true, false, false, false, false, false, false, false] HT_ ?_
     refine pS (i := 2) (N := some 19) #[true, true, true, false, false, false, false, false, false] HT_ ?_
     refine pS (i := 4) (N := some 21) #[true, true, true, false, true, false, false, false, false] HT_ ?_
     refine pS (i := 5) (N := some 22) #[true, true, true, false, true, true, false, false, false] HT_ ?_
     refine pS (i := 6) (N := some 23) #[true, true, true, false, true, true, true, false, false] HT_ ?_
     refine tS (i := 3) (N := some 20) #[true, true, true, true, true, true, true, false, false] HT_ HW_ hHeld ?_
     refine tS (i := 7) (N := some 24) #[true, true, true, true, true, true, true, true, false] HT_ HW_ hHeld ?_
     refine pS (i := 8) (N := some 25) #[true, true, true, true, true, true, true, true, true] HT_ ?_
     refine done_ (qHB HT_.out (by kernel_rfl)) ?_
     try go_wp2
     go_roundg k1
     case measure => have := HK1.out; omega
     case rel => exact ⟨(wrap64 (x14_1 + 1)), sD, H', ⟨by have := HK1.out; omega⟩, ⟨rR HO_9⟩, ⟨rR HO_11⟩, ⟨rB BK208⟩, ⟨rB BK209⟩, ⟨bl⟩⟩
    ·rw [if_neg c15] at H
     have c15b0 := beq_eq_false_iff_ne.mpr c15
     have c15b1 := bne_iff_ne.mpr c15
     obtain rfl := Option.some.inj H
     try go_wp2
     replace HO_9 := aM (Kd.qQ HO_9.out)
     replace HO_11 := aM (Kd.qQ HO_11.out)
     replace BK208 := aM (qH BK208.out)
     replace BK209 := aM (qH BK209.out)
     replace HB := aM (qm HB.out)
     have p216 : 0 ≤ (x14_1 : Int) := of_decide_eq_true am
     have q216 : x14_1 < (t210.length : Int) := of_decide_eq_true am
     obtain ⟨ad216, e216, hx216_0⟩ := Kd.qjA (Kd.qE HO_9.out).2.2 x14_1 p216 q216
     cases e216
     replace p216 := eq_true p216
     replace q216 := eq_true q216
     obtain ⟨Ao19, co19, eo19⟩ := Kd.qi HO_11.out
     (first | subst eo19 | (injection eo19 with f1_ f2_ f3_; have f4_ := f1_.symm; have f5_ := f3_.symm; clear f1_ f2_ f3_; subst f4_; subst f5_))
     have p217 : 0 ≤ (x14_1 : Int) := of_decide_eq_true am
     have q217 : x14_1 < (t213.length : Int) := of_decide_eq_true am
     obtain ⟨ad217, e217, hx217_0⟩ := Kd.qjA (Kd.qE HO_11.out).2.2 x14_1 p217 q217
     cases e217
     replace p217 := eq_true p217
     replace q217 := eq_true q217
     refine qAB (n := 9) (S := fun w' => w'.cell? (ad216.add (x14_1).toNat) = some (.int .i64 (rd t210 x14_1)) ∧ w'.cell? (ad217.add (x14_1).toNat) = some (.int .i64 (rd t213 x14_1))) (ds := []) #[false, false, false, false, false, false, false, false, false] (by kernel_rfl) rfl rfl ⟨hx216_0, hx217_0⟩ (fun hHeld => ?_); refine qMA qa.tab5 qa.bits5 (fun HT_ HW_ => ?_)
     generalize wr.drew = w18 at HO_9 HO_11 BK208 BK209 HB hx216_0 hx217_0 hHeld ⊢
     refine pS (i := 0) (N := some 17) #[true, false, false, false, false, false, false, false, false] HT_ ?_
     refine pS (i := 1) (N := some 18) #[true, true, false, false, false, false, false, false, false] HT_ ?_
     refine pS (i := 2) (N := some 19) #[true, true, true, false, false, false, false, false, false] HT_ ?_
     refine pS (i := 4) (N := some 21) #[true, true, true, false, true, false, false, false, false] HT_ ?_
     refine pS (i := 5) (N := some 22) #[true, true, true, false, true, true, false, false, false] HT_ ?_
     refine pS (i := 6) (N := some 23) #[true, true, true, false, true, true, true, false, false] HT_ ?_
     refine tS (i := 3) (N := some 20) #[true, true, true, true, true, true, true, false, false] HT_ HW_ hHeld ?_
     refine tS (i := 7) (N := some 24) #[true, true, true, true, true, true, true, true, false] HT_ HW_ hHeld ?_
     refine pS (i := 8) (N := some 25) #[true, true, true, true, true, true, true, true, true] HT_ ?_
     refine done_ (qHB HT_.out (by kernel_rfl)) ?_
     try go_wp2
     replace HO_9 := aM (Kd.qQ HO_9.out)
     replace HO_11 := aM (Kd.qQ HO_11.out)
     replace BK208 := aM (qH BK208.out)
     replace BK209 := aM (qH BK209.out)
     replace HB := aM (qm HB.out)
     have p218 : 0 ≤ (x14_1 : Int) := of_decide_eq_true am
     have q218 : x14_1 < (t210.length : Int) := of_decide_eq_true am
     obtain ⟨ad218, e218, hx218_0⟩ := Kd.qjA (Kd.qE HO_9.out).2.2 x14_1 p218 q218
     obtain rfl : ad216 = ad218 := (by injection e218)
     replace p218 := eq_true p218
     replace q218 := eq_true q218
     have p219 : 0 ≤ (x14_1 : Int) := of_decide_eq_true am
     have q219 : x14_1 < (t213.length : Int) := of_decide_eq_true am
     obtain ⟨ad219, e219, hx219_0⟩ := Kd.qjA (Kd.qE HO_11.out).2.2 x14_1 p219 q219
     obtain rfl : ad217 = ad219 := (by injection e219)
     replace p219 := eq_true p219
     replace q219 := eq_true q219
     refine qAB (n := 10) (S := fun w' => w'.cell? (ad216.add (x14_1).toNat) = some (.int .i64 (rd t210 x14_1)) ∧ w'.cell? (ad217.add (x14_1).toNat) = some (.int .i64 (rd t213 x14_1))) (ds := []) #[false, false, false, false, false, false, false, false, false, false] (by kernel_rfl) rfl rfl ⟨hx218_0, hx219_0⟩ (fun hHeld => ?_); refine qMA qa.tab6 qa.bits6 (fun HT_ HW_ => ?_)
     generalize w18.drew = w20 at HO_9 HO_11 BK208 BK209 HB hx218_0 hx219_0 hHeld ⊢
     refine pS (i := 0) (N := some 26) #[true, false, false, false, false, false, false, false, false, false] HT_ ?_
     refine pS (i := 1) (N := some 27) #[true, true, false, false, false, false, false, false, false, false] HT_ ?_
     refine pS (i := 2) (N := some 28) #[true, true, true, false, false, false, false, false, false, false] HT_ ?_
     refine pS (i := 4) (N := some 30) #[true, true, true, false, true, false, false, false, false, false] HT_ ?_
     refine pS (i := 5) (N := some 31) #[true, true, true, false, true, true, false, false, false, false] HT_ ?_
     refine pS (i := 6) (N := some 32) #[true, true, true, false, true, true, true, false, false, false] HT_ ?_
     refine tS (i := 3) (N := some 29) #[true, true, true, true, true, true, true, false, false, false] HT_ HW_ hHeld ?_
     refine tS (i := 7) (N := some 33) #[true, true, true, true, true, true, true, true, false, false] HT_ HW_ hHeld ?_
     refine pS (i := 8) (N := some 34) #[true, true, true, true, true, true, true, true, true, false] HT_ ?_
     refine pS (i := 9) (N := some 4) #[true, true, true, true, true, true, true, true, true, true] HT_ ?_
     refine done_ (qHB HT_.out (by kernel_rfl)) ?_
     try go_wp2
     go_ret
     exact ⟨sR, bl⟩
   ·rw [if_neg c11] at H
    have c11b0 := decide_eq_false c11
    clear c11
    obtain rfl := Option.some.inj H
    go_wp2
    go_ret
    exact ⟨sR, bl⟩
end Go.Proofs.YtdhbimankkpllaaGreatDoor.P
