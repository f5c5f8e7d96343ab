/- A part of the proofs of the rows of this seat: functions that all reach. -/
import Derived.Test.YtbmiekopflgicaaKC1
import Derived.Lib.SlicesCompact
import Derived.Deep.MidRow
import Derived.KernelRfl
import Derived.Lib.Hide

namespace Go.Proofs.Ytbmiekopflgicaa
open Go.RowKit Go.Sort Go.Proofs.Ytbmiekopflgicaa.P Go.Proofs.YtbmiekopflgicaaW.PrintWords Go.Proofs.YtbmiekopflgicaaW.PrintLast
open Go.Lib (keeps compactUpTo CompInv keeps_lt_one keeps_pos keeps_neg)
set_option linter.unusedVariables false
set_option linter.unusedSimpArgs false
abbrev DS := S29
theorem eqCD (d : Nat) (w : World) (x y : DS) :
  (Op.equalIn (d + 2) 29 (.agg #[.int .i64 x.f0, .int .i64 x.f1, .int .i64 x.f2, .int .i64 x.f3, .int .i64 x.f4, .int .i64 x.f5]) (.agg #[.int .i64 y.f0, .int .i64 y.f1, .int .i64 y.f2, .int .i64 y.f3, .int .i64 y.f4, .int .i64 y.f5])).run Try.prog w = .ok (decide (x = y)) w := by
 rw [eqA29]
 congr 1
 by_cases h : x = y
 ·subst h; simp
 ·rw [decide_eq_false h]
  apply Bool.eq_false_iff.2
  intro h2
  simp only [Bool.and_eq_true, beq_iff_eq] at h2
  exact h (qJC h2.1 h2.2.1 h2.2.2.1 h2.2.2.2.1 h2.2.2.2.2.1 h2.2.2.2.2.2)
theorem at6 {wr : World} {B : Addr} {blk i : Nat} (hB : B = ⟨blk, i * 6, none⟩) {dk : Array DS} (h : HoldsK encDX 6 wr blk 0 dk) (hi : i < dk.size) {x : DS} (hx : dk[i]! = x) :
  (wr.cell? B = some (.int .i64 x.f0) ∧ wr.cell? ⟨B.block, B.off + 1, none⟩ = some (.int .i64 x.f1) ∧ wr.cell? ⟨B.block, B.off + 2, none⟩ = some (.int .i64 x.f2) ∧ wr.cell? ⟨B.block, B.off + 3, none⟩ = some (.int .i64 x.f3) ∧ wr.cell? ⟨B.block, B.off + 4, none⟩ = some (.int .i64 x.f4) ∧ wr.cell? ⟨B.block, B.off + 5, none⟩ = some (.int .i64 x.f5)) ∧
  (wr.frozen? B = false ∧ wr.frozen? ⟨B.block, B.off + 1, none⟩ = false ∧ wr.frozen? ⟨B.block, B.off + 2, none⟩ = false ∧ wr.frozen? ⟨B.block, B.off + 3, none⟩ = false ∧ wr.frozen? ⟨B.block, B.off + 4, none⟩ = false ∧ wr.frozen? ⟨B.block, B.off + 5, none⟩ = false) := by
 subst hB
 have q : ∀ c, c < 6 → _ := fun c hc => h.cell hi hc
 rw [hx] at q
 have e : ∀ c, 0 + i * 6 + c = i * 6 + c := fun c => by omega
 simp only [e] at q
 exact ⟨⟨(q 0 (by omega)).1, (q 1 (by omega)).1, (q 2 (by omega)).1, (q 3 (by omega)).1, (q 4 (by omega)).1, (q 5 (by omega)).1⟩, ⟨(q 0 (by omega)).2, (q 1 (by omega)).2, (q 2 (by omega)).2, (q 3 (by omega)).2, (q 4 (by omega)).2, (q 5 (by omega)).2⟩⟩
theorem ad_at {ad : Addr} {blk : Nat} (had : ad = ⟨blk, 0, none⟩) (i : Nat) : ad.add (i * 6) = ⟨blk, i * 6, none⟩ := by
 subst had
 rw [Addr.add_lit, Nat.zero_add]
theorem ad_at2 {ad ad2 : Addr} {blk k : Nat} (had : ad = ⟨blk, 0, none⟩) (h2 : ad.add (k * 6) = ad2) (i : Nat) : ad2.add (i * 6) = ⟨blk, (k + i) * 6, none⟩ := by
 subst h2
 rw [ad_at had, Addr.add_lit, Nat.add_mul]
theorem setMany_set (d : Array DS) (i : Nat) (u : DS) (hi : i < d.size) : setMany (flatK encDX 6 d) (i * 6) (encDX u) = flatK encDX 6 (d.setIfInBounds i u) := by
 refine ext_get! (by simp) fun t ht => ?_
 have ht' : t < d.size * 6 := by simpa using ht
 have hl : (encDX u).length = 6 := rfl
 rw [get_setMany _ _ _ t (by simpa using ht'), get_flatK _ _ _ t ht', get_flatK _ _ _ t (by simpa using ht'), hl]
 by_cases a : t / 6 = i
 ·rw [if_pos ((blk_iff 6 i t (by decide)).2 a), show t - i * 6 = t % 6 by omega, a, show (d.setIfInBounds i u)[i]! = u by simp [hi]]
 ·rw [if_neg (fun h => a ((blk_iff 6 i t (by decide)).1 h))]
  have e : (d.setIfInBounds i u)[t / 6]! = d[t / 6]! := by
   have h1 : t / 6 < d.size := by omega
   rw [getElem!_pos (d.setIfInBounds i u) (t / 6) (by simpa using h1), getElem!_pos d (t / 6) h1, Array.getElem_setIfInBounds, if_neg (fun h => a h.symm)]
  rw [e]
theorem store_world6 {w wr : World} {q nq blk : Nat} {dk : Array DS} {i : Nat} (hi : i < dk.size) (hwr : wr = putRowK encDX 6 (Sort.ahead w q) blk 0 dk) (u : DS) :
  (wr.drewN nq).setCells blk (i * 6) (encDX u) = putRowK encDX 6 (Sort.ahead w (q + nq)) blk 0 (dk.setIfInBounds i u) := by
 subst hwr
 rw [putRowK_drewN]
 have h := setCells_putRow (Sort.ahead w (q + nq)) blk 0 (encDX u) (i * 6) (flatK encDX 6 dk) (by rw [size_flatK]; show i * 6 + 6 ≤ _; omega)
 rw [Nat.zero_add] at h
 unfold putRowK
 rw [h, setMany_set dk i u hi]
theorem there6 {wr : World} {blk : Nat} {dk : Array DS} (h : HoldsK encDX 6 wr blk 0 dk) (o n : Nat) (hn : o + n ≤ dk.size * 6) : wr.there blk o n := fun j hj => by
 have := h (o + j) (by rw [size_flatK]; omega)
 rw [Nat.zero_add] at this
 exact ⟨by rw [this.1]; rfl, this.2⟩
theorem clear6 (wr : World) (ty : TypeId) (blk o n c : Nat) (hn : 0 < n) (ht : wr.there blk o (n * 6)) :
  (Builtin.clear_ #[38] ty #[.slice (some ⟨blk, o, none⟩) n c]).run Try.prog wr = .ok (.tuple #[]) (wr.setCells blk o (List.replicate (n * 6) (.int .i64 0))) := by
 have hzc : (Builtin.zeroCells (Value.agg #[.int .i64 0, .int .i64 0, .int .i64 0, .int .i64 0, .int .i64 0, .int .i64 0]).cells n).toList = List.replicate (n * 6) (Value.int .i64 0) := by
  simp [Builtin.zeroCells, Value.cells]
  apply List.ext_getElem
  ·simp [Nat.mul_comm]
  ·intro i h1 h2
   have : i % 6 = 0 ∨ i % 6 = 1 ∨ i % 6 = 2 ∨ i % 6 = 3 ∨ i % 6 = 4 ∨ i % 6 = 5 := by omega
   rcases this with h | h | h | h | h | h <;> simp [h]
 have hst := run_storeCells_cells (P := Try.prog) blk o (List.replicate (n * 6) (Value.int .i64 0)) 0 wr (by simpa using fun j hj => (ht j hj).1) (by simpa using fun j hj => (ht j hj).2) (by intro v hv'; rw [List.eq_of_mem_replicate hv']; rfl)
 simp only [Nat.add_zero] at hst
 obtain ⟨m, rfl⟩ : ∃ m, n = m + 1 := ⟨n - 1, by omega⟩
 simp [Builtin.clear_, run_underlying Try.underlying38, Try.zeroValue29, hzc, hst]
theorem done6 {w wr : World} {q blk : Nat} {d dk : Array DS} {kk : Nat} (hI : CompInv d d.size kk dk) (hwr : wr = putRowK encDX 6 (Sort.ahead w q) blk 0 dk) :
  ∃ q F, wr.setCells blk (kk * 6) (List.replicate ((d.size - kk) * 6) (.int .i64 0)) = putRow id (Sort.ahead w q) blk 0 F ∧ F.size = d.size * 6 ∧ ∀ i, i < (compactUpTo d d.size).length → ∀ c, c < 6 → F[i * 6 + c]! = (encDX (compactUpTo d d.size)[i]!)[c]! := by
 subst hwr
 have hs := hI.size
 have hk := hI.lt
 have h := setCells_putRow (Sort.ahead w q) blk 0 (List.replicate ((d.size - kk) * 6) (.int .i64 0)) (kk * 6) (flatK encDX 6 dk) (by rw [size_flatK, List.length_replicate]; omega)
 rw [Nat.zero_add] at h
 refine ⟨q, _, h, by rw [size_setMany, size_flatK, hs], fun i hi c hc => ?_⟩
 rw [hI.len] at hi
 rw [get_setMany _ _ _ _ (by rw [size_flatK]; omega), if_neg (by omega), get_flatK _ _ _ _ (by omega), show (i * 6 + c) / 6 = i by omega, show (i * 6 + c) % 6 = c by omega]
 have e : (compactUpTo d d.size)[i]! = dk[i]! := by
  have h2 := hI.low i hi
  obtain ⟨hl, h3⟩ := List.getElem?_eq_some_iff.1 h2
  rw [getElem!_pos (compactUpTo d d.size) i hl, h3]
 rw [e]
attribute [local go_sem high] eqCD
set_option maxHeartbeats 4000000 in
set_option maxRecDepth 100000 in
theorem compactDie_arr (ad : Addr) (blk cap : Nat) (had : ad = ⟨blk, 0, none⟩) (d : Array DS) (w : World) (hH : HoldsK encDX 6 w blk 0 d) (hsz : d.size ≤ 9223372036854775807) (hcap : d.size ≤ cap) :
  Calls Try.prog 72 #[.slice (some ad) d.size cap] w fun e w' => e = .returned (.slice (some ad) (compactUpTo d d.size).length cap) ∧ ∃ q F, w' = putRow id (Sort.ahead w q) blk 0 F ∧ F.size = d.size * 6 ∧ ∀ i, i < (compactUpTo d d.size).length → ∀ c, c < 6 → F[i * 6 + c]! = (encDX (compactUpTo d d.size)[i]!)[c]! := by
 have hu := Try.underlying29
 have same : ∀ q, (∀ j, j < d.size → keeps d j = true) → (compactUpTo d d.size).length = d.size ∧ ∃ q1 F, w.drewN q = putRow id (Sort.ahead w q1) blk 0 F ∧ F.size = d.size * 6 ∧ ∀ i, i < (compactUpTo d d.size).length → ∀ c, c < 6 → F[i * 6 + c]! = (encDX (compactUpTo d d.size)[i]!)[c]! := by
  intro q hall
  have e : compactUpTo d d.size = d.toList := by rw [Lib.compactUpTo_all d _ hall, Lib.range_map_get]
  refine ⟨by rw [e]; simp, q, flatK encDX 6 d, (putRowK_self encDX 6 (Sort.ahead w q) blk 0 d (holdsK_ahead encDX 6 w q blk 0 d hH)).symm, size_flatK _ _ _, fun i hi c hc => ?_⟩
  rw [e] at hi ⊢
  have hi2 : i < d.size := by simpa using hi
  rw [get_flatK _ _ _ _ (by omega), show (i * 6 + c) / 6 = i by omega, show (i * 6 + c) % 6 = c by omega]
  have e2 : d.toList[i]! = d[i]! := by simp [hi2]
  rw [e2]
 have HS := Aside0.mk same
 have HAD := Aside0.mk had
 have HH := Aside0.mk hH
 clear hH had same
 by_cases h2 : d.size < 2
 ·go_enter Try.func72, Try.ntmps72
  go_wp2
  go_ret
  obtain ⟨e1, e2⟩ := HS.out 0 (fun j hj => keeps_lt_one d j (by omega))
  exact ⟨by rw [e1]; rfl, e2⟩
 ·go_enter Try.func72, Try.ntmps72
  go_wp2
  go_loopg [3] d.size (fun g s3 wr => ∃ k q : Nat, 1 ≤ k ∧ k ≤ d.size ∧ d.size - k ≤ g ∧ s3 = .int .i64 k ∧ wr = w.drewN q ∧ ∀ j, j < k → keeps d j = true)
  case atStart => exact ⟨1, 0, Nat.le_refl _, by omega, by omega, rfl, rfl, keeps_lt_one d⟩
  case round =>
   obtain ⟨k, q, hk1, hk, hg, rfl, rfl, hall⟩ := hrel
   have A := Aside0.mk hall
   clear hall
   by_cases hlt : k < d.size
   ·have HH2 : HoldsK encDX 6 w blk 0 d := HH.out
    obtain ⟨x, hx⟩ : ∃ x, d[k]! = x := ⟨_, rfl⟩
    obtain ⟨y, hy⟩ : ∃ y, d[k - 1]! = y := ⟨_, rfl⟩
    obtain ⟨⟨a0, a1, a2, a3, a4, a5⟩, _⟩ := at6 (ad_at HAD.out k) HH2 hlt hx
    obtain ⟨⟨b0, b1, b2, b3, b4, b5⟩, _⟩ := at6 (ad_at HAD.out (k - 1)) HH2 (show k - 1 < d.size by omega) hy
    have B := Aside0.mk (show d[k]! = x ∧ d[k - 1]! = y from ⟨hx, hy⟩)
    clear hx hy HH2
    have hwr : IntKind.i64.wrap ((k : Int) - 1) = (k : Int) - 1 := by rw [IntKind.wrap_i64]; omega
    have hm0 : (0 : Int) ≤ (k : Int) - 1 := by omega
    have hm1 : (k : Int) - 1 < (d.size : Int) := by omega
    have hm2 : ((k : Int) - 1).toNat = k - 1 := by omega
    have hm3 : (1 : Int) ≤ (k : Int) := by omega
    go_wp2
    go_quiet (fail)
    by_cases hdup : x = y
    ·subst hdup
     rw [decide_eq_true rfl]
     clear a0 a1 a2 a3 a4 a5 b0 b1 b2 b3 b4 b5 hwr hm0 hm1 hm2 hm3
     go_wp2
     obtain ⟨ad2, had2⟩ : ∃ ad2, ad.add (k * 6) = ad2 := ⟨_, rfl⟩
     have HA2 := Aside0.mk had2
     rw [had2]
     clear had2
     go_loopg [3, 5] d.size (fun g s3 s5 wr => ∃ (kk k2 q2 : Nat) (dk : Array DS), s3 = .int .i64 kk ∧ s5 = .int .i64 k2 ∧ 1 ≤ k2 ∧ k + k2 ≤ d.size ∧ d.size - (k + k2) ≤ g ∧ Aside0 (wr = putRowK encDX 6 (Sort.ahead w q2) blk 0 dk) ∧ Aside0 (CompInv d (k + k2) kk dk))
     case atStart => exact ⟨k, 1, q + nq, d, rfl, rfl, Nat.le_refl _, by omega, by omega, ⟨(putRowK_self encDX 6 (Sort.ahead w (q + nq)) blk 0 d (holdsK_ahead encDX 6 w (q + nq) blk 0 d HH.out)).symm⟩, ⟨CompInv.start A.out (keeps_neg (by omega) (by rw [B.out.1, B.out.2]))⟩⟩
     case round =>
      obtain ⟨kk, k2, q2, dk, rfl, rfl, h1, hle, hg2, W2, I2⟩ := hrel
      rename World => wr
      have hkk := I2.out.lt
      have hds := I2.out.size
      have hHk : HoldsK encDX 6 wr blk 0 dk := by rw [W2.out]; exact holdsK_putRowK encDX 6 _ blk 0 d dk (holdsK_ahead encDX 6 w q2 blk 0 d HH.out) hds
      have HHK := Aside0.mk hHk
      clear hHk
      by_cases hlt2 : k + k2 < d.size
      ·obtain ⟨u, hu1⟩ : ∃ u, d[k + k2]! = u := ⟨_, rfl⟩
       obtain ⟨v, hv1⟩ : ∃ v, d[k + k2 - 1]! = v := ⟨_, rfl⟩
       obtain ⟨old, ho1⟩ : ∃ old, dk[kk]! = old := ⟨_, rfl⟩
       obtain ⟨⟨a0, a1, a2, a3, a4, a5⟩, _⟩ := at6 (ad_at2 HAD.out HA2.out k2) HHK.out (show k + k2 < dk.size by omega) ((I2.out.high (k + k2) (by omega)).trans hu1)
       obtain ⟨⟨b0, b1, b2, b3, b4, b5⟩, _⟩ := at6 (ad_at2 HAD.out HA2.out (k2 - 1)) HHK.out (show k + (k2 - 1) < dk.size by omega) ((I2.out.high (k + (k2 - 1)) (by omega)).trans ((show k + (k2 - 1) = k + k2 - 1 by omega) ▸ hv1))
       obtain ⟨⟨c0, c1, c2, c3, c4, c5⟩, f0, f1, f2, f3, f4, f5⟩ := at6 (ad_at HAD.out kk) HHK.out (show kk < dk.size by omega) ho1
       have C := Aside0.mk (show d[k + k2]! = u ∧ d[k + k2 - 1]! = v from ⟨hu1, hv1⟩)
       clear hu1 hv1 ho1
       have hwr : IntKind.i64.wrap ((k2 : Int) - 1) = (k2 : Int) - 1 := by rw [IntKind.wrap_i64]; omega
       have hm0 : (0 : Int) ≤ (k2 : Int) - 1 := by omega
       have hm1 : (k2 : Int) - 1 < ((d.size - k : Nat) : Int) := by omega
       have hm2 : ((k2 : Int) - 1).toNat = k2 - 1 := by omega
       have hm3 : (1 : Int) ≤ (k2 : Int) := by omega
       have hm4 : (k2 : Int) < ((d.size - k : Nat) : Int) := by omega
       go_wp2
       go_quiet (fail)
       by_cases huv : u = v
       ·subst huv
        rw [decide_eq_true rfl]
        go_wp2
        go_roundg (d.size - (k + (k2 + 1)))
        case measure => omega
        case rel => exact ⟨kk, k2 + 1, q2 + nq, dk, rfl, by go_num, by omega, by omega, Nat.le_refl _, ⟨by rw [W2.out]; exact putRowK_drewN encDX 6 w q2 nq blk 0 dk⟩, ⟨I2.out.skip (keeps_neg (by omega) (by rw [C.out.1, C.out.2]))⟩⟩
       ·rw [decide_eq_false huv]
        have THR := Aside0.mk (show (wr.drewN nq).there blk (kk * 6) 6 from there6 HHK.out (kk * 6) 6 (by omega))
        go_wp2_with (first
         | ((with_reducible refine qpA (t := 29) (p := 51) rfl ?_); refine wpList_store_mid (by rfl) 29 (.tmp 51) (.tmp 50) (by rfl) blk (kk * 6) #[.int .i64 u.f0, .int .i64 u.f1, .int .i64 u.f2, .int .i64 u.f3, .int .i64 u.f4, .int .i64 u.f5] ?hx ?hy ?ht ?hi ?h1 ?_; (case hy => rfl); (case hi => kernel_rfl); (case h1 => simp [Value.oneCell']); (case hx => show Value.pointer (some (ad.add (kk * 6))) = _; rw [ad_at HAD.out kk]); (case ht => exact THR.out)))
        go_roundg (d.size - (k + (k2 + 1)))
        case measure => omega
        case rel => exact ⟨kk + 1, k2 + 1, q2 + nq, dk.setIfInBounds kk u, by go_num, by go_num, by omega, by omega, Nat.le_refl _, ⟨store_world6 (by omega) W2.out u⟩, ⟨by have := I2.out.keep hlt2 (keeps_pos (by rw [C.out.1, C.out.2]; exact huv)); rwa [C.out.1] at this⟩⟩
      ·have hnl : ¬ k2 < d.size - k := by omega
       have hnl2 : ¬ (k2 : Int) < ((d.size - k : Nat) : Int) := by omega
       have hcl := Aside0.mk (fun ty => clear6 wr ty blk (kk * 6) (d.size - kk) (cap - kk) (by omega) (there6 HHK.out (kk * 6) ((d.size - kk) * 6) (by omega)))
       go_wp2
       rw [ad_at HAD.out kk, hcl.out]
       go_wp2
       go_ret
       have hI := I2.out
       rw [show k + k2 = d.size by omega] at hI
       exact ⟨by rw [hI.len]; rfl, done6 hI W2.out⟩
    ·rw [decide_eq_false hdup]
     go_wp2
     go_roundg (d.size - (k + 1))
     case measure => omega
     case rel =>
      refine ⟨k + 1, q + nq, by omega, by omega, Nat.le_refl _, by go_num, rfl, fun j hj => ?_⟩
      by_cases e : j = k
      ·subst e
       exact keeps_pos (by rw [B.out.1, B.out.2]; exact hdup)
      ·exact A.out j (by omega)
   ·have : k = d.size := by omega
    subst this
    go_wp2
    go_ret
    obtain ⟨e1, e2⟩ := HS.out q A.out
    exact ⟨by rw [e1]; rfl, e2⟩
end Go.Proofs.Ytbmiekopflgicaa
namespace Go.Proofs.Ytbmiekopflgicaa
open Go.RowKit Go.Sort Go.Proofs.Ytbmiekopflgicaa.P Go.Proofs.YtbmiekopflgicaaW.PrintWords Go.Proofs.YtbmiekopflgicaaW.PrintLast
open Go.Lib (keeps compactUpTo)
set_option linter.unusedVariables false
set_option linter.unusedSimpArgs false
theorem compactD_put {cur F : Array Value} {ys : List DS} {N : Nat} (hF : F.size = N * 6) (hN : N * 6 ≤ cur.size) (hy : ys.length ≤ N) (hc : ∀ i, i < ys.length → ∀ c, c < 6 → F[i * 6 + c]! = (encDX ys[i]!)[c]!) (w : World) (base : Nat) (ok : Nat → Prop) :
  Reps (k29.M w base ok) 6 ys ((putCells id 0 F cur).toList.take (ys.length * 6)) := by
 have hsz : (putCells id 0 F cur).toList.length = cur.size := by simp [putCells]
 refine ⟨by rw [List.length_take, hsz]; omega, fun j x hx => ?_⟩
 have hj : j < ys.length := (List.getElem?_eq_some_iff.1 hx).1
 have hv : ys[j] = x := by rw [List.getElem?_eq_getElem hj] at hx; injection hx
 have e : (((putCells id 0 F cur).toList.take (ys.length * 6)).drop (j * 6)).take 6 = encDX x := by
  refine List.ext_getElem? fun i => ?_
  rw [List.getElem?_take]
  by_cases hi : i < 6
  ·rw [if_pos hi, List.getElem?_drop, List.getElem?_take, if_pos (by omega), Array.getElem?_toList]
   simp only [putCells, Array.getElem?_mapIdx]
   rw [Array.getElem?_eq_getElem (show j * 6 + i < cur.size by omega), Option.map_some, if_pos ⟨Nat.zero_le _, by omega⟩, Nat.sub_zero, hc j hj i hi]
   have e2 : ys[j]! = x := by rw [getElem!_pos ys j hj, hv]
   rw [e2, qvB _ _ hi]
   rfl
  ·rw [if_neg hi, List.getElem?_eq_none (by show 6 ≤ i; omega)]
 rw [e]
 exact qdA w base ok x
theorem compact_len (l : List DS) : (Lib.compact l).length ≤ l.length := by
 unfold Lib.compact compactUpTo
 rw [List.length_map]
 exact Nat.le_trans (List.length_filter_le _ _) (by simp)
set_option maxHeartbeats 1000000 in
theorem compactDie_empty (w : World) : Calls Try.prog 72 #[.slice none 0 0] w fun e w' => e = .returned (.slice none 0 0) ∧ w' = w := by
 go_enter Try.func72, Try.ntmps72
 go_wp2
 go_ret
 exact ⟨rfl, rfl⟩
theorem compactDox.calls (ok : Nat → Prop) (v : Value) (l : List DS) (w0 w : World) (hB : Below w0.heap.size w0 w) (ho : Kd.R k29 29 w w0.heap.size ok v l) :
  Calls Try.prog 72 #[v] w fun e w' => ∃ v', e = .returned v' ∧ Kd.R k29 29 w' w0.heap.size ok v' (Lib.compact l) ∧ Below w0.heap.size w0 w' := by
 obtain ⟨hok, inner, hown, hr⟩ := ho
 have hsz : k29.sz = 6 := rfl
 rcases hown.2 with ⟨hv, hn⟩ | ⟨g, cap, cur, hv, hbase, hheap, hncap, hmax, hsize, htake⟩
 ·subst hv
  have hl : l = [] := List.eq_nil_of_length_eq_zero hn
  subst hl
  refine (compactDie_empty w).mono fun e w' hq => ?_
  obtain ⟨he, rfl⟩ := hq
  exact ⟨_, he, Kd.R_nil k29 29 w' w0.heap.size _, hB⟩
 ·subst hv
  rw [hsz] at htake hsize hr
  have hg : g < w.heap.size := by
   rcases Nat.lt_or_ge g w.heap.size with h1 | h1
   ·exact h1
   ·rw [Array.getElem?_eq_none h1] at hheap; cases hheap
  have hH : HoldsK encDX 6 w g 0 l.toArray := sortD_holds (fun x cs hx => qaA hx) hheap htake hr
  have hcall := compactDie_arr ⟨g, 0, none⟩ g cap rfl l.toArray w hH (by have h9 : maxLen ≤ 9223372036854775807 := (by decide); simp only [List.size_toArray]; omega) (by simpa using hncap)
  have hcall2 : Calls Try.prog 72 #[.slice (some ⟨g, 0, none⟩) l.length cap] w _ := hcall
  refine hcall2.mono fun e w' hq => ?_
  obtain ⟨he, q, F, rfl, hF, hcells⟩ := hq
  have hsa : l.toArray.size = l.length := rfl
  rw [hsa] at he hF hcells
  have hle := compact_len l
  have hoth : ∀ k, k < w.heap.size → k ≠ g → (putRow id (Sort.ahead w q) g 0 F).heap[k]? = w.heap[k]? := by
   intro k hk hne
   simp only [putRow, mapBlock, Array.getElem?_modify, if_neg (Ne.symm hne), heap_ahead]
  have hown' : (putRow id (Sort.ahead w q) g 0 F).heap[g]? = some (.cells (putCells id 0 F cur) 29 (0, 0)) := by
   simp only [putRow, mapBlock, Array.getElem?_modify, heap_ahead, hheap, if_true, Option.map_some, onCells]
  have hle2 : l.length * 6 ≤ cur.size := by rw [hsize]; exact Nat.mul_le_mul_right 6 hncap
  refine ⟨_, he, ⟨hok, _, ⟨?_, .inr ⟨g, cap, _, rfl, hbase, hown', Nat.le_trans hle hncap, hmax, by rw [hsz, ← hsize]; simp [putCells], by rw [hsz]⟩⟩, compactD_put hF hle2 hle hcells _ _ _⟩, ⟨hB.os, hB.tape, hB.output, Nat.le_trans hB.size (by simp), ?_⟩⟩
  ·rw [hsz, List.length_take]
   simp [putCells]
   have : (compactUpTo l.toArray l.length).length ≤ l.length := hle
   omega
  ·intro k hk
   rw [hoth k (Nat.lt_of_lt_of_le hk hB.size) (by omega)]
   exact hB.block k hk
set_option maxHeartbeats 2000000 in
set_option maxRecDepth 100000 in
theorem sortedDie.calls (v : Value) (l : List DS) (w0 w : World) (hB : Below w0.heap.size w0 w) (ho : Kd.R k29 29 w w0.heap.size (fun _ => True) v l) (hl : l.length < 4611686018427387904) :
  Calls Try.prog 63 #[v] w fun e w' => ∃ v', e = .returned v' ∧ Kd.R k29 29 w' w0.heap.size (fun _ => True) v' (Lib.compact (l.mergeSort fun x y => !(ltOf ordDie) y x)) ∧ Below w0.heap.size w0 w' := by
 have HB := Aside0.mk hB
 have HO := Aside0.mk ho
 have HF := Aside0.mk (show qqB.f l = some (l.mergeSort fun x y => !(ltOf ordDie) y x) from if_pos hl)
 clear hB ho hl
 go_enter Try.func63, Try.ntmps63
 go_wp2_with (first
  | ((with_reducible refine qL (f := 70) rfl ?_); refine qc (some 4) rfl rfl Try.func70 (by kernel_rfl) rfl #[v, .func (.func 71) #[] #[]] rfl (by (try simp only [List.map_toArray, List.map_cons, List.map_nil]); first | done | rfl | simp) ?_; refine (qqB.calls (fun _ => True) v l _ w0 w HB.out HO.out HF.out).mono ?_; rintro e w1 ⟨rfl, ho1, hb1, _⟩; refine ⟨_, rfl, ?_⟩; have HO1 := Aside0.mk (Kd.qa ho1 (ok' := fun _ => True) (fun _ _ => trivial)); have HB1 := Aside0.mk hb1; clear ho1 hb1)
  | ((with_reducible refine qL (f := 72) rfl ?_); refine qc (some 6) rfl rfl Try.func72 (by kernel_rfl) rfl #[v] rfl (by (try simp only [List.map_toArray, List.map_cons, List.map_nil]); first | done | rfl | simp) ?_; refine (compactDox.calls (fun _ => True) v _ w0 _ HB1.out HO1.out).mono ?_; rintro e w2 ⟨v', rfl, ho2, hb2⟩; refine ⟨_, rfl, ?_⟩; have HO2 := Aside0.mk ho2; have HB2 := Aside0.mk hb2; clear ho2 hb2))
 go_ret
 exact ⟨_, rfl, HO2.out, HB2.out⟩
end Go.Proofs.Ytbmiekopflgicaa
namespace Go.Proofs.Ytbmiekopflgicaa
open Go Go.ChangeMaps Go.RowKit Go.Proofs.Ytbmiekopflgicaa.P Go.Proofs.YtbmiekopflgicaaW.PrintWords Go.Proofs.YtbmiekopflgicaaW.PrintLast
set_option linter.unusedVariables false
set_option linter.unusedSimpArgs false
def wfD (x : DD) : Prop := ∀ n ∈ facesD x, (Lit.int .i64 n).wf = true
def encDD (x : DD) : Value := .agg #[.int .i64 x.f0, .int .i64 x.f1, .int .i64 x.f2, .int .i64 x.f3, .int .i64 x.f4, .int .i64 x.f5]
def litDD (x : DD) : Lit := .string (keyBytes [.int .i64 x.f0, .int .i64 x.f1, .int .i64 x.f2, .int .i64 x.f3, .int .i64 x.f4, .int .i64 x.f5])
theorem encDD_inj (x y : DD) (h : encDD x = encDD y) : x = y := by
 unfold encDD at h
 simp only [Value.agg.injEq, Array.mk.injEq, List.cons.injEq, Value.int.injEq, true_and, and_true] at h
 exact qJC h.1 h.2.1 h.2.2.1 h.2.2.2.1 h.2.2.2.2.1 h.2.2.2.2.2
theorem laidOutD : laidOutB Try.prog = true := by kernel_rfl
theorem keyedD : Go.Maps.Keyed Try.prog 29 := Go.Maps.Keyed.of_law (deep_law_laid laidOutD (m := 3) (by decide) (of_decide_eq_true (by kernel_rfl)) (by kernel_rfl) (by kernel_rfl))
theorem qRB (d : Nat) (n : Int) (h : (Lit.int .i64 n).wf = true) : Try.prog.keyLits (d + 1) 3 [.int .i64 n] = some [.int .i64 n] := by
 unfold Program.keyLits
 rw [Try.underlying3]
 simp only [h, and_self, if_true]
theorem keyD (x : DD) (h : wfD x) : keyOf Try.prog 29 (encDD x) = some (litDD x) := by
 unfold wfD facesD at h
 have h0 := h x.f0 (by simp)
 have h1 := h x.f1 (by simp)
 have h2 := h x.f2 (by simp)
 have h3 := h x.f3 (by simp)
 have h4 := h x.f4 (by simp)
 have h5 := h x.f5 (by simp)
 clear h
 have hc : Try.prog.cellsOf 29 = 6 := by kernel_rfl
 have hc3 : Try.prog.cellsOf 3 = 1 := by kernel_rfl
 have hk : Try.prog.keyType 29 = true := by kernel_rfl
 have hf : (encDD x).formed Try.prog 29 = true := by
  unfold encDD Value.formed
  rw [Try.underlying29]
  simp only [hc]
  rfl
 obtain ⟨m, hm⟩ : ∃ m, Try.prog.types.size = m + 1 := ⟨Try.prog.types.size - 1, by have : 0 < Try.prog.types.size := of_decide_eq_true (by kernel_rfl); omega⟩
 have hl : Try.prog.keyLits (Try.prog.types.size + 1) 29 [.int .i64 x.f0, .int .i64 x.f1, .int .i64 x.f2, .int .i64 x.f3, .int .i64 x.f4, .int .i64 x.f5] = some [.int .i64 x.f0, .int .i64 x.f1, .int .i64 x.f2, .int .i64 x.f3, .int .i64 x.f4, .int .i64 x.f5] := by
  unfold Program.keyLits
  rw [Try.underlying29, hm]
  simp [hc, hc3, List.mapM_cons, List.mapM_nil, qRB m x.f0 h0, qRB m x.f1 h1, qRB m x.f2 h2, qRB m x.f3 h3, qRB m x.f4 h4, qRB m x.f5 h5]
 unfold keyOf
 rw [Try.underlying29]
 simp only [hk, hf, Bool.and_self, if_true]
 show (Try.prog.keyLits (Try.prog.types.size + 1) 29 [.int .i64 x.f0, .int .i64 x.f1, .int .i64 x.f2, .int .i64 x.f3, .int .i64 x.f4, .int .i64 x.f5]).map _ = _
 rw [hl]
 rfl
noncomputable def mapD : MapKit Try.prog DD Bool where
 t := 88
 k := 29
 e := 4
 law := keyedD
 ht := Try.underlying88
 okK := wfD
 key := encDD
 lit := litDD
 hkey := keyD
 inj := encDD_inj
 okV := fun _ => True
 val := .bool
 dat := fun v => .lit (.bool v)
 R := plainElem Try.prog 4
 hval := (elem_bool Try.underlying4).1
 hdat := (elem_bool Try.underlying4).2
 zero := false
 okz := trivial
 hz := Try.zeroValue4
theorem wf_rots : ∀ p ∈ rots, wfD p := by
 have h : (rots.all fun p => (facesD p).all fun n => (Lit.int .i64 n).wf) = true := by decide +kernel
 intro p hp n hn
 exact List.all_eq_true.1 (List.all_eq_true.1 h p hp) n hn
def metL (L : List (DD × ByteArray)) : List (DD × Bool) := (L.map fun x => (x.1, true)).reverse
theorem metL_append (L : List (DD × ByteArray)) (x : DD) (w : ByteArray) : metL (L ++ [(x, w)]) = (x, true) :: metL L := by simp [metL]
theorem look_metL (L : List (DD × ByteArray)) (x : DD) : mapD.look (metL L) x = decide (x ∈ L.map Prod.fst) := by
 unfold MapKit.look
 by_cases h : x ∈ L.map Prod.fst
 ·rw [decide_eq_true h]
  obtain ⟨z, hz, rfl⟩ := List.mem_map.1 h
  cases hf : (metL L).find? (fun y => decide (y.1 = z.1)) with
  | none =>
   rw [List.find?_eq_none] at hf
   have := hf (z.1, true) (by unfold metL; rw [List.mem_reverse]; exact List.mem_map.2 ⟨z, hz, rfl⟩)
   simp at this
  | some y =>
   have hm := List.mem_of_find?_eq_some hf
   unfold metL at hm
   rw [List.mem_reverse] at hm
   obtain ⟨u, _, rfl⟩ := List.mem_map.1 hm
   rfl
 ·rw [decide_eq_false h]
  cases hf : (metL L).find? (fun y => decide (y.1 = x)) with
  | none => rfl
  | some y =>
   have hm := List.mem_of_find?_eq_some hf
   have hy := List.find?_some hf
   unfold metL at hm
   rw [List.mem_reverse] at hm
   obtain ⟨u, hu, rfl⟩ := List.mem_map.1 hm
   simp only [decide_eq_true_eq] at hy
   exact absurd (hy ▸ List.mem_map_of_mem hu) h
end Go.Proofs.Ytbmiekopflgicaa
namespace Go.Proofs.Ytbmiekopflgicaa.P
open Go.RowKit Go.Proofs.YtbmiekopflgicaaW.PrintWords Go.Proofs.YtbmiekopflgicaaW.PrintLast Go.Proofs.YtbmiekopflgicaaW.PrintMore
attribute [local go_sem] qn ql qx qw qh qg qm qk
set_option linter.unusedVariables false
set_option linter.unusedSimpArgs false
def qgA.f (a0_0 : Int) (a0_1 : Int) (a0_2 : Int) (a0_3 : Int) (a0_4 : Int) (a0_5 : Int) (a1 : Int) : Option (Int × Int × Int × Int × Int × Int) := if a1 = 110 then (some (a0_3, a0_0, a0_2, a0_5, a0_4, a0_1)) else (if a1 = 101 then (some (a0_4, a0_1, a0_0, a0_3, a0_5, a0_2)) else (if a1 = 115 then (some (a0_1, a0_5, a0_2, a0_0, a0_4, a0_3)) else (some (a0_2, a0_1, a0_5, a0_3, a0_0, a0_4))))
set_option maxHeartbeats 8000000 in
set_option maxRecDepth 100000 in
theorem qgA.calls (a0_0 : Int) (a0_1 : Int) (a0_2 : Int) (a0_3 : Int) (a0_4 : Int) (a0_5 : Int) (a1 : Int) (r1 : Int) (r2 : Int) (r3 : Int) (r4 : Int) (r5 : Int) (r6 : Int) (w : World) (h : qgA.f a0_0 a0_1 a0_2 a0_3 a0_4 a0_5 a1 = some (r1, r2, r3, r4, r5, r6)) :
  Calls Try.prog 69 #[.agg #[.int .i64 a0_0, .int .i64 a0_1, .int .i64 a0_2, .int .i64 a0_3, .int .i64 a0_4, .int .i64 a0_5], .int .u8 a1] w fun e w' => e = .returned (.agg #[.int .i64 r1, .int .i64 r2, .int .i64 r3, .int .i64 r4, .int .i64 r5, .int .i64 r6]) ∧ Below w.heap.size w w' := by
 have hu29 := Try.underlying29
 have HB := Aside0.mk (Below.refl w.heap.size w)
 have H : (if a1 = 110 then (some (a0_3, a0_0, a0_2, a0_5, a0_4, a0_1)) else (if a1 = 101 then (some (a0_4, a0_1, a0_0, a0_3, a0_5, a0_2)) else (if a1 = 115 then (some (a0_1, a0_5, a0_2, a0_0, a0_4, a0_3)) else (some (a0_2, a0_1, a0_5, a0_3, a0_0, a0_4))))) = some (r1, r2, r3, r4, r5, r6) := h
 clear h
 by_cases c3 : a1 = 110
 ·rw [if_pos c3] at H
  have c3b0 : (a1 == 110) = true := beq_iff_eq.mpr c3
  have c3b1 : (a1 != 110) = false := bne_eq_false_iff_eq.mpr c3
  clear c3
  simp only [Option.some.injEq, Prod.mk.injEq] at H
  obtain ⟨rfl, rfl, rfl, rfl, rfl, rfl⟩ := H
  go_enter Try.func69, Try.ntmps69
  go_wp2_with (first | ((with_reducible refine qU (N := 2) rfl ?_); refine qS ?hg (N := 2) ?hd (cs := #[.int .i64 a0_0, .int .i64 a0_1, .int .i64 a0_2, .int .i64 a0_3, .int .i64 a0_4, .int .i64 a0_5]) (t := 29) ?hr ?_; (case hd => rfl); (case hg => rfl); (case hr => first | (go_simp; done) | (go_simp; rfl)); intro gb404 hg w4 hbox hb; have n0_ := Aside0.mk (qF bl hb); have n1_ := Aside0.mk (hbox); have n2_ := Aside0.mk ((gg hg)); have n3_ := Aside0.mk ((gg hg)); clear HB; have HB := n0_; have BK404 := n1_; have GW404 := n2_; have GE404 := n3_; clear n0_ n1_ n2_ n3_; clear hb hbox hg) | ((with_reducible refine qU (N := 4) rfl ?_); refine qS ?hg (N := 4) ?hd (cs := #[.int .i64 0, .int .i64 0, .int .i64 0, .int .i64 0, .int .i64 0, .int .i64 0]) (t := 29) ?hr ?_; (case hd => rfl); (case hg => rfl); (case hr => first | (go_simp; done) | (go_simp; rfl)); intro gb405 hg w5 hbox hb; have n0_ := Aside0.mk (bb BK404 hb); have n1_ := Aside0.mk (qF bl hb); have n2_ := Aside0.mk (hbox); have n3_ := Aside0.mk ((gg hg)); have n4_ := Aside0.mk ((gg hg)); have n5_ := Aside0.mk ((nl BK404 hg)); have n6_ := Aside0.mk ((nr BK404 hg)); clear BK404; clear HB; have BK404 := n0_; have HB := n1_; have BK405 := n2_; have GW405 := n3_; have GE405 := n4_; have NB404_405 := n5_; have NB405_404 := n6_; clear n0_ n1_ n2_ n3_ n4_ n5_ n6_; clear hb hbox hg; have hnb6 := NB404_405.out; have hnc6 := NB405_404.out; have hcz7_0 := bc BK404 0; have hcz7_1 := bc BK404 1; have hcz7_2 := bc BK404 2; have hcz7_3 := bc BK404 3; have hcz7_4 := bc BK404 4; have hcz7_5 := bc BK404 5; have hfz7_0 := qA BK404.out 0; have hfz7_1 := qA BK404.out 1; have hfz7_2 := qA BK404.out 2; have hfz7_3 := qA BK404.out 3; have hfz7_4 := qA BK404.out 4; have hfz7_5 := qA BK404.out 5; have hcz8_0 := bc BK405 0; have hcz8_1 := bc BK405 1; have hcz8_2 := bc BK405 2; have hcz8_3 := bc BK405 3; have hcz8_4 := bc BK405 4; have hcz8_5 := bc BK405 5; have hfz8_0 := qA BK405.out 0; have hfz8_1 := qA BK405.out 1; have hfz8_2 := qA BK405.out 2; have hfz8_3 := qA BK405.out 3; have hfz8_4 := qA BK405.out 4; have hfz8_5 := qA BK405.out 5))
  refine bodyPost_ret (results_cell_row rfl _ _ gb405 29 #[.int .i64 a0_3, .int .i64 a0_0, .int .i64 a0_2, .int .i64 a0_5, .int .i64 a0_4, .int .i64 a0_1] (0, 0) _ rfl (by (with_reducible repeat (first | refine qC ?_ _ | refine qE ?_ | refine qD ?_ _)); refine qR (cs := #[.int .i64 a0_3, .int .i64 a0_0, .int .i64 a0_2, .int .i64 a0_5, .int .i64 a0_4, .int .i64 0]) ?_ 5 _ rfl; (with_reducible repeat (first | refine qC ?_ _ | refine qE ?_ | refine qD ?_ _)); refine qR (cs := #[.int .i64 a0_3, .int .i64 a0_0, .int .i64 a0_2, .int .i64 a0_5, .int .i64 0, .int .i64 0]) ?_ 4 _ rfl; (with_reducible repeat (first | refine qC ?_ _ | refine qE ?_ | refine qD ?_ _)); refine qR (cs := #[.int .i64 a0_3, .int .i64 a0_0, .int .i64 a0_2, .int .i64 0, .int .i64 0, .int .i64 0]) ?_ 3 _ rfl; (with_reducible repeat (first | refine qC ?_ _ | refine qE ?_ | refine qD ?_ _)); refine qR (cs := #[.int .i64 a0_3, .int .i64 a0_0, .int .i64 0, .int .i64 0, .int .i64 0, .int .i64 0]) ?_ 2 _ rfl; (with_reducible repeat (first | refine qC ?_ _ | refine qE ?_ | refine qD ?_ _)); refine qR (cs := #[.int .i64 a0_3, .int .i64 0, .int .i64 0, .int .i64 0, .int .i64 0, .int .i64 0]) ?_ 1 _ rfl; (with_reducible repeat (first | refine qC ?_ _ | refine qE ?_ | refine qD ?_ _)); refine qR (cs := #[.int .i64 0, .int .i64 0, .int .i64 0, .int .i64 0, .int .i64 0, .int .i64 0]) ?_ 0 _ rfl; (with_reducible repeat (first | refine qC ?_ _ | refine qE ?_ | refine qD ?_ _)); exact BK405.out) Try.underlying29 rfl (by kernel_rfl)) rfl ?_
  exact ⟨by first | rfl | (simp [qP, qO] <;> rfl) | (simp [*, qP, qO] <;> rfl), bl⟩
 ·rw [if_neg c3] at H
  have c3b0 : (a1 == 110) = false := beq_eq_false_iff_ne.mpr c3
  have c3b1 : (a1 != 110) = true := bne_iff_ne.mpr c3
  by_cases c9 : a1 = 101
  ·rw [if_pos c9] at H
   have c9b0 : (a1 == 101) = true := beq_iff_eq.mpr c9
   have c9b1 : (a1 != 101) = false := bne_eq_false_iff_eq.mpr c9
   clear c9
   simp only [Option.some.injEq, Prod.mk.injEq] at H
   obtain ⟨rfl, rfl, rfl, rfl, rfl, rfl⟩ := H
   go_enter Try.func69, Try.ntmps69
   go_wp2_with (first | ((with_reducible refine qU (N := 2) rfl ?_); refine qS ?hg (N := 2) ?hd (cs := #[.int .i64 a0_0, .int .i64 a0_1, .int .i64 a0_2, .int .i64 a0_3, .int .i64 a0_4, .int .i64 a0_5]) (t := 29) ?hr ?_; (case hd => rfl); (case hg => rfl); (case hr => first | (go_simp; done) | (go_simp; rfl)); intro gb404 hg w10 hbox hb; have n0_ := Aside0.mk (qF bl hb); have n1_ := Aside0.mk (hbox); have n2_ := Aside0.mk ((gg hg)); have n3_ := Aside0.mk ((gg hg)); clear HB; have HB := n0_; have BK404 := n1_; have GW404 := n2_; have GE404 := n3_; clear n0_ n1_ n2_ n3_; clear hb hbox hg) | ((with_reducible refine qU (N := 4) rfl ?_); refine qS ?hg (N := 4) ?hd (cs := #[.int .i64 0, .int .i64 0, .int .i64 0, .int .i64 0, .int .i64 0, .int .i64 0]) (t := 29) ?hr ?_; (case hd => rfl); (case hg => rfl); (case hr => first | (go_simp; done) | (go_simp; rfl)); intro gb405 hg w11 hbox hb; have n0_ := Aside0.mk (bb BK404 hb); have n1_ := Aside0.mk (qF bl hb); have n2_ := Aside0.mk (hbox); have n3_ := Aside0.mk ((gg hg)); have n4_ := Aside0.mk ((gg hg)); have n5_ := Aside0.mk ((nl BK404 hg)); have n6_ := Aside0.mk ((nr BK404 hg)); clear BK404; clear HB; have BK404 := n0_; have HB := n1_; have BK405 := n2_; have GW405 := n3_; have GE405 := n4_; have NB404_405 := n5_; have NB405_404 := n6_; clear n0_ n1_ n2_ n3_ n4_ n5_ n6_; clear hb hbox hg; have hnb12 := NB404_405.out; have hnc12 := NB405_404.out; have hcz13_0 := bc BK404 0; have hcz13_1 := bc BK404 1; have hcz13_2 := bc BK404 2; have hcz13_3 := bc BK404 3; have hcz13_4 := bc BK404 4; have hcz13_5 := bc BK404 5; have hfz13_0 := qA BK404.out 0; have hfz13_1 := qA BK404.out 1; have hfz13_2 := qA BK404.out 2; have hfz13_3 := qA BK404.out 3; have hfz13_4 := qA BK404.out 4; have hfz13_5 := qA BK404.out 5; have hcz14_0 := bc BK405 0; have hcz14_1 := bc BK405 1; have hcz14_2 := bc BK405 2; have hcz14_3 := bc BK405 3; have hcz14_4 := bc BK405 4; have hcz14_5 := bc BK405 5; have hfz14_0 := qA BK405.out 0; have hfz14_1 := qA BK405.out 1; have hfz14_2 := qA BK405.out 2; have hfz14_3 := qA BK405.out 3; have hfz14_4 := qA BK405.out 4; have hfz14_5 := qA BK405.out 5))
   refine bodyPost_ret (results_cell_row rfl _ _ gb405 29 #[.int .i64 a0_4, .int .i64 a0_1, .int .i64 a0_0, .int .i64 a0_3, .int .i64 a0_5, .int .i64 a0_2] (0, 0) _ rfl (by (with_reducible repeat (first | refine qC ?_ _ | refine qE ?_ | refine qD ?_ _)); refine qR (cs := #[.int .i64 a0_4, .int .i64 a0_1, .int .i64 a0_0, .int .i64 a0_3, .int .i64 a0_5, .int .i64 0]) ?_ 5 _ rfl; (with_reducible repeat (first | refine qC ?_ _ | refine qE ?_ | refine qD ?_ _)); refine qR (cs := #[.int .i64 a0_4, .int .i64 a0_1, .int .i64 a0_0, .int .i64 a0_3, .int .i64 0, .int .i64 0]) ?_ 4 _ rfl; (with_reducible repeat (first | refine qC ?_ _ | refine qE ?_ | refine qD ?_ _)); refine qR (cs := #[.int .i64 a0_4, .int .i64 a0_1, .int .i64 a0_0, .int .i64 0, .int .i64 0, .int .i64 0]) ?_ 3 _ rfl; (with_reducible repeat (first | refine qC ?_ _ | refine qE ?_ | refine qD ?_ _)); refine qR (cs := #[.int .i64 a0_4, .int .i64 a0_1, .int .i64 0, .int .i64 0, .int .i64 0, .int .i64 0]) ?_ 2 _ rfl; (with_reducible repeat (first | refine qC ?_ _ | refine qE ?_ | refine qD ?_ _)); refine qR (cs := #[.int .i64 a0_4, .int .i64 0, .int .i64 0, .int .i64 0, .int .i64 0, .int .i64 0]) ?_ 1 _ rfl; (with_reducible repeat (first | refine qC ?_ _ | refine qE ?_ | refine qD ?_ _)); refine qR (cs := #[.int .i64 0, .int .i64 0, .int .i64 0, .int .i64 0, .int .i64 0, .int .i64 0]) ?_ 0 _ rfl; (with_reducible repeat (first | refine qC ?_ _ | refine qE ?_ | refine qD ?_ _)); exact BK405.out) Try.underlying29 rfl (by kernel_rfl)) rfl ?_
   exact ⟨by first | rfl | (simp [qP, qO] <;> rfl) | (simp [*, qP, qO] <;> rfl), bl⟩
  ·rw [if_neg c9] at H
   have c9b0 : (a1 == 101) = false := beq_eq_false_iff_ne.mpr c9
   have c9b1 : (a1 != 101) = true := bne_iff_ne.mpr c9
   by_cases c15 : a1 = 115
   ·rw [if_pos c15] at H
    have c15b0 : (a1 == 115) = true := beq_iff_eq.mpr c15
    have c15b1 : (a1 != 115) = false := bne_eq_false_iff_eq.mpr c15
    clear c15
    simp only [Option.some.injEq, Prod.mk.injEq] at H
    obtain ⟨rfl, rfl, rfl, rfl, rfl, rfl⟩ := H
    go_enter Try.func69, Try.ntmps69
    go_wp2_with (first | ((with_reducible refine qU (N := 2) rfl ?_); refine qS ?hg (N := 2) ?hd (cs := #[.int .i64 a0_0, .int .i64 a0_1, .int .i64 a0_2, .int .i64 a0_3, .int .i64 a0_4, .int .i64 a0_5]) (t := 29) ?hr ?_; (case hd => rfl); (case hg => rfl); (case hr => first | (go_simp; done) | (go_simp; rfl)); intro gb404 hg w16 hbox hb; have n0_ := Aside0.mk (qF bl hb); have n1_ := Aside0.mk (hbox); have n2_ := Aside0.mk ((gg hg)); have n3_ := Aside0.mk ((gg hg)); clear HB; have HB := n0_; have BK404 := n1_; have GW404 := n2_; have GE404 := n3_; clear n0_ n1_ n2_ n3_; clear hb hbox hg) | ((with_reducible refine qU (N := 4) rfl ?_); refine qS ?hg (N := 4) ?hd (cs := #[.int .i64 0, .int .i64 0, .int .i64 0, .int .i64 0, .int .i64 0, .int .i64 0]) (t := 29) ?hr ?_; (case hd => rfl); (case hg => rfl); (case hr => first | (go_simp; done) | (go_simp; rfl)); intro gb405 hg w17 hbox hb; have n0_ := Aside0.mk (bb BK404 hb); have n1_ := Aside0.mk (qF bl hb); have n2_ := Aside0.mk (hbox); have n3_ := Aside0.mk ((gg hg)); have n4_ := Aside0.mk ((gg hg)); have n5_ := Aside0.mk ((nl BK404 hg)); have n6_ := Aside0.mk ((nr BK404 hg)); clear BK404; clear HB; have BK404 := n0_; have HB := n1_; have BK405 := n2_; have GW405 := n3_; have GE405 := n4_; have NB404_405 := n5_; have NB405_404 := n6_; clear n0_ n1_ n2_ n3_ n4_ n5_ n6_; clear hb hbox hg; have hnb18 := NB404_405.out; have hnc18 := NB405_404.out; have hcz19_0 := bc BK404 0; have hcz19_1 := bc BK404 1; have hcz19_2 := bc BK404 2; have hcz19_3 := bc BK404 3; have hcz19_4 := bc BK404 4; have hcz19_5 := bc BK404 5; have hfz19_0 := qA BK404.out 0; have hfz19_1 := qA BK404.out 1; have hfz19_2 := qA BK404.out 2; have hfz19_3 := qA BK404.out 3; have hfz19_4 := qA BK404.out 4; have hfz19_5 := qA BK404.out 5; have hcz20_0 := bc BK405 0; have hcz20_1 := bc BK405 1; have hcz20_2 := bc BK405 2; have hcz20_3 := bc BK405 3; have hcz20_4 := bc BK405 4; have hcz20_5 := bc BK405 5; have hfz20_0 := qA BK405.out 0; have hfz20_1 := qA BK405.out 1; have hfz20_2 := qA BK405.out 2; have hfz20_3 := qA BK405.out 3; have hfz20_4 := qA BK405.out 4; have hfz20_5 := qA BK405.out 5))
    refine bodyPost_ret (results_cell_row rfl _ _ gb405 29 #[.int .i64 a0_1, .int .i64 a0_5, .int .i64 a0_2, .int .i64 a0_0, .int .i64 a0_4, .int .i64 a0_3] (0, 0) _ rfl (by (with_reducible repeat (first | refine qC ?_ _ | refine qE ?_ | refine qD ?_ _)); refine qR (cs := #[.int .i64 a0_1, .int .i64 a0_5, .int .i64 a0_2, .int .i64 a0_0, .int .i64 a0_4, .int .i64 0]) ?_ 5 _ rfl; (with_reducible repeat (first | refine qC ?_ _ | refine qE ?_ | refine qD ?_ _)); refine qR (cs := #[.int .i64 a0_1, .int .i64 a0_5, .int .i64 a0_2, .int .i64 a0_0, .int .i64 0, .int .i64 0]) ?_ 4 _ rfl; (with_reducible repeat (first | refine qC ?_ _ | refine qE ?_ | refine qD ?_ _)); refine qR (cs := #[.int .i64 a0_1, .int .i64 a0_5, .int .i64 a0_2, .int .i64 0, .int .i64 0, .int .i64 0]) ?_ 3 _ rfl; (with_reducible repeat (first | refine qC ?_ _ | refine qE ?_ | refine qD ?_ _)); refine qR (cs := #[.int .i64 a0_1, .int .i64 a0_5, .int .i64 0, .int .i64 0, .int .i64 0, .int .i64 0]) ?_ 2 _ rfl; (with_reducible repeat (first | refine qC ?_ _ | refine qE ?_ | refine qD ?_ _)); refine qR (cs := #[.int .i64 a0_1, .int .i64 0, .int .i64 0, .int .i64 0, .int .i64 0, .int .i64 0]) ?_ 1 _ rfl; (with_reducible repeat (first | refine qC ?_ _ | refine qE ?_ | refine qD ?_ _)); refine qR (cs := #[.int .i64 0, .int .i64 0, .int .i64 0, .int .i64 0, .int .i64 0, .int .i64 0]) ?_ 0 _ rfl; (with_reducible repeat (first | refine qC ?_ _ | refine qE ?_ | refine qD ?_ _)); exact BK405.out) Try.underlying29 rfl (by kernel_rfl)) rfl ?_
    exact ⟨by first | rfl | (simp [qP, qO] <;> rfl) | (simp [*, qP, qO] <;> rfl), bl⟩
   ·rw [if_neg c15] at H
    have c15b0 : (a1 == 115) = false := beq_eq_false_iff_ne.mpr c15
    have c15b1 : (a1 != 115) = true := bne_iff_ne.mpr c15
    simp only [Option.some.injEq, Prod.mk.injEq] at H
    obtain ⟨rfl, rfl, rfl, rfl, rfl, rfl⟩ := H
    go_enter Try.func69, Try.ntmps69
    go_wp2_with (first | ((with_reducible refine qU (N := 2) rfl ?_); refine qS ?hg (N := 2) ?hd (cs := #[.int .i64 a0_0, .int .i64 a0_1, .int .i64 a0_2, .int .i64 a0_3, .int .i64 a0_4, .int .i64 a0_5]) (t := 29) ?hr ?_; (case hd => rfl); (case hg => rfl); (case hr => first | (go_simp; done) | (go_simp; rfl)); intro gb404 hg w21 hbox hb; have n0_ := Aside0.mk (qF bl hb); have n1_ := Aside0.mk (hbox); have n2_ := Aside0.mk ((gg hg)); have n3_ := Aside0.mk ((gg hg)); clear HB; have HB := n0_; have BK404 := n1_; have GW404 := n2_; have GE404 := n3_; clear n0_ n1_ n2_ n3_; clear hb hbox hg) | ((with_reducible refine qU (N := 4) rfl ?_); refine qS ?hg (N := 4) ?hd (cs := #[.int .i64 0, .int .i64 0, .int .i64 0, .int .i64 0, .int .i64 0, .int .i64 0]) (t := 29) ?hr ?_; (case hd => rfl); (case hg => rfl); (case hr => first | (go_simp; done) | (go_simp; rfl)); intro gb405 hg w22 hbox hb; have n0_ := Aside0.mk (bb BK404 hb); have n1_ := Aside0.mk (qF bl hb); have n2_ := Aside0.mk (hbox); have n3_ := Aside0.mk ((gg hg)); have n4_ := Aside0.mk ((gg hg)); have n5_ := Aside0.mk ((nl BK404 hg)); have n6_ := Aside0.mk ((nr BK404 hg)); clear BK404; clear HB; have BK404 := n0_; have HB := n1_; have BK405 := n2_; have GW405 := n3_; have GE405 := n4_; have NB404_405 := n5_; have NB405_404 := n6_; clear n0_ n1_ n2_ n3_ n4_ n5_ n6_; clear hb hbox hg; have hnb23 := NB404_405.out; have hnc23 := NB405_404.out; have hcz24_0 := bc BK404 0; have hcz24_1 := bc BK404 1; have hcz24_2 := bc BK404 2; have hcz24_3 := bc BK404 3; have hcz24_4 := bc BK404 4; have hcz24_5 := bc BK404 5; have hfz24_0 := qA BK404.out 0; have hfz24_1 := qA BK404.out 1; have hfz24_2 := qA BK404.out 2; have hfz24_3 := qA BK404.out 3; have hfz24_4 := qA BK404.out 4; have hfz24_5 := qA BK404.out 5; have hcz25_0 := bc BK405 0; have hcz25_1 := bc BK405 1; have hcz25_2 := bc BK405 2; have hcz25_3 := bc BK405 3; have hcz25_4 := bc BK405 4; have hcz25_5 := bc BK405 5; have hfz25_0 := qA BK405.out 0; have hfz25_1 := qA BK405.out 1; have hfz25_2 := qA BK405.out 2; have hfz25_3 := qA BK405.out 3; have hfz25_4 := qA BK405.out 4; have hfz25_5 := qA BK405.out 5))
    refine bodyPost_ret (results_cell_row rfl _ _ gb405 29 #[.int .i64 a0_2, .int .i64 a0_1, .int .i64 a0_5, .int .i64 a0_3, .int .i64 a0_0, .int .i64 a0_4] (0, 0) _ rfl (by (with_reducible repeat (first | refine qC ?_ _ | refine qE ?_ | refine qD ?_ _)); refine qR (cs := #[.int .i64 a0_2, .int .i64 a0_1, .int .i64 a0_5, .int .i64 a0_3, .int .i64 a0_0, .int .i64 0]) ?_ 5 _ rfl; (with_reducible repeat (first | refine qC ?_ _ | refine qE ?_ | refine qD ?_ _)); refine qR (cs := #[.int .i64 a0_2, .int .i64 a0_1, .int .i64 a0_5, .int .i64 a0_3, .int .i64 0, .int .i64 0]) ?_ 4 _ rfl; (with_reducible repeat (first | refine qC ?_ _ | refine qE ?_ | refine qD ?_ _)); refine qR (cs := #[.int .i64 a0_2, .int .i64 a0_1, .int .i64 a0_5, .int .i64 0, .int .i64 0, .int .i64 0]) ?_ 3 _ rfl; (with_reducible repeat (first | refine qC ?_ _ | refine qE ?_ | refine qD ?_ _)); refine qR (cs := #[.int .i64 a0_2, .int .i64 a0_1, .int .i64 0, .int .i64 0, .int .i64 0, .int .i64 0]) ?_ 2 _ rfl; (with_reducible repeat (first | refine qC ?_ _ | refine qE ?_ | refine qD ?_ _)); refine qR (cs := #[.int .i64 a0_2, .int .i64 0, .int .i64 0, .int .i64 0, .int .i64 0, .int .i64 0]) ?_ 1 _ rfl; (with_reducible repeat (first | refine qC ?_ _ | refine qE ?_ | refine qD ?_ _)); refine qR (cs := #[.int .i64 0, .int .i64 0, .int .i64 0, .int .i64 0, .int .i64 0, .int .i64 0]) ?_ 0 _ rfl; (with_reducible repeat (first | refine qC ?_ _ | refine qE ?_ | refine qD ?_ _)); exact BK405.out) Try.underlying29 rfl (by kernel_rfl)) rfl ?_
    exact ⟨by first | rfl | (simp [qP, qO] <;> rfl) | (simp [*, qP, qO] <;> rfl), bl⟩
def qi.l0 : Nat → ByteArray → Int → Int → Int → Int → Int → Int → Int → Int → Option (Int × Int × Int × Int × Int × Int)
 | 0, _, _, _, _, _, _, _, _, _ => none
 | k + 1, x1, x7, x8, x407000, x407001, x407002, x407003, x407004, x407005 => if x8 < x7 then (if 0 ≤ x8 then (if x8 < (x1.size : Int) then ((qgA.f x407000 x407001 x407002 x407003 x407004 x407005 (bt x1 x8)).bind fun bt408 => (qi.l0 k x1 x7 (wrap64 (x8 + 1)) bt408.1 bt408.2.1 bt408.2.2.1 bt408.2.2.2.1 bt408.2.2.2.2.1 bt408.2.2.2.2.2)) else (none)) else (none)) else (some (x407000, x407001, x407002, x407003, x407004, x407005))
def qi.f (k : Nat) (a0_0 : Int) (a0_1 : Int) (a0_2 : Int) (a0_3 : Int) (a0_4 : Int) (a0_5 : Int) (a1 : ByteArray) : Option (Int × Int × Int × Int × Int × Int) := qi.l0 k a1 (a1.size : Int) 0 a0_0 a0_1 a0_2 a0_3 a0_4 a0_5
set_option maxHeartbeats 8000000 in
set_option maxRecDepth 100000 in
theorem qi.calls (k : Nat) (a0_0 : Int) (a0_1 : Int) (a0_2 : Int) (a0_3 : Int) (a0_4 : Int) (a0_5 : Int) (a1 : ByteArray) (r1 : Int) (r2 : Int) (r3 : Int) (r4 : Int) (r5 : Int) (r6 : Int) (w : World) (h : qi.f k a0_0 a0_1 a0_2 a0_3 a0_4 a0_5 a1 = some (r1, r2, r3, r4, r5, r6)) :
  Calls Try.prog 62 #[.agg #[.int .i64 a0_0, .int .i64 a0_1, .int .i64 a0_2, .int .i64 a0_3, .int .i64 a0_4, .int .i64 a0_5], .string a1] w fun e w' => e = .returned (.agg #[.int .i64 r1, .int .i64 r2, .int .i64 r3, .int .i64 r4, .int .i64 r5, .int .i64 r6]) ∧ Below w.heap.size w w' := by
 have hu29 := Try.underlying29
 have HB := Aside0.mk (Below.refl w.heap.size w)
 have H : (qi.l0 k a1 (a1.size : Int) 0 a0_0 a0_1 a0_2 a0_3 a0_4 a0_5) = some (r1, r2, r3, r4, r5, r6) := h
 clear h
 have H' := Aside0.mk H
 clear H
 go_enter Try.func62, Try.ntmps62
 go_wp2_with (first | ((with_reducible refine qU (N := 2) rfl ?_); refine qS ?hg (N := 2) ?hd (cs := #[.int .i64 a0_0, .int .i64 a0_1, .int .i64 a0_2, .int .i64 a0_3, .int .i64 a0_4, .int .i64 a0_5]) (t := 29) ?hr ?_; (case hd => rfl); (case hg => rfl); (case hr => first | (go_simp; done) | (go_simp; rfl)); intro gb406 hg w3 hbox hb; have n0_ := Aside0.mk (qF bl hb); have n1_ := Aside0.mk (hbox); have n2_ := Aside0.mk ((gg hg)); have n3_ := Aside0.mk ((gg hg)); clear HB; have HB := n0_; have BK406 := n1_; have GW406 := n2_; have GE406 := n3_; clear n0_ n1_ n2_ n3_; clear hb hbox hg) | ((with_reducible refine qU (N := 4) rfl ?_); refine qS ?hg (N := 4) ?hd (cs := #[.int .i64 0, .int .i64 0, .int .i64 0, .int .i64 0, .int .i64 0, .int .i64 0]) (t := 29) ?hr ?_; (case hd => rfl); (case hg => rfl); (case hr => first | (go_simp; done) | (go_simp; rfl)); intro gb407 hg w4 hbox hb; have n0_ := Aside0.mk (bb BK406 hb); have n1_ := Aside0.mk (qF bl hb); have n2_ := Aside0.mk (hbox); have n3_ := Aside0.mk ((gg hg)); have n4_ := Aside0.mk ((gg hg)); have n5_ := Aside0.mk ((nl BK406 hg)); have n6_ := Aside0.mk ((nr BK406 hg)); clear BK406; clear HB; have BK406 := n0_; have HB := n1_; have BK407 := n2_; have GW407 := n3_; have GE407 := n4_; have NB406_407 := n5_; have NB407_406 := n6_; clear n0_ n1_ n2_ n3_ n4_ n5_ n6_; clear hb hbox hg))
 go_loopg [8] k (fun kq v8 w' => ∃ (x8_1 : Int) (x407000_1 : Int) (x407001_1 : Int) (x407002_1 : Int) (x407003_1 : Int) (x407004_1 : Int) (x407005_1 : Int), v8 = .int .i64 x8_1 ∧ Aside0 (qi.l0 kq a1 (a1.size : Int) x8_1 x407000_1 x407001_1 x407002_1 x407003_1 x407004_1 x407005_1 = some (r1, r2, r3, r4, r5, r6)) ∧ Aside0 (kq ≤ k) ∧ Aside0 (w'.heap[gb406]? = some (.cells #[.int .i64 x407000_1, .int .i64 x407001_1, .int .i64 x407002_1, .int .i64 x407003_1, .int .i64 x407004_1, .int .i64 x407005_1] 29 (0, 0))) ∧ Aside0 (w'.heap[gb407]? = some (.cells #[.int .i64 0, .int .i64 0, .int .i64 0, .int .i64 0, .int .i64 0, .int .i64 0] 29 (0, 0))) ∧ Aside0 (Below w.heap.size w w'))
 case atStart => exact ⟨(0), (a0_0), (a0_1), (a0_2), (a0_3), (a0_4), (a0_5), (by first | rfl | (simp; done) | (simp [*]; done)), H', ⟨Nat.le_refl _⟩, ⟨by (with_reducible repeat (first | refine qC ?_ _ | refine qE ?_ | refine qD ?_ _)); exact BK406.out⟩, ⟨by (with_reducible repeat (first | refine qC ?_ _ | refine qE ?_ | refine qD ?_ _)); exact BK407.out⟩, ⟨bl⟩⟩
 case round =>
  clear H'
  try clear p2
  obtain ⟨x8_1, x407000_1, x407001_1, x407002_1, x407003_1, x407004_1, x407005_1, rfl, HA, HK1, BK406, BK407, HB⟩ := hrel
  cases gk with
  | zero => exact absurd HA.out (by simp [qi.l0])
  | succ k1 =>
   have H := HA.out
   clear HA
   simp only [qi.l0] at H
   by_cases c5 : x8_1 < (a1.size : Int)
   ·rw [if_pos c5] at H
    have c5b0 : decide (x8_1 < (a1.size : Int)) = true := decide_eq_true c5
    clear c5
    by_cases c6 : 0 ≤ x8_1
    ·rw [if_pos c6] at H
     have c6b0 : decide (0 ≤ x8_1) = true := decide_eq_true c6
     clear c6
     by_cases c7 : x8_1 < (a1.size : Int)
     ·rw [if_pos c7] at H
      have c7b0 : decide (x8_1 < (a1.size : Int)) = true := decide_eq_true c7
      clear c7
      replace H := Option.bind_eq_some_iff.mp H
      obtain ⟨⟨t408, t409, t410, t411, t412, t413⟩, A90, H⟩ := H
      replace H : (qi.l0 k1 a1 (a1.size : Int) (wrap64 (x8_1 + 1)) t408 t409 t410 t411 t412 t413) = some (r1, r2, r3, r4, r5, r6) := H
      have A9 := Aside0.mk A90
      clear A90
      have H' := Aside0.mk H
      clear H
      try go_wp2
      have n0_ := Aside0.mk (qE BK406.out)
      have n1_ := Aside0.mk (qE BK407.out)
      have n2_ := Aside0.mk (qt HB.out)
      clear BK406
      clear BK407
      clear HB
      have BK406 := n0_
      have BK407 := n1_
      have HB := n2_
      clear n0_ n1_ n2_
      have p8 : 0 ≤ (x8_1 : Int) := of_decide_eq_true (by first | (with_reducible assumption) | assumption)
      have q8 : x8_1 < (a1.size : Int) := of_decide_eq_true (by first | (with_reducible assumption) | assumption)
      have hx8 := bt_at a1 x8_1
      replace p8 := eq_true p8
      replace q8 := eq_true q8
      refine qyA (n := 6) (S := fun w' => w'.cell? ⟨gb406, 0, none⟩ = some (.int .i64 x407000_1) ∧ w'.cell? ⟨gb406, 1, none⟩ = some (.int .i64 x407001_1) ∧ w'.cell? ⟨gb406, 2, none⟩ = some (.int .i64 x407002_1) ∧ w'.cell? ⟨gb406, 3, none⟩ = some (.int .i64 x407003_1) ∧ w'.cell? ⟨gb406, 4, none⟩ = some (.int .i64 x407004_1) ∧ w'.cell? ⟨gb406, 5, none⟩ = some (.int .i64 x407005_1)) (ds := [5]) #[false, false, false, false, false, false] (by kernel_rfl) rfl rfl ⟨(qG BK406.out 0).trans rfl, (qG BK406.out 1).trans rfl, (qG BK406.out 2).trans rfl, (qG BK406.out 3).trans rfl, (qG BK406.out 4).trans rfl, (qG BK406.out 5).trans rfl⟩ (fun hHeld => ?_)
      generalize wr.drew = w10 at BK406 BK407 HB hHeld ⊢
      refine pure_ (i := 1) (N := some 12) (v := ?_) (a' := ?_) #[false, true, false, false, false, false] rfl rfl (by kernel_rfl) (fun _ _ _ h => h) (Or.inl ⟨by rfl, ?_⟩) ?_ ?_
      rotate_left
      ·intro w'
       go_simp
       first | (with_reducible rfl) | (rw [if_neg (by simp only [ByteArray.size_extract, ByteArray.size_append] at * <;> omega)]; try with_reducible rfl)
      rotate_left
      ·simp only [Act.put, List.setIfInBounds_toArray, List.set_cons_zero, List.set_cons_succ, i64_w, i32_w]
       rfl
      refine pure_ (i := 2) (N := some 13) (v := ?_) (a' := ?_) #[false, true, true, false, false, false] rfl rfl (by kernel_rfl) (fun _ _ _ h => h) (Or.inl ⟨by rfl, ?_⟩) ?_ ?_
      rotate_left
      ·intro w'
       go_simp
       first | (with_reducible rfl) | (rw [if_neg (by simp only [ByteArray.size_extract, ByteArray.size_append] at * <;> omega)]; try with_reducible rfl)
      rotate_left
      ·simp only [Act.put, List.setIfInBounds_toArray, List.set_cons_zero, List.set_cons_succ, i64_w, i32_w]
       rfl
      refine take_ (i := 0) (N := some 11) (v := ?_) (a' := ?_) #[true, true, true, false, false, false] rfl rfl (by kernel_rfl) (fun _ _ _ h => h) (Or.inl ⟨by rfl, ?_⟩) hHeld ?_ ?_
      rotate_left
      ·rintro w' ⟨s0, s1, s2, s3, s4, s5⟩
       go_simp
       first | (with_reducible rfl) | (rw [if_neg (by simp only [ByteArray.size_extract, ByteArray.size_append] at * <;> omega)]; try with_reducible rfl)
      rotate_left
      ·simp only [Act.put, List.setIfInBounds_toArray, List.set_cons_zero, List.set_cons_succ, i64_w, i32_w]
       rfl
      refine take_ (i := 3) (N := some 14) (v := ?_) (a' := ?_) #[true, true, true, true, false, false] rfl rfl (by kernel_rfl) (fun _ _ _ h => h) (Or.inl ⟨by rfl, ?_⟩) hHeld ?_ ?_
      rotate_left
      ·rintro w' ⟨s0, s1, s2, s3, s4, s5⟩
       go_simp
       first | (with_reducible rfl) | (rw [if_neg (by simp only [ByteArray.size_extract, ByteArray.size_append] at * <;> omega)]; try with_reducible rfl)
      rotate_left
      ·simp only [Act.put, List.setIfInBounds_toArray, List.set_cons_zero, List.set_cons_succ, i64_w, i32_w]
       rfl
      refine one_ (i := 4) (N := some 15) #[true, true, true, true, true, false] rfl rfl (by kernel_rfl) (by decide) (fun K hK => ?_)
      refine goes_ Try.func69 (by kernel_rfl) rfl #[.agg #[.int .i64 x407000_1, .int .i64 x407001_1, .int .i64 x407002_1, .int .i64 x407003_1, .int .i64 x407004_1, .int .i64 x407005_1], .int .u8 (bt a1 x8_1)] (by rfl) rfl rfl (by (try simp only [List.map_toArray, List.map_cons, List.map_nil]); first | done | rfl | (simp only [List.length_drop, List.length_take]; rfl)) ?_
      with_reducible refine (qgA.calls x407000_1 x407001_1 x407002_1 x407003_1 x407004_1 x407005_1 (bt a1 x8_1) t408 t409 t410 t411 t412 t413 _ A9.out).mono ?_
      rintro e w11 ⟨rfl, hb⟩
      refine ⟨_, rfl, ?_⟩
      have n0_ := Aside0.mk (bb BK406 hb)
      have n1_ := Aside0.mk (bb BK407 hb)
      have n2_ := Aside0.mk (qF bl hb)
      clear BK406
      clear BK407
      clear HB
      have BK406 := n0_
      have BK407 := n1_
      have HB := n2_
      clear n0_ n1_ n2_
      (try clear hb)
      (try clear hb2)
      (try clear hk)
      (try clear hi)
      refine hK.out _ _ ⟨(qG BK406.out 0).trans rfl, (qG BK406.out 1).trans rfl, (qG BK406.out 2).trans rfl, (qG BK406.out 3).trans rfl, (qG BK406.out 4).trans rfl, (qG BK406.out 5).trans rfl⟩ (fun hHeld => ?_)
      clear hK K
      refine norm_ (a' := ?_) ?_ ?_
      rotate_left
      ·show Act.put _ (some 15) _ = _
       simp only [Act.put, List.setIfInBounds_toArray, List.set_cons_zero, List.set_cons_succ, i64_w, i32_w]
       rfl
      refine last_ (i := 5) (N := none) #[true, true, true, true, true, true] rfl rfl (by kernel_rfl) (by decide) (fun K hK => ?_)
      have hs12 : w11.cell? ⟨gb406, 0, none⟩ = some (.int .i64 x407000_1) := (qG BK406.out 0).trans rfl
      have hfs12 := qA BK406.out 0
      have hns12_1 := NB407_406.out
      have hms12_1 := NB406_407.out
      have hs13 : w11.cell? ⟨gb406, 1, none⟩ = some (.int .i64 x407001_1) := (qG BK406.out 1).trans rfl
      have hfs13 := qA BK406.out 1
      have hns13_1 := NB407_406.out
      have hms13_1 := NB406_407.out
      have hs14 : w11.cell? ⟨gb406, 2, none⟩ = some (.int .i64 x407002_1) := (qG BK406.out 2).trans rfl
      have hfs14 := qA BK406.out 2
      have hns14_1 := NB407_406.out
      have hms14_1 := NB406_407.out
      have hs15 : w11.cell? ⟨gb406, 3, none⟩ = some (.int .i64 x407003_1) := (qG BK406.out 3).trans rfl
      have hfs15 := qA BK406.out 3
      have hns15_1 := NB407_406.out
      have hms15_1 := NB406_407.out
      have hs16 : w11.cell? ⟨gb406, 4, none⟩ = some (.int .i64 x407004_1) := (qG BK406.out 4).trans rfl
      have hfs16 := qA BK406.out 4
      have hns16_1 := NB407_406.out
      have hms16_1 := NB406_407.out
      have hs17 : w11.cell? ⟨gb406, 5, none⟩ = some (.int .i64 x407005_1) := (qG BK406.out 5).trans rfl
      have hfs17 := qA BK406.out 5
      have hns17_1 := NB407_406.out
      have hms17_1 := NB406_407.out
      refine skip_ (w1 := ?_) (by rfl) rfl ?_ ?_
      rotate_left
      ·go_simp
       rfl
      refine hK.out _ _ ?_
      clear hK K
      refine done_ (by kernel_rfl) ?_
      try go_wp2
      go_roundg k1
      case measure => have := HK1.out; omega
      case rel => exact ⟨(wrap64 (x8_1 + 1)), (t408), (t409), (t410), (t411), (t412), (t413), (by first | rfl | (simp; done) | (simp [*]; done)), H', ⟨by have := HK1.out; omega⟩, ⟨by (with_reducible repeat (first | refine qC ?_ _ | refine qE ?_ | refine qD ?_ _)); refine qR (cs := #[.int .i64 t408, .int .i64 t409, .int .i64 t410, .int .i64 t411, .int .i64 t412, .int .i64 x407005_1]) ?_ 5 _ rfl; (with_reducible repeat (first | refine qC ?_ _ | refine qE ?_ | refine qD ?_ _)); refine qR (cs := #[.int .i64 t408, .int .i64 t409, .int .i64 t410, .int .i64 t411, .int .i64 x407004_1, .int .i64 x407005_1]) ?_ 4 _ rfl; (with_reducible repeat (first | refine qC ?_ _ | refine qE ?_ | refine qD ?_ _)); refine qR (cs := #[.int .i64 t408, .int .i64 t409, .int .i64 t410, .int .i64 x407003_1, .int .i64 x407004_1, .int .i64 x407005_1]) ?_ 3 _ rfl; (with_reducible repeat (first | refine qC ?_ _ | refine qE ?_ | refine qD ?_ _)); refine qR (cs := #[.int .i64 t408, .int .i64 t409, .int .i64 x407002_1, .int .i64 x407003_1, .int .i64 x407004_1, .int .i64 x407005_1]) ?_ 2 _ rfl; (with_reducible repeat (first | refine qC ?_ _ | refine qE ?_ | refine qD ?_ _)); refine qR (cs := #[.int .i64 t408, .int .i64 x407001_1, .int .i64 x407002_1, .int .i64 x407003_1, .int .i64 x407004_1, .int .i64 x407005_1]) ?_ 1 _ rfl; (with_reducible repeat (first | refine qC ?_ _ | refine qE ?_ | refine qD ?_ _)); refine qR (cs := #[.int .i64 x407000_1, .int .i64 x407001_1, .int .i64 x407002_1, .int .i64 x407003_1, .int .i64 x407004_1, .int .i64 x407005_1]) ?_ 0 _ rfl; (with_reducible repeat (first | refine qC ?_ _ | refine qE ?_ | refine qD ?_ _)); exact BK406.out⟩, ⟨by (with_reducible repeat (first | refine qC ?_ _ | refine qE ?_ | refine qD ?_ _)); refine qV ?_ NB407_406.out _; (with_reducible repeat (first | refine qC ?_ _ | refine qE ?_ | refine qD ?_ _)); refine qV ?_ NB407_406.out _; (with_reducible repeat (first | refine qC ?_ _ | refine qE ?_ | refine qD ?_ _)); refine qV ?_ NB407_406.out _; (with_reducible repeat (first | refine qC ?_ _ | refine qE ?_ | refine qD ?_ _)); refine qV ?_ NB407_406.out _; (with_reducible repeat (first | refine qC ?_ _ | refine qE ?_ | refine qD ?_ _)); refine qV ?_ NB407_406.out _; (with_reducible repeat (first | refine qC ?_ _ | refine qE ?_ | refine qD ?_ _)); refine qV ?_ NB407_406.out _; (with_reducible repeat (first | refine qC ?_ _ | refine qE ?_ | refine qD ?_ _)); exact BK407.out⟩, ⟨bl⟩⟩
     ·rw [if_neg c7] at H
      exact absurd H (by simp)
    ·rw [if_neg c6] at H
     exact absurd H (by simp)
   ·rw [if_neg c5] at H
    have c5b0 : decide (x8_1 < (a1.size : Int)) = false := decide_eq_false c5
    clear c5
    simp only [Option.some.injEq, Prod.mk.injEq] at H
    obtain ⟨rfl, rfl, rfl, rfl, rfl, rfl⟩ := H
    have hnb18 := NB406_407.out
    have hnc18 := NB407_406.out
    have hcz19_0 := bc BK406 0
    have hcz19_1 := bc BK406 1
    have hcz19_2 := bc BK406 2
    have hcz19_3 := bc BK406 3
    have hcz19_4 := bc BK406 4
    have hcz19_5 := bc BK406 5
    have hfz19_0 := qA BK406.out 0
    have hfz19_1 := qA BK406.out 1
    have hfz19_2 := qA BK406.out 2
    have hfz19_3 := qA BK406.out 3
    have hfz19_4 := qA BK406.out 4
    have hfz19_5 := qA BK406.out 5
    have hcz20_0 := bc BK407 0
    have hcz20_1 := bc BK407 1
    have hcz20_2 := bc BK407 2
    have hcz20_3 := bc BK407 3
    have hcz20_4 := bc BK407 4
    have hcz20_5 := bc BK407 5
    have hfz20_0 := qA BK407.out 0
    have hfz20_1 := qA BK407.out 1
    have hfz20_2 := qA BK407.out 2
    have hfz20_3 := qA BK407.out 3
    have hfz20_4 := qA BK407.out 4
    have hfz20_5 := qA BK407.out 5
    go_wp2
    refine bodyPost_ret (results_cell_row rfl _ _ gb407 29 #[.int .i64 x407000_1, .int .i64 x407001_1, .int .i64 x407002_1, .int .i64 x407003_1, .int .i64 x407004_1, .int .i64 x407005_1] (0, 0) _ rfl (by (with_reducible repeat (first | refine qC ?_ _ | refine qE ?_ | refine qD ?_ _)); refine qR (cs := #[.int .i64 x407000_1, .int .i64 x407001_1, .int .i64 x407002_1, .int .i64 x407003_1, .int .i64 x407004_1, .int .i64 0]) ?_ 5 _ rfl; (with_reducible repeat (first | refine qC ?_ _ | refine qE ?_ | refine qD ?_ _)); refine qR (cs := #[.int .i64 x407000_1, .int .i64 x407001_1, .int .i64 x407002_1, .int .i64 x407003_1, .int .i64 0, .int .i64 0]) ?_ 4 _ rfl; (with_reducible repeat (first | refine qC ?_ _ | refine qE ?_ | refine qD ?_ _)); refine qR (cs := #[.int .i64 x407000_1, .int .i64 x407001_1, .int .i64 x407002_1, .int .i64 0, .int .i64 0, .int .i64 0]) ?_ 3 _ rfl; (with_reducible repeat (first | refine qC ?_ _ | refine qE ?_ | refine qD ?_ _)); refine qR (cs := #[.int .i64 x407000_1, .int .i64 x407001_1, .int .i64 0, .int .i64 0, .int .i64 0, .int .i64 0]) ?_ 2 _ rfl; (with_reducible repeat (first | refine qC ?_ _ | refine qE ?_ | refine qD ?_ _)); refine qR (cs := #[.int .i64 x407000_1, .int .i64 0, .int .i64 0, .int .i64 0, .int .i64 0, .int .i64 0]) ?_ 1 _ rfl; (with_reducible repeat (first | refine qC ?_ _ | refine qE ?_ | refine qD ?_ _)); refine qR (cs := #[.int .i64 0, .int .i64 0, .int .i64 0, .int .i64 0, .int .i64 0, .int .i64 0]) ?_ 0 _ rfl; (with_reducible repeat (first | refine qC ?_ _ | refine qE ?_ | refine qD ?_ _)); exact BK407.out) Try.underlying29 rfl (by kernel_rfl)) rfl ?_
    exact ⟨by first | rfl | (simp [qP, qO] <;> rfl) | (simp [*, qP, qO] <;> rfl), bl⟩
end Go.Proofs.Ytbmiekopflgicaa.P
namespace Go.Proofs.Ytbmiekopflgicaa
open Go.RowKit Go.Proofs.Ytbmiekopflgicaa.P Go.Proofs.YtbmiekopflgicaaW.PrintWords Go.Proofs.YtbmiekopflgicaaW.PrintLast
set_option linter.unusedVariables false
set_option linter.unusedSimpArgs false
def tupDD (x : DD) : Int × Int × Int × Int × Int × Int := (x.f0, x.f1, x.f2, x.f3, x.f4, x.f5)
theorem dieRoll_num (x : DD) (c : UInt8) : qgA.f x.f0 x.f1 x.f2 x.f3 x.f4 x.f5 (c.toNat : Int) = some (tupDD (rolD x (dirNum c))) := by
 have hn : ∀ n : Nat, n < 256 → (((c.toNat : Int) = (n : Int)) ↔ c = UInt8.ofNat n) := by
  intro n hn
  constructor
  ·intro h
   have : c.toNat = n := by omega
   rw [← this]; simp
  ·intro h
   subst h
   simp; omega
 unfold qgA.f dirNum
 by_cases h1 : c = 110
 ·subst h1; rfl
 by_cases h2 : c = 101
 ·subst h2; rfl
 by_cases h3 : c = 115
 ·subst h3; rfl
 have a1 : ¬ (c.toNat : Int) = 110 := fun e => h1 ((hn 110 (by decide)).1 e)
 have a2 : ¬ (c.toNat : Int) = 101 := fun e => h2 ((hn 101 (by decide)).1 e)
 have a3 : ¬ (c.toNat : Int) = 115 := fun e => h3 ((hn 115 (by decide)).1 e)
 rw [if_neg a1, if_neg a2, if_neg a3, if_neg h1, if_neg h2, if_neg h3]
 rfl
theorem btW (s : ByteArray) (i : Nat) (h : i < s.data.toList.length) : bt s (i : Int) = ((s.data.toList[i]).toNat : Int) := by
 have h' : i < s.size := by
  rw [Array.length_toList] at h
  exact h
 unfold bt
 rw [dif_pos (by simpa using h')]
 simp only [Int.toNat_natCast, Array.getElem_toList]
 rfl
theorem rolled_loop (s : ByteArray) (hs : s.size ≤ 1048576) : ∀ (cs : List UInt8) (i : Nat) (x : DD), s.data.toList.drop i = cs → i ≤ s.size →
  Ev (fun k => qi.l0 k s (s.size : Int) (i : Int) x.f0 x.f1 x.f2 x.f3 x.f4 x.f5) (tupDD (rolls x (cs.map dirNum)))
 | [], i, x, hd, hi => by
  have hl : s.data.toList.length = s.size := by rw [Array.length_toList]; rfl
  have h1 : s.size ≤ i := by
   rcases Nat.lt_or_ge i s.data.toList.length with h | h
   ·rw [List.drop_eq_getElem_cons h] at hd; cases hd
   ·omega
  refine Ev.step (f := fun k => _) (fun k => by rw [qi.l0]) ?_
  exact Ev.neg (by omega) (Ev.now _)
 | c :: cs, i, x, hd, hi => by
  have hl : s.data.toList.length = s.size := by rw [Array.length_toList]; rfl
  have hlt : i < s.data.toList.length := by
   rcases Nat.lt_or_ge i s.data.toList.length with h | h
   ·exact h
   ·rw [List.drop_eq_nil_of_le h] at hd; cases hd
  have hb := btW s i hlt
  rw [List.drop_eq_getElem_cons hlt] at hd
  injection hd with h1 h2
  rw [h1] at hb
  have ih := rolled_loop s hs cs (i + 1) (rolD x (dirNum c)) h2 (by omega)
  have w : wrap64 ((i : Int) + 1) = ((i + 1 : Nat) : Int) := by unfold wrap64; omega
  have HB := Lib.hid hb
  clear hb h1 h2
  refine Ev.step (f := fun k => _) (fun k => by rw [qi.l0]) ?_
  rw [w, HB.out]
  exact Ev.pos (by omega) (Ev.pos (by omega) (Ev.pos (by omega) (Ev.bindc (dieRoll_num x c) ih)))
theorem rolled_ev (x : DD) (s : ByteArray) (hs : s.size ≤ 1048576) : Ev (fun k => qi.f k x.f0 x.f1 x.f2 x.f3 x.f4 x.f5 s) (tupDD (rolls x (numsW s))) :=
 rolled_loop s hs s.data.toList 0 x rfl (by omega)
theorem numsW_append (w v : ByteArray) : numsW (w ++ v) = numsW w ++ numsW v := by
 unfold numsW
 rw [ByteArray.data_append, Array.toList_append, List.map_append]
theorem numsW_dir (d : Nat) (h : d < 4) : numsW (dirW d) = [d] := by
 have : d = 0 ∨ d = 1 ∨ d = 2 ∨ d = 3 := by omega
 rcases this with rfl | rfl | rfl | rfl <;> decide +kernel
theorem rolls_append (x : DD) (l m : List Nat) : rolls x (l ++ m) = rolls (rolls x l) m := List.foldl_append
end Go.Proofs.Ytbmiekopflgicaa
namespace Go.Proofs.Ytbmiekopflgicaa.P
open Go.RowKit Go.Proofs.YtbmiekopflgicaaW.PrintWords Go.Proofs.YtbmiekopflgicaaW.PrintLast Go.Proofs.YtbmiekopflgicaaW.PrintMore
attribute [local go_sem] qn ql qx qw qh qg qm qk
set_option linter.unusedVariables false
set_option linter.unusedSimpArgs false
def qSB.f  : Option (Int × Int × Int × Int × Int × Int) := some (0, 1, 2, 3, 4, 5)
set_option maxHeartbeats 8000000 in
set_option maxRecDepth 100000 in
theorem qSB.calls  (r1 : Int) (r2 : Int) (r3 : Int) (r4 : Int) (r5 : Int) (r6 : Int) (w : World) (h : qSB.f  = some (r1, r2, r3, r4, r5, r6)) :
  Calls Try.prog 68 #[] w fun e w' => e = .returned (.agg #[.int .i64 r1, .int .i64 r2, .int .i64 r3, .int .i64 r4, .int .i64 r5, .int .i64 r6]) ∧ Below w.heap.size w w' := by
 have hu29 := Try.underlying29
 have HB := Aside0.mk (Below.refl w.heap.size w)
 have H : (some (0, 1, 2, 3, 4, 5)) = some (r1, r2, r3, r4, r5, r6) := h
 clear h
 simp only [Option.some.injEq, Prod.mk.injEq] at H
 obtain ⟨rfl, rfl, rfl, rfl, rfl, rfl⟩ := H
 go_enter Try.func68, Try.ntmps68
 go_wp2_with (first | ((with_reducible refine qU (N := 0) rfl ?_); refine qS ?hg (N := 0) ?hd (cs := #[.int .i64 0, .int .i64 0, .int .i64 0, .int .i64 0, .int .i64 0, .int .i64 0]) (t := 29) ?hr ?_; (case hd => rfl); (case hg => rfl); (case hr => first | (go_simp; done) | (go_simp; rfl)); intro gb414 hg w1 hbox hb; have n0_ := Aside0.mk (qF bl hb); have n1_ := Aside0.mk (hbox); have n2_ := Aside0.mk ((gg hg)); have n3_ := Aside0.mk ((gg hg)); clear HB; have HB := n0_; have BK414 := n1_; have GW414 := n2_; have GE414 := n3_; clear n0_ n1_ n2_ n3_; clear hb hbox hg; have hcz2_0 := bc BK414 0; have hcz2_1 := bc BK414 1; have hcz2_2 := bc BK414 2; have hcz2_3 := bc BK414 3; have hcz2_4 := bc BK414 4; have hcz2_5 := bc BK414 5; have hfz2_0 := qA BK414.out 0; have hfz2_1 := qA BK414.out 1; have hfz2_2 := qA BK414.out 2; have hfz2_3 := qA BK414.out 3; have hfz2_4 := qA BK414.out 4; have hfz2_5 := qA BK414.out 5))
 refine bodyPost_ret (results_cell_row rfl _ _ gb414 29 #[.int .i64 0, .int .i64 1, .int .i64 2, .int .i64 3, .int .i64 4, .int .i64 5] (0, 0) _ rfl (by (with_reducible repeat (first | refine qC ?_ _ | refine qE ?_ | refine qD ?_ _)); refine qR (cs := #[.int .i64 0, .int .i64 1, .int .i64 2, .int .i64 3, .int .i64 4, .int .i64 0]) ?_ 5 _ rfl; (with_reducible repeat (first | refine qC ?_ _ | refine qE ?_ | refine qD ?_ _)); refine qR (cs := #[.int .i64 0, .int .i64 1, .int .i64 2, .int .i64 3, .int .i64 0, .int .i64 0]) ?_ 4 _ rfl; (with_reducible repeat (first | refine qC ?_ _ | refine qE ?_ | refine qD ?_ _)); refine qR (cs := #[.int .i64 0, .int .i64 1, .int .i64 2, .int .i64 0, .int .i64 0, .int .i64 0]) ?_ 3 _ rfl; (with_reducible repeat (first | refine qC ?_ _ | refine qE ?_ | refine qD ?_ _)); refine qR (cs := #[.int .i64 0, .int .i64 1, .int .i64 0, .int .i64 0, .int .i64 0, .int .i64 0]) ?_ 2 _ rfl; (with_reducible repeat (first | refine qC ?_ _ | refine qE ?_ | refine qD ?_ _)); refine qR (cs := #[.int .i64 0, .int .i64 0, .int .i64 0, .int .i64 0, .int .i64 0, .int .i64 0]) ?_ 1 _ rfl; (with_reducible repeat (first | refine qC ?_ _ | refine qE ?_ | refine qD ?_ _)); refine qR (cs := #[.int .i64 0, .int .i64 0, .int .i64 0, .int .i64 0, .int .i64 0, .int .i64 0]) ?_ 0 _ rfl; (with_reducible repeat (first | refine qC ?_ _ | refine qE ?_ | refine qD ?_ _)); exact BK414.out) Try.underlying29 rfl (by kernel_rfl)) rfl ?_
 exact ⟨by first | rfl | (simp [qP, qO] <;> rfl) | (simp [*, qP, qO] <;> rfl), bl⟩
end Go.Proofs.Ytbmiekopflgicaa.P
namespace Go.Proofs.Ytbmiekopflgicaa
open Go.RowKit Go.Proofs.Ytbmiekopflgicaa.P Go.Proofs.YtbmiekopflgicaaW.PrintWords Go.Proofs.YtbmiekopflgicaaW.PrintLast
set_option linter.unusedVariables false
set_option linter.unusedSimpArgs false
theorem rd_getW (l : List ByteArray) (j : Nat) (h : j < l.length) : rdOf ByteArray.empty l (j : Int) = l[j] := by
 unfold rdOf
 rw [Int.toNat_natCast, List.getD_eq_getElem?_getD, List.getElem?_eq_getElem h]; rfl
def WordsOk (L : List (DD × ByteArray)) : Prop := ∀ x ∈ L, rolls plainD (numsW x.2) = x.1
theorem WordsOk.add {L : List (DD × ByteArray)} (h : WordsOk L) {b : DD} {w : ByteArray} (hm : (b, w) ∈ L) (d : Nat) (hd : d < 4) : WordsOk (L ++ [(rolD b d, w ++ dirW d)]) := by
 intro x hx
 rcases List.mem_append.1 hx with hx | hx
 ·exact h x hx
 ·rw [List.mem_singleton] at hx
  subst hx
  show rolls plainD (numsW (w ++ dirW d)) = rolD b d
  rw [numsW_append, numsW_dir d hd, rolls_append, h _ hm]
  rfl
structure ShO (L : List (DD × ByteArray)) (i : Nat) : Prop where
 found : FoundD plainD L
 words : WordsOk L
 short : ShortD L i
 le : i ≤ L.length
 fin : Bfs.run nextD (24 - i) i L = runD plainD
theorem ShO.start : ShO [(plainD, ⟨#[]⟩)] 0 := ⟨qDB plainD, fun x hx => by rw [List.mem_singleton] at hx; subst hx; rfl, fun z hz => by rw [List.mem_singleton] at hz; subst hz; exact Nat.le_refl _, by simp, rfl⟩
structure ShN (L : List (DD × ByteArray)) (i d : Nat) (b : DD) (v : ByteArray) (T : List (DD × ByteArray)) : Prop where
 found : FoundD plainD L
 words : WordsOk L
 short : ShortD L (i + 1)
 at_ : L[i]? = some (b, v)
 size : v.size ≤ i
 i24 : i < 24
 d4 : d ≤ 4
 fin : Bfs.puts L (stepsD b v (4 - d) d) = T
theorem ShO.inner {L : List (DD × ByteArray)} {i : Nat} (h : ShO L i) (hi : i < L.length) : ShN L i 0 L[i].1 L[i].2 (Bfs.round nextD i L) :=
 ⟨h.found, h.words, fun x hx => Nat.le_succ_of_le (h.short x hx), List.getElem?_eq_getElem hi, h.short _ (List.getElem_mem hi), by have := h.found.len; omega, by omega, (qsB (List.getElem?_eq_getElem hi)).symm⟩
theorem ShN.outer {L L0 : List (DD × ByteArray)} {i : Nat} {b : DD} {v : ByteArray} (h : ShN L i 4 b v (Bfs.round nextD i L0)) (h0 : ShO L0 i) (hi : i < L0.length) : ShO L (i + 1) := by
 have e : L = Bfs.round nextD i L0 := h.fin
 have h24 := h.i24
 refine ⟨h.found, h.words, h.short, ?_, ?_⟩
 ·have := (List.getElem?_eq_some_iff.1 h.at_).1; omega
 ·rw [e]
  have hf := h0.fin
  rw [show 24 - i = (24 - (i + 1)) + 1 by omega, Bfs.run, if_pos hi] at hf
  exact hf
theorem ShN.mem {L : List (DD × ByteArray)} {i d : Nat} {b : DD} {v : ByteArray} {T : List (DD × ByteArray)} (h : ShN L i d b v T) : (b, v) ∈ L := List.mem_of_getElem? h.at_
theorem ShN.met {L : List (DD × ByteArray)} {i d : Nat} {b : DD} {v : ByteArray} {T : List (DD × ByteArray)} (h : ShN L i d b v T) (hd : d < 4) (hm : rolD b d ∈ dds L) : ShN L i (d + 1) b v T := by
 refine ⟨h.found, h.words, h.short, h.at_, h.size, h.i24, by omega, ?_⟩
 have hf := h.fin
 rw [show 4 - d = (4 - (d + 1)) + 1 by omega, stepsD, Bfs.puts, Bfs.put_met hm] at hf
 exact hf
theorem ShN.new {L : List (DD × ByteArray)} {i d : Nat} {b : DD} {v : ByteArray} {T : List (DD × ByteArray)} (h : ShN L i d b v T) (hd : d < 4) (hm : ¬ rolD b d ∈ dds L) : ShN (L ++ [(rolD b d, v ++ dirW d)]) i (d + 1) b v T := by
 have e : Bfs.put L (some (rolD b d)) (v ++ dirW d) = L ++ [(rolD b d, v ++ dirW d)] := Bfs.put_new hm _
 have him : b ∈ imgs plainD := h.found.img _ h.mem
 have hF := h.found.put (some (rolD b d)) (v ++ dirW d) (fun z hz => by cases hz; exact qmB him d hd)
 rw [e] at hF
 refine ⟨hF, h.words.add h.mem d hd, ?_, ?_, h.size, h.i24, by omega, ?_⟩
 ·intro x hx
  rcases List.mem_append.1 hx with hx | hx
  ·exact h.short x hx
  ·rw [List.mem_singleton] at hx
   subst hx
   show (v ++ dirW d).size ≤ _
   have := h.size
   rw [ByteArray.size_append, qdB d hd]; omega
 ·rw [List.getElem?_append_left (List.getElem?_eq_some_iff.1 h.at_).1]
  exact h.at_
 ·have hf := h.fin
  rw [show 4 - d = (4 - (d + 1)) + 1 by omega, stepsD, Bfs.puts, e] at hf
  exact hf
theorem ShN.die {L : List (DD × ByteArray)} {i d : Nat} {b : DD} {v : ByteArray} {T : List (DD × ByteArray)} (h : ShN L i d b v T) (hd : d < 4) : ∃ k, qi.f k 0 1 2 3 4 5 (v ++ dirW d) = some (tupDD (rolD b d)) := by
 have hs := h.size
 have h24 := h.i24
 obtain ⟨k, hk⟩ := rolled_ev plainD (v ++ dirW d) (by rw [ByteArray.size_append, qdB d hd]; omega)
 have e : rolls plainD (numsW (v ++ dirW d)) = rolD b d := by
  rw [numsW_append, numsW_dir d hd, rolls_append, h.words _ h.mem]; rfl
 rw [e] at hk
 exact ⟨k, hk k (Nat.le_refl k)⟩
theorem ShN.wf {L : List (DD × ByteArray)} {i d : Nat} {b : DD} {v : ByteArray} {T : List (DD × ByteArray)} (h : ShN L i d b v T) (hd : d < 4) : wfD (rolD b d) := by
 have him : b ∈ imgs plainD := h.found.img _ h.mem
 obtain ⟨p, hp, he⟩ := List.mem_map.1 (qmB him d hd)
 rw [← he]
 have hw := wf_rots p hp
 intro n hn
 have hc : ∀ p ∈ rots, putD plainD p = p := by decide +kernel
 rw [hc p hp] at hn
 exact hw n hn
def swT1 : Bool × List (List Nat × List Nat) := (true, [([], []), ([], []), ([], []), ([1, 2], [1, 2]), ([1, 2, 3], [1]), ([0, 2, 0], [0]), ([4, 5, 0, 1, 2, 3, 4, 5], [4])])
def swB1 : List Nat := [0, 0, 0, 6, 14, 5, 63]
theorem swTab1 : rtab .any (opsOf Try.f61 1) = swT1 := by kernel_rfl
theorem swBits1 : waitsOk swT1.2 swB1 = true := by kernel_rfl
def swI (w : World) (b : Nat → Bool) (a : Act) (w' : World) : Prop := ∃ s1 s2 s7 s8 s9 s10 : Value, a = { tmps := #[.slice none 0 0, s1, s2, undef, undef, undef, undef, s7, s8, s9, s10, undef, undef, undef, undef, undef, undef, undef, undef, undef, undef, undef, undef, undef, undef, undef, undef, undef, undef, undef, undef, undef, undef, undef, undef, undef, undef, undef, undef, undef, undef, undef, undef, undef], defers := [] } ∧ Below w.heap.size w w' ∧
 (b 0 = true → Kd.R Kd.string 9 w' w.heap.size (fun _ => True) s7 [⟨#[]⟩]) ∧
 (b 1 = true → ∃ g, s8 = .map (some g) ∧ w.heap.size ≤ g ∧ mapD.Is w' g (if b 3 = true then [(plainD, true)] else [])) ∧
 (b 2 = true → s9 = encDD plainD) ∧ (b 4 = true → s10 = s8) ∧ (b 5 = true → s1 = s7) ∧ (b 6 = true → s2 = s10)
set_option maxHeartbeats 4000000 in
set_option maxRecDepth 100000 in
theorem shortWords.calls (w : World) : Calls Try.prog 61 #[] w fun e w' => ∃ v : Value, e = .returned v ∧ Kd.R Kd.string 9 w' w.heap.size (fun _ => True) v rotWords ∧ Below w.heap.size w w' := by
 have HB := Aside0.mk (Below.refl w.heap.size w)
 go_enter Try.func61, Try.ntmps61
 go_wp2
 refine qyA (n := 7) (S := fun _ => True) (ds := []) #[false, false, false, false, false, false, false] (by kernel_rfl) rfl rfl trivial (fun _ => ?_)
 refine qbA swTab1 swBits1 (fun HT_ HW_ => ?_)
 refine inv_ (B := swB1) [0, 1, 2, 3, 4, 5, 6] (swI w) HT_.out HW_.out (by kernel_rfl) (by kernel_rfl) ?h0 (qUA ?s0 (qUA ?s1 (qUA ?s2 (qUA ?s3 (qUA ?s4 (qUA ?s5 (qUA ?s6 steps_nil))))))) ?hend
 case h0 => exact ⟨_, _, _, _, _, _, rfl, by repeat (first | exact HB.out | apply qiB), by simp, by simp, by simp, by simp, by simp, by simp⟩
 case s0 =>
  rintro b a w' ⟨s1, s2, s7, s8, s9, s10, rfl, hb, h0, h1, h2, h4, h5, h6⟩ hi hp hn
  have n5 := hn 5 (by decide)
  refine ⟨_, rfl, fun K hK => ?_⟩
  refine Kd.qcA Kd.string (w0 := w) w.heap.size 9 rfl (N := 7) rfl (xs := [(⟨#[]⟩ : ByteArray)]) (inner := [.string ⟨#[]⟩]) (ok := fun _ => True) (okp := fun _ => True) ?hr ?hp (fun _ hk => hk) trivial hb hb.size (by simp) ?_
  case hr => first | (go_simp; done) | (go_simp; rfl)
  case hp => exact (Reps.one (show Kd.M Kd.string _ _ _ (⟨#[]⟩ : ByteArray) [.string (⟨#[]⟩ : ByteArray)] from rfl) (Reps.none _ _))
  intro v1 w1 hR hb1 hg _
  refine hK _ _ ⟨s1, s2, v1, s8, s9, s10, by rfl, hb1, fun _ => hR, fun h => ?_, fun h => h2 (by simpa [up] using h), fun h => h4 (by simpa [up] using h), fun h => ?_, fun h => h6 (by simpa [up] using h)⟩
  ·obtain ⟨g, e, hg1, hM⟩ := h1 (by simpa [up] using h)
   refine ⟨g, e, hg1, ?_⟩
   rw [show up b 0 3 = b 3 from rfl]
   exact hM.qbB (hg.block g hM.lt (by simp))
  ·rw [show up b 0 5 = b 5 from rfl, n5] at h; cases h
 case s1 =>
  rintro b a w' ⟨s1, s2, s7, s8, s9, s10, rfl, hb, h0, h1, h2, h4, h5, h6⟩ hi hp hn
  have n3 := hn 3 (by decide)
  have n4 := hn 4 (by decide)
  have hmm := @run_makeMap Try.prog
  refine ⟨_, rfl, fun K hK => ?_⟩
  refine qjB (w1 := w'.alloc (.map #[] 0)) (v := .map (some w'.heap.size)) rfl rfl ?hr ?_
  case hr => first | (go_simp; done) | (go_simp; rfl)
  refine hK _ _ ⟨s1, s2, s7, .map (some w'.heap.size), s9, s10, by rfl, qu hb _, fun h => Kd.qH (h0 (by simpa [up] using h)) _, fun _ => ⟨_, rfl, hb.size, ?_⟩, fun h => h2 (by simpa [up] using h), fun h => ?_, fun h => h5 (by simpa [up] using h), fun h => h6 (by simpa [up] using h)⟩
  ·rw [show up b 1 3 = b 3 from rfl, n3, if_neg (by decide)]
   exact MapKit.Is.made w'
  ·rw [show up b 1 4 = b 4 from rfl, n4] at h; cases h
 case s2 =>
  rintro b a w' ⟨s1, s2, s7, s8, s9, s10, rfl, hb, h0, h1, h2, h4, h5, h6⟩ hi hp hn
  refine ⟨_, rfl, fun K hK => ?_⟩
  refine goes_ Try.func68 (by kernel_rfl) rfl #[] (by rfl) rfl rfl (by (try simp only [List.map_toArray, List.map_cons, List.map_nil]); first | done | rfl | simp) ?_
  refine (qSB.calls 0 1 2 3 4 5 w' rfl).mono ?_
  rintro e w1 ⟨rfl, hb1⟩
  refine ⟨_, rfl, hK _ _ ⟨s1, s2, s7, s8, encDD plainD, s10, by rfl, qvA hb hb.size hb1, fun h => Kd.qAA (h0 (by simpa [up] using h)) hb1, fun h => ?_, fun _ => rfl, fun h => h4 (by simpa [up] using h), fun h => h5 (by simpa [up] using h), fun h => h6 (by simpa [up] using h)⟩⟩
  obtain ⟨g, e, hg1, hM⟩ := h1 (by simpa [up] using h)
  refine ⟨g, e, hg1, ?_⟩
  rw [show up b 2 3 = b 3 from rfl]
  exact hM.below hb1
 case s3 =>
  rintro b a w' ⟨s1, s2, s7, s8, s9, s10, rfl, hb, h0, h1, h2, h4, h5, h6⟩ hi hp hn
  have p1 := hp 1 (by decide)
  have p2 := hp 2 (by decide)
  obtain ⟨g, rfl, hg1, hM⟩ := h1 p1
  obtain rfl := h2 p2
  rw [hi, if_neg (by decide)] at hM
  obtain ⟨w1, hrun, hM1, hgr⟩ := hM.run_put (by decide) (x := plainD) (wf_rots _ rots_plain) (v := true) trivial
  refine ⟨_, rfl, fun K hK => ?_⟩
  refine skip_ (w1 := w1) rfl rfl ?hr ?_
  case hr =>
   have hrun2 : (Instr.mapUpdate 88 (.map (some g)) (encDD plainD) (.bool true)).run Try.prog w' = .ok () w1 := hrun
   unfold execOp
   simp [Act.eval, hrun2, Result.andThen]
  refine hK _ _ ⟨s1, s2, s7, .map (some g), encDD plainD, s10, rfl, hb.grown hgr hb.size (fun k e => by cases e; exact hg1), fun h => hM.row (h0 (by simpa [up] using h)) hgr, fun _ => ⟨g, rfl, hg1, ?_⟩, fun _ => rfl, fun h => h4 (by simpa [up] using h), fun h => h5 (by simpa [up] using h), fun h => h6 (by simpa [up] using h)⟩
  rw [qBC, if_pos rfl]
  exact hM1
 case s4 =>
  rintro b a w' ⟨s1, s2, s7, s8, s9, s10, rfl, hb, h0, h1, h2, h4, h5, h6⟩ hi hp hn
  have n6 := hn 6 (by decide)
  refine ⟨_, rfl, fun K hK => ?_⟩
  refine qjB (w1 := w') (v := s8) rfl rfl ?hr ?_
  case hr => first | (go_simp; done) | (go_simp; rfl)
  refine hK _ _ ⟨s1, s2, s7, s8, s9, s8, by rfl, hb, fun h => h0 (by simpa [up] using h), fun h => ?_, fun h => h2 (by simpa [up] using h), fun _ => rfl, fun h => h5 (by simpa [up] using h), fun h => ?_⟩
  ·rw [show up b 4 3 = b 3 from rfl]
   exact h1 (by simpa [up] using h)
  ·rw [show up b 4 6 = b 6 from rfl, n6] at h; cases h
 case s5 =>
  rintro b a w' ⟨s1, s2, s7, s8, s9, s10, rfl, hb, h0, h1, h2, h4, h5, h6⟩ hi hp hn
  refine ⟨_, rfl, fun K hK => ?_⟩
  refine qjB (w1 := w') (v := s7) rfl rfl ?hr ?_
  case hr => first | (go_simp; done) | (go_simp; rfl)
  refine hK _ _ ⟨s7, s2, s7, s8, s9, s10, by rfl, hb, fun h => h0 (by simpa [up] using h), fun h => ?_, fun h => h2 (by simpa [up] using h), fun h => h4 (by simpa [up] using h), fun _ => rfl, fun h => h6 (by simpa [up] using h)⟩
  rw [show up b 5 3 = b 3 from rfl]
  exact h1 (by simpa [up] using h)
 case s6 =>
  rintro b a w' ⟨s1, s2, s7, s8, s9, s10, rfl, hb, h0, h1, h2, h4, h5, h6⟩ hi hp hn
  refine ⟨_, rfl, fun K hK => ?_⟩
  refine qjB (w1 := w') (v := s10) rfl rfl ?hr ?_
  case hr => first | (go_simp; done) | (go_simp; rfl)
  refine hK _ _ ⟨s1, s10, s7, s8, s9, s10, by rfl, hb, fun h => h0 (by simpa [up] using h), fun h => ?_, fun h => h2 (by simpa [up] using h), fun h => h4 (by simpa [up] using h), fun h => h5 (by simpa [up] using h), fun _ => rfl⟩
  rw [show up b 6 3 = b 3 from rfl]
  exact h1 (by simpa [up] using h)
 case hend =>
  rintro b a w1 hall ⟨s1, s2, s7, s8, s9, s10, rfl, hb, h0, h1, h2, h4, h5, h6⟩
  have HO := Aside0.mk (h0 (hall 0 (by decide)))
  obtain ⟨g, rfl, hg1, hM⟩ := h1 (hall 1 (by decide))
  rw [hall 3 (by decide), if_pos rfl] at hM
  obtain rfl := h6 (hall 6 (by decide))
  obtain rfl := h4 (hall 4 (by decide))
  obtain rfl := h5 (hall 5 (by decide))
  have HM := Aside0.mk hM
  have HB1 := Aside0.mk hb
  have HG := Aside0.mk hg1
  clear h0 h1 h2 h4 h5 h6 hall HB hb hM hg1
  go_wp2
  go_loopg [1, 3] 24 (fun gg v1 v3 wq => ∃ (L : List (DD × ByteArray)) (i : Nat), v3 = .int .i64 i ∧ 24 - i ≤ gg ∧ Aside0 (ShO L i) ∧ Aside0 (Kd.R Kd.string 9 wq w.heap.size (fun _ => True) v1 (wsd L)) ∧ Aside0 (mapD.Is wq g (metL L)) ∧ Aside0 (Below w.heap.size w wq))
  case atStart => exact ⟨[(plainD, ⟨#[]⟩)], 0, rfl, by omega, ⟨ShO.start⟩, ⟨HO.out⟩, ⟨HM.out⟩, ⟨HB1.out⟩⟩
  case round =>
   clear HO HM HB1
   obtain ⟨L, i, rfl, hgk, HS, HO, HM, HB⟩ := hrel
   rename World => wr
   have hlen : (wsd L).length = L.length := List.length_map _
   have hL := HS.out.found.len
   have hle := HS.out.le
   obtain ⟨A1, c1, rfl, lc1, C1⟩ := Kd.qAC HO.out
   clear C1 lc1
   generalize hn1 : (wsd L).length = n1 at HO
   have hln : n1 = L.length := by rw [← hn1]; exact hlen
   have HN1 := Aside0.mk hn1
   clear hn1 hlen
   by_cases hlt : i < L.length
   ·have hltz : (i : Int) < (n1 : Int) := by omega
    clear hln
    go_wp2
    go_loopg [1, 17] 4 (fun gg v1 v17 wq => ∃ (L1 : List (DD × ByteArray)) (d : Nat), v17 = .int .i64 d ∧ 4 - d ≤ gg ∧ Aside0 (ShN L1 i d L[i].1 L[i].2 (Bfs.round nextD i L)) ∧ Aside0 (Kd.R Kd.string 9 wq w.heap.size (fun _ => True) v1 (wsd L1)) ∧ Aside0 (mapD.Is wq g (metL L1)) ∧ Aside0 (Below w.heap.size w wq))
    case atStart => exact ⟨L, 0, rfl, by omega, ⟨HS.out.inner hlt⟩, HO, HM, HB⟩
    case round =>
     clear HO HM HB
     obtain ⟨L1, d, rfl, hgk1, HN, HO, HM, HB⟩ := hrel
     rename World => wq
     generalize hbv : L[i].1 = bb at HN
     generalize hvv : L[i].2 = vv at HN
     have lenq : (wsd L1).length = L1.length := List.length_map _
     obtain ⟨A2, c2, rfl, lc2, C2⟩ := Kd.qAC HO.out
     generalize hn2 : (wsd L1).length = n2 at HO C2
     have lenq2 : n2 = L1.length := by rw [← hn2]; exact lenq
     by_cases hd : d < 4
     ·have hdz : (d : Int) < 4 := by omega
      have hat := HN.out.at_
      have hil : i < L1.length := (List.getElem?_eq_some_iff.1 hat).1
      obtain ⟨ad, e, hcell⟩ := Kd.qyB C2 (i : Int) (by omega) (by omega)
      cases e
      have hin2 : (i : Int) < (n2 : Int) := by omega
      clear lenq2
      go_wp2
      have hrd : rdOf ByteArray.empty (wsd L1) (i : Int) = vv := by
       rw [rd_getW (wsd L1) i (by rw [lenq]; exact hil)]
       unfold wsd
       rw [List.getElem_map, (List.getElem?_eq_some_iff.1 hat).2]
      rw [hrd, Int.toNat_natCast] at hcell
      have hsz := HN.out.size
      have h24 := HN.out.i24
      have hwr : IntKind.i64.wrap ((d : Int) + 1) = (d : Int) + 1 := by rw [IntKind.wrap_i64]; omega
      have hd0 : (0 : Int) ≤ (d : Int) := by omega
      have hd1 : (d : Int) ≤ (d : Int) + 1 := by omega
      have hd2 : (d : Int) + 1 ≤ 4 := by omega
      go_quiet (fail)
      clear hwr hd0 hd1 hd2 hcell C2 hin2
      obtain ⟨kr, hkr⟩ := HN.out.die hd
      have hkr2 := Aside0.mk hkr
      clear hkr
      have ewd : vv ++ (⟨#[110, 101, 115, 119]⟩ : ByteArray).extract d (d + 1) = vv ++ dirW d := rfl
      rw [ewd]
      generalize hun : vv ++ dirW d = un at hkr2
      generalize hnd : rolD bb d = nd at hkr2
      have HUN := Aside0.mk hun
      have HND := Aside0.mk hnd
      clear hun hnd ewd
      have HO3 := Aside0.mk (Kd.qI HO.out nq)
      have HM3 := Aside0.mk (HM.out.drewN nq)
      have HB3 := Aside0.mk (qNA HB.out nq)
      clear HO HM HB lenq hn2 lc2 hil hat hrd
      generalize wq.drewN nq = wd at HO3 HM3 HB3
      go_wp2_with (first
       | ((with_reducible refine qL (f := 68) rfl ?_); refine qc (some 29) rfl rfl Try.func68 (by kernel_rfl) rfl #[] rfl (by (try simp only [List.map_toArray, List.map_cons, List.map_nil]); first | done | rfl | simp) ?_; refine (qSB.calls 0 1 2 3 4 5 _ rfl).mono ?_; rintro e w1 ⟨rfl, hb1⟩; refine ⟨_, rfl, ?_⟩; have HO4 := Aside0.mk (Kd.qAA HO3.out hb1); have HM4 := Aside0.mk (HM3.out.below hb1); have HB4 := Aside0.mk (qvA HB3.out HB3.out.size hb1); clear HO3 HM3 HB3 hb1)
       | ((with_reducible refine qL (f := 62) rfl ?_); refine qc (some 31) rfl rfl Try.func62 (by kernel_rfl) rfl #[encDD plainD, .string un] rfl (by (try simp only [List.map_toArray, List.map_cons, List.map_nil]); first | done | rfl | simp) ?_; refine (qi.calls kr 0 1 2 3 4 5 un _ _ _ _ _ _ _ hkr2.out).mono ?_; rintro e w2 ⟨rfl, hb2⟩; refine ⟨_, rfl, ?_⟩; have HO5 := Aside0.mk (Kd.qAA HO4.out hb2); have HM5 := Aside0.mk (HM4.out.below hb2); have HB5 := Aside0.mk (qvA HB4.out HB4.out.size hb2); clear HO4 HM4 HB4 hb2))
      have HW := Aside0.mk (HN.out.wf hd)
      rw [HND.out] at HW
      have hrun : ∀ W, mapD.Is W g (metL L1) → (Instr.lookup 88 (.map (some g)) (encDD nd) false).run Try.prog W = .ok (.bool (decide (nd ∈ L1.map Prod.fst))) W := fun W hW => by
       have h := hW.run_look (x := nd) HW.out
       rw [look_metL] at h
       exact h
      have hr := fun o => hrun _ (HM5.out.below (qu (Below.refl _ _) o))
      unfold encDD at hr
      rw [hr]
      clear hr hrun
      by_cases hmet : nd ∈ L1.map Prod.fst
      ·rw [decide_eq_true hmet]
       have HMET := Aside0.mk hmet
       clear hmet
       go_wp2
       go_roundg (4 - (d + 1))
       case measure => omega
       case rel =>
        exact ⟨L1, d + 1, by push_cast; rfl, by omega, ⟨by rw [hbv, hvv]; exact HN.out.met hd (by rw [HND.out]; exact HMET.out)⟩, ⟨Kd.qH HO5.out _⟩, ⟨HM5.out.below (qu (Below.refl _ _) _)⟩, ⟨qu HB5.out _⟩⟩
      ·rw [decide_eq_false hmet]
       have HMET := Aside0.mk hmet
       clear hmet
       have hlenm : (metL L1).length < maxLen := by
        have := HN.out.found.len
        unfold metL maxLen
        simp only [List.length_reverse, List.length_map]
        omega
       have hIs := HM5.out.below (qu (Below.refl _ w2) (.cells #[.int .i64 nd.f0, .int .i64 nd.f1, .int .i64 nd.f2, .int .i64 nd.f3, .int .i64 nd.f4, .int .i64 nd.f5] 29))
       obtain ⟨w3, hrun, hM3, hgr⟩ := hIs.run_put hlenm HW.out (v := true) trivial
       have HO7 := Aside0.mk (hIs.row (Kd.qH HO5.out _) hgr)
       have HB7 := Aside0.mk ((qu HB5.out _).grown hgr (qu HB5.out _).size (fun k e => by cases e; exact HG.out))
       have HM7 := Aside0.mk hM3
       have HR7 := Aside0.mk (show (Instr.mapUpdate 88 (.map (some g)) (.agg #[.int .i64 nd.f0, .int .i64 nd.f1, .int .i64 nd.f2, .int .i64 nd.f3, .int .i64 nd.f4, .int .i64 nd.f5]) (.bool true)).run Try.prog (w2.alloc (.cells #[.int .i64 nd.f0, .int .i64 nd.f1, .int .i64 nd.f2, .int .i64 nd.f3, .int .i64 nd.f4, .int .i64 nd.f5] 29)) = .ok () w3 from hrun)
       clear hIs hrun hM3 hgr hlenm
       go_wp2
       rw [HR7.out]
       clear HR7
       have HL7 := Aside0.mk HN.out.found.len
       go_wp2_with (first
        | ((with_reducible refine qtA (b := .append) (xs := #[.tmp 38, .tmp 40]) rfl ?_); at_builtin; refine Kd.qHC Kd.string (w0 := w) w.heap.size rfl (.tmp 38) (.tmp 40) 77 9 (.string ⟨#[]⟩) 16 rfl Try.underlying77 info9 rfl (by decide) (by omega) (.slice (some ad) n2 c2) (wsd L1) un [.string un] (fun _ => True) (fun _ => False) rfl rfl ?aP (fun _ hk => hk.elim) ?aF ?aO ?aB ?aS ?aL ?_; (case aP => exact rfl); (case aB => exact (by repeat (first | (with_reducible first | exact HB7.out | apply qu | apply qNA | apply qt) | exact HB7.out))); (case aF => exact (fun _ _ => trivial)); (case aO => exact (by (with_reducible repeat (first | apply Kd.qH | apply Kd.qI | apply Kd.qK)); exact HO7.out)); (case aS => exact (qb (by repeat (first | (with_reducible first | exact HB7.out | apply qu | apply qNA | apply qt) | exact HB7.out)))); (case aL => have := HL7.out; rw [show (wsd L1).length = L1.length from List.length_map _]; omega); intro v4 w4 ho hb hg hat; have HM8 := Aside0.mk (HM7.out.qbB (hg.block g HM7.out.lt (HM7.out.ne HO7.out))); have HO8 := Aside0.mk ho; have HB8 := Aside0.mk hb; clear ho hb hg hat HO7 HM7 HB7))
       go_roundg (4 - (d + 1))
       case measure => omega
       case rel =>
        refine ⟨L1 ++ [(nd, un)], d + 1, by push_cast; rfl, by omega, ⟨?_⟩, ⟨?_⟩, ⟨?_⟩, HB8⟩
        ·rw [hbv, hvv, ← HND.out, ← HUN.out]
         exact HN.out.new hd (by rw [HND.out]; exact HMET.out)
        ·have h := HO8.out
         rw [show wsd (L1 ++ [(nd, un)]) = wsd L1 ++ [un] from by simp [wsd]]
         exact h
        ·rw [metL_append]
         exact HM8.out
     ·have hdz : ¬ (d : Int) < 4 := by omega
      clear lenq2 lenq hn2 C2
      go_wp2
      go_roundg (24 - (i + 1))
      case measure => omega
      case rel =>
       have e4 : d = 4 := by have := HN.out.d4; omega
       subst e4
       have HN4 := HN.out
       subst hbv hvv
       exact ⟨L1, i + 1, by push_cast; rfl, by omega, ⟨HN4.outer HS.out hlt⟩, HO, HM, HB⟩
   ·have hltz : ¬ (i : Int) < (n1 : Int) := by omega
    clear hln
    go_wp2
    have HO1 := HO.out
    rw [show wsd L = rotWords by
     have := HS.out.fin
     rw [Bfs.run_stop nextD _ _ (by omega)] at this
     rw [this]; rfl] at HO1
    go_ret
    exact ⟨_, rfl, HO1, HB.out⟩
end Go.Proofs.Ytbmiekopflgicaa
namespace Go.Proofs.Ytbmiekopflgicaa
open Go.RowKit Go.Sort Go.Proofs.Ytbmiekopflgicaa.P Go.Proofs.YtbmiekopflgicaaW.PrintWords Go.Proofs.YtbmiekopflgicaaW.PrintLast
set_option linter.unusedVariables false
set_option linter.unusedSimpArgs false
def wayAt (x : DD) (i : Nat) : List DD := (rotWords.take i).map fun u => rolls x (numsW u)
theorem qrA : rotWords.length = 24 := by decide +kernel
theorem rotWords_size : ∀ u ∈ rotWords, u.size ≤ 1048576 := by decide +kernel
theorem wayAt_all (x : DD) : wayAt x 24 = imgs x := by
 unfold wayAt
 rw [imgs_words, List.take_of_length_le (by rw [qrA]; exact Nat.le_refl _)]
theorem wayAt_len (x : DD) (i : Nat) (h : i ≤ 24) : (wayAt x i).length = i := by
 unfold wayAt
 rw [List.length_map, List.length_take, qrA]; omega
theorem wayAt_succ (x : DD) (i : Nat) (h : i < rotWords.length) : wayAt x (i + 1) = wayAt x i ++ [rolls x (numsW rotWords[i])] := by
 unfold wayAt
 rw [List.take_succ_eq_append_getElem h, List.map_append]
 rfl
theorem ways_all (x : DD) : Lib.compact ((wayAt x 24).mergeSort fun a b => !(ltOf ordDie) b a) = waysD x := by
 rw [wayAt_all, compact_ded, ← dedD_sort]
 rfl
theorem rolled_at (x : DD) (i : Nat) (h : i < rotWords.length) : ∃ k, qi.f k x.f0 x.f1 x.f2 x.f3 x.f4 x.f5 rotWords[i] = some (tupDD (rolls x (numsW rotWords[i]))) := by
 obtain ⟨k, hk⟩ := rolled_ev x rotWords[i] (rotWords_size _ (List.getElem_mem h))
 exact ⟨k, hk k (Nat.le_refl k)⟩
set_option maxHeartbeats 4000000 in
set_option maxRecDepth 100000 in
theorem waysDie (x : DD) (w : World) : Calls Try.prog 45 #[.agg #[.int .i64 x.f0, .int .i64 x.f1, .int .i64 x.f2, .int .i64 x.f3, .int .i64 x.f4, .int .i64 x.f5]] w fun e w' => ∃ v, e = .returned v ∧ Kd.R k29 29 w' w.heap.size (fun _ => True) v (waysD x) ∧ Below w.heap.size w w' := by
 have hu := Try.underlying29
 go_enter Try.func45, Try.ntmps45
 have HB := Aside0.mk (Below.refl w.heap.size w)
 go_wp2_with (first
  | ((with_reducible refine qU (N := 1) rfl ?_); refine qS ?hg (N := 1) ?hd (cs := #[.int .i64 x.f0, .int .i64 x.f1, .int .i64 x.f2, .int .i64 x.f3, .int .i64 x.f4, .int .i64 x.f5]) (t := 29) ?hr ?_; (case hd => rfl); (case hg => rfl); (case hr => first | (go_simp; done) | (go_simp; rfl)); intro gb hg wA hbox hb; have HBA := Aside0.mk (qF HB.out hb); have BKA := Aside0.mk hbox; have GBA := Aside0.mk (World.block_lt_of_cell? wA ⟨gb, 0, none⟩ ((qG hbox 0).trans rfl)); clear HB hb hbox hg)
  | ((with_reducible refine qU (N := 6) rfl ?_); refine Kd.R_lit k29 w.heap.size 29 ?hg (N := 6) ?hd (xs := ([] : List DS)) (inner := []) (ok := fun k => k ≠ gb) (okp := fun k => k ≠ gb) ?hr ?hp (fun _ hk => hk) (fun e_ => Nat.lt_irrefl _ (e_ ▸ GBA.out)) HBA.out HBA.out.size (by simp) ?_; (case hd => rfl); (case hg => rfl); (case hr => first | (go_simp; done) | (go_simp; rfl)); (case hp => exact (Reps.none _ _)); intro vo wB ho hb hg_ hnew_; have HOB := Aside0.mk ho; have HBB := Aside0.mk hb; have BKB := Aside0.mk (qv BKA.out hg_ (fun e_ => by cases e_)); clear ho hb hg_ hnew_ HBA BKA GBA)
  | ((with_reducible refine qL (f := 61) rfl ?_); refine qc (some 7) rfl rfl Try.func61 (by kernel_rfl) rfl #[] rfl (by (try simp only [List.map_toArray, List.map_cons, List.map_nil]); first | done | rfl | simp) ?_; refine (shortWords.calls _).mono ?_; rintro e wC ⟨vw, rfl, hw, hb⟩; refine ⟨_, rfl, ?_⟩; have HOC := Aside0.mk (Kd.qAA HOB.out hb); have BKC := Aside0.mk (qRA BKB.out hb); have HWC := Aside0.mk (Kd.qLA hw HBB.out.size); have HBC := Aside0.mk (qvA HBB.out HBB.out.size hb); (obtain ⟨Aw, cw, ew⟩ := Kd.qHA HWC.out); rw [qrA] at ew; subst ew; clear HOB BKB HBB hw hb))
 go_loopg [3, 9] 24 (fun gg v3 v9 wq => ∃ i : Nat, v9 = .int .i64 i ∧ 24 - i ≤ gg ∧ i ≤ 24 ∧ Aside0 (Kd.R k29 29 wq w.heap.size (fun k => k ≠ gb) v3 (wayAt x i)) ∧ Aside0 (Kd.R Kd.string 9 wq w.heap.size (fun _ => True) (.slice Aw 24 cw) rotWords) ∧ Aside0 (wq.heap[gb]? = some (.cells #[.int .i64 x.f0, .int .i64 x.f1, .int .i64 x.f2, .int .i64 x.f3, .int .i64 x.f4, .int .i64 x.f5] 29 (0, 0))) ∧ Aside0 (Below w.heap.size w wq))
 case atStart => exact ⟨0, rfl, by omega, by omega, HOC, HWC, BKC, HBC⟩
 case round =>
  clear HOC HWC BKC HBC
  obtain ⟨i, rfl, hgk, hi, HO, HWD, BK, HB⟩ := hrel
  rename World => wq
  by_cases hlt : i < 24
  ·have hltz : (i : Int) < 24 := by omega
   have hl2 : i < rotWords.length := by rw [qrA]; exact hlt
   obtain ⟨_, _, hC⟩ := Kd.qT HWD.out
   obtain ⟨ad, e, hcell⟩ := Kd.qyB hC (i : Int) (by omega) (by rw [qrA]; omega)
   subst e
   rw [rd_getW rotWords i hl2, Int.toNat_natCast] at hcell
   obtain ⟨kr, hkr⟩ := rolled_at x i hl2
   have HN := Aside0.mk (wayAt_succ x i hl2)
   have HK := Aside0.mk hkr
   clear hC hkr
   generalize rotWords[i] = u at hcell HK HN
   generalize hnd : rolls x (numsW u) = nd at HK HN
   clear hnd
   have c0 : wq.cell? ⟨gb, 0, none⟩ = some (.int .i64 x.f0) := (qG BK.out 0).trans rfl
   have c1 : wq.cell? ⟨gb, 1, none⟩ = some (.int .i64 x.f1) := (qG BK.out 1).trans rfl
   have c2 : wq.cell? ⟨gb, 2, none⟩ = some (.int .i64 x.f2) := (qG BK.out 2).trans rfl
   have c3 : wq.cell? ⟨gb, 3, none⟩ = some (.int .i64 x.f3) := (qG BK.out 3).trans rfl
   have c4 : wq.cell? ⟨gb, 4, none⟩ = some (.int .i64 x.f4) := (qG BK.out 4).trans rfl
   have c5 : wq.cell? ⟨gb, 5, none⟩ = some (.int .i64 x.f5) := (qG BK.out 5).trans rfl
   go_wp2_with (first
    | ((with_reducible refine qL (f := 62) rfl ?_); refine qc (some 16) rfl rfl Try.func62 (by kernel_rfl) rfl #[.agg #[.int .i64 x.f0, .int .i64 x.f1, .int .i64 x.f2, .int .i64 x.f3, .int .i64 x.f4, .int .i64 x.f5], .string u] rfl (by (try simp only [List.map_toArray, List.map_cons, List.map_nil]); first | done | rfl | simp) ?_; refine (qi.calls kr x.f0 x.f1 x.f2 x.f3 x.f4 x.f5 u _ _ _ _ _ _ _ HK.out).mono ?_; rintro e w2 ⟨rfl, hb2⟩; refine ⟨_, rfl, ?_⟩; have HO5 := Aside0.mk (Kd.qAA HO.out hb2); have HW5 := Aside0.mk (Kd.qAA HWD.out hb2); have BK5 := Aside0.mk (qRA BK.out hb2); have HB5 := Aside0.mk (qvA HB.out HB.out.size hb2); clear HO HWD BK HB hb2 c0 c1 c2 c3 c4 c5 hcell)
    | ((with_reducible refine qtA (b := .append) (xs := #[.tmp 13, .tmp 17]) rfl ?_); at_builtin; refine Kd.qHC k29 (w0 := w) w.heap.size rfl (.tmp 13) (.tmp 17) 38 29 (.agg #[(.int .i64 0), (.int .i64 0), (.int .i64 0), (.int .i64 0), (.int .i64 0), (.int .i64 0)]) 48 rfl Try.underlying38 info29 rfl (by decide) (by omega) _ (wayAt x i) nd [.int .i64 nd.f0, .int .i64 nd.f1, .int .i64 nd.f2, .int .i64 nd.f3, .int .i64 nd.f4, .int .i64 nd.f5] (fun k => k ≠ gb) (fun _ => False) rfl rfl ?aP (fun _ hk => hk.elim) ?aF HO5.out HB5.out HB5.out.size ?aL ?_; (case aP => exact qdA _ _ _ nd); (case aF => exact (fun k hk e_ => by have h9 := qTB BK5.out; omega)); (case aL => rw [wayAt_len x i (by omega)]; omega); intro v4 w4 ho hb hg hat; have HW8 := Aside0.mk (Kd.qPC HW5.out (Kd.qOC HO5.out) (by decide) hg); have BK8 := Aside0.mk (qv BK5.out hg (fun e_ => HO5.out.1 gb e_.symm rfl)); have HO8 := Aside0.mk ho; have HB8 := Aside0.mk hb; clear ho hb hg hat HO5 HW5 BK5 HB5))
   go_roundg (24 - (i + 1))
   case measure => omega
   case rel => exact ⟨i + 1, by push_cast; rfl, by omega, by omega, ⟨by rw [HN.out]; exact HO8.out⟩, HW8, BK8, HB8⟩
  ·have hltz : ¬ (i : Int) < 24 := by omega
   have e24 : i = 24 := by omega
   subst e24
   go_wp2_with (first
    | ((with_reducible refine qL (f := 63) rfl ?_); refine qc (some 21) rfl rfl Try.func63 (by kernel_rfl) rfl #[_] rfl (by (try simp only [List.map_toArray, List.map_cons, List.map_nil]); first | done | rfl | simp) ?_; refine (sortedDie.calls _ (wayAt x 24) w wq HB.out (Kd.qa HO.out (fun _ _ => trivial)) (by rw [wayAt_len x 24 (Nat.le_refl _)]; decide)).mono ?_; rintro e w2 ⟨v', rfl, ho2, hb2⟩; refine ⟨_, rfl, ?_⟩; have HO2 := Aside0.mk ho2; have HB2 := Aside0.mk hb2; clear ho2 hb2))
   go_ret
   exact ⟨_, rfl, by rw [← ways_all]; exact HO2.out, HB2.out⟩
namespace P
def qr.f (a0_0 a0_1 a0_2 a0_3 a0_4 a0_5 : Int) : Option (List S29) := some (waysD ⟨a0_0, a0_1, a0_2, a0_3, a0_4, a0_5⟩)
theorem qr.calls (a0_0 a0_1 a0_2 a0_3 a0_4 a0_5 : Int) (r : List S29) (w : World) (h : qr.f a0_0 a0_1 a0_2 a0_3 a0_4 a0_5 = some r) :
  Calls Try.prog 45 #[.agg #[.int .i64 a0_0, .int .i64 a0_1, .int .i64 a0_2, .int .i64 a0_3, .int .i64 a0_4, .int .i64 a0_5]] w fun e w' => ∃ v0_ : Value, e = .returned v0_ ∧ Kd.R k29 29 w' w.heap.size (fun _ => True) v0_ r ∧ Below w.heap.size w w' := by
 obtain rfl := Option.some.inj h
 exact waysDie ⟨a0_0, a0_1, a0_2, a0_3, a0_4, a0_5⟩ w
end P
end Go.Proofs.Ytbmiekopflgicaa
namespace Go.Proofs.Ytbmiekopflgicaa
open Go.RowKit Go.Proofs.Ytbmiekopflgicaa.P Go.Proofs.YtbmiekopflgicaaW.PrintWords Go.Proofs.YtbmiekopflgicaaW.PrintLast
set_option linter.unusedVariables false
set_option linter.unusedSimpArgs false
def inFace (n : Int) : Bool := decide (0 ≤ n) && decide (n ≤ 9)
def dieB (a b c d e f : Int) : Bool := [a, b, c, d, e, f].all inFace
theorem rdn (l : List Int) (i : Nat) (h : i < l.length) : rd l (i : Int) = l[i] := by
 unfold rd
 rw [Int.toNat_natCast, List.getD_eq_getElem?_getD, List.getElem?_eq_getElem h]; rfl
theorem spec_l1In_eq (n a b : Int) : qzA.f n a b = some (decide (a ≤ n) && decide (n ≤ b)) := by
 unfold qzA.f
 by_cases h : n ≥ a
 ·rw [if_pos h, decide_eq_true (show a ≤ n from h), Bool.true_and]
 ·rw [if_neg h, decide_eq_false (show ¬ a ≤ n from h), Bool.false_and]
theorem impl_in_eq (n a b : Int) : qXB.f n a b = some (decide (a ≤ n) && decide (n ≤ b)) := by
 unfold qXB.f
 by_cases h : a ≤ n
 ·rw [if_pos h, decide_eq_true h, Bool.true_and]
 ·rw [if_neg h, decide_eq_false h, Bool.false_and]
theorem l1All_loop (l : List Int) (a b : Int) (hl : l.length ≤ 140737488355328) (d : Nat) : ∀ i : Nat, i ≤ l.length → l.length - i = d →
  Ev (fun k => qBA.l0 k a b l (l.length : Int) (i : Int)) ((l.drop i).all fun n => decide (a ≤ n) && decide (n ≤ b)) := by
 induction d with
 | zero =>
  intro i hi hd
  refine Ev.step (f := fun k => _) (fun k => by rw [qBA.l0]) (Ev.neg (by omega) (Ev.some_ ?_))
  rw [List.drop_eq_nil_of_le (by omega)]; rfl
 | succ d ih =>
  intro i hi hd
  have h : i < l.length := by omega
  refine Ev.step (f := fun k => _) (fun k => by rw [qBA.l0]) (Ev.pos (by omega) (Ev.pos (by omega) (Ev.pos (by omega) (Ev.bindc (spec_l1In_eq _ _ _) ?_))))
  rw [rdn l i h, List.drop_eq_getElem_cons h, List.all_cons, show wrap64 ((i : Int) + 1) = ((i + 1 : Nat) : Int) by unfold wrap64; omega]
  cases hb : (decide (a ≤ l[i]) && decide (l[i] ≤ b)) with
  | true => exact Ev.pos rfl (ih (i + 1) (by omega) (by omega))
  | false => exact Ev.neg (by decide) (Ev.some_ rfl)
theorem spec_l1All_ev (l : List Int) (a b : Int) (hl : l.length ≤ 140737488355328) : Ev (fun k => qBA.f k l a b) (l.all fun n => decide (a ≤ n) && decide (n ≤ b)) := by
 have := l1All_loop l a b hl l.length 0 (by omega) (by omega)
 simpa [qBA.f] using this
theorem qEB (a b c d e f : Int) : Ev (fun k => qFA.f k a b c d e f) (dieB a b c d e f) := by
 unfold qFA.f
 exact Ev.bindc rfl (Ev.bind (spec_l1All_ev [a, b, c, d, e, f] 0 9 (by simp)) (Ev.some_ rfl))
theorem isDie1_eq (n : Int) : qeA.f n = some (!inFace n) := by
 unfold qeA.f
 rw [impl_in_eq]; rfl
theorem idxDie_loop (l : List Int) (hl : l.length ≤ 140737488355328) (d : Nat) : ∀ i : Nat, i ≤ l.length → l.length - i = d →
  ∃ r : Int, Ev (fun k => qM.l0 k l (l.length : Int) (i : Int)) r ∧ decide (r ≥ 0) = !((l.drop i).all inFace) := by
 induction d with
 | zero =>
  intro i hi hd
  refine ⟨-1, Ev.step (f := fun k => _) (fun k => by rw [qM.l0]) (Ev.neg (by omega) (Ev.some_ rfl)), ?_⟩
  rw [List.drop_eq_nil_of_le (by omega)]; rfl
 | succ d ih =>
  intro i hi hd
  have h : i < l.length := by omega
  rw [List.drop_eq_getElem_cons h, List.all_cons]
  cases hb : inFace l[i] with
  | true =>
   obtain ⟨r, h1, h2⟩ := ih (i + 1) (by omega) (by omega)
   refine ⟨r, Ev.step (f := fun k => _) (fun k => by rw [qM.l0]) (Ev.pos (by omega) (Ev.pos (by omega) (Ev.pos (by omega) (Ev.bindc (isDie1_eq _) ?_)))), by rw [Bool.true_and]; exact h2⟩
   rw [rdn l i h, hb, show wrap64 ((i : Int) + 1) = ((i + 1 : Nat) : Int) by unfold wrap64; omega]
   exact Ev.neg (by decide) h1
  | false =>
   refine ⟨(i : Int), Ev.step (f := fun k => _) (fun k => by rw [qM.l0]) (Ev.pos (by omega) (Ev.pos (by omega) (Ev.pos (by omega) (Ev.bindc (isDie1_eq _) ?_)))), ?_⟩
   ·rw [rdn l i h, hb]
    exact Ev.pos rfl (Ev.now _)
   ·rw [Bool.false_and]; exact decide_eq_true (by omega)
theorem qIB (a b c d e f : Int) : Ev (fun k => qQA.f k a b c d e f) (dieB a b c d e f) := by
 obtain ⟨r, h1, h2⟩ := idxDie_loop [a, b, c, d, e, f] (by simp) 6 0 (by simp) (by simp)
 unfold qQA.f qY.f qM.f
 refine Ev.bindc rfl (Ev.bind (a := decide (r ≥ 0)) (Ev.bind h1 (Ev.now _)) (Ev.some_ ?_))
 rw [h2]
 simp [dieB]
end Go.Proofs.Ytbmiekopflgicaa
namespace Go.Proofs.Ytbmiekopflgicaa.P
open Go.RowKit Go.Proofs.YtbmiekopflgicaaW.PrintWords Go.Proofs.YtbmiekopflgicaaW.PrintLast Go.Proofs.YtbmiekopflgicaaW.PrintMore
attribute [local go_sem] qn ql qx qw qh qg qm qk
set_option linter.unusedVariables false
set_option linter.unusedSimpArgs false
def qPA.f (a0_0 : Int) (a0_1 : Int) (a0_2 : Int) (a0_3 : Int) (a0_4 : Int) (a0_5 : Int) (a1_0 : Int) (a1_1 : Int) (a1_2 : Int) (a1_3 : Int) (a1_4 : Int) (a1_5 : Int) : Option (Bool) := if a0_0 = a1_0 then (if a0_1 = a1_1 then (if a0_2 = a1_2 then (if a0_3 = a1_3 then (if a0_4 = a1_4 then (if a0_5 = a1_5 then (some true) else (some false)) else (some false)) else (some false)) else (some false)) else (some false)) else (some false)
set_option maxHeartbeats 8000000 in
set_option maxRecDepth 100000 in
theorem qPA.calls (a0_0 : Int) (a0_1 : Int) (a0_2 : Int) (a0_3 : Int) (a0_4 : Int) (a0_5 : Int) (a1_0 : Int) (a1_1 : Int) (a1_2 : Int) (a1_3 : Int) (a1_4 : Int) (a1_5 : Int) (r : Bool) (w : World) (h : qPA.f a0_0 a0_1 a0_2 a0_3 a0_4 a0_5 a1_0 a1_1 a1_2 a1_3 a1_4 a1_5 = some r) :
  Calls Try.prog 26 #[.agg #[.int .i64 a0_0, .int .i64 a0_1, .int .i64 a0_2, .int .i64 a0_3, .int .i64 a0_4, .int .i64 a0_5], .agg #[.int .i64 a1_0, .int .i64 a1_1, .int .i64 a1_2, .int .i64 a1_3, .int .i64 a1_4, .int .i64 a1_5]] w fun e w' => e = .returned (.bool r) ∧ Below w.heap.size w w' := by
 have hu29 := Try.underlying29
 have HB := Aside0.mk (Below.refl w.heap.size w)
 have H : (if a0_0 = a1_0 then (if a0_1 = a1_1 then (if a0_2 = a1_2 then (if a0_3 = a1_3 then (if a0_4 = a1_4 then (if a0_5 = a1_5 then (some true) else (some false)) else (some false)) else (some false)) else (some false)) else (some false)) else (some false)) = some r := h
 clear h
 by_cases c3 : a0_0 = a1_0
 ·rw [if_pos c3] at H
  have c3b0 : (a0_0 == a1_0) = true := beq_iff_eq.mpr c3
  have c3b1 : (a0_0 != a1_0) = false := bne_eq_false_iff_eq.mpr c3
  clear c3
  by_cases c4 : a0_1 = a1_1
  ·rw [if_pos c4] at H
   have c4b0 : (a0_1 == a1_1) = true := beq_iff_eq.mpr c4
   have c4b1 : (a0_1 != a1_1) = false := bne_eq_false_iff_eq.mpr c4
   clear c4
   by_cases c5 : a0_2 = a1_2
   ·rw [if_pos c5] at H
    have c5b0 : (a0_2 == a1_2) = true := beq_iff_eq.mpr c5
    have c5b1 : (a0_2 != a1_2) = false := bne_eq_false_iff_eq.mpr c5
    clear c5
    by_cases c6 : a0_3 = a1_3
    ·rw [if_pos c6] at H
     have c6b0 : (a0_3 == a1_3) = true := beq_iff_eq.mpr c6
     have c6b1 : (a0_3 != a1_3) = false := bne_eq_false_iff_eq.mpr c6
     clear c6
     by_cases c7 : a0_4 = a1_4
     ·rw [if_pos c7] at H
      have c7b0 : (a0_4 == a1_4) = true := beq_iff_eq.mpr c7
      have c7b1 : (a0_4 != a1_4) = false := bne_eq_false_iff_eq.mpr c7
      clear c7
      by_cases c8 : a0_5 = a1_5
      ·rw [if_pos c8] at H
       have c8b0 : (a0_5 == a1_5) = true := beq_iff_eq.mpr c8
       have c8b1 : (a0_5 != a1_5) = false := bne_eq_false_iff_eq.mpr c8
       clear c8
       obtain rfl := Option.some.inj H
       go_enter Try.func26, Try.ntmps26
       go_wp2_with (first | ((with_reducible refine qU (N := 2) rfl ?_); refine qS ?hg (N := 2) ?hd (cs := #[.int .i64 a0_0, .int .i64 a0_1, .int .i64 a0_2, .int .i64 a0_3, .int .i64 a0_4, .int .i64 a0_5]) (t := 29) ?hr ?_; (case hd => rfl); (case hg => rfl); (case hr => first | (go_simp; done) | (go_simp; rfl)); intro gb289 hg w9 hbox hb; have n0_ := Aside0.mk (qF bl hb); have n1_ := Aside0.mk (hbox); have n2_ := Aside0.mk ((gg hg)); have n3_ := Aside0.mk ((gg hg)); clear HB; have HB := n0_; have BK289 := n1_; have GW289 := n2_; have GE289 := n3_; clear n0_ n1_ n2_ n3_; clear hb hbox hg) | ((with_reducible refine qU (N := 3) rfl ?_); refine qS ?hg (N := 3) ?hd (cs := #[.int .i64 a1_0, .int .i64 a1_1, .int .i64 a1_2, .int .i64 a1_3, .int .i64 a1_4, .int .i64 a1_5]) (t := 29) ?hr ?_; (case hd => rfl); (case hg => rfl); (case hr => first | (go_simp; done) | (go_simp; rfl)); intro gb290 hg w10 hbox hb; have n0_ := Aside0.mk (bb BK289 hb); have n1_ := Aside0.mk (qF bl hb); have n2_ := Aside0.mk (hbox); have n3_ := Aside0.mk ((gg hg)); have n4_ := Aside0.mk ((gg hg)); have n5_ := Aside0.mk ((nl BK289 hg)); have n6_ := Aside0.mk ((nr BK289 hg)); clear BK289; clear HB; have BK289 := n0_; have HB := n1_; have BK290 := n2_; have GW290 := n3_; have GE290 := n4_; have NB289_290 := n5_; have NB290_289 := n6_; clear n0_ n1_ n2_ n3_ n4_ n5_ n6_; clear hb hbox hg; have hnb11 := NB289_290.out; have hnc11 := NB290_289.out; have hcz12_0 := bc BK289 0; have hcz12_1 := bc BK289 1; have hcz12_2 := bc BK289 2; have hcz12_3 := bc BK289 3; have hcz12_4 := bc BK289 4; have hcz12_5 := bc BK289 5; have hfz12_0 := qA BK289.out 0; have hfz12_1 := qA BK289.out 1; have hfz12_2 := qA BK289.out 2; have hfz12_3 := qA BK289.out 3; have hfz12_4 := qA BK289.out 4; have hfz12_5 := qA BK289.out 5; have hcz13_0 := bc BK290 0; have hcz13_1 := bc BK290 1; have hcz13_2 := bc BK290 2; have hcz13_3 := bc BK290 3; have hcz13_4 := bc BK290 4; have hcz13_5 := bc BK290 5; have hfz13_0 := qA BK290.out 0; have hfz13_1 := qA BK290.out 1; have hfz13_2 := qA BK290.out 2; have hfz13_3 := qA BK290.out 3; have hfz13_4 := qA BK290.out 4; have hfz13_5 := qA BK290.out 5))
       go_ret
       exact ⟨by first | rfl | (simp [qP, qO] <;> rfl) | (simp [*, qP, qO] <;> rfl), bl⟩
      ·rw [if_neg c8] at H
       have c8b0 : (a0_5 == a1_5) = false := beq_eq_false_iff_ne.mpr c8
       have c8b1 : (a0_5 != a1_5) = true := bne_iff_ne.mpr c8
       obtain rfl := Option.some.inj H
       go_enter Try.func26, Try.ntmps26
       go_wp2_with (first | ((with_reducible refine qU (N := 2) rfl ?_); refine qS ?hg (N := 2) ?hd (cs := #[.int .i64 a0_0, .int .i64 a0_1, .int .i64 a0_2, .int .i64 a0_3, .int .i64 a0_4, .int .i64 a0_5]) (t := 29) ?hr ?_; (case hd => rfl); (case hg => rfl); (case hr => first | (go_simp; done) | (go_simp; rfl)); intro gb289 hg w14 hbox hb; have n0_ := Aside0.mk (qF bl hb); have n1_ := Aside0.mk (hbox); have n2_ := Aside0.mk ((gg hg)); have n3_ := Aside0.mk ((gg hg)); clear HB; have HB := n0_; have BK289 := n1_; have GW289 := n2_; have GE289 := n3_; clear n0_ n1_ n2_ n3_; clear hb hbox hg) | ((with_reducible refine qU (N := 3) rfl ?_); refine qS ?hg (N := 3) ?hd (cs := #[.int .i64 a1_0, .int .i64 a1_1, .int .i64 a1_2, .int .i64 a1_3, .int .i64 a1_4, .int .i64 a1_5]) (t := 29) ?hr ?_; (case hd => rfl); (case hg => rfl); (case hr => first | (go_simp; done) | (go_simp; rfl)); intro gb290 hg w15 hbox hb; have n0_ := Aside0.mk (bb BK289 hb); have n1_ := Aside0.mk (qF bl hb); have n2_ := Aside0.mk (hbox); have n3_ := Aside0.mk ((gg hg)); have n4_ := Aside0.mk ((gg hg)); have n5_ := Aside0.mk ((nl BK289 hg)); have n6_ := Aside0.mk ((nr BK289 hg)); clear BK289; clear HB; have BK289 := n0_; have HB := n1_; have BK290 := n2_; have GW290 := n3_; have GE290 := n4_; have NB289_290 := n5_; have NB290_289 := n6_; clear n0_ n1_ n2_ n3_ n4_ n5_ n6_; clear hb hbox hg; have hnb16 := NB289_290.out; have hnc16 := NB290_289.out; have hcz17_0 := bc BK289 0; have hcz17_1 := bc BK289 1; have hcz17_2 := bc BK289 2; have hcz17_3 := bc BK289 3; have hcz17_4 := bc BK289 4; have hcz17_5 := bc BK289 5; have hfz17_0 := qA BK289.out 0; have hfz17_1 := qA BK289.out 1; have hfz17_2 := qA BK289.out 2; have hfz17_3 := qA BK289.out 3; have hfz17_4 := qA BK289.out 4; have hfz17_5 := qA BK289.out 5; have hcz18_0 := bc BK290 0; have hcz18_1 := bc BK290 1; have hcz18_2 := bc BK290 2; have hcz18_3 := bc BK290 3; have hcz18_4 := bc BK290 4; have hcz18_5 := bc BK290 5; have hfz18_0 := qA BK290.out 0; have hfz18_1 := qA BK290.out 1; have hfz18_2 := qA BK290.out 2; have hfz18_3 := qA BK290.out 3; have hfz18_4 := qA BK290.out 4; have hfz18_5 := qA BK290.out 5))
       go_ret
       exact ⟨by first | rfl | (simp [qP, qO] <;> rfl) | (simp [*, qP, qO] <;> rfl), bl⟩
     ·rw [if_neg c7] at H
      have c7b0 : (a0_4 == a1_4) = false := beq_eq_false_iff_ne.mpr c7
      have c7b1 : (a0_4 != a1_4) = true := bne_iff_ne.mpr c7
      obtain rfl := Option.some.inj H
      go_enter Try.func26, Try.ntmps26
      go_wp2_with (first | ((with_reducible refine qU (N := 2) rfl ?_); refine qS ?hg (N := 2) ?hd (cs := #[.int .i64 a0_0, .int .i64 a0_1, .int .i64 a0_2, .int .i64 a0_3, .int .i64 a0_4, .int .i64 a0_5]) (t := 29) ?hr ?_; (case hd => rfl); (case hg => rfl); (case hr => first | (go_simp; done) | (go_simp; rfl)); intro gb289 hg w19 hbox hb; have n0_ := Aside0.mk (qF bl hb); have n1_ := Aside0.mk (hbox); have n2_ := Aside0.mk ((gg hg)); have n3_ := Aside0.mk ((gg hg)); clear HB; have HB := n0_; have BK289 := n1_; have GW289 := n2_; have GE289 := n3_; clear n0_ n1_ n2_ n3_; clear hb hbox hg) | ((with_reducible refine qU (N := 3) rfl ?_); refine qS ?hg (N := 3) ?hd (cs := #[.int .i64 a1_0, .int .i64 a1_1, .int .i64 a1_2, .int .i64 a1_3, .int .i64 a1_4, .int .i64 a1_5]) (t := 29) ?hr ?_; (case hd => rfl); (case hg => rfl); (case hr => first | (go_simp; done) | (go_simp; rfl)); intro gb290 hg w20 hbox hb; have n0_ := Aside0.mk (bb BK289 hb); have n1_ := Aside0.mk (qF bl hb); have n2_ := Aside0.mk (hbox); have n3_ := Aside0.mk ((gg hg)); have n4_ := Aside0.mk ((gg hg)); have n5_ := Aside0.mk ((nl BK289 hg)); have n6_ := Aside0.mk ((nr BK289 hg)); clear BK289; clear HB; have BK289 := n0_; have HB := n1_; have BK290 := n2_; have GW290 := n3_; have GE290 := n4_; have NB289_290 := n5_; have NB290_289 := n6_; clear n0_ n1_ n2_ n3_ n4_ n5_ n6_; clear hb hbox hg; have hnb21 := NB289_290.out; have hnc21 := NB290_289.out; have hcz22_0 := bc BK289 0; have hcz22_1 := bc BK289 1; have hcz22_2 := bc BK289 2; have hcz22_3 := bc BK289 3; have hcz22_4 := bc BK289 4; have hcz22_5 := bc BK289 5; have hfz22_0 := qA BK289.out 0; have hfz22_1 := qA BK289.out 1; have hfz22_2 := qA BK289.out 2; have hfz22_3 := qA BK289.out 3; have hfz22_4 := qA BK289.out 4; have hfz22_5 := qA BK289.out 5; have hcz23_0 := bc BK290 0; have hcz23_1 := bc BK290 1; have hcz23_2 := bc BK290 2; have hcz23_3 := bc BK290 3; have hcz23_4 := bc BK290 4; have hcz23_5 := bc BK290 5; have hfz23_0 := qA BK290.out 0; have hfz23_1 := qA BK290.out 1; have hfz23_2 := qA BK290.out 2; have hfz23_3 := qA BK290.out 3; have hfz23_4 := qA BK290.out 4; have hfz23_5 := qA BK290.out 5))
      go_ret
      exact ⟨by first | rfl | (simp [qP, qO] <;> rfl) | (simp [*, qP, qO] <;> rfl), bl⟩
    ·rw [if_neg c6] at H
     have c6b0 : (a0_3 == a1_3) = false := beq_eq_false_iff_ne.mpr c6
     have c6b1 : (a0_3 != a1_3) = true := bne_iff_ne.mpr c6
     obtain rfl := Option.some.inj H
     go_enter Try.func26, Try.ntmps26
     go_wp2_with (first | ((with_reducible refine qU (N := 2) rfl ?_); refine qS ?hg (N := 2) ?hd (cs := #[.int .i64 a0_0, .int .i64 a0_1, .int .i64 a0_2, .int .i64 a0_3, .int .i64 a0_4, .int .i64 a0_5]) (t := 29) ?hr ?_; (case hd => rfl); (case hg => rfl); (case hr => first | (go_simp; done) | (go_simp; rfl)); intro gb289 hg w24 hbox hb; have n0_ := Aside0.mk (qF bl hb); have n1_ := Aside0.mk (hbox); have n2_ := Aside0.mk ((gg hg)); have n3_ := Aside0.mk ((gg hg)); clear HB; have HB := n0_; have BK289 := n1_; have GW289 := n2_; have GE289 := n3_; clear n0_ n1_ n2_ n3_; clear hb hbox hg) | ((with_reducible refine qU (N := 3) rfl ?_); refine qS ?hg (N := 3) ?hd (cs := #[.int .i64 a1_0, .int .i64 a1_1, .int .i64 a1_2, .int .i64 a1_3, .int .i64 a1_4, .int .i64 a1_5]) (t := 29) ?hr ?_; (case hd => rfl); (case hg => rfl); (case hr => first | (go_simp; done) | (go_simp; rfl)); intro gb290 hg w25 hbox hb; have n0_ := Aside0.mk (bb BK289 hb); have n1_ := Aside0.mk (qF bl hb); have n2_ := Aside0.mk (hbox); have n3_ := Aside0.mk ((gg hg)); have n4_ := Aside0.mk ((gg hg)); have n5_ := Aside0.mk ((nl BK289 hg)); have n6_ := Aside0.mk ((nr BK289 hg)); clear BK289; clear HB; have BK289 := n0_; have HB := n1_; have BK290 := n2_; have GW290 := n3_; have GE290 := n4_; have NB289_290 := n5_; have NB290_289 := n6_; clear n0_ n1_ n2_ n3_ n4_ n5_ n6_; clear hb hbox hg; have hnb26 := NB289_290.out; have hnc26 := NB290_289.out; have hcz27_0 := bc BK289 0; have hcz27_1 := bc BK289 1; have hcz27_2 := bc BK289 2; have hcz27_3 := bc BK289 3; have hcz27_4 := bc BK289 4; have hcz27_5 := bc BK289 5; have hfz27_0 := qA BK289.out 0; have hfz27_1 := qA BK289.out 1; have hfz27_2 := qA BK289.out 2; have hfz27_3 := qA BK289.out 3; have hfz27_4 := qA BK289.out 4; have hfz27_5 := qA BK289.out 5; have hcz28_0 := bc BK290 0; have hcz28_1 := bc BK290 1; have hcz28_2 := bc BK290 2; have hcz28_3 := bc BK290 3; have hcz28_4 := bc BK290 4; have hcz28_5 := bc BK290 5; have hfz28_0 := qA BK290.out 0; have hfz28_1 := qA BK290.out 1; have hfz28_2 := qA BK290.out 2; have hfz28_3 := qA BK290.out 3; have hfz28_4 := qA BK290.out 4; have hfz28_5 := qA BK290.out 5))
     go_ret
     exact ⟨by first | rfl | (simp [qP, qO] <;> rfl) | (simp [*, qP, qO] <;> rfl), bl⟩
   ·rw [if_neg c5] at H
    have c5b0 : (a0_2 == a1_2) = false := beq_eq_false_iff_ne.mpr c5
    have c5b1 : (a0_2 != a1_2) = true := bne_iff_ne.mpr c5
    obtain rfl := Option.some.inj H
    go_enter Try.func26, Try.ntmps26
    go_wp2_with (first | ((with_reducible refine qU (N := 2) rfl ?_); refine qS ?hg (N := 2) ?hd (cs := #[.int .i64 a0_0, .int .i64 a0_1, .int .i64 a0_2, .int .i64 a0_3, .int .i64 a0_4, .int .i64 a0_5]) (t := 29) ?hr ?_; (case hd => rfl); (case hg => rfl); (case hr => first | (go_simp; done) | (go_simp; rfl)); intro gb289 hg w29 hbox hb; have n0_ := Aside0.mk (qF bl hb); have n1_ := Aside0.mk (hbox); have n2_ := Aside0.mk ((gg hg)); have n3_ := Aside0.mk ((gg hg)); clear HB; have HB := n0_; have BK289 := n1_; have GW289 := n2_; have GE289 := n3_; clear n0_ n1_ n2_ n3_; clear hb hbox hg) | ((with_reducible refine qU (N := 3) rfl ?_); refine qS ?hg (N := 3) ?hd (cs := #[.int .i64 a1_0, .int .i64 a1_1, .int .i64 a1_2, .int .i64 a1_3, .int .i64 a1_4, .int .i64 a1_5]) (t := 29) ?hr ?_; (case hd => rfl); (case hg => rfl); (case hr => first | (go_simp; done) | (go_simp; rfl)); intro gb290 hg w30 hbox hb; have n0_ := Aside0.mk (bb BK289 hb); have n1_ := Aside0.mk (qF bl hb); have n2_ := Aside0.mk (hbox); have n3_ := Aside0.mk ((gg hg)); have n4_ := Aside0.mk ((gg hg)); have n5_ := Aside0.mk ((nl BK289 hg)); have n6_ := Aside0.mk ((nr BK289 hg)); clear BK289; clear HB; have BK289 := n0_; have HB := n1_; have BK290 := n2_; have GW290 := n3_; have GE290 := n4_; have NB289_290 := n5_; have NB290_289 := n6_; clear n0_ n1_ n2_ n3_ n4_ n5_ n6_; clear hb hbox hg; have hnb31 := NB289_290.out; have hnc31 := NB290_289.out; have hcz32_0 := bc BK289 0; have hcz32_1 := bc BK289 1; have hcz32_2 := bc BK289 2; have hcz32_3 := bc BK289 3; have hcz32_4 := bc BK289 4; have hcz32_5 := bc BK289 5; have hfz32_0 := qA BK289.out 0; have hfz32_1 := qA BK289.out 1; have hfz32_2 := qA BK289.out 2; have hfz32_3 := qA BK289.out 3; have hfz32_4 := qA BK289.out 4; have hfz32_5 := qA BK289.out 5; have hcz33_0 := bc BK290 0; have hcz33_1 := bc BK290 1; have hcz33_2 := bc BK290 2; have hcz33_3 := bc BK290 3; have hcz33_4 := bc BK290 4; have hcz33_5 := bc BK290 5; have hfz33_0 := qA BK290.out 0; have hfz33_1 := qA BK290.out 1; have hfz33_2 := qA BK290.out 2; have hfz33_3 := qA BK290.out 3; have hfz33_4 := qA BK290.out 4; have hfz33_5 := qA BK290.out 5))
    go_ret
    exact ⟨by first | rfl | (simp [qP, qO] <;> rfl) | (simp [*, qP, qO] <;> rfl), bl⟩
  ·rw [if_neg c4] at H
   have c4b0 : (a0_1 == a1_1) = false := beq_eq_false_iff_ne.mpr c4
   have c4b1 : (a0_1 != a1_1) = true := bne_iff_ne.mpr c4
   obtain rfl := Option.some.inj H
   go_enter Try.func26, Try.ntmps26
   go_wp2_with (first | ((with_reducible refine qU (N := 2) rfl ?_); refine qS ?hg (N := 2) ?hd (cs := #[.int .i64 a0_0, .int .i64 a0_1, .int .i64 a0_2, .int .i64 a0_3, .int .i64 a0_4, .int .i64 a0_5]) (t := 29) ?hr ?_; (case hd => rfl); (case hg => rfl); (case hr => first | (go_simp; done) | (go_simp; rfl)); intro gb289 hg w34 hbox hb; have n0_ := Aside0.mk (qF bl hb); have n1_ := Aside0.mk (hbox); have n2_ := Aside0.mk ((gg hg)); have n3_ := Aside0.mk ((gg hg)); clear HB; have HB := n0_; have BK289 := n1_; have GW289 := n2_; have GE289 := n3_; clear n0_ n1_ n2_ n3_; clear hb hbox hg) | ((with_reducible refine qU (N := 3) rfl ?_); refine qS ?hg (N := 3) ?hd (cs := #[.int .i64 a1_0, .int .i64 a1_1, .int .i64 a1_2, .int .i64 a1_3, .int .i64 a1_4, .int .i64 a1_5]) (t := 29) ?hr ?_; (case hd => rfl); (case hg => rfl); (case hr => first | (go_simp; done) | (go_simp; rfl)); intro gb290 hg w35 hbox hb; have n0_ := Aside0.mk (bb BK289 hb); have n1_ := Aside0.mk (qF bl hb); have n2_ := Aside0.mk (hbox); have n3_ := Aside0.mk ((gg hg)); have n4_ := Aside0.mk ((gg hg)); have n5_ := Aside0.mk ((nl BK289 hg)); have n6_ := Aside0.mk ((nr BK289 hg)); clear BK289; clear HB; have BK289 := n0_; have HB := n1_; have BK290 := n2_; have GW290 := n3_; have GE290 := n4_; have NB289_290 := n5_; have NB290_289 := n6_; clear n0_ n1_ n2_ n3_ n4_ n5_ n6_; clear hb hbox hg; have hnb36 := NB289_290.out; have hnc36 := NB290_289.out; have hcz37_0 := bc BK289 0; have hcz37_1 := bc BK289 1; have hcz37_2 := bc BK289 2; have hcz37_3 := bc BK289 3; have hcz37_4 := bc BK289 4; have hcz37_5 := bc BK289 5; have hfz37_0 := qA BK289.out 0; have hfz37_1 := qA BK289.out 1; have hfz37_2 := qA BK289.out 2; have hfz37_3 := qA BK289.out 3; have hfz37_4 := qA BK289.out 4; have hfz37_5 := qA BK289.out 5; have hcz38_0 := bc BK290 0; have hcz38_1 := bc BK290 1; have hcz38_2 := bc BK290 2; have hcz38_3 := bc BK290 3; have hcz38_4 := bc BK290 4; have hcz38_5 := bc BK290 5; have hfz38_0 := qA BK290.out 0; have hfz38_1 := qA BK290.out 1; have hfz38_2 := qA BK290.out 2; have hfz38_3 := qA BK290.out 3; have hfz38_4 := qA BK290.out 4; have hfz38_5 := qA BK290.out 5))
   go_ret
   exact ⟨by first | rfl | (simp [qP, qO] <;> rfl) | (simp [*, qP, qO] <;> rfl), bl⟩
 ·rw [if_neg c3] at H
  have c3b0 : (a0_0 == a1_0) = false := beq_eq_false_iff_ne.mpr c3
  have c3b1 : (a0_0 != a1_0) = true := bne_iff_ne.mpr c3
  obtain rfl := Option.some.inj H
  go_enter Try.func26, Try.ntmps26
  go_wp2_with (first | ((with_reducible refine qU (N := 2) rfl ?_); refine qS ?hg (N := 2) ?hd (cs := #[.int .i64 a0_0, .int .i64 a0_1, .int .i64 a0_2, .int .i64 a0_3, .int .i64 a0_4, .int .i64 a0_5]) (t := 29) ?hr ?_; (case hd => rfl); (case hg => rfl); (case hr => first | (go_simp; done) | (go_simp; rfl)); intro gb289 hg w39 hbox hb; have n0_ := Aside0.mk (qF bl hb); have n1_ := Aside0.mk (hbox); have n2_ := Aside0.mk ((gg hg)); have n3_ := Aside0.mk ((gg hg)); clear HB; have HB := n0_; have BK289 := n1_; have GW289 := n2_; have GE289 := n3_; clear n0_ n1_ n2_ n3_; clear hb hbox hg) | ((with_reducible refine qU (N := 3) rfl ?_); refine qS ?hg (N := 3) ?hd (cs := #[.int .i64 a1_0, .int .i64 a1_1, .int .i64 a1_2, .int .i64 a1_3, .int .i64 a1_4, .int .i64 a1_5]) (t := 29) ?hr ?_; (case hd => rfl); (case hg => rfl); (case hr => first | (go_simp; done) | (go_simp; rfl)); intro gb290 hg w40 hbox hb; have n0_ := Aside0.mk (bb BK289 hb); have n1_ := Aside0.mk (qF bl hb); have n2_ := Aside0.mk (hbox); have n3_ := Aside0.mk ((gg hg)); have n4_ := Aside0.mk ((gg hg)); have n5_ := Aside0.mk ((nl BK289 hg)); have n6_ := Aside0.mk ((nr BK289 hg)); clear BK289; clear HB; have BK289 := n0_; have HB := n1_; have BK290 := n2_; have GW290 := n3_; have GE290 := n4_; have NB289_290 := n5_; have NB290_289 := n6_; clear n0_ n1_ n2_ n3_ n4_ n5_ n6_; clear hb hbox hg; have hnb41 := NB289_290.out; have hnc41 := NB290_289.out; have hcz42_0 := bc BK289 0; have hcz42_1 := bc BK289 1; have hcz42_2 := bc BK289 2; have hcz42_3 := bc BK289 3; have hcz42_4 := bc BK289 4; have hcz42_5 := bc BK289 5; have hfz42_0 := qA BK289.out 0; have hfz42_1 := qA BK289.out 1; have hfz42_2 := qA BK289.out 2; have hfz42_3 := qA BK289.out 3; have hfz42_4 := qA BK289.out 4; have hfz42_5 := qA BK289.out 5; have hcz43_0 := bc BK290 0; have hcz43_1 := bc BK290 1; have hcz43_2 := bc BK290 2; have hcz43_3 := bc BK290 3; have hcz43_4 := bc BK290 4; have hcz43_5 := bc BK290 5; have hfz43_0 := qA BK290.out 0; have hfz43_1 := qA BK290.out 1; have hfz43_2 := qA BK290.out 2; have hfz43_3 := qA BK290.out 3; have hfz43_4 := qA BK290.out 4; have hfz43_5 := qA BK290.out 5))
  go_ret
  exact ⟨by first | rfl | (simp [qP, qO] <;> rfl) | (simp [*, qP, qO] <;> rfl), bl⟩
def qX.l0 : Nat → List (S29) → List (S29) → Int → Option (Bool)
 | 0, _, _, _ => none
 | k + 1, x0, x1, x5 => if x5 < (x0.length : Int) then (if 0 ≤ x5 then (if x5 < (x1.length : Int) then ((qPA.f ((qB x0 x5).f0) ((qB x0 x5).f1) ((qB x0 x5).f2) ((qB x0 x5).f3) ((qB x0 x5).f4) ((qB x0 x5).f5) ((qB x1 x5).f0) ((qB x1 x5).f1) ((qB x1 x5).f2) ((qB x1 x5).f3) ((qB x1 x5).f4) ((qB x1 x5).f5)).bind fun t293 => (if t293 = true then (qX.l0 k x0 x1 (wrap64 (x5 + 1))) else (some false))) else (none)) else (none)) else (some true)
def qX.f (k : Nat) (l0 : List (S29)) (l1 : List (S29)) : Option (Bool) := if (l0.length : Int) = (l1.length : Int) then (qX.l0 k l0 l1 0) else (some false)
def qX.T6 : Bool × List (List Nat × List Nat) := (true, [([], []), ([], []), ([0, 1], [0, 1]), ([2], [2]), ([], []), ([], []), ([4, 5], [4, 5]), ([6], [6]), ([3, 7], [3, 7]), ([8], [8])])
def qX.B6 : List Nat := [0, 0, 3, 7, 0, 0, 48, 112, 255, 511]
theorem qX.tab6 : rtab .any (opsOf Try.f21 6) = qX.T6 := by kernel_rfl
theorem qX.bits6 : waitsOk qX.T6.2 qX.B6 = true := by kernel_rfl
set_option maxHeartbeats 8000000 in
set_option maxRecDepth 100000 in
theorem qX.calls (k : Nat) (A0 : Option Addr) (c0 : Nat) (l0 : List (S29)) (A1 : Option Addr) (c1 : Nat) (l1 : List (S29)) (r : Bool) (w : World) (hr0 : Kd.C k29 w A0 l0.length l0) (hc0 : l0.length ≤ c0) (hr1 : Kd.C k29 w A1 l1.length l1) (hc1 : l1.length ≤ c1) (h : qX.f k l0 l1 = some r) :
  Calls Try.prog 21 #[.slice A0 l0.length c0, .slice A1 l1.length c1] w fun e w' => e = .returned (.bool r) ∧ Below w.heap.size w w' := by
 have hu29 := Try.underlying29
 have HR0 := Aside0.mk hr0
 have HC0 := Aside0.mk hc0
 clear hr0 hc0
 have HR1 := Aside0.mk hr1
 have HC1 := Aside0.mk hc1
 clear hr1 hc1
 have HB := Aside0.mk (Below.refl w.heap.size w)
 have H : (if (l0.length : Int) = (l1.length : Int) then (qX.l0 k l0 l1 0) else (some false)) = some r := h
 clear h
 by_cases c3 : (l0.length : Int) = (l1.length : Int)
 ·rw [if_pos c3] at H
  have c3b0 : ((l0.length : Int) == (l1.length : Int)) = true := beq_iff_eq.mpr c3
  have c3b1 : ((l0.length : Int) != (l1.length : Int)) = false := bne_eq_false_iff_eq.mpr c3
  have c3b2 : (l0.length == l1.length) = true := by first | simpa using c3 | (simp at c3 ⊢; omega)
  clear c3
  have H' := Aside0.mk H
  clear H
  go_enter Try.func21, Try.ntmps21
  go_wp2
  go_loopg [5] k (fun kq v5 w' => ∃ (x5_1 : Int), v5 = .int .i64 x5_1 ∧ Aside0 (qX.l0 kq l0 l1 x5_1 = some r) ∧ Aside0 (kq ≤ k) ∧ Aside0 (Below w.heap.size w w'))
  case atStart => exact ⟨(0), (by first | rfl | (simp; done) | (simp [*]; done)), H', ⟨Nat.le_refl _⟩, ⟨bl⟩⟩
  case round =>
   clear H'
   try clear c1
   try clear c2
   try clear p2
   try clear c3
   try clear c3b0
   try clear c3b1
   try clear c3b2
   obtain ⟨x5_1, rfl, HA, HK1, HB⟩ := hrel
   cases gk with
   | zero => exact absurd HA.out (by simp [qX.l0])
   | succ k1 =>
    have H := HA.out
    clear HA
    simp only [qX.l0] at H
    by_cases c4 : x5_1 < (l0.length : Int)
    ·rw [if_pos c4] at H
     have c4b0 : decide (x5_1 < (l0.length : Int)) = true := decide_eq_true c4
     clear c4
     by_cases c5 : 0 ≤ x5_1
     ·rw [if_pos c5] at H
      have c5b0 : decide (0 ≤ x5_1) = true := decide_eq_true c5
      clear c5
      by_cases c6 : x5_1 < (l1.length : Int)
      ·rw [if_pos c6] at H
       have c6b0 : decide (x5_1 < (l1.length : Int)) = true := decide_eq_true c6
       clear c6
       replace H := Option.bind_eq_some_iff.mp H
       obtain ⟨t293, A70, H⟩ := H
       replace H : (if t293 = true then (qX.l0 k1 l0 l1 (wrap64 (x5_1 + 1))) else (some false)) = some r := H
       have A7 := Aside0.mk A70
       clear A70
       by_cases c8 : t293 = true
       ·subst c8
        have H1 : (qX.l0 k1 l0 l1 (wrap64 (x5_1 + 1))) = some r := by rw [if_pos rfl] at H; exact H
        clear H
        have H := H1
        clear H1
        have H' := Aside0.mk H
        clear H
        try go_wp2
        have n0_ := Aside0.mk (qt HB.out)
        clear HB
        have HB := n0_
        clear n0_
        have p291 : 0 ≤ (x5_1 : Int) := of_decide_eq_true (by first | (with_reducible assumption) | assumption)
        have q291 : x5_1 < (l0.length : Int) := of_decide_eq_true (by first | (with_reducible assumption) | assumption)
        obtain ⟨ad291, e291, hx291_0, hx291_1, hx291_2, hx291_3, hx291_4, hx291_5⟩ := qOA HR0.out x5_1 p291 q291
        have hw291_5 := hx291_5
        have hw291_4 := hx291_4
        have hw291_3 := hx291_3
        have hw291_2 := hx291_2
        have hw291_1 := hx291_1
        have hw291_0 := hx291_0
        cases e291
        replace hx291_0 := (HB.out.cell (World.block_lt_of_cell? w _ hx291_0)).trans hx291_0
        replace hx291_1 := (HB.out.cell (World.block_lt_of_cell? w _ hx291_1)).trans hx291_1
        replace hx291_2 := (HB.out.cell (World.block_lt_of_cell? w _ hx291_2)).trans hx291_2
        replace hx291_3 := (HB.out.cell (World.block_lt_of_cell? w _ hx291_3)).trans hx291_3
        replace hx291_4 := (HB.out.cell (World.block_lt_of_cell? w _ hx291_4)).trans hx291_4
        replace hx291_5 := (HB.out.cell (World.block_lt_of_cell? w _ hx291_5)).trans hx291_5
        replace p291 := eq_true p291
        replace q291 := eq_true q291
        have p292 : 0 ≤ (x5_1 : Int) := of_decide_eq_true (by first | (with_reducible assumption) | assumption)
        have q292 : x5_1 < (l1.length : Int) := of_decide_eq_true (by first | (with_reducible assumption) | assumption)
        obtain ⟨ad292, e292, hx292_0, hx292_1, hx292_2, hx292_3, hx292_4, hx292_5⟩ := qOA HR1.out x5_1 p292 q292
        have hw292_5 := hx292_5
        have hw292_4 := hx292_4
        have hw292_3 := hx292_3
        have hw292_2 := hx292_2
        have hw292_1 := hx292_1
        have hw292_0 := hx292_0
        cases e292
        replace hx292_0 := (HB.out.cell (World.block_lt_of_cell? w _ hx292_0)).trans hx292_0
        replace hx292_1 := (HB.out.cell (World.block_lt_of_cell? w _ hx292_1)).trans hx292_1
        replace hx292_2 := (HB.out.cell (World.block_lt_of_cell? w _ hx292_2)).trans hx292_2
        replace hx292_3 := (HB.out.cell (World.block_lt_of_cell? w _ hx292_3)).trans hx292_3
        replace hx292_4 := (HB.out.cell (World.block_lt_of_cell? w _ hx292_4)).trans hx292_4
        replace hx292_5 := (HB.out.cell (World.block_lt_of_cell? w _ hx292_5)).trans hx292_5
        replace p292 := eq_true p292
        replace q292 := eq_true q292
        refine qyA (n := 10) (S := fun w' => w'.cell? (ad291.add ((x5_1).toNat * 6)) = some (.int .i64 ((qB l0 x5_1).f0)) ∧ w'.cell? ⟨(ad291.add ((x5_1).toNat * 6)).block, (ad291.add ((x5_1).toNat * 6)).off + 1, none⟩ = some (.int .i64 ((qB l0 x5_1).f1)) ∧ w'.cell? ⟨(ad291.add ((x5_1).toNat * 6)).block, (ad291.add ((x5_1).toNat * 6)).off + 2, none⟩ = some (.int .i64 ((qB l0 x5_1).f2)) ∧ w'.cell? ⟨(ad291.add ((x5_1).toNat * 6)).block, (ad291.add ((x5_1).toNat * 6)).off + 3, none⟩ = some (.int .i64 ((qB l0 x5_1).f3)) ∧ w'.cell? ⟨(ad291.add ((x5_1).toNat * 6)).block, (ad291.add ((x5_1).toNat * 6)).off + 4, none⟩ = some (.int .i64 ((qB l0 x5_1).f4)) ∧ w'.cell? ⟨(ad291.add ((x5_1).toNat * 6)).block, (ad291.add ((x5_1).toNat * 6)).off + 5, none⟩ = some (.int .i64 ((qB l0 x5_1).f5)) ∧ w'.cell? (ad292.add ((x5_1).toNat * 6)) = some (.int .i64 ((qB l1 x5_1).f0)) ∧ w'.cell? ⟨(ad292.add ((x5_1).toNat * 6)).block, (ad292.add ((x5_1).toNat * 6)).off + 1, none⟩ = some (.int .i64 ((qB l1 x5_1).f1)) ∧ w'.cell? ⟨(ad292.add ((x5_1).toNat * 6)).block, (ad292.add ((x5_1).toNat * 6)).off + 2, none⟩ = some (.int .i64 ((qB l1 x5_1).f2)) ∧ w'.cell? ⟨(ad292.add ((x5_1).toNat * 6)).block, (ad292.add ((x5_1).toNat * 6)).off + 3, none⟩ = some (.int .i64 ((qB l1 x5_1).f3)) ∧ w'.cell? ⟨(ad292.add ((x5_1).toNat * 6)).block, (ad292.add ((x5_1).toNat * 6)).off + 4, none⟩ = some (.int .i64 ((qB l1 x5_1).f4)) ∧ w'.cell? ⟨(ad292.add ((x5_1).toNat * 6)).block, (ad292.add ((x5_1).toNat * 6)).off + 5, none⟩ = some (.int .i64 ((qB l1 x5_1).f5))) (ds := []) #[false, false, false, false, false, false, false, false, false, false] (by kernel_rfl) rfl rfl ⟨((HB.out.cell (World.block_lt_of_cell? w _ hw291_0)).trans hw291_0), ((HB.out.cell (World.block_lt_of_cell? w _ hw291_1)).trans hw291_1), ((HB.out.cell (World.block_lt_of_cell? w _ hw291_2)).trans hw291_2), ((HB.out.cell (World.block_lt_of_cell? w _ hw291_3)).trans hw291_3), ((HB.out.cell (World.block_lt_of_cell? w _ hw291_4)).trans hw291_4), ((HB.out.cell (World.block_lt_of_cell? w _ hw291_5)).trans hw291_5), ((HB.out.cell (World.block_lt_of_cell? w _ hw292_0)).trans hw292_0), ((HB.out.cell (World.block_lt_of_cell? w _ hw292_1)).trans hw292_1), ((HB.out.cell (World.block_lt_of_cell? w _ hw292_2)).trans hw292_2), ((HB.out.cell (World.block_lt_of_cell? w _ hw292_3)).trans hw292_3), ((HB.out.cell (World.block_lt_of_cell? w _ hw292_4)).trans hw292_4), ((HB.out.cell (World.block_lt_of_cell? w _ hw292_5)).trans hw292_5)⟩ (fun hHeld => ?_); refine qbA qX.tab6 qX.bits6 (fun HT_ HW_ => ?_)
        generalize wr.drew = w9 at HB hx291_0 hx291_1 hx291_2 hx291_3 hx291_4 hx291_5 hx292_0 hx292_1 hx292_2 hx292_3 hx292_4 hx292_5 hHeld ⊢
        refine pS (i := 0) (N := some 17) #[true, false, false, false, false, false, false, false, false, false] HT_ ?_
        refine pS (i := 1) (N := some 18) #[true, true, false, false, false, false, false, false, false, false] HT_ ?_
        refine pS (i := 2) (N := some 19) #[true, true, true, false, false, false, false, false, false, false] HT_ ?_
        refine pS (i := 4) (N := some 21) #[true, true, true, false, true, false, false, false, false, false] HT_ ?_
        refine pS (i := 5) (N := some 22) #[true, true, true, false, true, true, false, false, false, false] HT_ ?_
        refine pS (i := 6) (N := some 23) #[true, true, true, false, true, true, true, false, false, false] HT_ ?_
        refine tS (i := 3) (N := some 20) #[true, true, true, true, true, true, true, false, false, false] HT_ HW_ hHeld ?_
        refine tS (i := 7) (N := some 24) #[true, true, true, true, true, true, true, true, false, false] HT_ HW_ hHeld ?_
        refine one_ (i := 8) (N := some 25) #[true, true, true, true, true, true, true, true, true, false] rfl rfl (qsA HT_.out (by kernel_rfl)) (by decide) (fun K hK => ?_)
        refine goes_ Try.func26 (by kernel_rfl) rfl #[.agg #[.int .i64 ((qB l0 x5_1).f0), .int .i64 ((qB l0 x5_1).f1), .int .i64 ((qB l0 x5_1).f2), .int .i64 ((qB l0 x5_1).f3), .int .i64 ((qB l0 x5_1).f4), .int .i64 ((qB l0 x5_1).f5)], .agg #[.int .i64 ((qB l1 x5_1).f0), .int .i64 ((qB l1 x5_1).f1), .int .i64 ((qB l1 x5_1).f2), .int .i64 ((qB l1 x5_1).f3), .int .i64 ((qB l1 x5_1).f4), .int .i64 ((qB l1 x5_1).f5)]] (by rfl) rfl rfl (by (try simp only [List.map_toArray, List.map_cons, List.map_nil]); first | done | rfl | (simp only [List.length_drop, List.length_take]; rfl)) ?_
        with_reducible refine (qPA.calls ((qB l0 x5_1).f0) ((qB l0 x5_1).f1) ((qB l0 x5_1).f2) ((qB l0 x5_1).f3) ((qB l0 x5_1).f4) ((qB l0 x5_1).f5) ((qB l1 x5_1).f0) ((qB l1 x5_1).f1) ((qB l1 x5_1).f2) ((qB l1 x5_1).f3) ((qB l1 x5_1).f4) ((qB l1 x5_1).f5) true _ A7.out).mono ?_
        rintro e w10 ⟨rfl, hb⟩
        refine ⟨_, rfl, ?_⟩
        have n0_ := Aside0.mk (qF bl hb)
        clear HB
        have HB := n0_
        clear n0_
        (try clear hb)
        (try clear hb2)
        (try clear hk)
        (try clear hi)
        refine hK.out _ _ ⟨((HB.out.cell (World.block_lt_of_cell? w _ hw291_0)).trans hw291_0), ((HB.out.cell (World.block_lt_of_cell? w _ hw291_1)).trans hw291_1), ((HB.out.cell (World.block_lt_of_cell? w _ hw291_2)).trans hw291_2), ((HB.out.cell (World.block_lt_of_cell? w _ hw291_3)).trans hw291_3), ((HB.out.cell (World.block_lt_of_cell? w _ hw291_4)).trans hw291_4), ((HB.out.cell (World.block_lt_of_cell? w _ hw291_5)).trans hw291_5), ((HB.out.cell (World.block_lt_of_cell? w _ hw292_0)).trans hw292_0), ((HB.out.cell (World.block_lt_of_cell? w _ hw292_1)).trans hw292_1), ((HB.out.cell (World.block_lt_of_cell? w _ hw292_2)).trans hw292_2), ((HB.out.cell (World.block_lt_of_cell? w _ hw292_3)).trans hw292_3), ((HB.out.cell (World.block_lt_of_cell? w _ hw292_4)).trans hw292_4), ((HB.out.cell (World.block_lt_of_cell? w _ hw292_5)).trans hw292_5)⟩ (fun hHeld => ?_)
        clear hK K
        refine norm_ (a' := ?_) ?_ ?_
        rotate_left
        ·show Act.put _ (some 25) _ = _
         simp only [Act.put, List.setIfInBounds_toArray, List.set_cons_zero, List.set_cons_succ, i64_w, i32_w]
         rfl
        refine pS (i := 9) (N := some 26) #[true, true, true, true, true, true, true, true, true, true] HT_ ?_
        refine done_ (qBB HT_.out (by kernel_rfl)) ?_
        try go_wp2
        go_roundg k1
        case measure => have := HK1.out; omega
        case rel => exact ⟨(wrap64 (x5_1 + 1)), (by first | rfl | (simp; done) | (simp [*]; done)), H', ⟨by have := HK1.out; omega⟩, ⟨bl⟩⟩
       ·replace c8 := Bool.eq_false_iff.mpr c8
        subst c8
        have H1 : (some false) = some r := by rw [if_neg (show ¬ (false = true) by decide)] at H; exact H
        clear H
        have H := H1
        clear H1
        obtain rfl := Option.some.inj H
        try go_wp2
        have n0_ := Aside0.mk (qt HB.out)
        clear HB
        have HB := n0_
        clear n0_
        have p291 : 0 ≤ (x5_1 : Int) := of_decide_eq_true (by first | (with_reducible assumption) | assumption)
        have q291 : x5_1 < (l0.length : Int) := of_decide_eq_true (by first | (with_reducible assumption) | assumption)
        obtain ⟨ad291, e291, hx291_0, hx291_1, hx291_2, hx291_3, hx291_4, hx291_5⟩ := qOA HR0.out x5_1 p291 q291
        have hw291_5 := hx291_5
        have hw291_4 := hx291_4
        have hw291_3 := hx291_3
        have hw291_2 := hx291_2
        have hw291_1 := hx291_1
        have hw291_0 := hx291_0
        cases e291
        replace hx291_0 := (HB.out.cell (World.block_lt_of_cell? w _ hx291_0)).trans hx291_0
        replace hx291_1 := (HB.out.cell (World.block_lt_of_cell? w _ hx291_1)).trans hx291_1
        replace hx291_2 := (HB.out.cell (World.block_lt_of_cell? w _ hx291_2)).trans hx291_2
        replace hx291_3 := (HB.out.cell (World.block_lt_of_cell? w _ hx291_3)).trans hx291_3
        replace hx291_4 := (HB.out.cell (World.block_lt_of_cell? w _ hx291_4)).trans hx291_4
        replace hx291_5 := (HB.out.cell (World.block_lt_of_cell? w _ hx291_5)).trans hx291_5
        replace p291 := eq_true p291
        replace q291 := eq_true q291
        have p292 : 0 ≤ (x5_1 : Int) := of_decide_eq_true (by first | (with_reducible assumption) | assumption)
        have q292 : x5_1 < (l1.length : Int) := of_decide_eq_true (by first | (with_reducible assumption) | assumption)
        obtain ⟨ad292, e292, hx292_0, hx292_1, hx292_2, hx292_3, hx292_4, hx292_5⟩ := qOA HR1.out x5_1 p292 q292
        have hw292_5 := hx292_5
        have hw292_4 := hx292_4
        have hw292_3 := hx292_3
        have hw292_2 := hx292_2
        have hw292_1 := hx292_1
        have hw292_0 := hx292_0
        cases e292
        replace hx292_0 := (HB.out.cell (World.block_lt_of_cell? w _ hx292_0)).trans hx292_0
        replace hx292_1 := (HB.out.cell (World.block_lt_of_cell? w _ hx292_1)).trans hx292_1
        replace hx292_2 := (HB.out.cell (World.block_lt_of_cell? w _ hx292_2)).trans hx292_2
        replace hx292_3 := (HB.out.cell (World.block_lt_of_cell? w _ hx292_3)).trans hx292_3
        replace hx292_4 := (HB.out.cell (World.block_lt_of_cell? w _ hx292_4)).trans hx292_4
        replace hx292_5 := (HB.out.cell (World.block_lt_of_cell? w _ hx292_5)).trans hx292_5
        replace p292 := eq_true p292
        replace q292 := eq_true q292
        refine qyA (n := 10) (S := fun w' => w'.cell? (ad291.add ((x5_1).toNat * 6)) = some (.int .i64 ((qB l0 x5_1).f0)) ∧ w'.cell? ⟨(ad291.add ((x5_1).toNat * 6)).block, (ad291.add ((x5_1).toNat * 6)).off + 1, none⟩ = some (.int .i64 ((qB l0 x5_1).f1)) ∧ w'.cell? ⟨(ad291.add ((x5_1).toNat * 6)).block, (ad291.add ((x5_1).toNat * 6)).off + 2, none⟩ = some (.int .i64 ((qB l0 x5_1).f2)) ∧ w'.cell? ⟨(ad291.add ((x5_1).toNat * 6)).block, (ad291.add ((x5_1).toNat * 6)).off + 3, none⟩ = some (.int .i64 ((qB l0 x5_1).f3)) ∧ w'.cell? ⟨(ad291.add ((x5_1).toNat * 6)).block, (ad291.add ((x5_1).toNat * 6)).off + 4, none⟩ = some (.int .i64 ((qB l0 x5_1).f4)) ∧ w'.cell? ⟨(ad291.add ((x5_1).toNat * 6)).block, (ad291.add ((x5_1).toNat * 6)).off + 5, none⟩ = some (.int .i64 ((qB l0 x5_1).f5)) ∧ w'.cell? (ad292.add ((x5_1).toNat * 6)) = some (.int .i64 ((qB l1 x5_1).f0)) ∧ w'.cell? ⟨(ad292.add ((x5_1).toNat * 6)).block, (ad292.add ((x5_1).toNat * 6)).off + 1, none⟩ = some (.int .i64 ((qB l1 x5_1).f1)) ∧ w'.cell? ⟨(ad292.add ((x5_1).toNat * 6)).block, (ad292.add ((x5_1).toNat * 6)).off + 2, none⟩ = some (.int .i64 ((qB l1 x5_1).f2)) ∧ w'.cell? ⟨(ad292.add ((x5_1).toNat * 6)).block, (ad292.add ((x5_1).toNat * 6)).off + 3, none⟩ = some (.int .i64 ((qB l1 x5_1).f3)) ∧ w'.cell? ⟨(ad292.add ((x5_1).toNat * 6)).block, (ad292.add ((x5_1).toNat * 6)).off + 4, none⟩ = some (.int .i64 ((qB l1 x5_1).f4)) ∧ w'.cell? ⟨(ad292.add ((x5_1).toNat * 6)).block, (ad292.add ((x5_1).toNat * 6)).off + 5, none⟩ = some (.int .i64 ((qB l1 x5_1).f5))) (ds := []) #[false, false, false, false, false, false, false, false, false, false] (by kernel_rfl) rfl rfl ⟨((HB.out.cell (World.block_lt_of_cell? w _ hw291_0)).trans hw291_0), ((HB.out.cell (World.block_lt_of_cell? w _ hw291_1)).trans hw291_1), ((HB.out.cell (World.block_lt_of_cell? w _ hw291_2)).trans hw291_2), ((HB.out.cell (World.block_lt_of_cell? w _ hw291_3)).trans hw291_3), ((HB.out.cell (World.block_lt_of_cell? w _ hw291_4)).trans hw291_4), ((HB.out.cell (World.block_lt_of_cell? w _ hw291_5)).trans hw291_5), ((HB.out.cell (World.block_lt_of_cell? w _ hw292_0)).trans hw292_0), ((HB.out.cell (World.block_lt_of_cell? w _ hw292_1)).trans hw292_1), ((HB.out.cell (World.block_lt_of_cell? w _ hw292_2)).trans hw292_2), ((HB.out.cell (World.block_lt_of_cell? w _ hw292_3)).trans hw292_3), ((HB.out.cell (World.block_lt_of_cell? w _ hw292_4)).trans hw292_4), ((HB.out.cell (World.block_lt_of_cell? w _ hw292_5)).trans hw292_5)⟩ (fun hHeld => ?_); refine qbA qX.tab6 qX.bits6 (fun HT_ HW_ => ?_)
        generalize wr.drew = w11 at HB hx291_0 hx291_1 hx291_2 hx291_3 hx291_4 hx291_5 hx292_0 hx292_1 hx292_2 hx292_3 hx292_4 hx292_5 hHeld ⊢
        refine pS (i := 0) (N := some 17) #[true, false, false, false, false, false, false, false, false, false] HT_ ?_
        refine pS (i := 1) (N := some 18) #[true, true, false, false, false, false, false, false, false, false] HT_ ?_
        refine pS (i := 2) (N := some 19) #[true, true, true, false, false, false, false, false, false, false] HT_ ?_
        refine pS (i := 4) (N := some 21) #[true, true, true, false, true, false, false, false, false, false] HT_ ?_
        refine pS (i := 5) (N := some 22) #[true, true, true, false, true, true, false, false, false, false] HT_ ?_
        refine pS (i := 6) (N := some 23) #[true, true, true, false, true, true, true, false, false, false] HT_ ?_
        refine tS (i := 3) (N := some 20) #[true, true, true, true, true, true, true, false, false, false] HT_ HW_ hHeld ?_
        refine tS (i := 7) (N := some 24) #[true, true, true, true, true, true, true, true, false, false] HT_ HW_ hHeld ?_
        refine one_ (i := 8) (N := some 25) #[true, true, true, true, true, true, true, true, true, false] rfl rfl (qsA HT_.out (by kernel_rfl)) (by decide) (fun K hK => ?_)
        refine goes_ Try.func26 (by kernel_rfl) rfl #[.agg #[.int .i64 ((qB l0 x5_1).f0), .int .i64 ((qB l0 x5_1).f1), .int .i64 ((qB l0 x5_1).f2), .int .i64 ((qB l0 x5_1).f3), .int .i64 ((qB l0 x5_1).f4), .int .i64 ((qB l0 x5_1).f5)], .agg #[.int .i64 ((qB l1 x5_1).f0), .int .i64 ((qB l1 x5_1).f1), .int .i64 ((qB l1 x5_1).f2), .int .i64 ((qB l1 x5_1).f3), .int .i64 ((qB l1 x5_1).f4), .int .i64 ((qB l1 x5_1).f5)]] (by rfl) rfl rfl (by (try simp only [List.map_toArray, List.map_cons, List.map_nil]); first | done | rfl | (simp only [List.length_drop, List.length_take]; rfl)) ?_
        with_reducible refine (qPA.calls ((qB l0 x5_1).f0) ((qB l0 x5_1).f1) ((qB l0 x5_1).f2) ((qB l0 x5_1).f3) ((qB l0 x5_1).f4) ((qB l0 x5_1).f5) ((qB l1 x5_1).f0) ((qB l1 x5_1).f1) ((qB l1 x5_1).f2) ((qB l1 x5_1).f3) ((qB l1 x5_1).f4) ((qB l1 x5_1).f5) false _ A7.out).mono ?_
        rintro e w12 ⟨rfl, hb⟩
        refine ⟨_, rfl, ?_⟩
        have n0_ := Aside0.mk (qF bl hb)
        clear HB
        have HB := n0_
        clear n0_
        (try clear hb)
        (try clear hb2)
        (try clear hk)
        (try clear hi)
        refine hK.out _ _ ⟨((HB.out.cell (World.block_lt_of_cell? w _ hw291_0)).trans hw291_0), ((HB.out.cell (World.block_lt_of_cell? w _ hw291_1)).trans hw291_1), ((HB.out.cell (World.block_lt_of_cell? w _ hw291_2)).trans hw291_2), ((HB.out.cell (World.block_lt_of_cell? w _ hw291_3)).trans hw291_3), ((HB.out.cell (World.block_lt_of_cell? w _ hw291_4)).trans hw291_4), ((HB.out.cell (World.block_lt_of_cell? w _ hw291_5)).trans hw291_5), ((HB.out.cell (World.block_lt_of_cell? w _ hw292_0)).trans hw292_0), ((HB.out.cell (World.block_lt_of_cell? w _ hw292_1)).trans hw292_1), ((HB.out.cell (World.block_lt_of_cell? w _ hw292_2)).trans hw292_2), ((HB.out.cell (World.block_lt_of_cell? w _ hw292_3)).trans hw292_3), ((HB.out.cell (World.block_lt_of_cell? w _ hw292_4)).trans hw292_4), ((HB.out.cell (World.block_lt_of_cell? w _ hw292_5)).trans hw292_5)⟩ (fun hHeld => ?_)
        clear hK K
        refine norm_ (a' := ?_) ?_ ?_
        rotate_left
        ·show Act.put _ (some 25) _ = _
         simp only [Act.put, List.setIfInBounds_toArray, List.set_cons_zero, List.set_cons_succ, i64_w, i32_w]
         rfl
        refine pS (i := 9) (N := some 26) #[true, true, true, true, true, true, true, true, true, true] HT_ ?_
        refine done_ (qBB HT_.out (by kernel_rfl)) ?_
        try go_wp2
        go_ret
        exact ⟨by first | rfl | (simp [qP, qO] <;> rfl) | (simp [*, qP, qO] <;> rfl), bl⟩
      ·rw [if_neg c6] at H
       exact absurd H (by simp)
     ·rw [if_neg c5] at H
      exact absurd H (by simp)
    ·rw [if_neg c4] at H
     have c4b0 : decide (x5_1 < (l0.length : Int)) = false := decide_eq_false c4
     clear c4
     obtain rfl := Option.some.inj H
     go_wp2
     go_ret
     exact ⟨by first | rfl | (simp [qP, qO] <;> rfl) | (simp [*, qP, qO] <;> rfl), bl⟩
 ·rw [if_neg c3] at H
  have c3b0 : ((l0.length : Int) == (l1.length : Int)) = false := beq_eq_false_iff_ne.mpr c3
  have c3b1 : ((l0.length : Int) != (l1.length : Int)) = true := bne_iff_ne.mpr c3
  have c3b2 : (l0.length == l1.length) = false := by first | simpa using c3 | (simp at c3 ⊢; omega)
  obtain rfl := Option.some.inj H
  go_enter Try.func21, Try.ntmps21
  go_wp2
  go_ret
  exact ⟨by first | rfl | (simp [qP, qO] <;> rfl) | (simp [*, qP, qO] <;> rfl), bl⟩
def qe.l0 : Nat → List (S29) → Int → Int → Option (Int × (List (S29)))
 | 0, _, _, _ => none
 | k + 1, x0, x1, x5 => if x5 < (x0.length : Int) then (if 0 ≤ x5 then ((some (x0.set (x5 : Int).toNat (⟨x1, (qB x0 x5).f1, (qB x0 x5).f2, (qB x0 x5).f3, (qB x0 x5).f4, (qB x0 x5).f5⟩ : S29) : List (S29))).bind fun y522 => ((some (y522.set (x5 : Int).toNat (⟨(qB y522 x5).f0, wrap64 (x1 + 1), (qB y522 x5).f2, (qB y522 x5).f3, (qB y522 x5).f4, (qB y522 x5).f5⟩ : S29) : List (S29))).bind fun y523 => ((some (y523.set (x5 : Int).toNat (⟨(qB y523 x5).f0, (qB y523 x5).f1, wrap64 ((wrap64 (x1 + 1)) + 1), (qB y523 x5).f3, (qB y523 x5).f4, (qB y523 x5).f5⟩ : S29) : List (S29))).bind fun y524 => ((some (y524.set (x5 : Int).toNat (⟨(qB y524 x5).f0, (qB y524 x5).f1, (qB y524 x5).f2, wrap64 ((wrap64 ((wrap64 (x1 + 1)) + 1)) + 1), (qB y524 x5).f4, (qB y524 x5).f5⟩ : S29) : List (S29))).bind fun y525 => ((some (y525.set (x5 : Int).toNat (⟨(qB y525 x5).f0, (qB y525 x5).f1, (qB y525 x5).f2, (qB y525 x5).f3, wrap64 ((wrap64 ((wrap64 ((wrap64 (x1 + 1)) + 1)) + 1)) + 1), (qB y525 x5).f5⟩ : S29) : List (S29))).bind fun y526 => (qe.l0 k (y526.set (x5 : Int).toNat (⟨(qB y526 x5).f0, (qB y526 x5).f1, (qB y526 x5).f2, (qB y526 x5).f3, (qB y526 x5).f4, wrap64 ((wrap64 ((wrap64 ((wrap64 ((wrap64 (x1 + 1)) + 1)) + 1)) + 1)) + 1)⟩ : S29)) (wrap64 ((wrap64 ((wrap64 ((wrap64 ((wrap64 ((wrap64 (x1 + 1)) + 1)) + 1)) + 1)) + 1)) + 1)) (wrap64 (x5 + 1)))))))) else (none)) else (some (x1, x0))
def qe.f (k : Nat) (l0 : List (S29)) (a1 : Int) : Option (Int × (List (S29))) := qe.l0 k l0 a1 0
set_option maxHeartbeats 8000000 in
set_option maxRecDepth 100000 in
theorem qe.calls (k : Nat) (P0_ : Nat → Prop) (u9000_ : Value) (l0 : List (S29)) (a1 : Int) (r1 : Int) (r2 : List (S29)) (w0 w : World) (hB : Below w0.heap.size w0 w) (ho0 : Kd.R k29 29 w w0.heap.size P0_ u9000_ l0) (h : qe.f k l0 a1 = some (r1, r2)) :
  Calls Try.prog 29 #[u9000_, .int .i64 a1] w fun e w' => e = .returned (.int .i64 r1) ∧ Kd.R k29 29 w' w0.heap.size (fun k_ => (P0_ k_ ∨ w.heap.size ≤ k_)) u9000_ r2 ∧ Below w0.heap.size w0 w' ∧ Kept w w' (fun k_ => P0_ k_) := by
 have HO0 := Aside0.mk (show Kd.R k29 29 w w0.heap.size (fun k_ => (P0_ k_ ∨ w.heap.size ≤ k_)) u9000_ l0 from Kd.qa ho0 (fun k_ hk => (.inl hk)))
 have HK := Aside0.mk (Kept.refl w (fun k_ => P0_ k_))
 have HW0 := Aside0.mk hB.size
 have HB := Aside0.mk hB
 clear hB
 have H : (qe.l0 k l0 a1 0) = some (r1, r2) := h
 clear h
 have H' := Aside0.mk H
 clear H
 go_enter Try.func29, Try.ntmps29
 go_wp2
 go_loopg [1, 5] k (fun kq v1 v5 w' => ∃ (x0_1 : List (S29)) (x1_1 : Int) (x5_1 : Int), v1 = .int .i64 x1_1 ∧ v5 = .int .i64 x5_1 ∧ Aside0 (qe.l0 kq x0_1 x1_1 x5_1 = some (r1, r2)) ∧ Aside0 (kq ≤ k) ∧ Aside0 (Kd.R k29 29 w' w0.heap.size (fun k_ => (P0_ k_ ∨ w.heap.size ≤ k_)) u9000_ x0_1) ∧ Aside0 (Kept w w' (fun k_ => P0_ k_)) ∧ Aside0 (Below w0.heap.size w0 w'))
 case atStart => exact ⟨(l0), (a1), (0), (by first | rfl | (simp; done) | (simp [*]; done)), (by first | rfl | (simp; done) | (simp [*]; done)), H', ⟨Nat.le_refl _⟩, ⟨by (with_reducible repeat (first | apply Kd.qH | apply Kd.qI | apply Kd.qK)); exact HO0.out⟩, ⟨by repeat (first | (with_reducible first | exact HK.out | apply Kept.alloc | apply Kept.drewN | apply Kept.drew) | exact HK.out)⟩, ⟨bl⟩⟩
 case round =>
  clear H'
  try clear c2
  try clear p2
  obtain ⟨x0_1, x1_1, x5_1, rfl, rfl, HA, HK1, HO_0, HK, HB⟩ := hrel
  cases gk with
  | zero => exact absurd HA.out (by simp [qe.l0])
  | succ k1 =>
   have H := HA.out
   clear HA
   simp only [qe.l0] at H
   by_cases c3 : x5_1 < (x0_1.length : Int)
   ·rw [if_pos c3] at H
    have c3b0 : decide (x5_1 < (x0_1.length : Int)) = true := decide_eq_true c3
    clear c3
    by_cases c4 : 0 ≤ x5_1
    ·rw [if_pos c4] at H
     have c4b0 : decide (0 ≤ x5_1) = true := decide_eq_true c4
     clear c4
     obtain ⟨y522, hy522⟩ : ∃ y_ : List (S29), y_ = (x0_1.set (x5_1 : Int).toNat (⟨x1_1, (qB x0_1 x5_1).f1, (qB x0_1 x5_1).f2, (qB x0_1 x5_1).f3, (qB x0_1 x5_1).f4, (qB x0_1 x5_1).f5⟩ : S29)) := ⟨_, rfl⟩
     replace H : ((some (y522.set (x5_1 : Int).toNat (⟨(qB y522 x5_1).f0, wrap64 (x1_1 + 1), (qB y522 x5_1).f2, (qB y522 x5_1).f3, (qB y522 x5_1).f4, (qB y522 x5_1).f5⟩ : S29) : List (S29))).bind fun y523 => ((some (y523.set (x5_1 : Int).toNat (⟨(qB y523 x5_1).f0, (qB y523 x5_1).f1, wrap64 ((wrap64 (x1_1 + 1)) + 1), (qB y523 x5_1).f3, (qB y523 x5_1).f4, (qB y523 x5_1).f5⟩ : S29) : List (S29))).bind fun y524 => ((some (y524.set (x5_1 : Int).toNat (⟨(qB y524 x5_1).f0, (qB y524 x5_1).f1, (qB y524 x5_1).f2, wrap64 ((wrap64 ((wrap64 (x1_1 + 1)) + 1)) + 1), (qB y524 x5_1).f4, (qB y524 x5_1).f5⟩ : S29) : List (S29))).bind fun y525 => ((some (y525.set (x5_1 : Int).toNat (⟨(qB y525 x5_1).f0, (qB y525 x5_1).f1, (qB y525 x5_1).f2, (qB y525 x5_1).f3, wrap64 ((wrap64 ((wrap64 ((wrap64 (x1_1 + 1)) + 1)) + 1)) + 1), (qB y525 x5_1).f5⟩ : S29) : List (S29))).bind fun y526 => (qe.l0 k1 (y526.set (x5_1 : Int).toNat (⟨(qB y526 x5_1).f0, (qB y526 x5_1).f1, (qB y526 x5_1).f2, (qB y526 x5_1).f3, (qB y526 x5_1).f4, wrap64 ((wrap64 ((wrap64 ((wrap64 ((wrap64 (x1_1 + 1)) + 1)) + 1)) + 1)) + 1)⟩ : S29)) (wrap64 ((wrap64 ((wrap64 ((wrap64 ((wrap64 ((wrap64 (x1_1 + 1)) + 1)) + 1)) + 1)) + 1)) + 1)) (wrap64 (x5_1 + 1))))))) = some (r1, r2) := by first | (rw [hy522]; with_reducible exact H) | (have H2_ := (Option.bind_some _ _).symm.trans H; rw [hy522]; with_reducible exact H2_) | (have H2_ := (Option.bind_some _ _).symm.trans H; with_reducible exact H2_) | with_reducible exact H | (rw [hy522]; exact H) | exact H
     have Ny522 := Aside0.mk hy522
     clear hy522
     obtain ⟨y523, hy523⟩ : ∃ y_ : List (S29), y_ = (y522.set (x5_1 : Int).toNat (⟨(qB y522 x5_1).f0, wrap64 (x1_1 + 1), (qB y522 x5_1).f2, (qB y522 x5_1).f3, (qB y522 x5_1).f4, (qB y522 x5_1).f5⟩ : S29)) := ⟨_, rfl⟩
     replace H : ((some (y523.set (x5_1 : Int).toNat (⟨(qB y523 x5_1).f0, (qB y523 x5_1).f1, wrap64 ((wrap64 (x1_1 + 1)) + 1), (qB y523 x5_1).f3, (qB y523 x5_1).f4, (qB y523 x5_1).f5⟩ : S29) : List (S29))).bind fun y524 => ((some (y524.set (x5_1 : Int).toNat (⟨(qB y524 x5_1).f0, (qB y524 x5_1).f1, (qB y524 x5_1).f2, wrap64 ((wrap64 ((wrap64 (x1_1 + 1)) + 1)) + 1), (qB y524 x5_1).f4, (qB y524 x5_1).f5⟩ : S29) : List (S29))).bind fun y525 => ((some (y525.set (x5_1 : Int).toNat (⟨(qB y525 x5_1).f0, (qB y525 x5_1).f1, (qB y525 x5_1).f2, (qB y525 x5_1).f3, wrap64 ((wrap64 ((wrap64 ((wrap64 (x1_1 + 1)) + 1)) + 1)) + 1), (qB y525 x5_1).f5⟩ : S29) : List (S29))).bind fun y526 => (qe.l0 k1 (y526.set (x5_1 : Int).toNat (⟨(qB y526 x5_1).f0, (qB y526 x5_1).f1, (qB y526 x5_1).f2, (qB y526 x5_1).f3, (qB y526 x5_1).f4, wrap64 ((wrap64 ((wrap64 ((wrap64 ((wrap64 (x1_1 + 1)) + 1)) + 1)) + 1)) + 1)⟩ : S29)) (wrap64 ((wrap64 ((wrap64 ((wrap64 ((wrap64 ((wrap64 (x1_1 + 1)) + 1)) + 1)) + 1)) + 1)) + 1)) (wrap64 (x5_1 + 1)))))) = some (r1, r2) := by first | (rw [hy523]; with_reducible exact H) | (have H2_ := (Option.bind_some _ _).symm.trans H; rw [hy523]; with_reducible exact H2_) | (have H2_ := (Option.bind_some _ _).symm.trans H; with_reducible exact H2_) | with_reducible exact H | (rw [hy523]; exact H) | exact H
     have Ny523 := Aside0.mk hy523
     clear hy523
     obtain ⟨y524, hy524⟩ : ∃ y_ : List (S29), y_ = (y523.set (x5_1 : Int).toNat (⟨(qB y523 x5_1).f0, (qB y523 x5_1).f1, wrap64 ((wrap64 (x1_1 + 1)) + 1), (qB y523 x5_1).f3, (qB y523 x5_1).f4, (qB y523 x5_1).f5⟩ : S29)) := ⟨_, rfl⟩
     replace H : ((some (y524.set (x5_1 : Int).toNat (⟨(qB y524 x5_1).f0, (qB y524 x5_1).f1, (qB y524 x5_1).f2, wrap64 ((wrap64 ((wrap64 (x1_1 + 1)) + 1)) + 1), (qB y524 x5_1).f4, (qB y524 x5_1).f5⟩ : S29) : List (S29))).bind fun y525 => ((some (y525.set (x5_1 : Int).toNat (⟨(qB y525 x5_1).f0, (qB y525 x5_1).f1, (qB y525 x5_1).f2, (qB y525 x5_1).f3, wrap64 ((wrap64 ((wrap64 ((wrap64 (x1_1 + 1)) + 1)) + 1)) + 1), (qB y525 x5_1).f5⟩ : S29) : List (S29))).bind fun y526 => (qe.l0 k1 (y526.set (x5_1 : Int).toNat (⟨(qB y526 x5_1).f0, (qB y526 x5_1).f1, (qB y526 x5_1).f2, (qB y526 x5_1).f3, (qB y526 x5_1).f4, wrap64 ((wrap64 ((wrap64 ((wrap64 ((wrap64 (x1_1 + 1)) + 1)) + 1)) + 1)) + 1)⟩ : S29)) (wrap64 ((wrap64 ((wrap64 ((wrap64 ((wrap64 ((wrap64 (x1_1 + 1)) + 1)) + 1)) + 1)) + 1)) + 1)) (wrap64 (x5_1 + 1))))) = some (r1, r2) := by first | (rw [hy524]; with_reducible exact H) | (have H2_ := (Option.bind_some _ _).symm.trans H; rw [hy524]; with_reducible exact H2_) | (have H2_ := (Option.bind_some _ _).symm.trans H; with_reducible exact H2_) | with_reducible exact H | (rw [hy524]; exact H) | exact H
     have Ny524 := Aside0.mk hy524
     clear hy524
     obtain ⟨y525, hy525⟩ : ∃ y_ : List (S29), y_ = (y524.set (x5_1 : Int).toNat (⟨(qB y524 x5_1).f0, (qB y524 x5_1).f1, (qB y524 x5_1).f2, wrap64 ((wrap64 ((wrap64 (x1_1 + 1)) + 1)) + 1), (qB y524 x5_1).f4, (qB y524 x5_1).f5⟩ : S29)) := ⟨_, rfl⟩
     replace H : ((some (y525.set (x5_1 : Int).toNat (⟨(qB y525 x5_1).f0, (qB y525 x5_1).f1, (qB y525 x5_1).f2, (qB y525 x5_1).f3, wrap64 ((wrap64 ((wrap64 ((wrap64 (x1_1 + 1)) + 1)) + 1)) + 1), (qB y525 x5_1).f5⟩ : S29) : List (S29))).bind fun y526 => (qe.l0 k1 (y526.set (x5_1 : Int).toNat (⟨(qB y526 x5_1).f0, (qB y526 x5_1).f1, (qB y526 x5_1).f2, (qB y526 x5_1).f3, (qB y526 x5_1).f4, wrap64 ((wrap64 ((wrap64 ((wrap64 ((wrap64 (x1_1 + 1)) + 1)) + 1)) + 1)) + 1)⟩ : S29)) (wrap64 ((wrap64 ((wrap64 ((wrap64 ((wrap64 ((wrap64 (x1_1 + 1)) + 1)) + 1)) + 1)) + 1)) + 1)) (wrap64 (x5_1 + 1)))) = some (r1, r2) := by first | (rw [hy525]; with_reducible exact H) | (have H2_ := (Option.bind_some _ _).symm.trans H; rw [hy525]; with_reducible exact H2_) | (have H2_ := (Option.bind_some _ _).symm.trans H; with_reducible exact H2_) | with_reducible exact H | (rw [hy525]; exact H) | exact H
     have Ny525 := Aside0.mk hy525
     clear hy525
     obtain ⟨y526, hy526⟩ : ∃ y_ : List (S29), y_ = (y525.set (x5_1 : Int).toNat (⟨(qB y525 x5_1).f0, (qB y525 x5_1).f1, (qB y525 x5_1).f2, (qB y525 x5_1).f3, wrap64 ((wrap64 ((wrap64 ((wrap64 (x1_1 + 1)) + 1)) + 1)) + 1), (qB y525 x5_1).f5⟩ : S29)) := ⟨_, rfl⟩
     replace H : (qe.l0 k1 (y526.set (x5_1 : Int).toNat (⟨(qB y526 x5_1).f0, (qB y526 x5_1).f1, (qB y526 x5_1).f2, (qB y526 x5_1).f3, (qB y526 x5_1).f4, wrap64 ((wrap64 ((wrap64 ((wrap64 ((wrap64 (x1_1 + 1)) + 1)) + 1)) + 1)) + 1)⟩ : S29)) (wrap64 ((wrap64 ((wrap64 ((wrap64 ((wrap64 ((wrap64 (x1_1 + 1)) + 1)) + 1)) + 1)) + 1)) + 1)) (wrap64 (x5_1 + 1))) = some (r1, r2) := by first | (rw [hy526]; with_reducible exact H) | (have H2_ := (Option.bind_some _ _).symm.trans H; rw [hy526]; with_reducible exact H2_) | (have H2_ := (Option.bind_some _ _).symm.trans H; with_reducible exact H2_) | with_reducible exact H | (rw [hy526]; exact H) | exact H
     have Ny526 := Aside0.mk hy526
     clear hy526
     obtain ⟨y527, hy527⟩ : ∃ y_ : List (S29), y_ = (y526.set (x5_1 : Int).toNat (⟨(qB y526 x5_1).f0, (qB y526 x5_1).f1, (qB y526 x5_1).f2, (qB y526 x5_1).f3, (qB y526 x5_1).f4, wrap64 ((wrap64 ((wrap64 ((wrap64 ((wrap64 (x1_1 + 1)) + 1)) + 1)) + 1)) + 1)⟩ : S29)) := ⟨_, rfl⟩
     replace H : (qe.l0 k1 y527 (wrap64 ((wrap64 ((wrap64 ((wrap64 ((wrap64 ((wrap64 (x1_1 + 1)) + 1)) + 1)) + 1)) + 1)) + 1)) (wrap64 (x5_1 + 1))) = some (r1, r2) := by first | (rw [hy527]; with_reducible exact H) | (have H2_ := (Option.bind_some _ _).symm.trans H; rw [hy527]; with_reducible exact H2_) | (have H2_ := (Option.bind_some _ _).symm.trans H; with_reducible exact H2_) | with_reducible exact H | (rw [hy527]; exact H) | exact H
     have Ny527 := Aside0.mk hy527
     clear hy527
     have H' := Aside0.mk H
     clear H
     obtain ⟨Ao11, co11, eo11⟩ := Kd.qHA HO_0.out
     subst eo11
     have p5 : 0 ≤ (x5_1 : Int) := of_decide_eq_true (by first | (with_reducible assumption) | assumption)
     have q5 : (x5_1 : Int) < ((x0_1.length : Int) : Int) := of_decide_eq_true (by first | (with_reducible assumption) | assumption)
     obtain ⟨go5, co5, eo5, gb5, gl5, cl5, HG5⟩ := Kd.R_form HO_0.out (by omega)
     (first | cases eo5 | (injection eo5 with ea_ en_ ec_; (first | subst ea_ | (injection ea_ with ea_; subst ea_)); subst ec_; clear en_))
     have GB5 := Aside0.mk gb5
     have GG5 := Aside0.mk HG5
     clear gb5 gl5 HG5
     have HMgo5 := Aside0.mk (show (P0_ go5 ∨ w.heap.size ≤ go5) from (HO_0.out.1 _ rfl))
     obtain ⟨ce5, hcl5, hM5, hcc5, hfr5⟩ := Kd.qJB HO_0.out z29 (x5_1 : Int) p5 q5
     obtain rfl := qaA hM5
     have hx5_0 : wr.cell? ⟨go5, (x5_1 : Int).toNat * 6, none⟩ = some (.int .i64 ((qB x0_1 x5_1).f0)) := hcc5 0 _ rfl
     have hx5_1 : wr.cell? ⟨go5, (x5_1 : Int).toNat * 6 + 1, none⟩ = some (.int .i64 ((qB x0_1 x5_1).f1)) := hcc5 1 _ rfl
     have hx5_2 : wr.cell? ⟨go5, (x5_1 : Int).toNat * 6 + 2, none⟩ = some (.int .i64 ((qB x0_1 x5_1).f2)) := hcc5 2 _ rfl
     have hx5_3 : wr.cell? ⟨go5, (x5_1 : Int).toNat * 6 + 3, none⟩ = some (.int .i64 ((qB x0_1 x5_1).f3)) := hcc5 3 _ rfl
     have hx5_4 : wr.cell? ⟨go5, (x5_1 : Int).toNat * 6 + 4, none⟩ = some (.int .i64 ((qB x0_1 x5_1).f4)) := hcc5 4 _ rfl
     have hx5_5 : wr.cell? ⟨go5, (x5_1 : Int).toNat * 6 + 5, none⟩ = some (.int .i64 ((qB x0_1 x5_1).f5)) := hcc5 5 _ rfl
     have hf5_0 : wr.frozen? ⟨go5, (x5_1 : Int).toNat * 6, none⟩ = false := hfr5 0
     have hf5_1 : wr.frozen? ⟨go5, (x5_1 : Int).toNat * 6 + 1, none⟩ = false := hfr5 1
     have hf5_2 : wr.frozen? ⟨go5, (x5_1 : Int).toNat * 6 + 2, none⟩ = false := hfr5 2
     have hf5_3 : wr.frozen? ⟨go5, (x5_1 : Int).toNat * 6 + 3, none⟩ = false := hfr5 3
     have hf5_4 : wr.frozen? ⟨go5, (x5_1 : Int).toNat * 6 + 4, none⟩ = false := hfr5 4
     have hf5_5 : wr.frozen? ⟨go5, (x5_1 : Int).toNat * 6 + 5, none⟩ = false := hfr5 5
     clear hcl5 hcc5 hfr5 hM5
     replace p5 := eq_true p5
     replace q5 := eq_true q5
     have HX12 := Aside0.mk (show Kd.R k29 29 wr w0.heap.size (fun k_ => (P0_ k_ ∨ w.heap.size ≤ k_)) (.slice (some ⟨go5, 0, none⟩) x0_1.length co11) x0_1 from (by (with_reducible repeat (first | apply Kd.qH | apply Kd.qI | apply Kd.qK)); exact HO_0.out))
     obtain ⟨ce12, hcl12, hM12, hcc12, hfr12⟩ := Kd.qJB HX12.out z29 (x5_1 : Int) (of_decide_eq_true (by first | (with_reducible assumption) | assumption)) (by have h_ : (x5_1 : Int) < ((x0_1.length : Int) : Int) := of_decide_eq_true (by first | (with_reducible assumption) | assumption); first | exact h_ | (have e_ := (Kd.qT HO_0.out).1; omega) | simpa using h_)
     obtain rfl := qaA hM12
     have HP12 := Kd.R_seg HX12.out (x5_1 : Int) (of_decide_eq_true (by first | (with_reducible assumption) | assumption)) (by have h_ : (x5_1 : Int) < ((x0_1.length : Int) : Int) := of_decide_eq_true (by first | (with_reducible assumption) | assumption); first | exact h_ | (have e_ := (Kd.qT HO_0.out).1; omega) | simpa using h_) (seg := [.int .i64 x1_1]) (j := 0) hcl12 hcc12 (show 1 ≤ 6 from by decide) (x' := (⟨x1_1, (qB x0_1 x5_1).f1, (qB x0_1 x5_1).f2, (qB x0_1 x5_1).f3, (qB x0_1 x5_1).f4, (qB x0_1 x5_1).f5⟩ : S29)) (qdA _ _ _ (⟨x1_1, (qB x0_1 x5_1).f1, (qB x0_1 x5_1).f2, (qB x0_1 x5_1).f3, (qB x0_1 x5_1).f4, (qB x0_1 x5_1).f5⟩ : S29) ) (fun _ hk => hk)
     have hx12_0 := hcc12 0 _ rfl
     (try simp only [show (k29).sz = 6 from rfl, Nat.mul_one, Nat.add_zero] at hx12_0)
     have hf12_0 := hfr12 0
     (try simp only [show (k29).sz = 6 from rfl, Nat.mul_one, Nat.add_zero] at hf12_0)
     clear hcl12 hcc12 hfr12 hM12
     go_wp2_with (first | ((with_reducible refine qpA (t := 3) (p := 16) rfl ?_); refine qnA (t := 3) (p := 16) (v := ?vo_w13) (w1 := (wr.setCell ⟨go5, (x5_1 : Int).toNat * 6, none⟩ (.int .i64 x1_1))) ?hg ?ho ?hn ?hr ?_; (case ho => rfl); (case hg => rfl); (case hn => rfl); (case hr => first | (go_simp; done) | (go_simp; rfl)); intro w13 hw; have hg : wr.grownBy w13 (some go5) := (by rw [hw]; exact HP12.2); have hp_ : Kd.R k29 29 w13 w0.heap.size (fun k_ => (P0_ k_ ∨ w.heap.size ≤ k_)) (.slice (some ⟨go5, 0, none⟩) x0_1.length co11) y522 := (by rw [hw, Ny522.out]; exact HP12.1); clear HP12; have n0_ := Aside0.mk (hp_); have n1_ := Aside0.mk ((by rw [hw]; exact qfA (HB.out) GB5.out : Below w0.heap.size w0 w13)); have n2_ := Aside0.mk (Kept.qHB (S := (fun k_ => P0_ k_)) hg (by repeat (first | (with_reducible first | exact HK.out | apply Kept.alloc | apply Kept.drewN | apply Kept.drew) | exact HK.out)) (fun k_ e_ => (HO_0.out.1 k_ e_))); clear HO_0; clear HB; clear HK; have HO_0 := n0_; have HB := n1_; have HK := n2_; clear n0_ n1_ n2_; clear hg hw hp_; have p6 : 0 ≤ (x5_1 : Int) := of_decide_eq_true (by first | (with_reducible assumption) | assumption); have q6 : (x5_1 : Int) < ((x0_1.length : Int) : Int) := of_decide_eq_true (by first | (with_reducible assumption) | assumption); obtain ⟨ce6, hcl6, hM6, hcc6, hfr6⟩ := Kd.qJB HO_0.out z29 (x5_1 : Int) p6 q6; obtain rfl := qaA hM6; have hx6_0 : w13.cell? ⟨go5, (x5_1 : Int).toNat * 6, none⟩ = some (.int .i64 ((qB y522 x5_1).f0)) := hcc6 0 _ rfl; have hx6_1 : w13.cell? ⟨go5, (x5_1 : Int).toNat * 6 + 1, none⟩ = some (.int .i64 ((qB y522 x5_1).f1)) := hcc6 1 _ rfl; have hx6_2 : w13.cell? ⟨go5, (x5_1 : Int).toNat * 6 + 2, none⟩ = some (.int .i64 ((qB y522 x5_1).f2)) := hcc6 2 _ rfl; have hx6_3 : w13.cell? ⟨go5, (x5_1 : Int).toNat * 6 + 3, none⟩ = some (.int .i64 ((qB y522 x5_1).f3)) := hcc6 3 _ rfl; have hx6_4 : w13.cell? ⟨go5, (x5_1 : Int).toNat * 6 + 4, none⟩ = some (.int .i64 ((qB y522 x5_1).f4)) := hcc6 4 _ rfl; have hx6_5 : w13.cell? ⟨go5, (x5_1 : Int).toNat * 6 + 5, none⟩ = some (.int .i64 ((qB y522 x5_1).f5)) := hcc6 5 _ rfl; have hf6_0 : w13.frozen? ⟨go5, (x5_1 : Int).toNat * 6, none⟩ = false := hfr6 0; have hf6_1 : w13.frozen? ⟨go5, (x5_1 : Int).toNat * 6 + 1, none⟩ = false := hfr6 1; have hf6_2 : w13.frozen? ⟨go5, (x5_1 : Int).toNat * 6 + 2, none⟩ = false := hfr6 2; have hf6_3 : w13.frozen? ⟨go5, (x5_1 : Int).toNat * 6 + 3, none⟩ = false := hfr6 3; have hf6_4 : w13.frozen? ⟨go5, (x5_1 : Int).toNat * 6 + 4, none⟩ = false := hfr6 4; have hf6_5 : w13.frozen? ⟨go5, (x5_1 : Int).toNat * 6 + 5, none⟩ = false := hfr6 5; clear hcl6 hcc6 hfr6 hM6; replace p6 := eq_true p6; replace q6 := eq_true q6; have HX14 := Aside0.mk (show Kd.R k29 29 w13 w0.heap.size (fun k_ => (P0_ k_ ∨ w.heap.size ≤ k_)) (.slice (some ⟨go5, 0, none⟩) x0_1.length co11) y522 from (by (with_reducible repeat (first | apply Kd.qH | apply Kd.qI | apply Kd.qK)); exact HO_0.out)); obtain ⟨ce14, hcl14, hM14, hcc14, hfr14⟩ := Kd.qJB HX14.out z29 (x5_1 : Int) (of_decide_eq_true (by first | (with_reducible assumption) | assumption)) (by have h_ : (x5_1 : Int) < ((x0_1.length : Int) : Int) := of_decide_eq_true (by first | (with_reducible assumption) | assumption); first | exact h_ | (have e_ := (Kd.qT HO_0.out).1; omega) | simpa using h_); obtain rfl := qaA hM14; have HP14 := Kd.R_seg HX14.out (x5_1 : Int) (of_decide_eq_true (by first | (with_reducible assumption) | assumption)) (by have h_ : (x5_1 : Int) < ((x0_1.length : Int) : Int) := of_decide_eq_true (by first | (with_reducible assumption) | assumption); first | exact h_ | (have e_ := (Kd.qT HO_0.out).1; omega) | simpa using h_) (seg := [.int .i64 (wrap64 (x1_1 + 1))]) (j := 1) hcl14 hcc14 (show 2 ≤ 6 from by decide) (x' := (⟨(qB y522 x5_1).f0, wrap64 (x1_1 + 1), (qB y522 x5_1).f2, (qB y522 x5_1).f3, (qB y522 x5_1).f4, (qB y522 x5_1).f5⟩ : S29)) (qdA _ _ _ (⟨(qB y522 x5_1).f0, wrap64 (x1_1 + 1), (qB y522 x5_1).f2, (qB y522 x5_1).f3, (qB y522 x5_1).f4, (qB y522 x5_1).f5⟩ : S29) ) (fun _ hk => hk); have hx14_1 := hcc14 1 _ rfl; (try simp only [show (k29).sz = 6 from rfl, Nat.mul_one, Nat.add_zero] at hx14_1); have hf14_1 := hfr14 1; (try simp only [show (k29).sz = 6 from rfl, Nat.mul_one, Nat.add_zero] at hf14_1); clear hcl14 hcc14 hfr14 hM14) | ((with_reducible refine qpA (t := 3) (p := 23) rfl ?_); refine qnA (t := 3) (p := 23) (v := ?vo_w15) (w1 := (w13.setCell ⟨go5, (x5_1 : Int).toNat * 6 + 1, none⟩ (.int .i64 (wrap64 (x1_1 + 1))))) ?hg ?ho ?hn ?hr ?_; (case ho => rfl); (case hg => rfl); (case hn => rfl); (case hr => first | (go_simp; done) | (go_simp; rfl)); intro w15 hw; have hg : w13.grownBy w15 (some go5) := (by rw [hw]; exact HP14.2); have hp_ : Kd.R k29 29 w15 w0.heap.size (fun k_ => (P0_ k_ ∨ w.heap.size ≤ k_)) (.slice (some ⟨go5, 0, none⟩) x0_1.length co11) y523 := (by rw [hw, Ny523.out]; exact HP14.1); clear HP14; have n0_ := Aside0.mk (hp_); have n1_ := Aside0.mk ((by rw [hw]; exact qfA (HB.out) GB5.out : Below w0.heap.size w0 w15)); have n2_ := Aside0.mk (Kept.qHB (S := (fun k_ => P0_ k_)) hg (by repeat (first | (with_reducible first | exact HK.out | apply Kept.alloc | apply Kept.drewN | apply Kept.drew) | exact HK.out)) (fun k_ e_ => (HO_0.out.1 k_ e_))); clear HO_0; clear HB; clear HK; have HO_0 := n0_; have HB := n1_; have HK := n2_; clear n0_ n1_ n2_; clear hg hw hp_; have p7 : 0 ≤ (x5_1 : Int) := of_decide_eq_true (by first | (with_reducible assumption) | assumption); have q7 : (x5_1 : Int) < ((x0_1.length : Int) : Int) := of_decide_eq_true (by first | (with_reducible assumption) | assumption); obtain ⟨ce7, hcl7, hM7, hcc7, hfr7⟩ := Kd.qJB HO_0.out z29 (x5_1 : Int) p7 q7; obtain rfl := qaA hM7; have hx7_0 : w15.cell? ⟨go5, (x5_1 : Int).toNat * 6, none⟩ = some (.int .i64 ((qB y523 x5_1).f0)) := hcc7 0 _ rfl; have hx7_1 : w15.cell? ⟨go5, (x5_1 : Int).toNat * 6 + 1, none⟩ = some (.int .i64 ((qB y523 x5_1).f1)) := hcc7 1 _ rfl; have hx7_2 : w15.cell? ⟨go5, (x5_1 : Int).toNat * 6 + 2, none⟩ = some (.int .i64 ((qB y523 x5_1).f2)) := hcc7 2 _ rfl; have hx7_3 : w15.cell? ⟨go5, (x5_1 : Int).toNat * 6 + 3, none⟩ = some (.int .i64 ((qB y523 x5_1).f3)) := hcc7 3 _ rfl; have hx7_4 : w15.cell? ⟨go5, (x5_1 : Int).toNat * 6 + 4, none⟩ = some (.int .i64 ((qB y523 x5_1).f4)) := hcc7 4 _ rfl; have hx7_5 : w15.cell? ⟨go5, (x5_1 : Int).toNat * 6 + 5, none⟩ = some (.int .i64 ((qB y523 x5_1).f5)) := hcc7 5 _ rfl; have hf7_0 : w15.frozen? ⟨go5, (x5_1 : Int).toNat * 6, none⟩ = false := hfr7 0; have hf7_1 : w15.frozen? ⟨go5, (x5_1 : Int).toNat * 6 + 1, none⟩ = false := hfr7 1; have hf7_2 : w15.frozen? ⟨go5, (x5_1 : Int).toNat * 6 + 2, none⟩ = false := hfr7 2; have hf7_3 : w15.frozen? ⟨go5, (x5_1 : Int).toNat * 6 + 3, none⟩ = false := hfr7 3; have hf7_4 : w15.frozen? ⟨go5, (x5_1 : Int).toNat * 6 + 4, none⟩ = false := hfr7 4; have hf7_5 : w15.frozen? ⟨go5, (x5_1 : Int).toNat * 6 + 5, none⟩ = false := hfr7 5; clear hcl7 hcc7 hfr7 hM7; replace p7 := eq_true p7; replace q7 := eq_true q7; have HX16 := Aside0.mk (show Kd.R k29 29 w15 w0.heap.size (fun k_ => (P0_ k_ ∨ w.heap.size ≤ k_)) (.slice (some ⟨go5, 0, none⟩) x0_1.length co11) y523 from (by (with_reducible repeat (first | apply Kd.qH | apply Kd.qI | apply Kd.qK)); exact HO_0.out)); obtain ⟨ce16, hcl16, hM16, hcc16, hfr16⟩ := Kd.qJB HX16.out z29 (x5_1 : Int) (of_decide_eq_true (by first | (with_reducible assumption) | assumption)) (by have h_ : (x5_1 : Int) < ((x0_1.length : Int) : Int) := of_decide_eq_true (by first | (with_reducible assumption) | assumption); first | exact h_ | (have e_ := (Kd.qT HO_0.out).1; omega) | simpa using h_); obtain rfl := qaA hM16; have HP16 := Kd.R_seg HX16.out (x5_1 : Int) (of_decide_eq_true (by first | (with_reducible assumption) | assumption)) (by have h_ : (x5_1 : Int) < ((x0_1.length : Int) : Int) := of_decide_eq_true (by first | (with_reducible assumption) | assumption); first | exact h_ | (have e_ := (Kd.qT HO_0.out).1; omega) | simpa using h_) (seg := [.int .i64 (wrap64 ((wrap64 (x1_1 + 1)) + 1))]) (j := 2) hcl16 hcc16 (show 3 ≤ 6 from by decide) (x' := (⟨(qB y523 x5_1).f0, (qB y523 x5_1).f1, wrap64 ((wrap64 (x1_1 + 1)) + 1), (qB y523 x5_1).f3, (qB y523 x5_1).f4, (qB y523 x5_1).f5⟩ : S29)) (qdA _ _ _ (⟨(qB y523 x5_1).f0, (qB y523 x5_1).f1, wrap64 ((wrap64 (x1_1 + 1)) + 1), (qB y523 x5_1).f3, (qB y523 x5_1).f4, (qB y523 x5_1).f5⟩ : S29) ) (fun _ hk => hk); have hx16_2 := hcc16 2 _ rfl; (try simp only [show (k29).sz = 6 from rfl, Nat.mul_one, Nat.add_zero] at hx16_2); have hf16_2 := hfr16 2; (try simp only [show (k29).sz = 6 from rfl, Nat.mul_one, Nat.add_zero] at hf16_2); clear hcl16 hcc16 hfr16 hM16) | ((with_reducible refine qpA (t := 3) (p := 30) rfl ?_); refine qnA (t := 3) (p := 30) (v := ?vo_w17) (w1 := (w15.setCell ⟨go5, (x5_1 : Int).toNat * 6 + 2, none⟩ (.int .i64 (wrap64 ((wrap64 (x1_1 + 1)) + 1))))) ?hg ?ho ?hn ?hr ?_; (case ho => rfl); (case hg => rfl); (case hn => rfl); (case hr => first | (go_simp; done) | (go_simp; rfl)); intro w17 hw; have hg : w15.grownBy w17 (some go5) := (by rw [hw]; exact HP16.2); have hp_ : Kd.R k29 29 w17 w0.heap.size (fun k_ => (P0_ k_ ∨ w.heap.size ≤ k_)) (.slice (some ⟨go5, 0, none⟩) x0_1.length co11) y524 := (by rw [hw, Ny524.out]; exact HP16.1); clear HP16; have n0_ := Aside0.mk (hp_); have n1_ := Aside0.mk ((by rw [hw]; exact qfA (HB.out) GB5.out : Below w0.heap.size w0 w17)); have n2_ := Aside0.mk (Kept.qHB (S := (fun k_ => P0_ k_)) hg (by repeat (first | (with_reducible first | exact HK.out | apply Kept.alloc | apply Kept.drewN | apply Kept.drew) | exact HK.out)) (fun k_ e_ => (HO_0.out.1 k_ e_))); clear HO_0; clear HB; clear HK; have HO_0 := n0_; have HB := n1_; have HK := n2_; clear n0_ n1_ n2_; clear hg hw hp_; have p8 : 0 ≤ (x5_1 : Int) := of_decide_eq_true (by first | (with_reducible assumption) | assumption); have q8 : (x5_1 : Int) < ((x0_1.length : Int) : Int) := of_decide_eq_true (by first | (with_reducible assumption) | assumption); obtain ⟨ce8, hcl8, hM8, hcc8, hfr8⟩ := Kd.qJB HO_0.out z29 (x5_1 : Int) p8 q8; obtain rfl := qaA hM8; have hx8_0 : w17.cell? ⟨go5, (x5_1 : Int).toNat * 6, none⟩ = some (.int .i64 ((qB y524 x5_1).f0)) := hcc8 0 _ rfl; have hx8_1 : w17.cell? ⟨go5, (x5_1 : Int).toNat * 6 + 1, none⟩ = some (.int .i64 ((qB y524 x5_1).f1)) := hcc8 1 _ rfl; have hx8_2 : w17.cell? ⟨go5, (x5_1 : Int).toNat * 6 + 2, none⟩ = some (.int .i64 ((qB y524 x5_1).f2)) := hcc8 2 _ rfl; have hx8_3 : w17.cell? ⟨go5, (x5_1 : Int).toNat * 6 + 3, none⟩ = some (.int .i64 ((qB y524 x5_1).f3)) := hcc8 3 _ rfl; have hx8_4 : w17.cell? ⟨go5, (x5_1 : Int).toNat * 6 + 4, none⟩ = some (.int .i64 ((qB y524 x5_1).f4)) := hcc8 4 _ rfl; have hx8_5 : w17.cell? ⟨go5, (x5_1 : Int).toNat * 6 + 5, none⟩ = some (.int .i64 ((qB y524 x5_1).f5)) := hcc8 5 _ rfl; have hf8_0 : w17.frozen? ⟨go5, (x5_1 : Int).toNat * 6, none⟩ = false := hfr8 0; have hf8_1 : w17.frozen? ⟨go5, (x5_1 : Int).toNat * 6 + 1, none⟩ = false := hfr8 1; have hf8_2 : w17.frozen? ⟨go5, (x5_1 : Int).toNat * 6 + 2, none⟩ = false := hfr8 2; have hf8_3 : w17.frozen? ⟨go5, (x5_1 : Int).toNat * 6 + 3, none⟩ = false := hfr8 3; have hf8_4 : w17.frozen? ⟨go5, (x5_1 : Int).toNat * 6 + 4, none⟩ = false := hfr8 4; have hf8_5 : w17.frozen? ⟨go5, (x5_1 : Int).toNat * 6 + 5, none⟩ = false := hfr8 5; clear hcl8 hcc8 hfr8 hM8; replace p8 := eq_true p8; replace q8 := eq_true q8; have HX18 := Aside0.mk (show Kd.R k29 29 w17 w0.heap.size (fun k_ => (P0_ k_ ∨ w.heap.size ≤ k_)) (.slice (some ⟨go5, 0, none⟩) x0_1.length co11) y524 from (by (with_reducible repeat (first | apply Kd.qH | apply Kd.qI | apply Kd.qK)); exact HO_0.out)); obtain ⟨ce18, hcl18, hM18, hcc18, hfr18⟩ := Kd.qJB HX18.out z29 (x5_1 : Int) (of_decide_eq_true (by first | (with_reducible assumption) | assumption)) (by have h_ : (x5_1 : Int) < ((x0_1.length : Int) : Int) := of_decide_eq_true (by first | (with_reducible assumption) | assumption); first | exact h_ | (have e_ := (Kd.qT HO_0.out).1; omega) | simpa using h_); obtain rfl := qaA hM18; have HP18 := Kd.R_seg HX18.out (x5_1 : Int) (of_decide_eq_true (by first | (with_reducible assumption) | assumption)) (by have h_ : (x5_1 : Int) < ((x0_1.length : Int) : Int) := of_decide_eq_true (by first | (with_reducible assumption) | assumption); first | exact h_ | (have e_ := (Kd.qT HO_0.out).1; omega) | simpa using h_) (seg := [.int .i64 (wrap64 ((wrap64 ((wrap64 (x1_1 + 1)) + 1)) + 1))]) (j := 3) hcl18 hcc18 (show 4 ≤ 6 from by decide) (x' := (⟨(qB y524 x5_1).f0, (qB y524 x5_1).f1, (qB y524 x5_1).f2, wrap64 ((wrap64 ((wrap64 (x1_1 + 1)) + 1)) + 1), (qB y524 x5_1).f4, (qB y524 x5_1).f5⟩ : S29)) (qdA _ _ _ (⟨(qB y524 x5_1).f0, (qB y524 x5_1).f1, (qB y524 x5_1).f2, wrap64 ((wrap64 ((wrap64 (x1_1 + 1)) + 1)) + 1), (qB y524 x5_1).f4, (qB y524 x5_1).f5⟩ : S29) ) (fun _ hk => hk); have hx18_3 := hcc18 3 _ rfl; (try simp only [show (k29).sz = 6 from rfl, Nat.mul_one, Nat.add_zero] at hx18_3); have hf18_3 := hfr18 3; (try simp only [show (k29).sz = 6 from rfl, Nat.mul_one, Nat.add_zero] at hf18_3); clear hcl18 hcc18 hfr18 hM18) | ((with_reducible refine qpA (t := 3) (p := 37) rfl ?_); refine qnA (t := 3) (p := 37) (v := ?vo_w19) (w1 := (w17.setCell ⟨go5, (x5_1 : Int).toNat * 6 + 3, none⟩ (.int .i64 (wrap64 ((wrap64 ((wrap64 (x1_1 + 1)) + 1)) + 1))))) ?hg ?ho ?hn ?hr ?_; (case ho => rfl); (case hg => rfl); (case hn => rfl); (case hr => first | (go_simp; done) | (go_simp; rfl)); intro w19 hw; have hg : w17.grownBy w19 (some go5) := (by rw [hw]; exact HP18.2); have hp_ : Kd.R k29 29 w19 w0.heap.size (fun k_ => (P0_ k_ ∨ w.heap.size ≤ k_)) (.slice (some ⟨go5, 0, none⟩) x0_1.length co11) y525 := (by rw [hw, Ny525.out]; exact HP18.1); clear HP18; have n0_ := Aside0.mk (hp_); have n1_ := Aside0.mk ((by rw [hw]; exact qfA (HB.out) GB5.out : Below w0.heap.size w0 w19)); have n2_ := Aside0.mk (Kept.qHB (S := (fun k_ => P0_ k_)) hg (by repeat (first | (with_reducible first | exact HK.out | apply Kept.alloc | apply Kept.drewN | apply Kept.drew) | exact HK.out)) (fun k_ e_ => (HO_0.out.1 k_ e_))); clear HO_0; clear HB; clear HK; have HO_0 := n0_; have HB := n1_; have HK := n2_; clear n0_ n1_ n2_; clear hg hw hp_; have p9 : 0 ≤ (x5_1 : Int) := of_decide_eq_true (by first | (with_reducible assumption) | assumption); have q9 : (x5_1 : Int) < ((x0_1.length : Int) : Int) := of_decide_eq_true (by first | (with_reducible assumption) | assumption); obtain ⟨ce9, hcl9, hM9, hcc9, hfr9⟩ := Kd.qJB HO_0.out z29 (x5_1 : Int) p9 q9; obtain rfl := qaA hM9; have hx9_0 : w19.cell? ⟨go5, (x5_1 : Int).toNat * 6, none⟩ = some (.int .i64 ((qB y525 x5_1).f0)) := hcc9 0 _ rfl; have hx9_1 : w19.cell? ⟨go5, (x5_1 : Int).toNat * 6 + 1, none⟩ = some (.int .i64 ((qB y525 x5_1).f1)) := hcc9 1 _ rfl; have hx9_2 : w19.cell? ⟨go5, (x5_1 : Int).toNat * 6 + 2, none⟩ = some (.int .i64 ((qB y525 x5_1).f2)) := hcc9 2 _ rfl; have hx9_3 : w19.cell? ⟨go5, (x5_1 : Int).toNat * 6 + 3, none⟩ = some (.int .i64 ((qB y525 x5_1).f3)) := hcc9 3 _ rfl; have hx9_4 : w19.cell? ⟨go5, (x5_1 : Int).toNat * 6 + 4, none⟩ = some (.int .i64 ((qB y525 x5_1).f4)) := hcc9 4 _ rfl; have hx9_5 : w19.cell? ⟨go5, (x5_1 : Int).toNat * 6 + 5, none⟩ = some (.int .i64 ((qB y525 x5_1).f5)) := hcc9 5 _ rfl; have hf9_0 : w19.frozen? ⟨go5, (x5_1 : Int).toNat * 6, none⟩ = false := hfr9 0; have hf9_1 : w19.frozen? ⟨go5, (x5_1 : Int).toNat * 6 + 1, none⟩ = false := hfr9 1; have hf9_2 : w19.frozen? ⟨go5, (x5_1 : Int).toNat * 6 + 2, none⟩ = false := hfr9 2; have hf9_3 : w19.frozen? ⟨go5, (x5_1 : Int).toNat * 6 + 3, none⟩ = false := hfr9 3; have hf9_4 : w19.frozen? ⟨go5, (x5_1 : Int).toNat * 6 + 4, none⟩ = false := hfr9 4; have hf9_5 : w19.frozen? ⟨go5, (x5_1 : Int).toNat * 6 + 5, none⟩ = false := hfr9 5; clear hcl9 hcc9 hfr9 hM9; replace p9 := eq_true p9; replace q9 := eq_true q9; have HX20 := Aside0.mk (show Kd.R k29 29 w19 w0.heap.size (fun k_ => (P0_ k_ ∨ w.heap.size ≤ k_)) (.slice (some ⟨go5, 0, none⟩) x0_1.length co11) y525 from (by (with_reducible repeat (first | apply Kd.qH | apply Kd.qI | apply Kd.qK)); exact HO_0.out)); obtain ⟨ce20, hcl20, hM20, hcc20, hfr20⟩ := Kd.qJB HX20.out z29 (x5_1 : Int) (of_decide_eq_true (by first | (with_reducible assumption) | assumption)) (by have h_ : (x5_1 : Int) < ((x0_1.length : Int) : Int) := of_decide_eq_true (by first | (with_reducible assumption) | assumption); first | exact h_ | (have e_ := (Kd.qT HO_0.out).1; omega) | simpa using h_); obtain rfl := qaA hM20; have HP20 := Kd.R_seg HX20.out (x5_1 : Int) (of_decide_eq_true (by first | (with_reducible assumption) | assumption)) (by have h_ : (x5_1 : Int) < ((x0_1.length : Int) : Int) := of_decide_eq_true (by first | (with_reducible assumption) | assumption); first | exact h_ | (have e_ := (Kd.qT HO_0.out).1; omega) | simpa using h_) (seg := [.int .i64 (wrap64 ((wrap64 ((wrap64 ((wrap64 (x1_1 + 1)) + 1)) + 1)) + 1))]) (j := 4) hcl20 hcc20 (show 5 ≤ 6 from by decide) (x' := (⟨(qB y525 x5_1).f0, (qB y525 x5_1).f1, (qB y525 x5_1).f2, (qB y525 x5_1).f3, wrap64 ((wrap64 ((wrap64 ((wrap64 (x1_1 + 1)) + 1)) + 1)) + 1), (qB y525 x5_1).f5⟩ : S29)) (qdA _ _ _ (⟨(qB y525 x5_1).f0, (qB y525 x5_1).f1, (qB y525 x5_1).f2, (qB y525 x5_1).f3, wrap64 ((wrap64 ((wrap64 ((wrap64 (x1_1 + 1)) + 1)) + 1)) + 1), (qB y525 x5_1).f5⟩ : S29) ) (fun _ hk => hk); have hx20_4 := hcc20 4 _ rfl; (try simp only [show (k29).sz = 6 from rfl, Nat.mul_one, Nat.add_zero] at hx20_4); have hf20_4 := hfr20 4; (try simp only [show (k29).sz = 6 from rfl, Nat.mul_one, Nat.add_zero] at hf20_4); clear hcl20 hcc20 hfr20 hM20) | ((with_reducible refine qpA (t := 3) (p := 44) rfl ?_); refine qnA (t := 3) (p := 44) (v := ?vo_w21) (w1 := (w19.setCell ⟨go5, (x5_1 : Int).toNat * 6 + 4, none⟩ (.int .i64 (wrap64 ((wrap64 ((wrap64 ((wrap64 (x1_1 + 1)) + 1)) + 1)) + 1))))) ?hg ?ho ?hn ?hr ?_; (case ho => rfl); (case hg => rfl); (case hn => rfl); (case hr => first | (go_simp; done) | (go_simp; rfl)); intro w21 hw; have hg : w19.grownBy w21 (some go5) := (by rw [hw]; exact HP20.2); have hp_ : Kd.R k29 29 w21 w0.heap.size (fun k_ => (P0_ k_ ∨ w.heap.size ≤ k_)) (.slice (some ⟨go5, 0, none⟩) x0_1.length co11) y526 := (by rw [hw, Ny526.out]; exact HP20.1); clear HP20; have n0_ := Aside0.mk (hp_); have n1_ := Aside0.mk ((by rw [hw]; exact qfA (HB.out) GB5.out : Below w0.heap.size w0 w21)); have n2_ := Aside0.mk (Kept.qHB (S := (fun k_ => P0_ k_)) hg (by repeat (first | (with_reducible first | exact HK.out | apply Kept.alloc | apply Kept.drewN | apply Kept.drew) | exact HK.out)) (fun k_ e_ => (HO_0.out.1 k_ e_))); clear HO_0; clear HB; clear HK; have HO_0 := n0_; have HB := n1_; have HK := n2_; clear n0_ n1_ n2_; clear hg hw hp_; have p10 : 0 ≤ (x5_1 : Int) := of_decide_eq_true (by first | (with_reducible assumption) | assumption); have q10 : (x5_1 : Int) < ((x0_1.length : Int) : Int) := of_decide_eq_true (by first | (with_reducible assumption) | assumption); obtain ⟨ce10, hcl10, hM10, hcc10, hfr10⟩ := Kd.qJB HO_0.out z29 (x5_1 : Int) p10 q10; obtain rfl := qaA hM10; have hx10_0 : w21.cell? ⟨go5, (x5_1 : Int).toNat * 6, none⟩ = some (.int .i64 ((qB y526 x5_1).f0)) := hcc10 0 _ rfl; have hx10_1 : w21.cell? ⟨go5, (x5_1 : Int).toNat * 6 + 1, none⟩ = some (.int .i64 ((qB y526 x5_1).f1)) := hcc10 1 _ rfl; have hx10_2 : w21.cell? ⟨go5, (x5_1 : Int).toNat * 6 + 2, none⟩ = some (.int .i64 ((qB y526 x5_1).f2)) := hcc10 2 _ rfl; have hx10_3 : w21.cell? ⟨go5, (x5_1 : Int).toNat * 6 + 3, none⟩ = some (.int .i64 ((qB y526 x5_1).f3)) := hcc10 3 _ rfl; have hx10_4 : w21.cell? ⟨go5, (x5_1 : Int).toNat * 6 + 4, none⟩ = some (.int .i64 ((qB y526 x5_1).f4)) := hcc10 4 _ rfl; have hx10_5 : w21.cell? ⟨go5, (x5_1 : Int).toNat * 6 + 5, none⟩ = some (.int .i64 ((qB y526 x5_1).f5)) := hcc10 5 _ rfl; have hf10_0 : w21.frozen? ⟨go5, (x5_1 : Int).toNat * 6, none⟩ = false := hfr10 0; have hf10_1 : w21.frozen? ⟨go5, (x5_1 : Int).toNat * 6 + 1, none⟩ = false := hfr10 1; have hf10_2 : w21.frozen? ⟨go5, (x5_1 : Int).toNat * 6 + 2, none⟩ = false := hfr10 2; have hf10_3 : w21.frozen? ⟨go5, (x5_1 : Int).toNat * 6 + 3, none⟩ = false := hfr10 3; have hf10_4 : w21.frozen? ⟨go5, (x5_1 : Int).toNat * 6 + 4, none⟩ = false := hfr10 4; have hf10_5 : w21.frozen? ⟨go5, (x5_1 : Int).toNat * 6 + 5, none⟩ = false := hfr10 5; clear hcl10 hcc10 hfr10 hM10; replace p10 := eq_true p10; replace q10 := eq_true q10; have HX22 := Aside0.mk (show Kd.R k29 29 w21 w0.heap.size (fun k_ => (P0_ k_ ∨ w.heap.size ≤ k_)) (.slice (some ⟨go5, 0, none⟩) x0_1.length co11) y526 from (by (with_reducible repeat (first | apply Kd.qH | apply Kd.qI | apply Kd.qK)); exact HO_0.out)); obtain ⟨ce22, hcl22, hM22, hcc22, hfr22⟩ := Kd.qJB HX22.out z29 (x5_1 : Int) (of_decide_eq_true (by first | (with_reducible assumption) | assumption)) (by have h_ : (x5_1 : Int) < ((x0_1.length : Int) : Int) := of_decide_eq_true (by first | (with_reducible assumption) | assumption); first | exact h_ | (have e_ := (Kd.qT HO_0.out).1; omega) | simpa using h_); obtain rfl := qaA hM22; have HP22 := Kd.R_seg HX22.out (x5_1 : Int) (of_decide_eq_true (by first | (with_reducible assumption) | assumption)) (by have h_ : (x5_1 : Int) < ((x0_1.length : Int) : Int) := of_decide_eq_true (by first | (with_reducible assumption) | assumption); first | exact h_ | (have e_ := (Kd.qT HO_0.out).1; omega) | simpa using h_) (seg := [.int .i64 (wrap64 ((wrap64 ((wrap64 ((wrap64 ((wrap64 (x1_1 + 1)) + 1)) + 1)) + 1)) + 1))]) (j := 5) hcl22 hcc22 (show 6 ≤ 6 from by decide) (x' := (⟨(qB y526 x5_1).f0, (qB y526 x5_1).f1, (qB y526 x5_1).f2, (qB y526 x5_1).f3, (qB y526 x5_1).f4, wrap64 ((wrap64 ((wrap64 ((wrap64 ((wrap64 (x1_1 + 1)) + 1)) + 1)) + 1)) + 1)⟩ : S29)) (qdA _ _ _ (⟨(qB y526 x5_1).f0, (qB y526 x5_1).f1, (qB y526 x5_1).f2, (qB y526 x5_1).f3, (qB y526 x5_1).f4, wrap64 ((wrap64 ((wrap64 ((wrap64 ((wrap64 (x1_1 + 1)) + 1)) + 1)) + 1)) + 1)⟩ : S29) ) (fun _ hk => hk); have hx22_5 := hcc22 5 _ rfl; (try simp only [show (k29).sz = 6 from rfl, Nat.mul_one, Nat.add_zero] at hx22_5); have hf22_5 := hfr22 5; (try simp only [show (k29).sz = 6 from rfl, Nat.mul_one, Nat.add_zero] at hf22_5); clear hcl22 hcc22 hfr22 hM22) | ((with_reducible refine qpA (t := 3) (p := 51) rfl ?_); refine qnA (t := 3) (p := 51) (v := ?vo_w23) (w1 := (w21.setCell ⟨go5, (x5_1 : Int).toNat * 6 + 5, none⟩ (.int .i64 (wrap64 ((wrap64 ((wrap64 ((wrap64 ((wrap64 (x1_1 + 1)) + 1)) + 1)) + 1)) + 1))))) ?hg ?ho ?hn ?hr ?_; (case ho => rfl); (case hg => rfl); (case hn => rfl); (case hr => first | (go_simp; done) | (go_simp; rfl)); intro w23 hw; have hg : w21.grownBy w23 (some go5) := (by rw [hw]; exact HP22.2); have hp_ : Kd.R k29 29 w23 w0.heap.size (fun k_ => (P0_ k_ ∨ w.heap.size ≤ k_)) (.slice (some ⟨go5, 0, none⟩) x0_1.length co11) y527 := (by rw [hw, Ny527.out]; exact HP22.1); clear HP22; have n0_ := Aside0.mk (hp_); have n1_ := Aside0.mk ((by rw [hw]; exact qfA (HB.out) GB5.out : Below w0.heap.size w0 w23)); have n2_ := Aside0.mk (Kept.qHB (S := (fun k_ => P0_ k_)) hg (by repeat (first | (with_reducible first | exact HK.out | apply Kept.alloc | apply Kept.drewN | apply Kept.drew) | exact HK.out)) (fun k_ e_ => (HO_0.out.1 k_ e_))); clear HO_0; clear HB; clear HK; have HO_0 := n0_; have HB := n1_; have HK := n2_; clear n0_ n1_ n2_; clear hg hw hp_))
     go_roundg k1
     case measure => have := HK1.out; omega
     case rel => exact ⟨(y527), (wrap64 ((wrap64 ((wrap64 ((wrap64 ((wrap64 ((wrap64 (x1_1 + 1)) + 1)) + 1)) + 1)) + 1)) + 1)), (wrap64 (x5_1 + 1)), (by first | rfl | (simp; done) | (simp [*]; done)), (by first | rfl | (simp; done) | (simp [*]; done)), H', ⟨by have := HK1.out; omega⟩, ⟨by (with_reducible repeat (first | apply Kd.qH | apply Kd.qI | apply Kd.qK)); exact HO_0.out⟩, ⟨by repeat (first | (with_reducible first | exact HK.out | apply Kept.alloc | apply Kept.drewN | apply Kept.drew) | exact HK.out)⟩, ⟨bl⟩⟩
    ·rw [if_neg c4] at H
     exact absurd H (by simp)
   ·rw [if_neg c3] at H
    have c3b0 : decide (x5_1 < (x0_1.length : Int)) = false := decide_eq_false c3
    clear c3
    simp only [Option.some.injEq, Prod.mk.injEq] at H
    obtain ⟨rfl, rfl⟩ := H
    obtain ⟨Ao24, co24, eo24⟩ := Kd.qHA HO_0.out
    subst eo24
    go_wp2
    go_ret
    exact ⟨by first | rfl | (simp [qP, qO] <;> rfl) | (simp [*, qP, qO] <;> rfl), by (with_reducible repeat (first | apply Kd.qH | apply Kd.qI | apply Kd.qK)); exact HO_0.out, bl, by repeat (first | (with_reducible first | exact HK.out | apply Kept.alloc | apply Kept.drewN | apply Kept.drew) | exact HK.out)⟩
def qf.l0 : Nat → List (S29) → Int → Int → Option (Int)
 | 0, _, _, _ => none
 | k + 1, x0, x1, x5 => if x5 < (x0.length : Int) then (if 0 ≤ x5 then (if ((qB x0 x5).f0) = x1 then (if ((qB x0 x5).f1) = (wrap64 (x1 + 1)) then (if ((qB x0 x5).f2) = (wrap64 ((wrap64 (x1 + 1)) + 1)) then (if ((qB x0 x5).f3) = (wrap64 ((wrap64 ((wrap64 (x1 + 1)) + 1)) + 1)) then (if ((qB x0 x5).f4) = (wrap64 ((wrap64 ((wrap64 ((wrap64 (x1 + 1)) + 1)) + 1)) + 1)) then (if ((qB x0 x5).f5) = (wrap64 ((wrap64 ((wrap64 ((wrap64 ((wrap64 (x1 + 1)) + 1)) + 1)) + 1)) + 1)) then (qf.l0 k x0 (wrap64 ((wrap64 ((wrap64 ((wrap64 ((wrap64 ((wrap64 (x1 + 1)) + 1)) + 1)) + 1)) + 1)) + 1)) (wrap64 (x5 + 1))) else (some (-1))) else (some (-1))) else (some (-1))) else (some (-1))) else (some (-1))) else (some (-1))) else (none)) else (some x1)
def qf.f (k : Nat) (l0 : List (S29)) (a1 : Int) : Option (Int) := qf.l0 k l0 a1 0
set_option maxHeartbeats 8000000 in
set_option maxRecDepth 100000 in
theorem qf.calls (k : Nat) (A0 : Option Addr) (c0 : Nat) (l0 : List (S29)) (a1 : Int) (r : Int) (w : World) (hr0 : Kd.C k29 w A0 l0.length l0) (hc0 : l0.length ≤ c0) (h : qf.f k l0 a1 = some r) :
  Calls Try.prog 30 #[.slice A0 l0.length c0, .int .i64 a1] w fun e w' => e = .returned (.int .i64 r) ∧ Drawn0 w w' := by
 have HR0 := Aside0.mk hr0
 have HC0 := Aside0.mk hc0
 clear hr0 hc0
 have H : (qf.l0 k l0 a1 0) = some r := h
 clear h
 have H' := Aside0.mk H
 clear H
 go_enter Try.func30, Try.ntmps30
 go_wp2
 go_loopg [1, 5] k (fun kq v1 v5 w' => ∃ (x1_1 : Int) (x5_1 : Int), v1 = .int .i64 x1_1 ∧ v5 = .int .i64 x5_1 ∧ Aside0 (qf.l0 kq l0 x1_1 x5_1 = some r) ∧ Aside0 (kq ≤ k) ∧ Drawn0 w w')
 case atStart => exact ⟨(a1), (0), (by first | rfl | (simp; done) | (simp [*]; done)), (by first | rfl | (simp; done) | (simp [*]; done)), H', ⟨Nat.le_refl _⟩, by repeat (first | exact Drawn0.refl _ | apply Drawn0.step)⟩
 case round =>
  clear H'
  try clear p2
  obtain ⟨x1_1, x5_1, rfl, rfl, HA, HK1, ⟨m1, rfl⟩⟩ := hrel
  cases gk with
  | zero => exact absurd HA.out (by simp [qf.l0])
  | succ k1 =>
   have H := HA.out
   clear HA
   simp only [qf.l0] at H
   by_cases c3 : x5_1 < (l0.length : Int)
   ·rw [if_pos c3] at H
    have c3b0 : decide (x5_1 < (l0.length : Int)) = true := decide_eq_true c3
    clear c3
    by_cases c4 : 0 ≤ x5_1
    ·rw [if_pos c4] at H
     have c4b0 : decide (0 ≤ x5_1) = true := decide_eq_true c4
     clear c4
     by_cases c5 : ((qB l0 x5_1).f0) = x1_1
     ·rw [if_pos c5] at H
      have c5b0 : (((qB l0 x5_1).f0) == x1_1) = true := beq_iff_eq.mpr c5
      have c5b1 : (((qB l0 x5_1).f0) != x1_1) = false := bne_eq_false_iff_eq.mpr c5
      clear c5
      by_cases c6 : ((qB l0 x5_1).f1) = (wrap64 (x1_1 + 1))
      ·rw [if_pos c6] at H
       have c6b0 : (((qB l0 x5_1).f1) == (wrap64 (x1_1 + 1))) = true := beq_iff_eq.mpr c6
       have c6b1 : (((qB l0 x5_1).f1) != (wrap64 (x1_1 + 1))) = false := bne_eq_false_iff_eq.mpr c6
       clear c6
       by_cases c7 : ((qB l0 x5_1).f2) = (wrap64 ((wrap64 (x1_1 + 1)) + 1))
       ·rw [if_pos c7] at H
        have c7b0 : (((qB l0 x5_1).f2) == (wrap64 ((wrap64 (x1_1 + 1)) + 1))) = true := beq_iff_eq.mpr c7
        have c7b1 : (((qB l0 x5_1).f2) != (wrap64 ((wrap64 (x1_1 + 1)) + 1))) = false := bne_eq_false_iff_eq.mpr c7
        clear c7
        by_cases c8 : ((qB l0 x5_1).f3) = (wrap64 ((wrap64 ((wrap64 (x1_1 + 1)) + 1)) + 1))
        ·rw [if_pos c8] at H
         have c8b0 : (((qB l0 x5_1).f3) == (wrap64 ((wrap64 ((wrap64 (x1_1 + 1)) + 1)) + 1))) = true := beq_iff_eq.mpr c8
         have c8b1 : (((qB l0 x5_1).f3) != (wrap64 ((wrap64 ((wrap64 (x1_1 + 1)) + 1)) + 1))) = false := bne_eq_false_iff_eq.mpr c8
         clear c8
         by_cases c9 : ((qB l0 x5_1).f4) = (wrap64 ((wrap64 ((wrap64 ((wrap64 (x1_1 + 1)) + 1)) + 1)) + 1))
         ·rw [if_pos c9] at H
          have c9b0 : (((qB l0 x5_1).f4) == (wrap64 ((wrap64 ((wrap64 ((wrap64 (x1_1 + 1)) + 1)) + 1)) + 1))) = true := beq_iff_eq.mpr c9
          have c9b1 : (((qB l0 x5_1).f4) != (wrap64 ((wrap64 ((wrap64 ((wrap64 (x1_1 + 1)) + 1)) + 1)) + 1))) = false := bne_eq_false_iff_eq.mpr c9
          clear c9
          by_cases c10 : ((qB l0 x5_1).f5) = (wrap64 ((wrap64 ((wrap64 ((wrap64 ((wrap64 (x1_1 + 1)) + 1)) + 1)) + 1)) + 1))
          ·rw [if_pos c10] at H
           have c10b0 : (((qB l0 x5_1).f5) == (wrap64 ((wrap64 ((wrap64 ((wrap64 ((wrap64 (x1_1 + 1)) + 1)) + 1)) + 1)) + 1))) = true := beq_iff_eq.mpr c10
           have c10b1 : (((qB l0 x5_1).f5) != (wrap64 ((wrap64 ((wrap64 ((wrap64 ((wrap64 (x1_1 + 1)) + 1)) + 1)) + 1)) + 1))) = false := bne_eq_false_iff_eq.mpr c10
           clear c10
           have H' := Aside0.mk H
           clear H
           have p528 : 0 ≤ (x5_1 : Int) := of_decide_eq_true (by first | (with_reducible assumption) | assumption)
           have q528 : x5_1 < (l0.length : Int) := of_decide_eq_true (by first | (with_reducible assumption) | assumption)
           obtain ⟨ad528, e528, hx528_0, hx528_1, hx528_2, hx528_3, hx528_4, hx528_5⟩ := qOA HR0.out x5_1 p528 q528
           cases e528
           replace p528 := eq_true p528
           replace q528 := eq_true q528
           have p529 : 0 ≤ (x5_1 : Int) := of_decide_eq_true (by first | (with_reducible assumption) | assumption)
           have q529 : x5_1 < (l0.length : Int) := of_decide_eq_true (by first | (with_reducible assumption) | assumption)
           obtain ⟨ad529, e529, hx529_0, hx529_1, hx529_2, hx529_3, hx529_4, hx529_5⟩ := qOA HR0.out x5_1 p529 q529
           obtain rfl : ad528 = ad529 := (by injection e529)
           replace p529 := eq_true p529
           replace q529 := eq_true q529
           have p530 : 0 ≤ (x5_1 : Int) := of_decide_eq_true (by first | (with_reducible assumption) | assumption)
           have q530 : x5_1 < (l0.length : Int) := of_decide_eq_true (by first | (with_reducible assumption) | assumption)
           obtain ⟨ad530, e530, hx530_0, hx530_1, hx530_2, hx530_3, hx530_4, hx530_5⟩ := qOA HR0.out x5_1 p530 q530
           obtain rfl : ad528 = ad530 := (by injection e530)
           replace p530 := eq_true p530
           replace q530 := eq_true q530
           have p531 : 0 ≤ (x5_1 : Int) := of_decide_eq_true (by first | (with_reducible assumption) | assumption)
           have q531 : x5_1 < (l0.length : Int) := of_decide_eq_true (by first | (with_reducible assumption) | assumption)
           obtain ⟨ad531, e531, hx531_0, hx531_1, hx531_2, hx531_3, hx531_4, hx531_5⟩ := qOA HR0.out x5_1 p531 q531
           obtain rfl : ad528 = ad531 := (by injection e531)
           replace p531 := eq_true p531
           replace q531 := eq_true q531
           have p532 : 0 ≤ (x5_1 : Int) := of_decide_eq_true (by first | (with_reducible assumption) | assumption)
           have q532 : x5_1 < (l0.length : Int) := of_decide_eq_true (by first | (with_reducible assumption) | assumption)
           obtain ⟨ad532, e532, hx532_0, hx532_1, hx532_2, hx532_3, hx532_4, hx532_5⟩ := qOA HR0.out x5_1 p532 q532
           obtain rfl : ad528 = ad532 := (by injection e532)
           replace p532 := eq_true p532
           replace q532 := eq_true q532
           have p533 : 0 ≤ (x5_1 : Int) := of_decide_eq_true (by first | (with_reducible assumption) | assumption)
           have q533 : x5_1 < (l0.length : Int) := of_decide_eq_true (by first | (with_reducible assumption) | assumption)
           obtain ⟨ad533, e533, hx533_0, hx533_1, hx533_2, hx533_3, hx533_4, hx533_5⟩ := qOA HR0.out x5_1 p533 q533
           obtain rfl : ad528 = ad533 := (by injection e533)
           replace p533 := eq_true p533
           replace q533 := eq_true q533
           go_wp2
           go_roundg k1
           case measure => have := HK1.out; omega
           case rel => exact ⟨(wrap64 ((wrap64 ((wrap64 ((wrap64 ((wrap64 ((wrap64 (x1_1 + 1)) + 1)) + 1)) + 1)) + 1)) + 1)), (wrap64 (x5_1 + 1)), (by first | rfl | (simp; done) | (simp [*]; done)), (by first | rfl | (simp; done) | (simp [*]; done)), H', ⟨by have := HK1.out; omega⟩, by repeat (first | exact Drawn0.refl _ | apply Drawn0.step)⟩
          ·rw [if_neg c10] at H
           have c10b0 : (((qB l0 x5_1).f5) == (wrap64 ((wrap64 ((wrap64 ((wrap64 ((wrap64 (x1_1 + 1)) + 1)) + 1)) + 1)) + 1))) = false := beq_eq_false_iff_ne.mpr c10
           have c10b1 : (((qB l0 x5_1).f5) != (wrap64 ((wrap64 ((wrap64 ((wrap64 ((wrap64 (x1_1 + 1)) + 1)) + 1)) + 1)) + 1))) = true := bne_iff_ne.mpr c10
           obtain rfl := Option.some.inj H
           have p528 : 0 ≤ (x5_1 : Int) := of_decide_eq_true (by first | (with_reducible assumption) | assumption)
           have q528 : x5_1 < (l0.length : Int) := of_decide_eq_true (by first | (with_reducible assumption) | assumption)
           obtain ⟨ad528, e528, hx528_0, hx528_1, hx528_2, hx528_3, hx528_4, hx528_5⟩ := qOA HR0.out x5_1 p528 q528
           cases e528
           replace p528 := eq_true p528
           replace q528 := eq_true q528
           have p529 : 0 ≤ (x5_1 : Int) := of_decide_eq_true (by first | (with_reducible assumption) | assumption)
           have q529 : x5_1 < (l0.length : Int) := of_decide_eq_true (by first | (with_reducible assumption) | assumption)
           obtain ⟨ad529, e529, hx529_0, hx529_1, hx529_2, hx529_3, hx529_4, hx529_5⟩ := qOA HR0.out x5_1 p529 q529
           obtain rfl : ad528 = ad529 := (by injection e529)
           replace p529 := eq_true p529
           replace q529 := eq_true q529
           have p530 : 0 ≤ (x5_1 : Int) := of_decide_eq_true (by first | (with_reducible assumption) | assumption)
           have q530 : x5_1 < (l0.length : Int) := of_decide_eq_true (by first | (with_reducible assumption) | assumption)
           obtain ⟨ad530, e530, hx530_0, hx530_1, hx530_2, hx530_3, hx530_4, hx530_5⟩ := qOA HR0.out x5_1 p530 q530
           obtain rfl : ad528 = ad530 := (by injection e530)
           replace p530 := eq_true p530
           replace q530 := eq_true q530
           have p531 : 0 ≤ (x5_1 : Int) := of_decide_eq_true (by first | (with_reducible assumption) | assumption)
           have q531 : x5_1 < (l0.length : Int) := of_decide_eq_true (by first | (with_reducible assumption) | assumption)
           obtain ⟨ad531, e531, hx531_0, hx531_1, hx531_2, hx531_3, hx531_4, hx531_5⟩ := qOA HR0.out x5_1 p531 q531
           obtain rfl : ad528 = ad531 := (by injection e531)
           replace p531 := eq_true p531
           replace q531 := eq_true q531
           have p532 : 0 ≤ (x5_1 : Int) := of_decide_eq_true (by first | (with_reducible assumption) | assumption)
           have q532 : x5_1 < (l0.length : Int) := of_decide_eq_true (by first | (with_reducible assumption) | assumption)
           obtain ⟨ad532, e532, hx532_0, hx532_1, hx532_2, hx532_3, hx532_4, hx532_5⟩ := qOA HR0.out x5_1 p532 q532
           obtain rfl : ad528 = ad532 := (by injection e532)
           replace p532 := eq_true p532
           replace q532 := eq_true q532
           have p533 : 0 ≤ (x5_1 : Int) := of_decide_eq_true (by first | (with_reducible assumption) | assumption)
           have q533 : x5_1 < (l0.length : Int) := of_decide_eq_true (by first | (with_reducible assumption) | assumption)
           obtain ⟨ad533, e533, hx533_0, hx533_1, hx533_2, hx533_3, hx533_4, hx533_5⟩ := qOA HR0.out x5_1 p533 q533
           obtain rfl : ad528 = ad533 := (by injection e533)
           replace p533 := eq_true p533
           replace q533 := eq_true q533
           go_wp2
           go_ret
           exact ⟨by first | rfl | (simp; done) | (simp [*]; done), by repeat (first | exact Drawn0.refl _ | apply Drawn0.step)⟩
         ·rw [if_neg c9] at H
          have c9b0 : (((qB l0 x5_1).f4) == (wrap64 ((wrap64 ((wrap64 ((wrap64 (x1_1 + 1)) + 1)) + 1)) + 1))) = false := beq_eq_false_iff_ne.mpr c9
          have c9b1 : (((qB l0 x5_1).f4) != (wrap64 ((wrap64 ((wrap64 ((wrap64 (x1_1 + 1)) + 1)) + 1)) + 1))) = true := bne_iff_ne.mpr c9
          obtain rfl := Option.some.inj H
          have p528 : 0 ≤ (x5_1 : Int) := of_decide_eq_true (by first | (with_reducible assumption) | assumption)
          have q528 : x5_1 < (l0.length : Int) := of_decide_eq_true (by first | (with_reducible assumption) | assumption)
          obtain ⟨ad528, e528, hx528_0, hx528_1, hx528_2, hx528_3, hx528_4, hx528_5⟩ := qOA HR0.out x5_1 p528 q528
          cases e528
          replace p528 := eq_true p528
          replace q528 := eq_true q528
          have p529 : 0 ≤ (x5_1 : Int) := of_decide_eq_true (by first | (with_reducible assumption) | assumption)
          have q529 : x5_1 < (l0.length : Int) := of_decide_eq_true (by first | (with_reducible assumption) | assumption)
          obtain ⟨ad529, e529, hx529_0, hx529_1, hx529_2, hx529_3, hx529_4, hx529_5⟩ := qOA HR0.out x5_1 p529 q529
          obtain rfl : ad528 = ad529 := (by injection e529)
          replace p529 := eq_true p529
          replace q529 := eq_true q529
          have p530 : 0 ≤ (x5_1 : Int) := of_decide_eq_true (by first | (with_reducible assumption) | assumption)
          have q530 : x5_1 < (l0.length : Int) := of_decide_eq_true (by first | (with_reducible assumption) | assumption)
          obtain ⟨ad530, e530, hx530_0, hx530_1, hx530_2, hx530_3, hx530_4, hx530_5⟩ := qOA HR0.out x5_1 p530 q530
          obtain rfl : ad528 = ad530 := (by injection e530)
          replace p530 := eq_true p530
          replace q530 := eq_true q530
          have p531 : 0 ≤ (x5_1 : Int) := of_decide_eq_true (by first | (with_reducible assumption) | assumption)
          have q531 : x5_1 < (l0.length : Int) := of_decide_eq_true (by first | (with_reducible assumption) | assumption)
          obtain ⟨ad531, e531, hx531_0, hx531_1, hx531_2, hx531_3, hx531_4, hx531_5⟩ := qOA HR0.out x5_1 p531 q531
          obtain rfl : ad528 = ad531 := (by injection e531)
          replace p531 := eq_true p531
          replace q531 := eq_true q531
          have p532 : 0 ≤ (x5_1 : Int) := of_decide_eq_true (by first | (with_reducible assumption) | assumption)
          have q532 : x5_1 < (l0.length : Int) := of_decide_eq_true (by first | (with_reducible assumption) | assumption)
          obtain ⟨ad532, e532, hx532_0, hx532_1, hx532_2, hx532_3, hx532_4, hx532_5⟩ := qOA HR0.out x5_1 p532 q532
          obtain rfl : ad528 = ad532 := (by injection e532)
          replace p532 := eq_true p532
          replace q532 := eq_true q532
          go_wp2
          go_ret
          exact ⟨by first | rfl | (simp; done) | (simp [*]; done), by repeat (first | exact Drawn0.refl _ | apply Drawn0.step)⟩
        ·rw [if_neg c8] at H
         have c8b0 : (((qB l0 x5_1).f3) == (wrap64 ((wrap64 ((wrap64 (x1_1 + 1)) + 1)) + 1))) = false := beq_eq_false_iff_ne.mpr c8
         have c8b1 : (((qB l0 x5_1).f3) != (wrap64 ((wrap64 ((wrap64 (x1_1 + 1)) + 1)) + 1))) = true := bne_iff_ne.mpr c8
         obtain rfl := Option.some.inj H
         have p528 : 0 ≤ (x5_1 : Int) := of_decide_eq_true (by first | (with_reducible assumption) | assumption)
         have q528 : x5_1 < (l0.length : Int) := of_decide_eq_true (by first | (with_reducible assumption) | assumption)
         obtain ⟨ad528, e528, hx528_0, hx528_1, hx528_2, hx528_3, hx528_4, hx528_5⟩ := qOA HR0.out x5_1 p528 q528
         cases e528
         replace p528 := eq_true p528
         replace q528 := eq_true q528
         have p529 : 0 ≤ (x5_1 : Int) := of_decide_eq_true (by first | (with_reducible assumption) | assumption)
         have q529 : x5_1 < (l0.length : Int) := of_decide_eq_true (by first | (with_reducible assumption) | assumption)
         obtain ⟨ad529, e529, hx529_0, hx529_1, hx529_2, hx529_3, hx529_4, hx529_5⟩ := qOA HR0.out x5_1 p529 q529
         obtain rfl : ad528 = ad529 := (by injection e529)
         replace p529 := eq_true p529
         replace q529 := eq_true q529
         have p530 : 0 ≤ (x5_1 : Int) := of_decide_eq_true (by first | (with_reducible assumption) | assumption)
         have q530 : x5_1 < (l0.length : Int) := of_decide_eq_true (by first | (with_reducible assumption) | assumption)
         obtain ⟨ad530, e530, hx530_0, hx530_1, hx530_2, hx530_3, hx530_4, hx530_5⟩ := qOA HR0.out x5_1 p530 q530
         obtain rfl : ad528 = ad530 := (by injection e530)
         replace p530 := eq_true p530
         replace q530 := eq_true q530
         have p531 : 0 ≤ (x5_1 : Int) := of_decide_eq_true (by first | (with_reducible assumption) | assumption)
         have q531 : x5_1 < (l0.length : Int) := of_decide_eq_true (by first | (with_reducible assumption) | assumption)
         obtain ⟨ad531, e531, hx531_0, hx531_1, hx531_2, hx531_3, hx531_4, hx531_5⟩ := qOA HR0.out x5_1 p531 q531
         obtain rfl : ad528 = ad531 := (by injection e531)
         replace p531 := eq_true p531
         replace q531 := eq_true q531
         go_wp2
         go_ret
         exact ⟨by first | rfl | (simp; done) | (simp [*]; done), by repeat (first | exact Drawn0.refl _ | apply Drawn0.step)⟩
       ·rw [if_neg c7] at H
        have c7b0 : (((qB l0 x5_1).f2) == (wrap64 ((wrap64 (x1_1 + 1)) + 1))) = false := beq_eq_false_iff_ne.mpr c7
        have c7b1 : (((qB l0 x5_1).f2) != (wrap64 ((wrap64 (x1_1 + 1)) + 1))) = true := bne_iff_ne.mpr c7
        obtain rfl := Option.some.inj H
        have p528 : 0 ≤ (x5_1 : Int) := of_decide_eq_true (by first | (with_reducible assumption) | assumption)
        have q528 : x5_1 < (l0.length : Int) := of_decide_eq_true (by first | (with_reducible assumption) | assumption)
        obtain ⟨ad528, e528, hx528_0, hx528_1, hx528_2, hx528_3, hx528_4, hx528_5⟩ := qOA HR0.out x5_1 p528 q528
        cases e528
        replace p528 := eq_true p528
        replace q528 := eq_true q528
        have p529 : 0 ≤ (x5_1 : Int) := of_decide_eq_true (by first | (with_reducible assumption) | assumption)
        have q529 : x5_1 < (l0.length : Int) := of_decide_eq_true (by first | (with_reducible assumption) | assumption)
        obtain ⟨ad529, e529, hx529_0, hx529_1, hx529_2, hx529_3, hx529_4, hx529_5⟩ := qOA HR0.out x5_1 p529 q529
        obtain rfl : ad528 = ad529 := (by injection e529)
        replace p529 := eq_true p529
        replace q529 := eq_true q529
        have p530 : 0 ≤ (x5_1 : Int) := of_decide_eq_true (by first | (with_reducible assumption) | assumption)
        have q530 : x5_1 < (l0.length : Int) := of_decide_eq_true (by first | (with_reducible assumption) | assumption)
        obtain ⟨ad530, e530, hx530_0, hx530_1, hx530_2, hx530_3, hx530_4, hx530_5⟩ := qOA HR0.out x5_1 p530 q530
        obtain rfl : ad528 = ad530 := (by injection e530)
        replace p530 := eq_true p530
        replace q530 := eq_true q530
        go_wp2
        go_ret
        exact ⟨by first | rfl | (simp; done) | (simp [*]; done), by repeat (first | exact Drawn0.refl _ | apply Drawn0.step)⟩
      ·rw [if_neg c6] at H
       have c6b0 : (((qB l0 x5_1).f1) == (wrap64 (x1_1 + 1))) = false := beq_eq_false_iff_ne.mpr c6
       have c6b1 : (((qB l0 x5_1).f1) != (wrap64 (x1_1 + 1))) = true := bne_iff_ne.mpr c6
       obtain rfl := Option.some.inj H
       have p528 : 0 ≤ (x5_1 : Int) := of_decide_eq_true (by first | (with_reducible assumption) | assumption)
       have q528 : x5_1 < (l0.length : Int) := of_decide_eq_true (by first | (with_reducible assumption) | assumption)
       obtain ⟨ad528, e528, hx528_0, hx528_1, hx528_2, hx528_3, hx528_4, hx528_5⟩ := qOA HR0.out x5_1 p528 q528
       cases e528
       replace p528 := eq_true p528
       replace q528 := eq_true q528
       have p529 : 0 ≤ (x5_1 : Int) := of_decide_eq_true (by first | (with_reducible assumption) | assumption)
       have q529 : x5_1 < (l0.length : Int) := of_decide_eq_true (by first | (with_reducible assumption) | assumption)
       obtain ⟨ad529, e529, hx529_0, hx529_1, hx529_2, hx529_3, hx529_4, hx529_5⟩ := qOA HR0.out x5_1 p529 q529
       obtain rfl : ad528 = ad529 := (by injection e529)
       replace p529 := eq_true p529
       replace q529 := eq_true q529
       go_wp2
       go_ret
       exact ⟨by first | rfl | (simp; done) | (simp [*]; done), by repeat (first | exact Drawn0.refl _ | apply Drawn0.step)⟩
     ·rw [if_neg c5] at H
      have c5b0 : (((qB l0 x5_1).f0) == x1_1) = false := beq_eq_false_iff_ne.mpr c5
      have c5b1 : (((qB l0 x5_1).f0) != x1_1) = true := bne_iff_ne.mpr c5
      obtain rfl := Option.some.inj H
      have p528 : 0 ≤ (x5_1 : Int) := of_decide_eq_true (by first | (with_reducible assumption) | assumption)
      have q528 : x5_1 < (l0.length : Int) := of_decide_eq_true (by first | (with_reducible assumption) | assumption)
      obtain ⟨ad528, e528, hx528_0, hx528_1, hx528_2, hx528_3, hx528_4, hx528_5⟩ := qOA HR0.out x5_1 p528 q528
      cases e528
      replace p528 := eq_true p528
      replace q528 := eq_true q528
      go_wp2
      go_ret
      exact ⟨by first | rfl | (simp; done) | (simp [*]; done), by repeat (first | exact Drawn0.refl _ | apply Drawn0.step)⟩
    ·rw [if_neg c4] at H
     exact absurd H (by simp)
   ·rw [if_neg c3] at H
    have c3b0 : decide (x5_1 < (l0.length : Int)) = false := decide_eq_false c3
    clear c3
    obtain rfl := Option.some.inj H
    go_wp2
    go_ret
    exact ⟨by first | rfl | (simp; done) | (simp [*]; done), by repeat (first | exact Drawn0.refl _ | apply Drawn0.step)⟩
end Go.Proofs.Ytbmiekopflgicaa.P
namespace Go.Proofs.Ytbmiekopflgicaa
open Go.RowKit Go.Proofs.Ytbmiekopflgicaa.P Go.Proofs.YtbmiekopflgicaaW.PrintWords Go.Proofs.YtbmiekopflgicaaW.PrintLast
set_option linter.unusedVariables false
set_option linter.unusedSimpArgs false
abbrev D := S29
theorem rdD (l : List D) (i : Nat) (h : i < l.length) : qB l (i : Int) = l[i] := by
 unfold qB
 rw [Int.toNat_natCast, List.getD_eq_getElem?_getD, List.getElem?_eq_getElem h]; rfl
theorem rdD_set (l : List D) (i : Nat) (v : D) (h : i < l.length) : qB (l.set i v) (i : Int) = v := by
 rw [rdD _ i (by rw [List.length_set]; exact h), List.getElem_set_self]
theorem eqDie_refl (a b c d e f : Int) : qPA.f a b c d e f a b c d e f = some true := by
 unfold qPA.f
 simp
theorem eqDieS_loop (a : List D) (ha : a.length ≤ 140737488355328) (d : Nat) : ∀ i : Nat, i ≤ a.length → a.length - i = d → Ev (fun k => qX.l0 k a a (i : Int)) true := by
 induction d with
 | zero =>
  intro i hi hd
  exact Ev.step (f := fun k => _) (fun k => by rw [qX.l0]) (Ev.neg (by omega) (Ev.now _))
 | succ d ih =>
  intro i hi hd
  refine Ev.step (f := fun k => _) (fun k => by rw [qX.l0]) (Ev.pos (by omega) (Ev.pos (by omega) (Ev.pos (by omega) (Ev.bindc (eqDie_refl _ _ _ _ _ _) (Ev.pos rfl ?_)))))
  rw [show wrap64 ((i : Int) + 1) = ((i + 1 : Nat) : Int) by unfold wrap64; omega]
  exact ih (i + 1) (by omega) (by omega)
theorem eqDieS_refl (a : List D) (ha : a.length ≤ 140737488355328) : Ev (fun k => qX.f k a a) true := by
 unfold qX.f
 exact Ev.pos rfl (eqDieS_loop a ha a.length 0 (by omega) (by omega))
def markD (j : Nat) : D := ⟨1 + 6 * (j : Int), 2 + 6 * (j : Int), 3 + 6 * (j : Int), 4 + 6 * (j : Int), 5 + 6 * (j : Int), 6 + 6 * (j : Int)⟩
def marksD (n : Nat) : List D := (List.range n).map markD
theorem qZA (n : Nat) : (marksD n).length = n := by simp [marksD]
theorem marksD_succ (n : Nat) : marksD (n + 1) = marksD n ++ [markD n] := by simp [marksD, List.range_succ]
theorem markDieS_loop (l : List D) (ha : l.length ≤ 2000000) (d : Nat) : ∀ i : Nat, i ≤ l.length → l.length - i = d →
  Ev (fun k => qe.l0 k (marksD i ++ l.drop i) (1 + 6 * (i : Int)) (i : Int)) (1 + 6 * (l.length : Int), marksD l.length) := by
 induction d with
 | zero =>
  intro i hi hd
  obtain rfl : i = l.length := by omega
  refine Ev.step (f := fun k => _) (fun k => by rw [qe.l0]) (Ev.neg ?_ (Ev.some_ ?_))
  ·simp [qZA]
  ·simp
 | succ d ih =>
  intro i hi hd
  refine Ev.step (f := fun k => _) (fun k => by rw [qe.l0]) (Ev.pos ?_ (Ev.pos (by omega) ?_))
  ·simp [qZA]; omega
  ·have hl : i < (marksD i ++ l.drop i).length := by simp [qZA]; omega
   have w0 : wrap64 ((i : Int) + 1) = ((i + 1 : Nat) : Int) := by unfold wrap64; omega
   have w1 : wrap64 (1 + 6 * (i : Int) + 1) = 2 + 6 * (i : Int) := by unfold wrap64; omega
   have w2 : wrap64 (2 + 6 * (i : Int) + 1) = 3 + 6 * (i : Int) := by unfold wrap64; omega
   have w3 : wrap64 (3 + 6 * (i : Int) + 1) = 4 + 6 * (i : Int) := by unfold wrap64; omega
   have w4 : wrap64 (4 + 6 * (i : Int) + 1) = 5 + 6 * (i : Int) := by unfold wrap64; omega
   have w5 : wrap64 (5 + 6 * (i : Int) + 1) = 6 + 6 * (i : Int) := by unfold wrap64; omega
   have w6 : wrap64 (6 + 6 * (i : Int) + 1) = 1 + 6 * ((i + 1 : Nat) : Int) := by unfold wrap64; omega
   have e : (marksD i ++ l.drop i).set i (markD i) = marksD (i + 1) ++ l.drop (i + 1) := by
    rw [List.set_append_right _ _ (by rw [qZA]; omega), qZA, Nat.sub_self, List.drop_eq_getElem_cons (show i < l.length by omega), List.set_cons_zero, marksD_succ, List.append_assoc]
    rfl
   simp only [Option.bind_some, Int.toNat_natCast, w0, w1, w2, w3, w4, w5, w6]
   simp only [rdD_set _ _ _ hl, List.set_set]
   have := ih (i + 1) (by omega) (by omega)
   rw [← e] at this
   exact this
theorem markDieS_ev (l : List D) (ha : l.length ≤ 2000000) : Ev (fun k => qe.f k l 1) (1 + 6 * (l.length : Int), marksD l.length) := by
 have := markDieS_loop l ha l.length 0 (by omega) (by omega)
 simpa [marksD, qe.f] using this
theorem heldDieS_loop (n : Nat) (hn : n ≤ 2000000) (d : Nat) : ∀ i : Nat, i ≤ n → n - i = d → Ev (fun k => qf.l0 k (marksD n) (1 + 6 * (i : Int)) (i : Int)) (1 + 6 * (n : Int)) := by
 induction d with
 | zero =>
  intro i hi hd
  obtain rfl : i = n := by omega
  exact Ev.step (f := fun k => _) (fun k => by rw [qf.l0]) (Ev.neg (by rw [qZA]; omega) (Ev.now _))
 | succ d ih =>
  intro i hi hd
  have w0 : wrap64 ((i : Int) + 1) = ((i + 1 : Nat) : Int) := by unfold wrap64; omega
  have w1 : wrap64 (1 + 6 * (i : Int) + 1) = 2 + 6 * (i : Int) := by unfold wrap64; omega
  have w2 : wrap64 (2 + 6 * (i : Int) + 1) = 3 + 6 * (i : Int) := by unfold wrap64; omega
  have w3 : wrap64 (3 + 6 * (i : Int) + 1) = 4 + 6 * (i : Int) := by unfold wrap64; omega
  have w4 : wrap64 (4 + 6 * (i : Int) + 1) = 5 + 6 * (i : Int) := by unfold wrap64; omega
  have w5 : wrap64 (5 + 6 * (i : Int) + 1) = 6 + 6 * (i : Int) := by unfold wrap64; omega
  have w6 : wrap64 (6 + 6 * (i : Int) + 1) = 1 + 6 * ((i + 1 : Nat) : Int) := by unfold wrap64; omega
  have hr : qB (marksD n) (i : Int) = markD i := by
   rw [rdD _ i (by rw [qZA]; omega)]
   unfold marksD
   rw [List.getElem_map, List.getElem_range]
  refine Ev.step (f := fun k => _) (fun k => by rw [qf.l0]) (Ev.pos (by rw [qZA]; omega) (Ev.pos (by omega) ?_))
  simp only [w0, w1, w2, w3, w4, w5, w6, hr]
  exact Ev.pos rfl (Ev.pos rfl (Ev.pos rfl (Ev.pos rfl (Ev.pos rfl (Ev.pos rfl (ih (i + 1) (by omega) (by omega)))))))
theorem heldDieS_ev (n : Nat) (hn : n ≤ 2000000) : Ev (fun k => qf.f k (marksD n) 1) (1 + 6 * (n : Int)) := by
 have := heldDieS_loop n hn n 0 (by omega) (by omega)
 simpa [qf.f] using this
end Go.Proofs.Ytbmiekopflgicaa
