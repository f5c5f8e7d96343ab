/- The program's FoldNet returns what the reference's returns, for all texts (the law lets longer texts by). No further condition. -/
import Derived.Test.YtdncpkppkafkpaaDoorKFnExactFoldNet3

namespace Go.Proofs.YtdncpkppkafkpaaDoor
open Go.RowKit Go.Proofs.YtdncpkppkafkpaaDoor.P Go.Proofs.YtdncpkppkafkpaaDoorW.PrintWords Go.Proofs.YtdncpkppkafkpaaDoorW.PrintLast
set_option linter.unusedVariables false
set_option linter.unusedSimpArgs false
theorem six_getW (l : List ByteArray) (j : Nat) (h : j < l.length) : rdOf ByteArray.empty l (j : Int) = l[j] := by
 unfold rdOf
 rw [Int.toNat_natCast, List.getD_eq_getElem?_getD, List.getElem?_eq_getElem h]; rfl
theorem six_bt (s : ByteArray) (i : Nat) (h : i < s.data.toList.length) : bt s (i : Int) = ((s.data.toList[i]).toNat : Int) := by
 have h' : i < s.size := by have : s.data.toList.length = s.size := (by rw [Array.length_toList]; rfl); omega
 unfold bt
 rw [dif_pos (by simpa using h')]
 simp only [Int.toNat_natCast, Array.getElem_toList]
 rfl
def sixT14 : Bool × List (List Nat × List Nat) := (true, [([], []), ([], []), ([], []), ([], []), ([], []), ([3, 4], [3, 4]), ([5], [5]), ([2, 6], [2, 6]), ([], []), ([], []), ([], []), ([9, 10], [9, 10]), ([11], [11]), ([12], [12]), ([13], [13]), ([8, 14, 7], [8, 14]), ([7, 15, 2, 3, 4, 5, 6, 7], [2, 7]), ([15, 16, 2, 3, 4, 5, 6, 7, 8, 9, 10, 11, 12, 13, 14, 15, 16], [8, 15]), ([0, 1, 17, 0, 1, 2, 3, 4, 5, 6, 7, 8, 9, 10, 11, 12, 13, 14, 15, 16, 17], [0, 1])])
def sixB14 : List Nat := [0, 0, 0, 0, 0, 24, 56, 124, 0, 0, 0, 1536, 3584, 7680, 15872, 32764, 65532, 131068, 262143]
def sixT17 : Bool × List (List Nat × List Nat) := (true, [([], []), ([0], [0]), ([1], [1]), ([2], [2]), ([3], [3]), ([4, 3, 3], [3, 4]), ([3], [3]), ([6, 3], [3, 6]), ([7, 3], [3, 7]), ([8, 3], [3, 8]), ([5, 9, 3], [3, 5, 9]), ([3, 10], [3, 10]), ([11, 5], [11]), ([12], [12]), ([13, 12, 12], [12, 13]), ([14, 12], [12, 14]), ([12, 15], [12, 15])])
def sixB17 : List Nat := [0, 1, 3, 7, 15, 31, 15, 79, 207, 463, 1023, 2047, 4095, 8191, 16383, 32767, 65535]
theorem sixTab14 : rtab .any (opsOf Tryd.f33 14) = sixT14 := by kernel_rfl
theorem sixBits14 : waitsOk sixT14.2 sixB14 = true := by kernel_rfl
theorem sixTab17 : rtab .any (opsOf Tryd.f33 17) = sixT17 := by kernel_rfl
theorem sixBits17 : waitsOk sixT17.2 sixB17 = true := by kernel_rfl
namespace P
set_option maxHeartbeats 4000000 in
set_option maxRecDepth 100000 in
theorem qLB.calls (k : Nat) (a0 : ByteArray) (r1 : List CC) (r2 : List Int) (r3 : Bool) (w : World) (hL : Laid w) (h : qLB.f k a0 = some (r1, r2, r3)) :
    Calls Tryd.prog 33 #[.string a0] w fun e w' => ∃ v0_ v1_ : Value, e = .returned (.tuple #[v0_, v1_, .bool r3]) ∧ Kd.R k61 61 w' w.heap.size (fun _ => True) v0_ r1 ∧ Kd.R (Kd.int .i64) 3 w' w.heap.size (fun _ => True) v1_ r2 ∧ Below w.heap.size w w' := by
  unfold qLB.f at h
  by_cases hs : a0.size < 4294967281
  case neg => rw [if_neg hs] at h; cases h
  rw [if_pos hs] at h
  have hsp : strings_Split.f a0 ⟨#[47]⟩ = some (rowsOf6 a0) := if_pos ⟨hs, by decide⟩
  have hlen := split_len a0
  have hcnt := Lib.countB_le ⟨#[47]⟩ (by decide) a0.size a0 (Nat.le_refl _)
  have hrs : ∀ r ∈ rowsOf6 a0, r.size < 4294967281 := fun r hr => Nat.lt_of_le_of_lt (split_size a0 r hr) hs
  unfold sixAll at h
  generalize rowsOf6 a0 = L at h hsp hlen hrs
  have hLn : L.length ≤ 4294967281 := by omega
  have hL0 : 0 < L.length := by omega
  clear hlen hcnt hs
  obtain ⟨r0, hr0⟩ : ∃ r0, L[0] = r0 := ⟨_, rfl⟩
  have hhd : L.headD ByteArray.empty = r0 := by rw [← hr0]; cases L with | nil => simp at hL0 | cons a l => rfl
  rw [hhd] at h
  obtain ⟨T, hT⟩ : ∃ T, sixRows r0.size 0 L ⟨[], [], []⟩ = T := ⟨_, rfl⟩
  rw [hT] at h
  have HT := Aside0.mk hT
  have HF := Aside0.mk h
  have HSP := Aside0.mk hsp
  have HRS := Aside0.mk hrs
  have HL0 := Aside0.mk hL0
  have HLN := Aside0.mk hLn
  have HLD := Aside0.mk hL
  have HLP := Aside0.mk (show (0 : Int) < (L.length : Int) by omega)
  have HR0 := Aside0.mk (show rdOf ByteArray.empty L 0 = r0 from (six_getW L 0 hL0).trans hr0)
  clear hT h hsp hrs hLn hL hhd hr0 hL0
  have hu := Tryd.underlying61
  go_enter Tryd.func33, Tryd.ntmps33
  have B0 := Aside0.mk (Below.refl w.heap.size w)
  have hmm := @run_makeMap Tryd.prog
  go_wp2_with (first
    | ((with_reducible refine qT (N := 12) rfl ?_); refine Kd.R_lit k61 w.heap.size 61 ?hg (N := 12) ?hd (xs := ([] : List CC)) (inner := []) (ok := fun _ => True) (okp := fun _ => True) ?hr ?hp (fun _ hk => hk) trivial B0.out B0.out.size (by simp) ?_; (case hd => rfl); (case hg => rfl); (case hr => first | (go_simp; done) | (go_simp; rfl)); (case hp => exact (Reps.none _ _)); intro vc wA ho hb hg_ hnew_; have C1 := Aside0.mk ho; have B1 := Aside0.mk hb; clear ho hb hg_ hnew_ B0)
    | ((with_reducible refine qT (N := 13) rfl ?_); refine Kd.R_lit (Kd.int .i64) w.heap.size 3 ?hg (N := 13) ?hd (xs := ([] : List Int)) (inner := []) (ok := fun _ => True) (okp := fun _ => True) ?hr ?hp (fun _ hk => hk) trivial B1.out B1.out.size (by simp) ?_; (case hd => rfl); (case hg => rfl); (case hr => first | (go_simp; done) | (go_simp; rfl)); (case hp => exact (Reps.none _ _)); intro vd wB ho hb hg_ hnew_; have C2 := Aside0.mk (qlB C1.out hg_); have D2 := Aside0.mk ho; have B2 := Aside0.mk hb; clear ho hb hg_ hnew_ B1 C1)
    | ((with_reducible refine qW (f := 46) rfl ?_); refine qNA (some 15) rfl rfl Tryd.func46 (by kernel_rfl) rfl #[.string a0, .string ⟨#[47]⟩] rfl (by (try simp only [List.map_toArray, List.map_cons, List.map_nil]); first | done | rfl | simp) ?_; refine (strings_Split.calls a0 ⟨#[47]⟩ L _ (Laid.below HLD.out B2.out) HSP.out).mono ?_; rintro e wC ⟨vw, rfl, hw, hb⟩; refine ⟨_, rfl, ?_⟩; have C3 := Aside0.mk (Kd.qV C2.out hb); have D3 := Aside0.mk (Kd.qV D2.out hb); have L3 := Aside0.mk (Kd.qCA hw B2.out.size); have B3 := Aside0.mk (qbA B2.out B2.out.size hb); obtain ⟨ad, cw, ew⟩ := Kd.R_slice1 L3.out HL0.out; subst ew; clear hw hb C2 D2 B2))
  have M4 := Aside0.mk (show mapI.Is (wC.alloc (.map #[] 0)) wC.heap.size [] from MapKit.Is.made wC)
  have HG := Aside0.mk (show w.heap.size ≤ wC.heap.size from B3.out.size)
  have C4 := Aside0.mk (Kd.qG C3.out (.map #[] 0))
  have D4 := Aside0.mk (Kd.qG D3.out (.map #[] 0))
  have L4 := Aside0.mk (Kd.qG L3.out (.map #[] 0))
  have B4 := Aside0.mk (qt B3.out (.map #[] 0))
  clear C3 D3 L3 B3 hmm
  generalize hgg : wC.heap.size = g at M4 HG ⊢
  clear hgg
  generalize wC.alloc (.map #[] 0) = wD at M4 C4 D4 L4 B4 ⊢
  go_loopg [5, 6, 19] L.length (fun gg v5 v6 v19 wq => ∃ (vc vd : Value) (s : Sx) (y : Nat), vc = v5 ∧ vd = v6 ∧ v19 = .int .i64 y ∧ L.length - y ≤ gg ∧ y ≤ L.length ∧ Aside0 (sixRows r0.size y (L.drop y) s = T) ∧ Aside0 (SixOk s) ∧ Aside0 (Kd.R k61 61 wq w.heap.size (fun _ => True) vc s.cs) ∧ Aside0 (Kd.R (Kd.int .i64) 3 wq w.heap.size (fun _ => True) vd s.ds) ∧ Aside0 (Kd.R Kd.string 9 wq w.heap.size (fun _ => True) (.slice (some ad) L.length cw) L) ∧ Aside0 (mapI.Is wq g s.ms) ∧ Aside0 (Below w.heap.size w wq))
  case atStart => exact ⟨_, _, ⟨[], [], []⟩, 0, rfl, rfl, rfl, by omega, by omega, HT, ⟨SixOk.start⟩, C4, D4, L4, M4, B4⟩
  case round =>
    clear C4 D4 L4 M4 B4 HT
    obtain ⟨vc, vd, s, y, rfl, rfl, rfl, hgk, hy, HT, HK, C0, D0, LR, M0, B⟩ := hrel
    rename World => wr
    by_cases hlt : y < L.length
    · have hltz : (y : Int) < (L.length : Int) := by omega
      obtain ⟨_, _, hC⟩ := Kd.qQ LR.out
      obtain ⟨ady, ey, hcell⟩ := Kd.qBC hC (y : Int) (by omega) (by omega)
      obtain rfl : ad = ady := by injection ey
      obtain ⟨ad0, e0, hcell0⟩ := Kd.qBC hC (0 : Int) (by omega) (by omega)
      obtain rfl : ad = ad0 := by injection e0
      rw [HR0.out] at hcell0
      obtain ⟨row, hrow⟩ : ∃ row, L[y] = row := ⟨_, rfl⟩
      rw [six_getW L y hlt, hrow, Int.toNat_natCast] at hcell
      have hmem : row ∈ L := hrow ▸ List.getElem_mem hlt
      have hT := HT.out
      rw [List.drop_eq_getElem_cons hlt, hrow, sixRows] at hT
      have hrz := HRS.out row hmem
      have HRZ := Aside0.mk hrz
      have htr : qoA.f row ⟨#[46]⟩ = some ⟨(Lib.trimS row.data.toList [46]).toArray⟩ := if_pos ⟨by omega, by decide, by decide⟩
      have hdot := six_trim row _ htr
      generalize (⟨(Lib.trimS row.data.toList [46]).toArray⟩ : ByteArray) = u at htr hdot
      have HTR := Aside0.mk htr
      have HDT := Aside0.mk hdot
      clear hC hrow htr hdot HT hmem ey e0
      have hcell1 : wr.cell? ad = some (.string r0) := hcell0
      by_cases hz : row.size = r0.size
      · have hzi : (row.size : Int) = (r0.size : Int) := by omega
        rw [if_pos hz] at hT
        have HT1 := Aside0.mk hT
        clear hT
        by_cases hu0 : u = ⟨#[]⟩
        · subst hu0
          have HTN := Aside0.mk (show none = T by have := HT1.out; rwa [if_pos (HDT.out.1 rfl)] at this)
          have HFN := HF.out
          rw [← HTN.out] at HFN
          simp only [sixFin, Option.some.injEq, Prod.mk.injEq] at HFN
          obtain ⟨rfl, rfl, rfl⟩ := HFN
          go_wp2_with (first
            | (go_at_call 47; refine (qoA.calls row ⟨#[46]⟩ ⟨#[]⟩ _ HTR.out).mono ?_; rintro e w2 ⟨rfl, hb⟩; have B1 := Aside0.mk (qbA B.out B.out.size hb); clear hb))
          go_ret3
          exact ⟨_, _, rfl, Kd.R_nil k61 61 _ _ _, Kd.R_nil (Kd.int .i64) 3 _ _ _, B1.out⟩
        · have HTS := Aside0.mk (show (sixRow y 0 row.data.toList s).bind (sixRows r0.size (y + 1) (L.drop (y + 1))) = T by have := HT1.out; rwa [if_neg (fun h => hu0 (HDT.out.2 h))] at this)
          clear HT1 HDT
          have hue : u.toList.isEmpty = false := by
            rw [Bool.eq_false_iff]
            intro h
            apply hu0
            rw [Lib.toList_data, List.isEmpty_iff] at h
            obtain ⟨⟨l⟩⟩ := u
            obtain rfl : l = [] := h
            rfl
          go_wp2_with (first
            | (go_at_call 47; refine (qoA.calls row ⟨#[46]⟩ u _ HTR.out).mono ?_; rintro e w2 ⟨rfl, hb⟩; have B1 := Aside0.mk (qbA B.out B.out.size hb); have C1 := Aside0.mk (Kd.qV C0.out hb); have D1 := Aside0.mk (Kd.qV D0.out hb); have L1 := Aside0.mk (Kd.qV LR.out hb); have M1 := Aside0.mk (M0.out.below hb); clear hb B C0 D0 LR M0 hcell hcell0 hcell1))
          go_loopg [5, 6, 38] row.size (fun gg v5 v6 v38 wq => ∃ (vc vd : Value) (s : Sx) (x : Nat), vc = v5 ∧ vd = v6 ∧ v38 = .int .i64 x ∧ row.size - x ≤ gg ∧ x ≤ row.size ∧ Aside0 ((sixRow y x (row.data.toList.drop x) s).bind (sixRows r0.size (y + 1) (L.drop (y + 1))) = T) ∧ Aside0 (SixOk s) ∧ Aside0 (Kd.R k61 61 wq w.heap.size (fun _ => True) vc s.cs) ∧ Aside0 (Kd.R (Kd.int .i64) 3 wq w.heap.size (fun _ => True) vd s.ds) ∧ Aside0 (Kd.R Kd.string 9 wq w.heap.size (fun _ => True) (.slice (some ad) L.length cw) L) ∧ Aside0 (mapI.Is wq g s.ms) ∧ Aside0 (Below w.heap.size w wq))
          case atStart => exact ⟨_, _, s, 0, rfl, rfl, rfl, by omega, by omega, HTS, HK, C1, D1, L1, M1, B1⟩
          case round =>
            clear C1 D1 L1 M1 B1 HTS HK
            obtain ⟨vc, vd, s, x, rfl, rfl, rfl, hgx, hx, HT, HK, C0, D0, LR, M0, B⟩ := hrel
            rename World => wq
            have hdl : row.data.toList.length = row.size := by rw [Array.length_toList]; rfl
            by_cases hxl : x < row.size
            · have hxz : (x : Int) < (row.size : Int) := by omega
              have hx0 : (0 : Int) ≤ (x : Int) := by omega
              have hxt : x < row.data.toList.length := by omega
              obtain ⟨c, hc⟩ : ∃ c, row.data.toList[x] = c := ⟨_, rfl⟩
              have hT := HT.out
              rw [List.drop_eq_getElem_cons hxt, hc, sixRow, sixByte] at hT
              have hbt := six_bt row x hxt
              rw [hc] at hbt
              have hix : ∀ h : x < row.size, ((row[x]'h).toNat : Int) = (c.toNat : Int) := fun h => by have := bt_at row (x : Int) (by simpa using h); rw [hbt] at this; simpa using this
              have hc256 : c.toNat < 256 := c.toNat_lt
              have HBT := Aside0.mk hbt
              clear HT hbt hc hdl hxt
              have p0 := eq_true hx0
              have q0 := eq_true hxz
              obtain ⟨n, hn⟩ : ∃ n : Int, (c.toNat : Int) = n := ⟨_, rfl⟩
              simp only [hn] at hix
              by_cases h46 : c = 46
              · have hn46 : n = 46 := by rw [← hn, h46]; rfl
                rw [if_pos h46] at hT
                have HT := Aside0.mk hT
                clear hT
                subst hn46
                clear hn
                go_wp2
                go_roundg (row.size - (x + 1))
                case measure => omega
                case rel => exact ⟨_, _, s, x + 1, rfl, rfl, by push_cast; rfl, by omega, by omega, HT, HK, C0, D0, LR, M0, B⟩
              · have hn46 : ¬ n = 46 := fun e => h46 (by rw [← hn] at e; have : c.toNat = 46 := by omega
                                                         have := congrArg UInt8.ofNat this; simpa using this)
                rw [if_neg h46] at hT
                have HT := Aside0.mk hT
                clear hT
                have hdg := dg_eq c
                rw [hn] at hdg
                obtain ⟨dg, hdgv⟩ : ∃ dg, isDg c = dg := ⟨_, rfl⟩
                rw [hdgv] at hdg
                have HDG := Aside0.mk hdg
                have HDV := Aside0.mk hdgv
                have HN := Aside0.mk hn
                clear hdg hdgv hn
                cases dg with
                | false =>
                  have HTN := Aside0.mk (show none = T by have := HT.out; rwa [HDV.out, if_neg (by decide), Option.bind_none, Option.bind_none] at this)
                  have HFN := HF.out
                  rw [← HTN.out] at HFN
                  simp only [sixFin, Option.some.injEq, Prod.mk.injEq] at HFN
                  obtain ⟨rfl, rfl, rfl⟩ := HFN
                  go_wp2_with (first
                    | ((with_reducible refine qW (f := 48) rfl ?_); refine qNA (some 48) rfl rfl Tryd.func48 (by kernel_rfl) rfl #[.int .u8 n] rfl (by (try simp only [List.map_toArray, List.map_cons, List.map_nil]); first | done | rfl | simp) ?_; refine (qvA.calls n false _ HDG.out).mono ?_; rintro e w2 ⟨rfl, hb0⟩; refine ⟨_, rfl, ?_⟩; have hb := hb0.below; clear hb0; have B1 := Aside0.mk (qbA B.out B.out.size hb); clear hb))
                  go_ret3
                  exact ⟨_, _, rfl, Kd.R_nil k61 61 _ _ _, Kd.R_nil (Kd.int .i64) 3 _ _ _, B1.out⟩
                | true =>
                  have HT1 := Aside0.mk (show ((if s.cs.length = 6 then (none : Option Sx) else some ⟨s.cs ++ [⟨(x : Int), (y : Int)⟩], s.ds ++ [((c.toNat : Int) - 48)], ((x : Int), true) :: s.ms⟩).bind (sixRow y (x + 1) (row.data.toList.drop (x + 1)))).bind (sixRows r0.size (y + 1) (L.drop (y + 1))) = T by have := HT.out; rwa [HDV.out, if_pos rfl] at this)
                  clear HT
                  obtain ⟨Ac, cc, eac⟩ := Kd.qo C0.out
                  subst eac
                  by_cases h6 : s.cs.length = 6
                  · have h6i : (s.cs.length : Int) = 6 := by omega
                    have HTN := Aside0.mk (show none = T by have := HT1.out; rwa [if_pos h6, Option.bind_none, Option.bind_none] at this)
                    have HFN := HF.out
                    rw [← HTN.out] at HFN
                    simp only [sixFin, Option.some.injEq, Prod.mk.injEq] at HFN
                    obtain ⟨rfl, rfl, rfl⟩ := HFN
                    clear HT1
                    go_wp2_with (first
                      | ((with_reducible refine qW (f := 48) rfl ?_); refine qNA (some 48) rfl rfl Tryd.func48 (by kernel_rfl) rfl #[.int .u8 n] rfl (by (try simp only [List.map_toArray, List.map_cons, List.map_nil]); first | done | rfl | simp) ?_; refine (qvA.calls n true _ HDG.out).mono ?_; rintro e w2 ⟨rfl, hb0⟩; refine ⟨_, rfl, ?_⟩; have hb := hb0.below; clear hb0; have B1 := Aside0.mk (qbA B.out B.out.size hb); clear hb))
                    go_ret3
                    exact ⟨_, _, rfl, Kd.R_nil k61 61 _ _ _, Kd.R_nil (Kd.int .i64) 3 _ _ _, B1.out⟩
                  · have h6i : ¬ (s.cs.length : Int) = 6 := by omega
                    have HT2 := Aside0.mk (show (sixRow y (x + 1) (row.data.toList.drop (x + 1)) ⟨s.cs ++ [⟨(x : Int), (y : Int)⟩], s.ds ++ [((c.toNat : Int) - 48)], ((x : Int), true) :: s.ms⟩).bind (sixRows r0.size (y + 1) (L.drop (y + 1))) = T by have := HT1.out; rwa [if_neg h6] at this)
                    clear HT1
                    go_wp2_with (first
                      | ((with_reducible refine qW (f := 48) rfl ?_); refine qNA (some 48) rfl rfl Tryd.func48 (by kernel_rfl) rfl #[.int .u8 n] rfl (by (try simp only [List.map_toArray, List.map_cons, List.map_nil]); first | done | rfl | simp) ?_; refine (qvA.calls n true _ HDG.out).mono ?_; rintro e w2 ⟨rfl, hb0⟩; refine ⟨_, rfl, ?_⟩; have hb := hb0.below; clear hb0; have n0_ := Aside0.mk (qbA B.out B.out.size hb); have n1_ := Aside0.mk (Kd.qV C0.out hb); have n2_ := Aside0.mk (Kd.qV D0.out hb); have n3_ := Aside0.mk (Kd.qV LR.out hb); have n4_ := Aside0.mk (M0.out.below hb); clear hb B C0 D0 LR M0; have B := n0_; have C0 := n1_; have D0 := n2_; have LR := n3_; have M0 := n4_; clear n0_ n1_ n2_ n3_ n4_))
                    generalize hvc : (Value.slice Ac s.cs.length cc) = vc at C0 ⊢
                    clear hvc
                    have hrange : 48 ≤ n ∧ n ≤ 57 := by
                      have h1 := HDV.out
                      have h2 := HN.out
                      unfold isDg at h1
                      simp only [Bool.and_eq_true, decide_eq_true_eq] at h1
                      omega
                    have hw8 : IntKind.u8.wrap (n - 48) = n - 48 := by show (n - 48) % 256 = n - 48; omega
                    have hw64 : IntKind.i64.wrap (n - 48) = n - 48 := by rw [IntKind.wrap_i64]; omega
                    have HOK := Aside0.mk (show s.cs.length < 6 by have := HK.out.cs; omega)
                    have HOK2 := Aside0.mk (show s.ds.length < 6 by have := HK.out.cs; have := HK.out.ds; omega)
                    have HML := Aside0.mk (show s.ms.length < maxLen by have := HK.out.cs; have := HK.out.ms; unfold maxLen; omega)
                    have HXW := Aside0.mk (show (Lit.int .i64 (x : Int)).wf = true by have := HRZ.out; unfold Lit.wf; simp only [Bool.and_eq_true, decide_eq_true_eq]; exact ⟨by show (-9223372036854775808 : Int) ≤ _; omega, by show _ ≤ (9223372036854775807 : Int); omega⟩)
                    clear hrange h6i
                    refine qBB (n := 19) (S := fun w' => True) (ds := []) #[false, false, false, false, false, false, false, false, false, false, false, false, false, false, false, false, false, false, false] (by kernel_rfl) rfl rfl trivial (fun hHeld => ?_); refine qOA sixTab14 sixBits14 (fun HT_ HW_ => ?_)
                    refine pure_ (i := 0) (N := some 55) (v := ?_) (a' := ?_) #[true, false, false, false, false, false, false, false, false, false, false, false, false, false, false, false, false, false, false] rfl rfl (qEA HT_.out (by kernel_rfl)) (fun _ _ _ h => h) (Or.inl ⟨by rfl, ?_⟩) ?_ ?_
                    rotate_left
                    · intro w'
                      go_simp
                      with_reducible rfl
                    rotate_left
                    · simp only [Act.put, List.setIfInBounds_toArray, List.set_cons_zero, List.set_cons_succ, i64_w, i32_w]
                      rfl
                    refine pure_ (i := 1) (N := some 56) (v := ?_) (a' := ?_) #[true, true, false, false, false, false, false, false, false, false, false, false, false, false, false, false, false, false, false] rfl rfl (qEA HT_.out (by kernel_rfl)) (fun _ _ _ h => h) (Or.inl ⟨by rfl, ?_⟩) ?_ ?_
                    rotate_left
                    · intro w'
                      go_simp
                      with_reducible rfl
                    rotate_left
                    · simp only [Act.put, List.setIfInBounds_toArray, List.set_cons_zero, List.set_cons_succ, i64_w, i32_w]
                      rfl
                    refine pure_ (i := 2) (N := some 57) (v := ?_) (a' := ?_) #[true, true, true, false, false, false, false, false, false, false, false, false, false, false, false, false, false, false, false] rfl rfl (qEA HT_.out (by kernel_rfl)) (fun _ _ _ h => h) (Or.inl ⟨by rfl, ?_⟩) ?_ ?_
                    rotate_left
                    · intro w'
                      go_simp
                      with_reducible rfl
                    rotate_left
                    · simp only [Act.put, List.setIfInBounds_toArray, List.set_cons_zero, List.set_cons_succ, i64_w, i32_w]
                      rfl
                    refine pure_ (i := 3) (N := some 58) (v := ?_) (a' := ?_) #[true, true, true, true, false, false, false, false, false, false, false, false, false, false, false, false, false, false, false] rfl rfl (qEA HT_.out (by kernel_rfl)) (fun _ _ _ h => h) (Or.inl ⟨by rfl, ?_⟩) ?_ ?_
                    rotate_left
                    · intro w'
                      go_simp
                      with_reducible rfl
                    rotate_left
                    · simp only [Act.put, List.setIfInBounds_toArray, List.set_cons_zero, List.set_cons_succ, i64_w, i32_w]
                      rfl
                    refine pure_ (i := 4) (N := some 59) (v := ?_) (a' := ?_) #[true, true, true, true, true, false, false, false, false, false, false, false, false, false, false, false, false, false, false] rfl rfl (qEA HT_.out (by kernel_rfl)) (fun _ _ _ h => h) (Or.inl ⟨by rfl, ?_⟩) ?_ ?_
                    rotate_left
                    · intro w'
                      go_simp
                      with_reducible rfl
                    rotate_left
                    · simp only [Act.put, List.setIfInBounds_toArray, List.set_cons_zero, List.set_cons_succ, i64_w, i32_w]
                      rfl
                    refine pure_ (i := 5) (N := some 60) (v := ?_) (a' := ?_) #[true, true, true, true, true, true, false, false, false, false, false, false, false, false, false, false, false, false, false] rfl rfl (qEA HT_.out (by kernel_rfl)) (fun _ _ _ h => h) (Or.inl ⟨by rfl, ?_⟩) ?_ ?_
                    rotate_left
                    · intro w'
                      go_simp
                      with_reducible rfl
                    rotate_left
                    · simp only [Act.put, List.setIfInBounds_toArray, List.set_cons_zero, List.set_cons_succ, i64_w, i32_w]
                      rfl
                    refine pure_ (i := 8) (N := some 63) (v := ?_) (a' := ?_) #[true, true, true, true, true, true, false, false, true, false, false, false, false, false, false, false, false, false, false] rfl rfl (qEA HT_.out (by kernel_rfl)) (fun _ _ _ h => h) (Or.inl ⟨by rfl, ?_⟩) ?_ ?_
                    rotate_left
                    · intro w'
                      go_simp
                      with_reducible rfl
                    rotate_left
                    · simp only [Act.put, List.setIfInBounds_toArray, List.set_cons_zero, List.set_cons_succ, i64_w, i32_w]
                      rfl
                    refine pure_ (i := 9) (N := some 64) (v := ?_) (a' := ?_) #[true, true, true, true, true, true, false, false, true, true, false, false, false, false, false, false, false, false, false] rfl rfl (qEA HT_.out (by kernel_rfl)) (fun _ _ _ h => h) (Or.inl ⟨by rfl, ?_⟩) ?_ ?_
                    rotate_left
                    · intro w'
                      go_simp
                      with_reducible rfl
                    rotate_left
                    · simp only [Act.put, List.setIfInBounds_toArray, List.set_cons_zero, List.set_cons_succ, i64_w, i32_w]
                      rfl
                    refine pure_ (i := 10) (N := some 65) (v := ?_) (a' := ?_) #[true, true, true, true, true, true, false, false, true, true, true, false, false, false, false, false, false, false, false] rfl rfl (qEA HT_.out (by kernel_rfl)) (fun _ _ _ h => h) (Or.inl ⟨by rfl, ?_⟩) ?_ ?_
                    rotate_left
                    · intro w'
                      go_simp
                      with_reducible rfl
                    rotate_left
                    · simp only [Act.put, List.setIfInBounds_toArray, List.set_cons_zero, List.set_cons_succ, i64_w, i32_w]
                      rfl
                    refine pure_ (i := 11) (N := some 66) (v := ?_) (a' := ?_) #[true, true, true, true, true, true, false, false, true, true, true, true, false, false, false, false, false, false, false] rfl rfl (qEA HT_.out (by kernel_rfl)) (fun _ _ _ h => h) (Or.inl ⟨by rfl, ?_⟩) ?_ ?_
                    rotate_left
                    · intro w'
                      go_simp
                      with_reducible rfl
                    rotate_left
                    · simp only [Act.put, List.setIfInBounds_toArray, List.set_cons_zero, List.set_cons_succ, i64_w, i32_w]
                      rfl
                    refine pure_ (i := 12) (N := some 67) (v := ?_) (a' := ?_) #[true, true, true, true, true, true, false, false, true, true, true, true, true, false, false, false, false, false, false] rfl rfl (qEA HT_.out (by kernel_rfl)) (fun _ _ _ h => h) (Or.inl ⟨by rfl, ?_⟩) ?_ ?_
                    rotate_left
                    · intro w'
                      go_simp
                      with_reducible rfl
                    rotate_left
                    · simp only [Act.put, List.setIfInBounds_toArray, List.set_cons_zero, List.set_cons_succ, i64_w, i32_w]
                      rfl
                    refine pure_ (i := 13) (N := some 68) (v := ?_) (a' := ?_) #[true, true, true, true, true, true, false, false, true, true, true, true, true, true, false, false, false, false, false] rfl rfl (qEA HT_.out (by kernel_rfl)) (fun _ _ _ h => h) (Or.inl ⟨by rfl, ?_⟩) ?_ ?_
                    rotate_left
                    · intro w'
                      go_simp
                      with_reducible rfl
                    rotate_left
                    · simp only [Act.put, List.setIfInBounds_toArray, List.set_cons_zero, List.set_cons_succ, i64_w, i32_w]
                      rfl
                    refine qkC [6, 7, 14, 15, 16, 17, 18] (fun a0_ b a w' => ∃ (s61 : Value) (s62 : Value) (s69 : Value) (s70 : Value) (m16_ : Value) (m17_ : Value), a = putSel a0_ b [(6, 61, s61), (7, 62, s62), (14, 69, s69), (15, 70, s70), (16, 5, m16_), (17, 6, m17_)] ∧ (Below w.heap.size w w') ∧ (Kd.R Kd.string 9 w' w.heap.size (fun _ => True) (.slice (some ad) L.length cw) L) ∧ (b 7 = false → Kd.R k61 61 w' w.heap.size (fun _ => True) vc s.cs) ∧ (b 6 = true → b 7 = false → Kd.R k61 61 w' w.heap.size (fun k_ => some k_ ≠ (vc : Value).ownBlock) s61 [(⟨(x : Int), (y : Int)⟩ : CC)]) ∧ (b 7 = true → Kd.R k61 61 w' w.heap.size (fun _ => True) s62 (s.cs ++ [(⟨(x : Int), (y : Int)⟩ : CC)])) ∧ (b 15 = false → Kd.R (Kd.int .i64) 3 w' w.heap.size (fun _ => True) vd s.ds) ∧ (b 14 = true → b 15 = false → Kd.R (Kd.int .i64) 3 w' w.heap.size (fun k_ => some k_ ≠ (vd : Value).ownBlock) s69 [(n - 48)]) ∧ (b 15 = true → Kd.R (Kd.int .i64) 3 w' w.heap.size (fun _ => True) s70 (s.ds ++ [(n - 48)])) ∧ (b 18 = false → mapI.Is w' g s.ms) ∧ (b 18 = true → mapI.Is w' g (((x : Int), true) :: s.ms)) ∧ (b 16 = true → (m16_ : Value) = s62) ∧ (b 17 = true → (m17_ : Value) = s70)) HT_.out HW_.out (by kernel_rfl) (by kernel_rfl) ?_ ?_ ?_
                    · exact ⟨.bool false, .bool false, .bool false, .bool false, .bool false, .bool false, by simp only [putSel, Bool.false_eq_true, if_false], qg B.out, Kd.qI LR.out, fun _ => Kd.qI C0.out, fun h_ => absurd h_ (by decide), fun h_ => absurd h_ (by decide), fun _ => Kd.qI D0.out, fun h_ => absurd h_ (by decide), fun h_ => absurd h_ (by decide), fun _ => M0.out.drew, fun h_ => absurd h_ (by decide), fun h_ => absurd h_ (by decide), fun h_ => absurd h_ (by decide)⟩
                    · skip
                      clear B C0 D0 LR M0
                      refine qq ?_ ?_
                      · rintro b a w' ⟨s61, s62, s69, s70, m16_, m17_, ha, Q_B, Q_LR, Q_C0, Q_LC, Q_C1, Q_D0, Q_LD, Q_D1, Q_M0, Q_M1, Q_X16_, Q_X17_⟩ hb_ hon hoff
                        refine ⟨_, rfl, fun K hK => ?_⟩
                        have e60 : a.tmps[60]? = some (.agg #[.int .i64 (x : Int), .int .i64 (y : Int)]) := by rw [ha]; exact (qv rfl).trans rfl
                        replace ha := Aside0.mk ha
                        have B := Aside0.mk Q_B
                        have LR := Aside0.mk Q_LR
                        have C0 := Aside0.mk (Q_C0 (hoff 7 (by kernel_rfl)))
                        have D0 := Aside0.mk (Q_D0 (hoff 15 (by kernel_rfl)))
                        have M0 := Aside0.mk (Q_M0 (hoff 18 (by kernel_rfl)))
                        refine Kd.qLC k61 (w0 := w) w.heap.size 61 (by rfl) (N := 61) rfl (xs := ([(⟨(x : Int), (y : Int)⟩ : CC)] : List _)) (inner := [.int .i64 (x : Int), .int .i64 (y : Int)]) (ok := fun k_ => some k_ ≠ (vc : Value).ownBlock) (okp := fun _ => False) ?hr61 ?hp61 (fun _ hk => hk.elim) (Kd.fresh' (Kd.R_lt C0.out) _ (Nat.le_refl _)) B.out B.out.size (by simp) ?_
                        case hr61 => first | (go_simp; done) | (go_simp; rfl)
                        case hp61 => exact Reps.c2 (show Kd.M k61 _ _ _ (⟨(x : Int), (y : Int)⟩ : CC) [.int .i64 (x : Int), .int .i64 (y : Int)] from k61_mkM _ _ _ _) (Reps.none _ _)
                        intro v_ w1_ hR_ hB_ hg_ _
                        refine hK.out _ _ ⟨v_, s62, s69, s70, m16_, m17_, (by rw [ha.out]; exact qr 0 hb_ rfl rfl rfl), hB_, qlB LR.out hg_, fun _ => qlB C0.out hg_, fun _ _ => hR_, fun h0_ => absurd ((hoff 7 (by kernel_rfl)).symm.trans h0_) (by decide), fun _ => qlB D0.out hg_, fun h0_ h1_ => qlB (Q_LD h0_ h1_) hg_, fun h0_ => absurd ((hoff 15 (by kernel_rfl)).symm.trans h0_) (by decide), fun _ => M0.out.qbB (hg_.block g M0.out.lt (by simp)), fun h0_ => absurd ((hoff 18 (by kernel_rfl)).symm.trans h0_) (by decide), fun h0_ => absurd ((hoff 16 (by kernel_rfl)).symm.trans h0_) (by decide), fun h0_ => absurd ((hoff 17 (by kernel_rfl)).symm.trans h0_) (by decide)⟩
                      refine qq ?_ ?_
                      · rintro b a w' ⟨s61, s62, s69, s70, m16_, m17_, ha, Q_B, Q_LR, Q_C0, Q_LC, Q_C1, Q_D0, Q_LD, Q_D1, Q_M0, Q_M1, Q_X16_, Q_X17_⟩ hb_ hon hoff
                        refine ⟨_, rfl, fun K hK => ?_⟩
                        have e57 : a.tmps[57]? = some (vc) := by rw [ha]; exact (qv rfl).trans rfl
                        have e61 : a.tmps[61]? = some (s61) := by rw [ha]; exact qDA (e := (6, 61, s61)) 0 rfl rfl (hon 6 (by kernel_rfl)) rfl
                        replace ha := Aside0.mk ha
                        have B := Aside0.mk Q_B
                        have LR := Aside0.mk Q_LR
                        have C0 := Aside0.mk (Q_C0 hb_)
                        have LC := Aside0.mk (Q_LC (hon 6 (by kernel_rfl)) hb_)
                        have D0 := Aside0.mk (Q_D0 (hoff 15 (by kernel_rfl)))
                        have M0 := Aside0.mk (Q_M0 (hoff 18 (by kernel_rfl)))
                        obtain ⟨A_, c_, hs_⟩ := Kd.qo LC.out
                        have LX_ := LC.out
                        rw [hs_] at LX_
                        have HRd_ := (Kd.qQ LX_).2.2
                        have hbd_ := HOK.out
                        refine Kd.R_append_rows_step k61 (w0 := w) w.heap.size (by rfl) (.tmp 57) (.tmp 61) 50 61 (.agg #[(.int .i64 0), (.int .i64 0)]) 16 rfl Tryd.underlying50 info61 rfl (by decide) (by omega) vc s.cs [(⟨(x : Int), (y : Int)⟩ : CC)] A_ _ c_ (fun _ => True) (fun _ => False) (qrB e57) ((qrB e61).trans hs_) C0.out HRd_ (fun x_ cs_ hk_ => by obtain rfl := k61_open hk_; exact k61_mkM _ _ _ x_) (fun _ hk => hk.elim) (fun _ _ => trivial) B.out B.out.size (by simp only [List.length_cons, List.length_nil]; omega) ?_
                        intro v_ w1_ hR_ hB_ hg_ _
                        refine hK.out _ _ ⟨s61, v_, s69, s70, m16_, m17_, (by rw [ha.out]; exact qr 1 hb_ rfl rfl rfl), hB_, Kd.qpA LR.out (Kd.qJA C0.out) (by decide) hg_, fun h0_ => absurd ((qYB b 7).symm.trans h0_) (by decide), fun _ h1_ => absurd ((qYB b 7).symm.trans h1_) (by decide), fun _ => hR_, fun _ => Kd.qpA D0.out (Kd.qJA C0.out) (by decide) hg_, fun h0_ h1_ => Kd.qpA (Q_LD h0_ h1_) (Kd.qJA C0.out) (by decide) hg_, fun h0_ => absurd ((hoff 15 (by kernel_rfl)).symm.trans h0_) (by decide), fun _ => M0.out.qbB (hg_.block g M0.out.lt (M0.out.ne C0.out)), fun h0_ => absurd ((hoff 18 (by kernel_rfl)).symm.trans h0_) (by decide), fun h0_ => absurd ((hoff 16 (by kernel_rfl)).symm.trans h0_) (by decide), fun h0_ => absurd ((hoff 17 (by kernel_rfl)).symm.trans h0_) (by decide)⟩
                      refine qq ?_ ?_
                      · rintro b a w' ⟨s61, s62, s69, s70, m16_, m17_, ha, Q_B, Q_LR, Q_C0, Q_LC, Q_C1, Q_D0, Q_LD, Q_D1, Q_M0, Q_M1, Q_X16_, Q_X17_⟩ hb_ hon hoff
                        refine ⟨_, rfl, fun K hK => ?_⟩
                        have e68 : a.tmps[68]? = some (.int .i64 (n - 48)) := by rw [ha]; exact (qv rfl).trans rfl
                        replace ha := Aside0.mk ha
                        have B := Aside0.mk Q_B
                        have LR := Aside0.mk Q_LR
                        have D0 := Aside0.mk (Q_D0 (hoff 15 (by kernel_rfl)))
                        have M0 := Aside0.mk (Q_M0 (hoff 18 (by kernel_rfl)))
                        refine Kd.qLC (Kd.int .i64) (w0 := w) w.heap.size 3 (by rfl) (N := 69) rfl (xs := ([(n - 48)] : List _)) (inner := [.int .i64 (n - 48)]) (ok := fun k_ => some k_ ≠ (vd : Value).ownBlock) (okp := fun _ => False) ?hr69 ?hp69 (fun _ hk => hk.elim) (Kd.fresh' (Kd.R_lt D0.out) _ (Nat.le_refl _)) B.out B.out.size (by simp) ?_
                        case hr69 => first | (go_simp; done) | (go_simp; rfl)
                        case hp69 => exact Reps.one (show Kd.M (Kd.int .i64) _ _ _ (n - 48) [.int .i64 (n - 48)] from rfl) (Reps.none _ _)
                        intro v_ w1_ hR_ hB_ hg_ _
                        refine hK.out _ _ ⟨s61, s62, v_, s70, m16_, m17_, (by rw [ha.out]; exact qr 2 hb_ rfl rfl rfl), hB_, qlB LR.out hg_, fun h0_ => qlB (Q_C0 h0_) hg_, fun h0_ h1_ => qlB (Q_LC h0_ h1_) hg_, fun h0_ => qlB (Q_C1 h0_) hg_, fun _ => qlB D0.out hg_, fun _ _ => hR_, fun h0_ => absurd ((hoff 15 (by kernel_rfl)).symm.trans h0_) (by decide), fun _ => M0.out.qbB (hg_.block g M0.out.lt (by simp)), fun h0_ => absurd ((hoff 18 (by kernel_rfl)).symm.trans h0_) (by decide), fun h0_ => absurd ((hoff 16 (by kernel_rfl)).symm.trans h0_) (by decide), fun h0_ => absurd ((hoff 17 (by kernel_rfl)).symm.trans h0_) (by decide)⟩
                      refine qq ?_ ?_
                      · rintro b a w' ⟨s61, s62, s69, s70, m16_, m17_, ha, Q_B, Q_LR, Q_C0, Q_LC, Q_C1, Q_D0, Q_LD, Q_D1, Q_M0, Q_M1, Q_X16_, Q_X17_⟩ hb_ hon hoff
                        refine ⟨_, rfl, fun K hK => ?_⟩
                        have e63 : a.tmps[63]? = some (vd) := by rw [ha]; exact (qv rfl).trans rfl
                        have e69 : a.tmps[69]? = some (s69) := by rw [ha]; exact qDA (e := (14, 69, s69)) 2 rfl rfl (hon 14 (by kernel_rfl)) rfl
                        replace ha := Aside0.mk ha
                        have B := Aside0.mk Q_B
                        have LR := Aside0.mk Q_LR
                        have C1 := Aside0.mk (Q_C1 (hon 7 (by kernel_rfl)))
                        have D0 := Aside0.mk (Q_D0 hb_)
                        have LD := Aside0.mk (Q_LD (hon 14 (by kernel_rfl)) hb_)
                        have M0 := Aside0.mk (Q_M0 (hoff 18 (by kernel_rfl)))
                        obtain ⟨A_, c_, hs_⟩ := Kd.qo LD.out
                        have LX_ := LD.out
                        rw [hs_] at LX_
                        have HRd_ := (Kd.qQ LX_).2.2
                        have hbd_ := HOK2.out
                        refine Kd.R_append_rows_step (Kd.int .i64) (w0 := w) w.heap.size (by rfl) (.tmp 63) (.tmp 69) 25 3 (.int .i64 0) 8 rfl Tryd.underlying25 info3 rfl (by decide) (by omega) vd s.ds [(n - 48)] A_ _ c_ (fun _ => True) (fun _ => False) (qrB e63) ((qrB e69).trans hs_) D0.out HRd_ (fun _ _ hk_ => hk_) (fun _ hk => hk.elim) (fun _ _ => trivial) B.out B.out.size (by simp only [List.length_cons, List.length_nil]; omega) ?_
                        intro v_ w1_ hR_ hB_ hg_ _
                        refine hK.out _ _ ⟨s61, s62, s69, v_, m16_, m17_, (by rw [ha.out]; exact qr 3 hb_ rfl rfl rfl), hB_, Kd.qpA LR.out (Kd.qJA D0.out) (by decide) hg_, fun h0_ => absurd ((hon 7 (by kernel_rfl)).symm.trans h0_) (by decide), fun _ h1_ => absurd ((hon 7 (by kernel_rfl)).symm.trans h1_) (by decide), fun _ => Kd.qpA C1.out (Kd.qJA D0.out) (by decide) hg_, fun h0_ => absurd ((qYB b 15).symm.trans h0_) (by decide), fun _ h1_ => absurd ((qYB b 15).symm.trans h1_) (by decide), fun _ => hR_, fun _ => M0.out.qbB (hg_.block g M0.out.lt (M0.out.ne D0.out)), fun h0_ => absurd ((hoff 18 (by kernel_rfl)).symm.trans h0_) (by decide), fun h0_ => absurd ((hoff 16 (by kernel_rfl)).symm.trans h0_) (by decide), fun h0_ => absurd ((hoff 17 (by kernel_rfl)).symm.trans h0_) (by decide)⟩
                      refine qq ?_ ?_
                      · rintro b a w' ⟨s61, s62, s69, s70, m16_, m17_, ha, Q_B, Q_LR, Q_C0, Q_LC, Q_C1, Q_D0, Q_LD, Q_D1, Q_M0, Q_M1, Q_X16_, Q_X17_⟩ hb_ hon hoff
                        refine ⟨_, rfl, fun K hK => ?_⟩
                        have e62 : a.tmps[62]? = some (s62) := by rw [ha]; exact qDA (e := (7, 62, s62)) 1 rfl rfl (hon 7 (by kernel_rfl)) rfl
                        replace ha := Aside0.mk ha
                        have B := Aside0.mk Q_B
                        have LR := Aside0.mk Q_LR
                        have C1 := Aside0.mk (Q_C1 (hon 7 (by kernel_rfl)))
                        have D1 := Aside0.mk (Q_D1 (hon 15 (by kernel_rfl)))
                        have M0 := Aside0.mk (Q_M0 (hoff 18 (by kernel_rfl)))
                        refine qAB (w1 := w') (v := s62) (by rfl) rfl ?_ ?_
                        · go_simp
                          (try simp only [i64_w])
                          try rfl
                        refine hK.out _ _ ⟨s61, s62, s69, s70, (s62), m17_, (by rw [ha.out]; exact qr 4 hb_ rfl rfl rfl), Q_B, Q_LR, fun h0_ => absurd ((hon 7 (by kernel_rfl)).symm.trans h0_) (by decide), fun _ h1_ => absurd ((hon 7 (by kernel_rfl)).symm.trans h1_) (by decide), Q_C1, fun h0_ => absurd ((hon 15 (by kernel_rfl)).symm.trans h0_) (by decide), fun _ h1_ => absurd ((hon 15 (by kernel_rfl)).symm.trans h1_) (by decide), Q_D1, Q_M0, fun h0_ => absurd ((hoff 18 (by kernel_rfl)).symm.trans h0_) (by decide), fun _ => rfl, fun h0_ => absurd ((hoff 17 (by kernel_rfl)).symm.trans h0_) (by decide)⟩
                      refine qq ?_ ?_
                      · rintro b a w' ⟨s61, s62, s69, s70, m16_, m17_, ha, Q_B, Q_LR, Q_C0, Q_LC, Q_C1, Q_D0, Q_LD, Q_D1, Q_M0, Q_M1, Q_X16_, Q_X17_⟩ hb_ hon hoff
                        refine ⟨_, rfl, fun K hK => ?_⟩
                        have e70 : a.tmps[70]? = some (s70) := by rw [ha]; exact qDA (e := (15, 70, s70)) 3 rfl rfl (hon 15 (by kernel_rfl)) rfl
                        replace ha := Aside0.mk ha
                        have B := Aside0.mk Q_B
                        have LR := Aside0.mk Q_LR
                        have C1 := Aside0.mk (Q_C1 (hon 7 (by kernel_rfl)))
                        have D1 := Aside0.mk (Q_D1 (hon 15 (by kernel_rfl)))
                        have M0 := Aside0.mk (Q_M0 (hoff 18 (by kernel_rfl)))
                        refine qAB (w1 := w') (v := s70) (by rfl) rfl ?_ ?_
                        · go_simp
                          (try simp only [i64_w])
                          try rfl
                        refine hK.out _ _ ⟨s61, s62, s69, s70, m16_, (s70), (by rw [ha.out]; exact qr 5 hb_ rfl rfl rfl), Q_B, Q_LR, fun h0_ => absurd ((hon 7 (by kernel_rfl)).symm.trans h0_) (by decide), fun _ h1_ => absurd ((hon 7 (by kernel_rfl)).symm.trans h1_) (by decide), Q_C1, fun h0_ => absurd ((hon 15 (by kernel_rfl)).symm.trans h0_) (by decide), fun _ h1_ => absurd ((hon 15 (by kernel_rfl)).symm.trans h1_) (by decide), Q_D1, Q_M0, fun h0_ => absurd ((hoff 18 (by kernel_rfl)).symm.trans h0_) (by decide), Q_X16_, fun _ => rfl⟩
                      refine qq ?_ ?_
                      · rintro b a w' ⟨s61, s62, s69, s70, m16_, m17_, ha, Q_B, Q_LR, Q_C0, Q_LC, Q_C1, Q_D0, Q_LD, Q_D1, Q_M0, Q_M1, Q_X16_, Q_X17_⟩ hb_ hon hoff
                        refine ⟨_, rfl, fun K hK => ?_⟩
                        have e55 : a.tmps[55]? = some (.map (some g)) := by rw [ha]; exact (qv rfl).trans rfl
                        have e56 : a.tmps[56]? = some (.int .i64 (x : Int)) := by rw [ha]; exact (qv rfl).trans rfl
                        replace ha := Aside0.mk ha
                        have B := Aside0.mk Q_B
                        have LR := Aside0.mk Q_LR
                        have C1 := Aside0.mk (Q_C1 (hon 7 (by kernel_rfl)))
                        have D1 := Aside0.mk (Q_D1 (hon 15 (by kernel_rfl)))
                        have M0 := Aside0.mk (Q_M0 hb_)
                        obtain ⟨w1_, hrun_, hM1_, hgr_⟩ := M0.out.run_put HML.out (x := (x : Int)) HXW.out (v := true) trivial
                        have hrun2_ : (Instr.mapUpdate 64 (.map (some g)) (.int .i64 (x : Int)) (.bool true)).run Tryd.prog w' = .ok () w1_ := hrun_
                        refine skip_ (w1 := w1_) (by rfl) rfl ?hr18 ?_
                        case hr18 =>
                          have a1_ := qrB e55
                          have a2_ := qrB e56
                          unfold execOp
                          simp [a1_, a2_, show a.eval (.const (.bool true)) = .bool true from rfl, hrun2_, Result.andThen]
                        refine hK.out _ _ ⟨s61, s62, s69, s70, m16_, m17_, (by rw [ha.out]; exact putSel_none (v := undef) rfl), B.out.grown hgr_ B.out.size (fun k_ e_ => by cases e_; exact HG.out), M0.out.row LR.out hgr_, fun h0_ => absurd ((hon 7 (by kernel_rfl)).symm.trans h0_) (by decide), fun _ h1_ => absurd ((hon 7 (by kernel_rfl)).symm.trans h1_) (by decide), fun _ => M0.out.row C1.out hgr_, fun h0_ => absurd ((hon 15 (by kernel_rfl)).symm.trans h0_) (by decide), fun _ h1_ => absurd ((hon 15 (by kernel_rfl)).symm.trans h1_) (by decide), fun _ => M0.out.row D1.out hgr_, fun h0_ => absurd ((qYB b 18).symm.trans h0_) (by decide), fun _ => hM1_, Q_X16_, Q_X17_⟩
                      exact quB
                    · rintro b a w' hall ⟨s61, s62, s69, s70, m16_, m17_, ha, Q_B, Q_LR, Q_C0, Q_LC, Q_C1, Q_D0, Q_LD, Q_D1, Q_M0, Q_M1, Q_X16_, Q_X17_⟩
                      clear B C0 D0 LR M0
                      have hb6_ := hall 6 (by kernel_rfl)
                      have hb7_ := hall 7 (by kernel_rfl)
                      have hb14_ := hall 14 (by kernel_rfl)
                      have hb15_ := hall 15 (by kernel_rfl)
                      have hb16_ := hall 16 (by kernel_rfl)
                      have hb17_ := hall 17 (by kernel_rfl)
                      have hb18_ := hall 18 (by kernel_rfl)
                      subst ha
                      obtain rfl := Q_X16_ hb16_
                      obtain rfl := Q_X17_ hb17_
                      simp only [putSel, hb6_, hb7_, hb14_, hb15_, hb16_, hb17_, hb18_, if_true, Act.put, List.setIfInBounds_toArray, List.set_cons_zero, List.set_cons_succ]
                      have B := Aside0.mk Q_B
                      clear Q_B
                      have LR := Aside0.mk Q_LR
                      clear Q_LR
                      clear Q_C0
                      clear Q_LC
                      have C1 := Aside0.mk (Q_C1 hb7_)
                      clear Q_C1
                      clear Q_D0
                      clear Q_LD
                      have D1 := Aside0.mk (Q_D1 hb15_)
                      clear Q_D1
                      clear Q_M0
                      have M1 := Aside0.mk (Q_M1 hb18_)
                      clear Q_M1
                      clear hall hb6_ hb7_ hb14_ hb15_ hb16_ hb17_ hb18_
                      go_wp2
                      go_roundg (row.size - (x + 1))
                      case measure => omega
                      case rel => exact ⟨_, _, ⟨s.cs ++ [⟨(x : Int), (y : Int)⟩], s.ds ++ [((c.toNat : Int) - 48)], ((x : Int), true) :: s.ms⟩, x + 1, rfl, rfl, by push_cast; rfl, by omega, by omega, HT2, ⟨HK.out.add h6 _ _ _⟩, C1, by rw [HN.out]; exact D1, LR, M1, B⟩
            · have hxz : ¬ (x : Int) < (row.size : Int) := by omega
              have HT2 := Aside0.mk (show sixRows r0.size (y + 1) (L.drop (y + 1)) s = T by have := HT.out; rwa [List.drop_eq_nil_of_le (by omega), sixRow, Option.bind_some] at this)
              clear HT hdl
              go_wp2
              go_roundg (L.length - (y + 1))
              case measure => omega
              case rel => exact ⟨_, _, s, y + 1, rfl, rfl, by (first | (push_cast; rfl) | (have hz_ := HLN.out; show Value.int .i64 (wrap64 ((y : Int) + 1)) = _; rw [show wrap64 ((y : Int) + 1) = ((y + 1 : Nat) : Int) by unfold wrap64; omega])), by omega, by omega, HT2, HK, C0, D0, LR, M0, B⟩
      · have hzi : ¬ (row.size : Int) = (r0.size : Int) := by omega
        rw [if_neg hz] at hT
        have HTN := Aside0.mk hT
        clear hT
        have HFN := HF.out
        rw [← HTN.out] at HFN
        simp only [sixFin, Option.some.injEq, Prod.mk.injEq] at HFN
        obtain ⟨rfl, rfl, rfl⟩ := HFN
        go_wp2
        go_ret3
        exact ⟨_, _, rfl, Kd.R_nil k61 61 _ _ _, Kd.R_nil (Kd.int .i64) 3 _ _ _, B.out⟩
    · have hltz : ¬ (y : Int) < (L.length : Int) := by omega
      have hT := HT.out
      rw [List.drop_eq_nil_of_le (by omega), sixRows] at hT
      have HFN := HF.out
      rw [← hT, sixFin] at HFN
      clear hT HT
      have hLpos : 0 < L.length := HL0.out
      go_wp2
      obtain ⟨Ac, cc, eac⟩ := Kd.qo C0.out
      subst eac
      by_cases h6 : s.cs.length = 6
      · rw [if_pos h6] at HFN
        have h6i : (s.cs.length : Int) = 6 := by omega
        by_cases hq : MapKit.count s.ms = r0.size
        · rw [if_pos hq] at HFN
          have hqi : (MapKit.count s.ms : Int) = (r0.size : Int) := by omega
          obtain ⟨th, hth, hr⟩ := Option.bind_eq_some_iff.mp HFN
          have HH := Aside0.mk hth
          clear HFN hth
          refine qBB (n := 17) (S := fun w' => True) (ds := []) #[false, false, false, false, false, false, false, false, false, false, false, false, false, false, false, false, false] (by kernel_rfl) rfl rfl trivial (fun hHeld => ?_); refine qOA sixTab17 sixBits17 (fun HT_ HW_ => ?_)
          refine pure_ (i := 0) (N := some 73) (v := ?_) (a' := ?_) #[true, false, false, false, false, false, false, false, false, false, false, false, false, false, false, false, false] rfl rfl (qEA HT_.out (by kernel_rfl)) (fun _ _ _ h => h) (Or.inl ⟨by rfl, ?_⟩) ?_ ?_
          rotate_left
          · intro w'
            go_simp
            with_reducible rfl
          rotate_left
          · simp only [Act.put, List.setIfInBounds_toArray, List.set_cons_zero, List.set_cons_succ, i64_w, i32_w]
            rfl
          refine pure_ (i := 1) (N := some 74) (v := ?_) (a' := ?_) #[true, true, false, false, false, false, false, false, false, false, false, false, false, false, false, false, false] rfl rfl (qEA HT_.out (by kernel_rfl)) (fun _ _ _ h => h) (Or.inl ⟨by rfl, ?_⟩) ?_ ?_
          rotate_left
          · intro w'
            go_simp
            with_reducible rfl
          rotate_left
          · simp only [Act.put, List.setIfInBounds_toArray, List.set_cons_zero, List.set_cons_succ, i64_w, i32_w]
            rfl
          refine pure_ (i := 2) (N := some 75) (v := ?_) (a' := ?_) #[true, true, true, false, false, false, false, false, false, false, false, false, false, false, false, false, false] rfl rfl (qEA HT_.out (by kernel_rfl)) (fun _ _ _ h => h) (Or.inl ⟨by rfl, ?_⟩) ?_ ?_
          rotate_left
          · intro w'
            go_simp
            with_reducible rfl
          rotate_left
          · simp only [Act.put, List.setIfInBounds_toArray, List.set_cons_zero, List.set_cons_succ, i64_w, i32_w]
            rfl
          refine pure_ (i := 3) (N := some 76) (v := ?_) (a' := ?_) #[true, true, true, true, false, false, false, false, false, false, false, false, false, false, false, false, false] rfl rfl (qEA HT_.out (by kernel_rfl)) (fun _ _ _ h => h) (Or.inl ⟨by rfl, ?_⟩) ?_ ?_
          rotate_left
          · intro w'
            go_simp
            with_reducible rfl
          rotate_left
          · simp only [Act.put, List.setIfInBounds_toArray, List.set_cons_zero, List.set_cons_succ, i64_w, i32_w]
            rfl
          refine pure_ (i := 4) (N := some 77) (v := ?_) (a' := ?_) #[true, true, true, true, true, false, false, false, false, false, false, false, false, false, false, false, false] rfl rfl (qEA HT_.out (by kernel_rfl)) (fun _ _ _ h => h) (Or.inl ⟨by rfl, ?_⟩) ?_ ?_
          rotate_left
          · intro w'
            go_simp
            with_reducible rfl
          rotate_left
          · simp only [Act.put, List.setIfInBounds_toArray, List.set_cons_zero, List.set_cons_succ, i64_w, i32_w]
            rfl
          refine pure_ (i := 6) (N := some 79) (v := ?_) (a' := ?_) #[true, true, true, true, true, false, true, false, false, false, false, false, false, false, false, false, false] rfl rfl (qEA HT_.out (by kernel_rfl)) (fun _ _ _ h => h) (Or.inl ⟨by rfl, ?_⟩) ?_ ?_
          rotate_left
          · intro w'
            go_simp
            with_reducible rfl
          rotate_left
          · simp only [Act.put, List.setIfInBounds_toArray, List.set_cons_zero, List.set_cons_succ, i64_w, i32_w]
            rfl
          refine pure_ (i := 7) (N := some 80) (v := ?_) (a' := ?_) #[true, true, true, true, true, false, true, true, false, false, false, false, false, false, false, false, false] rfl rfl (qEA HT_.out (by kernel_rfl)) (fun _ _ _ h => h) (Or.inl ⟨by rfl, ?_⟩) ?_ ?_
          rotate_left
          · intro w'
            go_simp
            with_reducible rfl
          rotate_left
          · simp only [Act.put, List.setIfInBounds_toArray, List.set_cons_zero, List.set_cons_succ, i64_w, i32_w]
            rfl
          refine qkC [5, 8, 9, 10, 11, 12, 13, 14, 15, 16] (fun a0_ b a w' => a = putSel a0_ b [(5, 78, .int .i64 (MapKit.count s.ms : Int)), (8, 81, .string r0), (9, 82, .int .i64 (r0.size : Int)), (10, 83, .bool false), (11, 84, .bool false), (12, 85, .bool false), (13, 86, .slice Ac s.cs.length cc), (14, 87, .bool th), (15, 88, .bool (!th)), (16, 89, .bool (!th))] ∧ (Below w.heap.size w w') ∧ (Kd.R Kd.string 9 w' w.heap.size (fun _ => True) (.slice (some ad) L.length cw) L) ∧ (Kd.R k61 61 w' w.heap.size (fun _ => True) (.slice Ac s.cs.length cc) s.cs) ∧ (Kd.R (Kd.int .i64) 3 w' w.heap.size (fun _ => True) vd s.ds) ∧ (mapI.Is w' g s.ms)) HT_.out HW_.out (by kernel_rfl) (by kernel_rfl) ?_ ?_ ?_
          · exact ⟨by simp only [putSel, Bool.false_eq_true, if_false], qg B.out, Kd.qI LR.out, Kd.qI C0.out, Kd.qI D0.out, M0.out.drew⟩
          · skip
            clear B C0 D0 LR M0
            refine qq ?_ ?_
            · rintro b a w' ⟨ha, Q_B, Q_LR, Q_C0, Q_D0, Q_M0⟩ hb_ hon hoff
              refine ⟨_, rfl, fun K hK => ?_⟩
              have e77 : a.tmps[77]? = some (.map (some g)) := by rw [ha]; exact (qv rfl).trans rfl
              have e76 : a.tmps[76]? = some (.bool false) := by rw [ha]; exact (qv rfl).trans rfl
              replace ha := Aside0.mk ha
              have B := Aside0.mk Q_B
              have LR := Aside0.mk Q_LR
              have C0 := Aside0.mk Q_C0
              have D0 := Aside0.mk Q_D0
              have M0 := Aside0.mk Q_M0
              have hrl_ := fun ty_ => (show (Builtin.len_ #[64] ty_ #[.map (some g)]).run Tryd.prog w' = .ok (.int .i64 (MapKit.count s.ms)) w' from M0.out.run_len ty_)
              refine qAB (w1 := w') (v := .int .i64 (MapKit.count s.ms : Int)) (qtA rfl rfl rfl (e76.trans (by first | rfl | (simp [*]; done)))) rfl ?_ ?_
              · go_simp
                (try simp only [i64_w])
                try rfl
              refine hK.out _ _ ⟨(by rw [ha.out]; exact qr 0 hb_ rfl rfl rfl), Q_B, Q_LR, Q_C0, Q_D0, Q_M0⟩
            refine qq ?_ ?_
            · rintro b a w' ⟨ha, Q_B, Q_LR, Q_C0, Q_D0, Q_M0⟩ hb_ hon hoff
              refine ⟨_, rfl, fun K hK => ?_⟩
              have e80 : a.tmps[80]? = some (.pointer (some ad)) := by rw [ha]; exact (qv rfl).trans rfl
              have e76 : a.tmps[76]? = some (.bool false) := by rw [ha]; exact (qv rfl).trans rfl
              replace ha := Aside0.mk ha
              have B := Aside0.mk Q_B
              have LR := Aside0.mk Q_LR
              have C0 := Aside0.mk Q_C0
              have D0 := Aside0.mk Q_D0
              have M0 := Aside0.mk Q_M0
              obtain ⟨ad_, e_, hcell_⟩ := Kd.qBC (Kd.qQ LR.out).2.2 (0 : Int) (Int.le_refl 0) HLP.out
              obtain rfl : ad = ad_ := by injection e_
              rw [HR0.out] at hcell_
              have hcell2_ : w'.cell? ad = some (.string r0) := hcell_
              refine qAB (w1 := w') (v := .string r0) (qtA rfl rfl rfl (e76.trans (by first | rfl | (simp [*]; done)))) rfl ?_ ?_
              · go_simp
                (try simp only [i64_w])
                try rfl
              refine hK.out _ _ ⟨(by rw [ha.out]; exact qr 1 hb_ rfl rfl rfl), Q_B, Q_LR, Q_C0, Q_D0, Q_M0⟩
            refine qq ?_ ?_
            · rintro b a w' ⟨ha, Q_B, Q_LR, Q_C0, Q_D0, Q_M0⟩ hb_ hon hoff
              refine ⟨_, rfl, fun K hK => ?_⟩
              have e81 : a.tmps[81]? = some (.string r0) := by rw [ha]; exact qDA (e := (8, 81, .string r0)) 1 rfl rfl (hon 8 (by kernel_rfl)) rfl
              have e76 : a.tmps[76]? = some (.bool false) := by rw [ha]; exact (qv rfl).trans rfl
              replace ha := Aside0.mk ha
              have B := Aside0.mk Q_B
              have LR := Aside0.mk Q_LR
              have C0 := Aside0.mk Q_C0
              have D0 := Aside0.mk Q_D0
              have M0 := Aside0.mk Q_M0
              refine qAB (w1 := w') (v := .int .i64 (r0.size : Int)) (qtA rfl rfl rfl (e76.trans (by first | rfl | (simp [*]; done)))) rfl ?_ ?_
              · go_simp
                (try simp only [i64_w])
                try rfl
              refine hK.out _ _ ⟨(by rw [ha.out]; exact qr 2 hb_ rfl rfl rfl), Q_B, Q_LR, Q_C0, Q_D0, Q_M0⟩
            refine qq ?_ ?_
            · rintro b a w' ⟨ha, Q_B, Q_LR, Q_C0, Q_D0, Q_M0⟩ hb_ hon hoff
              refine ⟨_, rfl, fun K hK => ?_⟩
              have e78 : a.tmps[78]? = some (.int .i64 (MapKit.count s.ms : Int)) := by rw [ha]; exact qDA (e := (5, 78, .int .i64 (MapKit.count s.ms : Int))) 0 rfl rfl (hon 5 (by kernel_rfl)) rfl
              have e82 : a.tmps[82]? = some (.int .i64 (r0.size : Int)) := by rw [ha]; exact qDA (e := (9, 82, .int .i64 (r0.size : Int))) 2 rfl rfl (hon 9 (by kernel_rfl)) rfl
              have e76 : a.tmps[76]? = some (.bool false) := by rw [ha]; exact (qv rfl).trans rfl
              replace ha := Aside0.mk ha
              have B := Aside0.mk Q_B
              have LR := Aside0.mk Q_LR
              have C0 := Aside0.mk Q_C0
              have D0 := Aside0.mk Q_D0
              have M0 := Aside0.mk Q_M0
              refine qAB (w1 := w') (v := .bool false) (qtA rfl rfl rfl (e76.trans (by first | rfl | (simp [*]; done)))) rfl ?_ ?_
              · go_simp
                (try simp only [i64_w])
                try rfl
              refine hK.out _ _ ⟨(by rw [ha.out]; exact qr 3 hb_ rfl rfl rfl), Q_B, Q_LR, Q_C0, Q_D0, Q_M0⟩
            refine qq ?_ ?_
            · rintro b a w' ⟨ha, Q_B, Q_LR, Q_C0, Q_D0, Q_M0⟩ hb_ hon hoff
              refine ⟨_, rfl, fun K hK => ?_⟩
              have e76 : a.tmps[76]? = some (.bool false) := by rw [ha]; exact (qv rfl).trans rfl
              have e83 : a.tmps[83]? = some (.bool false) := by rw [ha]; exact qDA (e := (10, 83, .bool false)) 3 rfl rfl (hon 10 (by kernel_rfl)) rfl
              replace ha := Aside0.mk ha
              have B := Aside0.mk Q_B
              have LR := Aside0.mk Q_LR
              have C0 := Aside0.mk Q_C0
              have D0 := Aside0.mk Q_D0
              have M0 := Aside0.mk Q_M0
              refine qAB (w1 := w') (v := .bool false) (by rfl) rfl ?_ ?_
              · go_simp
                (try simp only [i64_w])
                try rfl
              refine hK.out _ _ ⟨(by rw [ha.out]; exact qr 4 hb_ rfl rfl rfl), Q_B, Q_LR, Q_C0, Q_D0, Q_M0⟩
            refine qq ?_ ?_
            · rintro b a w' ⟨ha, Q_B, Q_LR, Q_C0, Q_D0, Q_M0⟩ hb_ hon hoff
              refine ⟨_, rfl, fun K hK => ?_⟩
              have e84 : a.tmps[84]? = some (.bool false) := by rw [ha]; exact qDA (e := (11, 84, .bool false)) 4 rfl rfl (hon 11 (by kernel_rfl)) rfl
              replace ha := Aside0.mk ha
              have B := Aside0.mk Q_B
              have LR := Aside0.mk Q_LR
              have C0 := Aside0.mk Q_C0
              have D0 := Aside0.mk Q_D0
              have M0 := Aside0.mk Q_M0
              refine qAB (w1 := w') (v := .bool false) (by rfl) rfl ?_ ?_
              · go_simp
                (try simp only [i64_w])
                try rfl
              refine hK.out _ _ ⟨(by rw [ha.out]; exact qr 5 hb_ rfl rfl rfl), Q_B, Q_LR, Q_C0, Q_D0, Q_M0⟩
            refine qq ?_ ?_
            · rintro b a w' ⟨ha, Q_B, Q_LR, Q_C0, Q_D0, Q_M0⟩ hb_ hon hoff
              refine ⟨_, rfl, fun K hK => ?_⟩
              have e5 : a.tmps[5]? = some (.slice Ac s.cs.length cc) := by rw [ha]; exact (qv rfl).trans rfl
              have e85 : a.tmps[85]? = some (.bool false) := by rw [ha]; exact qDA (e := (12, 85, .bool false)) 5 rfl rfl (hon 12 (by kernel_rfl)) rfl
              replace ha := Aside0.mk ha
              have B := Aside0.mk Q_B
              have LR := Aside0.mk Q_LR
              have C0 := Aside0.mk Q_C0
              have D0 := Aside0.mk Q_D0
              have M0 := Aside0.mk Q_M0
              refine qAB (w1 := w') (v := .slice Ac s.cs.length cc) (qtA rfl rfl rfl (e85.trans (by first | rfl | (simp [*]; done)))) rfl ?_ ?_
              · go_simp
                (try simp only [i64_w])
                try rfl
              refine hK.out _ _ ⟨(by rw [ha.out]; exact qr 6 hb_ rfl rfl rfl), Q_B, Q_LR, Q_C0, Q_D0, Q_M0⟩
            refine qq ?_ ?_
            · rintro b a w' ⟨ha, Q_B, Q_LR, Q_C0, Q_D0, Q_M0⟩ hb_ hon hoff
              refine ⟨_, rfl, fun K hK => ?_⟩
              have e86 : a.tmps[86]? = some (.slice Ac s.cs.length cc) := by rw [ha]; exact qDA (e := (13, 86, .slice Ac s.cs.length cc)) 6 rfl rfl (hon 13 (by kernel_rfl)) rfl
              have e85 : a.tmps[85]? = some (.bool false) := by rw [ha]; exact qDA (e := (12, 85, .bool false)) 5 rfl rfl (hon 12 (by kernel_rfl)) rfl
              replace ha := Aside0.mk ha
              have B := Aside0.mk Q_B
              have LR := Aside0.mk Q_LR
              have C0 := Aside0.mk Q_C0
              have D0 := Aside0.mk Q_D0
              have M0 := Aside0.mk Q_M0
              refine goes_ Tryd.func49 (by kernel_rfl) rfl #[.slice Ac s.cs.length cc] (qtA rfl rfl rfl (e85.trans (by first | rfl | (simp [*]; done)))) rfl rfl (by simp only [List.map_toArray, List.map_cons, List.map_nil, qrB e86]) ?_
              refine (qRA.calls k Ac cc s.cs th w' (Kd.qQ C0.out).2.2 (Kd.qQ C0.out).2.1 HH.out).mono ?_
              rintro e_ w1_ ⟨rfl, hb_1⟩
              refine ⟨_, rfl, ?_⟩
              refine hK.out _ _ ⟨(by rw [ha.out]; exact qr 7 hb_ rfl rfl rfl), qbA B.out B.out.size hb_1, Kd.qV LR.out hb_1, Kd.qV C0.out hb_1, Kd.qV D0.out hb_1, M0.out.below hb_1⟩
            refine qq ?_ ?_
            · rintro b a w' ⟨ha, Q_B, Q_LR, Q_C0, Q_D0, Q_M0⟩ hb_ hon hoff
              refine ⟨_, rfl, fun K hK => ?_⟩
              have e87 : a.tmps[87]? = some (.bool th) := by rw [ha]; exact qDA (e := (14, 87, .bool th)) 7 rfl rfl (hon 14 (by kernel_rfl)) rfl
              have e85 : a.tmps[85]? = some (.bool false) := by rw [ha]; exact qDA (e := (12, 85, .bool false)) 5 rfl rfl (hon 12 (by kernel_rfl)) rfl
              replace ha := Aside0.mk ha
              have B := Aside0.mk Q_B
              have LR := Aside0.mk Q_LR
              have C0 := Aside0.mk Q_C0
              have D0 := Aside0.mk Q_D0
              have M0 := Aside0.mk Q_M0
              refine qAB (w1 := w') (v := .bool (!th)) (qtA rfl rfl rfl (e85.trans (by first | rfl | (simp [*]; done)))) rfl ?_ ?_
              · go_simp
                (try simp only [i64_w])
                try rfl
              refine hK.out _ _ ⟨(by rw [ha.out]; exact qr 8 hb_ rfl rfl rfl), Q_B, Q_LR, Q_C0, Q_D0, Q_M0⟩
            refine qq ?_ ?_
            · rintro b a w' ⟨ha, Q_B, Q_LR, Q_C0, Q_D0, Q_M0⟩ hb_ hon hoff
              refine ⟨_, rfl, fun K hK => ?_⟩
              have e85 : a.tmps[85]? = some (.bool false) := by rw [ha]; exact qDA (e := (12, 85, .bool false)) 5 rfl rfl (hon 12 (by kernel_rfl)) rfl
              have e88 : a.tmps[88]? = some (.bool (!th)) := by rw [ha]; exact qDA (e := (15, 88, .bool (!th))) 8 rfl rfl (hon 15 (by kernel_rfl)) rfl
              replace ha := Aside0.mk ha
              have B := Aside0.mk Q_B
              have LR := Aside0.mk Q_LR
              have C0 := Aside0.mk Q_C0
              have D0 := Aside0.mk Q_D0
              have M0 := Aside0.mk Q_M0
              refine qAB (w1 := w') (v := .bool (!th)) (by rfl) rfl ?_ ?_
              · go_simp
                (try simp only [i64_w])
                try rfl
              refine hK.out _ _ ⟨(by rw [ha.out]; exact qr 9 hb_ rfl rfl rfl), Q_B, Q_LR, Q_C0, Q_D0, Q_M0⟩
            exact quB
          · rintro b a w' hall ⟨ha, Q_B, Q_LR, Q_C0, Q_D0, Q_M0⟩
            clear B C0 D0 LR M0
            have hb5_ := hall 5 (by kernel_rfl)
            have hb8_ := hall 8 (by kernel_rfl)
            have hb9_ := hall 9 (by kernel_rfl)
            have hb10_ := hall 10 (by kernel_rfl)
            have hb11_ := hall 11 (by kernel_rfl)
            have hb12_ := hall 12 (by kernel_rfl)
            have hb13_ := hall 13 (by kernel_rfl)
            have hb14_ := hall 14 (by kernel_rfl)
            have hb15_ := hall 15 (by kernel_rfl)
            have hb16_ := hall 16 (by kernel_rfl)
            subst ha
            simp only [putSel, hb5_, hb8_, hb9_, hb10_, hb11_, hb12_, hb13_, hb14_, hb15_, hb16_, if_true, Act.put, List.setIfInBounds_toArray, List.set_cons_zero, List.set_cons_succ]
            have B := Aside0.mk Q_B
            clear Q_B
            have LR := Aside0.mk Q_LR
            clear Q_LR
            have C0 := Aside0.mk Q_C0
            clear Q_C0
            have D0 := Aside0.mk Q_D0
            clear Q_D0
            have M0 := Aside0.mk Q_M0
            clear Q_M0
            clear hall hb5_ hb8_ hb9_ hb10_ hb11_ hb12_ hb13_ hb14_ hb15_ hb16_
            cases th with
            | true =>
              simp only [if_true, Option.some.injEq, Prod.mk.injEq] at hr
              obtain ⟨rfl, rfl, rfl⟩ := hr
              go_wp2
              go_ret3
              exact ⟨_, _, rfl, C0.out, D0.out, B.out⟩
            | false =>
              simp only [Bool.false_eq_true, if_false, Option.some.injEq, Prod.mk.injEq] at hr
              obtain ⟨rfl, rfl, rfl⟩ := hr
              go_wp2
              go_ret3
              exact ⟨_, _, rfl, Kd.R_nil k61 61 _ _ _, Kd.R_nil (Kd.int .i64) 3 _ _ _, B.out⟩
        · rw [if_neg hq] at HFN
          have hqi : ¬ (MapKit.count s.ms : Int) = (r0.size : Int) := by omega
          simp only [Option.some.injEq, Prod.mk.injEq] at HFN
          obtain ⟨rfl, rfl, rfl⟩ := HFN
          refine qBB (n := 17) (S := fun w' => True) (ds := []) #[false, false, false, false, false, false, false, false, false, false, false, false, false, false, false, false, false] (by kernel_rfl) rfl rfl trivial (fun hHeld => ?_); refine qOA sixTab17 sixBits17 (fun HT_ HW_ => ?_)
          refine pure_ (i := 0) (N := some 73) (v := ?_) (a' := ?_) #[true, false, false, false, false, false, false, false, false, false, false, false, false, false, false, false, false] rfl rfl (qEA HT_.out (by kernel_rfl)) (fun _ _ _ h => h) (Or.inl ⟨by rfl, ?_⟩) ?_ ?_
          rotate_left
          · intro w'
            go_simp
            with_reducible rfl
          rotate_left
          · simp only [Act.put, List.setIfInBounds_toArray, List.set_cons_zero, List.set_cons_succ, i64_w, i32_w]
            rfl
          refine pure_ (i := 1) (N := some 74) (v := ?_) (a' := ?_) #[true, true, false, false, false, false, false, false, false, false, false, false, false, false, false, false, false] rfl rfl (qEA HT_.out (by kernel_rfl)) (fun _ _ _ h => h) (Or.inl ⟨by rfl, ?_⟩) ?_ ?_
          rotate_left
          · intro w'
            go_simp
            with_reducible rfl
          rotate_left
          · simp only [Act.put, List.setIfInBounds_toArray, List.set_cons_zero, List.set_cons_succ, i64_w, i32_w]
            rfl
          refine pure_ (i := 2) (N := some 75) (v := ?_) (a' := ?_) #[true, true, true, false, false, false, false, false, false, false, false, false, false, false, false, false, false] rfl rfl (qEA HT_.out (by kernel_rfl)) (fun _ _ _ h => h) (Or.inl ⟨by rfl, ?_⟩) ?_ ?_
          rotate_left
          · intro w'
            go_simp
            with_reducible rfl
          rotate_left
          · simp only [Act.put, List.setIfInBounds_toArray, List.set_cons_zero, List.set_cons_succ, i64_w, i32_w]
            rfl
          refine pure_ (i := 3) (N := some 76) (v := ?_) (a' := ?_) #[true, true, true, true, false, false, false, false, false, false, false, false, false, false, false, false, false] rfl rfl (qEA HT_.out (by kernel_rfl)) (fun _ _ _ h => h) (Or.inl ⟨by rfl, ?_⟩) ?_ ?_
          rotate_left
          · intro w'
            go_simp
            with_reducible rfl
          rotate_left
          · simp only [Act.put, List.setIfInBounds_toArray, List.set_cons_zero, List.set_cons_succ, i64_w, i32_w]
            rfl
          refine pure_ (i := 4) (N := some 77) (v := ?_) (a' := ?_) #[true, true, true, true, true, false, false, false, false, false, false, false, false, false, false, false, false] rfl rfl (qEA HT_.out (by kernel_rfl)) (fun _ _ _ h => h) (Or.inl ⟨by rfl, ?_⟩) ?_ ?_
          rotate_left
          · intro w'
            go_simp
            with_reducible rfl
          rotate_left
          · simp only [Act.put, List.setIfInBounds_toArray, List.set_cons_zero, List.set_cons_succ, i64_w, i32_w]
            rfl
          refine pure_ (i := 6) (N := some 79) (v := ?_) (a' := ?_) #[true, true, true, true, true, false, true, false, false, false, false, false, false, false, false, false, false] rfl rfl (qEA HT_.out (by kernel_rfl)) (fun _ _ _ h => h) (Or.inl ⟨by rfl, ?_⟩) ?_ ?_
          rotate_left
          · intro w'
            go_simp
            with_reducible rfl
          rotate_left
          · simp only [Act.put, List.setIfInBounds_toArray, List.set_cons_zero, List.set_cons_succ, i64_w, i32_w]
            rfl
          refine pure_ (i := 7) (N := some 80) (v := ?_) (a' := ?_) #[true, true, true, true, true, false, true, true, false, false, false, false, false, false, false, false, false] rfl rfl (qEA HT_.out (by kernel_rfl)) (fun _ _ _ h => h) (Or.inl ⟨by rfl, ?_⟩) ?_ ?_
          rotate_left
          · intro w'
            go_simp
            with_reducible rfl
          rotate_left
          · simp only [Act.put, List.setIfInBounds_toArray, List.set_cons_zero, List.set_cons_succ, i64_w, i32_w]
            rfl
          refine qkC [5, 8, 9, 10, 11, 12, 13, 14, 15, 16] (fun a0_ b a w' => a = putSel a0_ b [(5, 78, .int .i64 (MapKit.count s.ms : Int)), (8, 81, .string r0), (9, 82, .int .i64 (r0.size : Int)), (10, 83, .bool true), (11, 84, .bool true), (12, 85, .bool true), (13, 86, undef), (14, 87, undef), (15, 88, undef), (16, 89, .bool true)] ∧ (Below w.heap.size w w') ∧ (Kd.R Kd.string 9 w' w.heap.size (fun _ => True) (.slice (some ad) L.length cw) L) ∧ (Kd.R k61 61 w' w.heap.size (fun _ => True) (.slice Ac s.cs.length cc) s.cs) ∧ (Kd.R (Kd.int .i64) 3 w' w.heap.size (fun _ => True) vd s.ds) ∧ (mapI.Is w' g s.ms)) HT_.out HW_.out (by kernel_rfl) (by kernel_rfl) ?_ ?_ ?_
          · exact ⟨by simp only [putSel, Bool.false_eq_true, if_false], qg B.out, Kd.qI LR.out, Kd.qI C0.out, Kd.qI D0.out, M0.out.drew⟩
          · skip
            clear B C0 D0 LR M0
            refine qq ?_ ?_
            · rintro b a w' ⟨ha, Q_B, Q_LR, Q_C0, Q_D0, Q_M0⟩ hb_ hon hoff
              refine ⟨_, rfl, fun K hK => ?_⟩
              have e77 : a.tmps[77]? = some (.map (some g)) := by rw [ha]; exact (qv rfl).trans rfl
              have e76 : a.tmps[76]? = some (.bool false) := by rw [ha]; exact (qv rfl).trans rfl
              replace ha := Aside0.mk ha
              have B := Aside0.mk Q_B
              have LR := Aside0.mk Q_LR
              have C0 := Aside0.mk Q_C0
              have D0 := Aside0.mk Q_D0
              have M0 := Aside0.mk Q_M0
              have hrl_ := fun ty_ => (show (Builtin.len_ #[64] ty_ #[.map (some g)]).run Tryd.prog w' = .ok (.int .i64 (MapKit.count s.ms)) w' from M0.out.run_len ty_)
              refine qAB (w1 := w') (v := .int .i64 (MapKit.count s.ms : Int)) (qtA rfl rfl rfl (e76.trans (by first | rfl | (simp [*]; done)))) rfl ?_ ?_
              · go_simp
                (try simp only [i64_w])
                try rfl
              refine hK.out _ _ ⟨(by rw [ha.out]; exact qr 0 hb_ rfl rfl rfl), Q_B, Q_LR, Q_C0, Q_D0, Q_M0⟩
            refine qq ?_ ?_
            · rintro b a w' ⟨ha, Q_B, Q_LR, Q_C0, Q_D0, Q_M0⟩ hb_ hon hoff
              refine ⟨_, rfl, fun K hK => ?_⟩
              have e80 : a.tmps[80]? = some (.pointer (some ad)) := by rw [ha]; exact (qv rfl).trans rfl
              have e76 : a.tmps[76]? = some (.bool false) := by rw [ha]; exact (qv rfl).trans rfl
              replace ha := Aside0.mk ha
              have B := Aside0.mk Q_B
              have LR := Aside0.mk Q_LR
              have C0 := Aside0.mk Q_C0
              have D0 := Aside0.mk Q_D0
              have M0 := Aside0.mk Q_M0
              obtain ⟨ad_, e_, hcell_⟩ := Kd.qBC (Kd.qQ LR.out).2.2 (0 : Int) (Int.le_refl 0) HLP.out
              obtain rfl : ad = ad_ := by injection e_
              rw [HR0.out] at hcell_
              have hcell2_ : w'.cell? ad = some (.string r0) := hcell_
              refine qAB (w1 := w') (v := .string r0) (qtA rfl rfl rfl (e76.trans (by first | rfl | (simp [*]; done)))) rfl ?_ ?_
              · go_simp
                (try simp only [i64_w])
                try rfl
              refine hK.out _ _ ⟨(by rw [ha.out]; exact qr 1 hb_ rfl rfl rfl), Q_B, Q_LR, Q_C0, Q_D0, Q_M0⟩
            refine qq ?_ ?_
            · rintro b a w' ⟨ha, Q_B, Q_LR, Q_C0, Q_D0, Q_M0⟩ hb_ hon hoff
              refine ⟨_, rfl, fun K hK => ?_⟩
              have e81 : a.tmps[81]? = some (.string r0) := by rw [ha]; exact qDA (e := (8, 81, .string r0)) 1 rfl rfl (hon 8 (by kernel_rfl)) rfl
              have e76 : a.tmps[76]? = some (.bool false) := by rw [ha]; exact (qv rfl).trans rfl
              replace ha := Aside0.mk ha
              have B := Aside0.mk Q_B
              have LR := Aside0.mk Q_LR
              have C0 := Aside0.mk Q_C0
              have D0 := Aside0.mk Q_D0
              have M0 := Aside0.mk Q_M0
              refine qAB (w1 := w') (v := .int .i64 (r0.size : Int)) (qtA rfl rfl rfl (e76.trans (by first | rfl | (simp [*]; done)))) rfl ?_ ?_
              · go_simp
                (try simp only [i64_w])
                try rfl
              refine hK.out _ _ ⟨(by rw [ha.out]; exact qr 2 hb_ rfl rfl rfl), Q_B, Q_LR, Q_C0, Q_D0, Q_M0⟩
            refine qq ?_ ?_
            · rintro b a w' ⟨ha, Q_B, Q_LR, Q_C0, Q_D0, Q_M0⟩ hb_ hon hoff
              refine ⟨_, rfl, fun K hK => ?_⟩
              have e78 : a.tmps[78]? = some (.int .i64 (MapKit.count s.ms : Int)) := by rw [ha]; exact qDA (e := (5, 78, .int .i64 (MapKit.count s.ms : Int))) 0 rfl rfl (hon 5 (by kernel_rfl)) rfl
              have e82 : a.tmps[82]? = some (.int .i64 (r0.size : Int)) := by rw [ha]; exact qDA (e := (9, 82, .int .i64 (r0.size : Int))) 2 rfl rfl (hon 9 (by kernel_rfl)) rfl
              have e76 : a.tmps[76]? = some (.bool false) := by rw [ha]; exact (qv rfl).trans rfl
              replace ha := Aside0.mk ha
              have B := Aside0.mk Q_B
              have LR := Aside0.mk Q_LR
              have C0 := Aside0.mk Q_C0
              have D0 := Aside0.mk Q_D0
              have M0 := Aside0.mk Q_M0
              refine qAB (w1 := w') (v := .bool true) (qtA rfl rfl rfl (e76.trans (by first | rfl | (simp [*]; done)))) rfl ?_ ?_
              · go_simp
                (try simp only [i64_w])
                try rfl
              refine hK.out _ _ ⟨(by rw [ha.out]; exact qr 3 hb_ rfl rfl rfl), Q_B, Q_LR, Q_C0, Q_D0, Q_M0⟩
            refine qq ?_ ?_
            · rintro b a w' ⟨ha, Q_B, Q_LR, Q_C0, Q_D0, Q_M0⟩ hb_ hon hoff
              refine ⟨_, rfl, fun K hK => ?_⟩
              have e76 : a.tmps[76]? = some (.bool false) := by rw [ha]; exact (qv rfl).trans rfl
              have e83 : a.tmps[83]? = some (.bool true) := by rw [ha]; exact qDA (e := (10, 83, .bool true)) 3 rfl rfl (hon 10 (by kernel_rfl)) rfl
              replace ha := Aside0.mk ha
              have B := Aside0.mk Q_B
              have LR := Aside0.mk Q_LR
              have C0 := Aside0.mk Q_C0
              have D0 := Aside0.mk Q_D0
              have M0 := Aside0.mk Q_M0
              refine qAB (w1 := w') (v := .bool true) (by rfl) rfl ?_ ?_
              · go_simp
                (try simp only [i64_w])
                try rfl
              refine hK.out _ _ ⟨(by rw [ha.out]; exact qr 4 hb_ rfl rfl rfl), Q_B, Q_LR, Q_C0, Q_D0, Q_M0⟩
            refine qq ?_ ?_
            · rintro b a w' ⟨ha, Q_B, Q_LR, Q_C0, Q_D0, Q_M0⟩ hb_ hon hoff
              refine ⟨_, rfl, fun K hK => ?_⟩
              have e84 : a.tmps[84]? = some (.bool true) := by rw [ha]; exact qDA (e := (11, 84, .bool true)) 4 rfl rfl (hon 11 (by kernel_rfl)) rfl
              replace ha := Aside0.mk ha
              have B := Aside0.mk Q_B
              have LR := Aside0.mk Q_LR
              have C0 := Aside0.mk Q_C0
              have D0 := Aside0.mk Q_D0
              have M0 := Aside0.mk Q_M0
              refine qAB (w1 := w') (v := .bool true) (by rfl) rfl ?_ ?_
              · go_simp
                (try simp only [i64_w])
                try rfl
              refine hK.out _ _ ⟨(by rw [ha.out]; exact qr 5 hb_ rfl rfl rfl), Q_B, Q_LR, Q_C0, Q_D0, Q_M0⟩
            refine qq ?_ ?_
            · rintro b a w' ⟨ha, Q_B, Q_LR, Q_C0, Q_D0, Q_M0⟩ hb_ hon hoff
              refine ⟨_, rfl, fun K hK => ?_⟩
              have e85 : a.tmps[85]? = some (.bool true) := by rw [ha]; exact qDA (e := (12, 85, .bool true)) 5 rfl rfl (hon 12 (by kernel_rfl)) rfl
              replace ha := Aside0.mk ha
              have B := Aside0.mk Q_B
              have LR := Aside0.mk Q_LR
              have C0 := Aside0.mk Q_C0
              have D0 := Aside0.mk Q_D0
              have M0 := Aside0.mk Q_M0
              refine off_ (qDC rfl rfl rfl (e85.trans (by first | rfl | (simp [*]; done)))) ?_
              refine hK.out _ _ ⟨(by rw [ha.out]; exact qr 6 hb_ rfl rfl rfl), Q_B, Q_LR, Q_C0, Q_D0, Q_M0⟩
            refine qq ?_ ?_
            · rintro b a w' ⟨ha, Q_B, Q_LR, Q_C0, Q_D0, Q_M0⟩ hb_ hon hoff
              refine ⟨_, rfl, fun K hK => ?_⟩
              have e85 : a.tmps[85]? = some (.bool true) := by rw [ha]; exact qDA (e := (12, 85, .bool true)) 5 rfl rfl (hon 12 (by kernel_rfl)) rfl
              replace ha := Aside0.mk ha
              have B := Aside0.mk Q_B
              have LR := Aside0.mk Q_LR
              have C0 := Aside0.mk Q_C0
              have D0 := Aside0.mk Q_D0
              have M0 := Aside0.mk Q_M0
              refine off_ (qDC rfl rfl rfl (e85.trans (by first | rfl | (simp [*]; done)))) ?_
              refine hK.out _ _ ⟨(by rw [ha.out]; exact qr 7 hb_ rfl rfl rfl), Q_B, Q_LR, Q_C0, Q_D0, Q_M0⟩
            refine qq ?_ ?_
            · rintro b a w' ⟨ha, Q_B, Q_LR, Q_C0, Q_D0, Q_M0⟩ hb_ hon hoff
              refine ⟨_, rfl, fun K hK => ?_⟩
              have e85 : a.tmps[85]? = some (.bool true) := by rw [ha]; exact qDA (e := (12, 85, .bool true)) 5 rfl rfl (hon 12 (by kernel_rfl)) rfl
              replace ha := Aside0.mk ha
              have B := Aside0.mk Q_B
              have LR := Aside0.mk Q_LR
              have C0 := Aside0.mk Q_C0
              have D0 := Aside0.mk Q_D0
              have M0 := Aside0.mk Q_M0
              refine off_ (qDC rfl rfl rfl (e85.trans (by first | rfl | (simp [*]; done)))) ?_
              refine hK.out _ _ ⟨(by rw [ha.out]; exact qr 8 hb_ rfl rfl rfl), Q_B, Q_LR, Q_C0, Q_D0, Q_M0⟩
            refine qq ?_ ?_
            · rintro b a w' ⟨ha, Q_B, Q_LR, Q_C0, Q_D0, Q_M0⟩ hb_ hon hoff
              refine ⟨_, rfl, fun K hK => ?_⟩
              have e85 : a.tmps[85]? = some (.bool true) := by rw [ha]; exact qDA (e := (12, 85, .bool true)) 5 rfl rfl (hon 12 (by kernel_rfl)) rfl
              have e88 : a.tmps[88]? = some (undef) := by rw [ha]; exact qDA (e := (15, 88, undef)) 8 rfl rfl (hon 15 (by kernel_rfl)) rfl
              replace ha := Aside0.mk ha
              have B := Aside0.mk Q_B
              have LR := Aside0.mk Q_LR
              have C0 := Aside0.mk Q_C0
              have D0 := Aside0.mk Q_D0
              have M0 := Aside0.mk Q_M0
              refine qAB (w1 := w') (v := .bool true) (by rfl) rfl ?_ ?_
              · go_simp
                (try simp only [i64_w])
                try rfl
              refine hK.out _ _ ⟨(by rw [ha.out]; exact qr 9 hb_ rfl rfl rfl), Q_B, Q_LR, Q_C0, Q_D0, Q_M0⟩
            exact quB
          · rintro b a w' hall ⟨ha, Q_B, Q_LR, Q_C0, Q_D0, Q_M0⟩
            clear B C0 D0 LR M0
            have hb5_ := hall 5 (by kernel_rfl)
            have hb8_ := hall 8 (by kernel_rfl)
            have hb9_ := hall 9 (by kernel_rfl)
            have hb10_ := hall 10 (by kernel_rfl)
            have hb11_ := hall 11 (by kernel_rfl)
            have hb12_ := hall 12 (by kernel_rfl)
            have hb13_ := hall 13 (by kernel_rfl)
            have hb14_ := hall 14 (by kernel_rfl)
            have hb15_ := hall 15 (by kernel_rfl)
            have hb16_ := hall 16 (by kernel_rfl)
            subst ha
            simp only [putSel, hb5_, hb8_, hb9_, hb10_, hb11_, hb12_, hb13_, hb14_, hb15_, hb16_, if_true, Act.put, List.setIfInBounds_toArray, List.set_cons_zero, List.set_cons_succ]
            have B := Aside0.mk Q_B
            clear Q_B
            have LR := Aside0.mk Q_LR
            clear Q_LR
            have C0 := Aside0.mk Q_C0
            clear Q_C0
            have D0 := Aside0.mk Q_D0
            clear Q_D0
            have M0 := Aside0.mk Q_M0
            clear Q_M0
            clear hall hb5_ hb8_ hb9_ hb10_ hb11_ hb12_ hb13_ hb14_ hb15_ hb16_
            go_wp2
            go_ret3
            exact ⟨_, _, rfl, Kd.R_nil k61 61 _ _ _, Kd.R_nil (Kd.int .i64) 3 _ _ _, B.out⟩
      · rw [if_neg h6] at HFN
        have h6i : ¬ (s.cs.length : Int) = 6 := by omega
        have h6b : ((s.cs.length : Int) != 6) = true := bne_iff_ne.2 h6i
        have h6c : ((s.cs.length : Int) == 6) = false := beq_eq_false_iff_ne.2 h6i
        have h6d : decide ((s.cs.length : Int) = 6) = false := decide_eq_false h6i
        simp only [Option.some.injEq, Prod.mk.injEq] at HFN
        obtain ⟨rfl, rfl, rfl⟩ := HFN
        refine qBB (n := 17) (S := fun w' => True) (ds := []) #[false, false, false, false, false, false, false, false, false, false, false, false, false, false, false, false, false] (by kernel_rfl) rfl rfl trivial (fun hHeld => ?_); refine qOA sixTab17 sixBits17 (fun HT_ HW_ => ?_)
        refine pure_ (i := 0) (N := some 73) (v := ?_) (a' := ?_) #[true, false, false, false, false, false, false, false, false, false, false, false, false, false, false, false, false] rfl rfl (qEA HT_.out (by kernel_rfl)) (fun _ _ _ h => h) (Or.inl ⟨by rfl, ?_⟩) ?_ ?_
        rotate_left
        · intro w'
          go_simp
          with_reducible rfl
        rotate_left
        · simp only [Act.put, List.setIfInBounds_toArray, List.set_cons_zero, List.set_cons_succ, i64_w, i32_w]
          rfl
        refine pure_ (i := 1) (N := some 74) (v := ?_) (a' := ?_) #[true, true, false, false, false, false, false, false, false, false, false, false, false, false, false, false, false] rfl rfl (qEA HT_.out (by kernel_rfl)) (fun _ _ _ h => h) (Or.inl ⟨by rfl, ?_⟩) ?_ ?_
        rotate_left
        · intro w'
          go_simp
          with_reducible rfl
        rotate_left
        · simp only [Act.put, List.setIfInBounds_toArray, List.set_cons_zero, List.set_cons_succ, i64_w, i32_w]
          rfl
        refine pure_ (i := 2) (N := some 75) (v := ?_) (a' := ?_) #[true, true, true, false, false, false, false, false, false, false, false, false, false, false, false, false, false] rfl rfl (qEA HT_.out (by kernel_rfl)) (fun _ _ _ h => h) (Or.inl ⟨by rfl, ?_⟩) ?_ ?_
        rotate_left
        · intro w'
          go_simp
          with_reducible rfl
        rotate_left
        · simp only [Act.put, List.setIfInBounds_toArray, List.set_cons_zero, List.set_cons_succ, i64_w, i32_w]
          rfl
        refine pure_ (i := 3) (N := some 76) (v := ?_) (a' := ?_) #[true, true, true, true, false, false, false, false, false, false, false, false, false, false, false, false, false] rfl rfl (qEA HT_.out (by kernel_rfl)) (fun _ _ _ h => h) (Or.inl ⟨by rfl, ?_⟩) ?_ ?_
        rotate_left
        · intro w'
          go_simp
          with_reducible rfl
        rotate_left
        · simp only [Act.put, List.setIfInBounds_toArray, List.set_cons_zero, List.set_cons_succ, i64_w, i32_w]
          rfl
        refine pure_ (i := 4) (N := some 77) (v := undef) (a' := ?_) #[true, true, true, true, true, false, false, false, false, false, false, false, false, false, false, false, false] rfl rfl (qEA HT_.out (by kernel_rfl)) (fun _ _ _ h => h) (Or.inr ⟨by rfl, rfl⟩) ?_ ?_
        rotate_left
        · simp only [Act.put, List.setIfInBounds_toArray, List.set_cons_zero, List.set_cons_succ, i64_w, i32_w]
          rfl
        refine pure_ (i := 5) (N := some 78) (v := undef) (a' := ?_) #[true, true, true, true, true, true, false, false, false, false, false, false, false, false, false, false, false] rfl rfl (qEA HT_.out (by kernel_rfl)) (fun _ _ _ h => h) (Or.inr ⟨by rfl, rfl⟩) ?_ ?_
        rotate_left
        · simp only [Act.put, List.setIfInBounds_toArray, List.set_cons_zero, List.set_cons_succ, i64_w, i32_w]
          rfl
        refine pure_ (i := 6) (N := some 79) (v := undef) (a' := ?_) #[true, true, true, true, true, true, true, false, false, false, false, false, false, false, false, false, false] rfl rfl (qEA HT_.out (by kernel_rfl)) (fun _ _ _ h => h) (Or.inr ⟨by rfl, rfl⟩) ?_ ?_
        rotate_left
        · simp only [Act.put, List.setIfInBounds_toArray, List.set_cons_zero, List.set_cons_succ, i64_w, i32_w]
          rfl
        refine pure_ (i := 7) (N := some 80) (v := undef) (a' := ?_) #[true, true, true, true, true, true, true, true, false, false, false, false, false, false, false, false, false] rfl rfl (qEA HT_.out (by kernel_rfl)) (fun _ _ _ h => h) (Or.inr ⟨by rfl, rfl⟩) ?_ ?_
        rotate_left
        · simp only [Act.put, List.setIfInBounds_toArray, List.set_cons_zero, List.set_cons_succ, i64_w, i32_w]
          rfl
        refine pure_ (i := 8) (N := some 81) (v := undef) (a' := ?_) #[true, true, true, true, true, true, true, true, true, false, false, false, false, false, false, false, false] rfl rfl (qEA HT_.out (by kernel_rfl)) (fun _ _ _ h => h) (Or.inr ⟨by rfl, rfl⟩) ?_ ?_
        rotate_left
        · simp only [Act.put, List.setIfInBounds_toArray, List.set_cons_zero, List.set_cons_succ, i64_w, i32_w]
          rfl
        refine pure_ (i := 9) (N := some 82) (v := undef) (a' := ?_) #[true, true, true, true, true, true, true, true, true, true, false, false, false, false, false, false, false] rfl rfl (qEA HT_.out (by kernel_rfl)) (fun _ _ _ h => h) (Or.inr ⟨by rfl, rfl⟩) ?_ ?_
        rotate_left
        · simp only [Act.put, List.setIfInBounds_toArray, List.set_cons_zero, List.set_cons_succ, i64_w, i32_w]
          rfl
        refine pure_ (i := 10) (N := some 83) (v := undef) (a' := ?_) #[true, true, true, true, true, true, true, true, true, true, true, false, false, false, false, false, false] rfl rfl (qEA HT_.out (by kernel_rfl)) (fun _ _ _ h => h) (Or.inr ⟨by rfl, rfl⟩) ?_ ?_
        rotate_left
        · simp only [Act.put, List.setIfInBounds_toArray, List.set_cons_zero, List.set_cons_succ, i64_w, i32_w]
          rfl
        refine pure_ (i := 11) (N := some 84) (v := ?_) (a' := ?_) #[true, true, true, true, true, true, true, true, true, true, true, true, false, false, false, false, false] rfl rfl (qEA HT_.out (by kernel_rfl)) (fun _ _ _ h => h) (Or.inl ⟨by rfl, ?_⟩) ?_ ?_
        rotate_left
        · intro w'
          go_simp
          with_reducible rfl
        rotate_left
        · simp only [Act.put, List.setIfInBounds_toArray, List.set_cons_zero, List.set_cons_succ, i64_w, i32_w]
          rfl
        refine pure_ (i := 12) (N := some 85) (v := ?_) (a' := ?_) #[true, true, true, true, true, true, true, true, true, true, true, true, true, false, false, false, false] rfl rfl (qEA HT_.out (by kernel_rfl)) (fun _ _ _ h => h) (Or.inl ⟨by rfl, ?_⟩) ?_ ?_
        rotate_left
        · intro w'
          go_simp
          with_reducible rfl
        rotate_left
        · simp only [Act.put, List.setIfInBounds_toArray, List.set_cons_zero, List.set_cons_succ, i64_w, i32_w]
          rfl
        refine pure_ (i := 13) (N := some 86) (v := undef) (a' := ?_) #[true, true, true, true, true, true, true, true, true, true, true, true, true, true, false, false, false] rfl rfl (qEA HT_.out (by kernel_rfl)) (fun _ _ _ h => h) (Or.inr ⟨by rfl, rfl⟩) ?_ ?_
        rotate_left
        · simp only [Act.put, List.setIfInBounds_toArray, List.set_cons_zero, List.set_cons_succ, i64_w, i32_w]
          rfl
        refine pure_ (i := 14) (N := some 87) (v := undef) (a' := ?_) #[true, true, true, true, true, true, true, true, true, true, true, true, true, true, true, false, false] rfl rfl (qEA HT_.out (by kernel_rfl)) (fun _ _ _ h => h) (Or.inr ⟨by rfl, rfl⟩) ?_ ?_
        rotate_left
        · simp only [Act.put, List.setIfInBounds_toArray, List.set_cons_zero, List.set_cons_succ, i64_w, i32_w]
          rfl
        refine pure_ (i := 15) (N := some 88) (v := undef) (a' := ?_) #[true, true, true, true, true, true, true, true, true, true, true, true, true, true, true, true, false] rfl rfl (qEA HT_.out (by kernel_rfl)) (fun _ _ _ h => h) (Or.inr ⟨by rfl, rfl⟩) ?_ ?_
        rotate_left
        · simp only [Act.put, List.setIfInBounds_toArray, List.set_cons_zero, List.set_cons_succ, i64_w, i32_w]
          rfl
        refine qkC [16] (fun a0_ b a w' => a = putSel a0_ b [(16, 89, .bool true)] ∧ (Below w.heap.size w w') ∧ (Kd.R Kd.string 9 w' w.heap.size (fun _ => True) (.slice (some ad) L.length cw) L) ∧ (Kd.R k61 61 w' w.heap.size (fun _ => True) (.slice Ac s.cs.length cc) s.cs) ∧ (Kd.R (Kd.int .i64) 3 w' w.heap.size (fun _ => True) vd s.ds) ∧ (mapI.Is w' g s.ms)) HT_.out HW_.out (by kernel_rfl) (by kernel_rfl) ?_ ?_ ?_
        · exact ⟨by simp only [putSel, Bool.false_eq_true, if_false], qg B.out, Kd.qI LR.out, Kd.qI C0.out, Kd.qI D0.out, M0.out.drew⟩
        · skip
          clear B C0 D0 LR M0
          refine qq ?_ ?_
          · rintro b a w' ⟨ha, Q_B, Q_LR, Q_C0, Q_D0, Q_M0⟩ hb_ hon hoff
            refine ⟨_, rfl, fun K hK => ?_⟩
            have e85 : a.tmps[85]? = some (.bool true) := by rw [ha]; exact (qv rfl).trans rfl
            have e88 : a.tmps[88]? = some (undef) := by rw [ha]; exact (qv rfl).trans rfl
            replace ha := Aside0.mk ha
            have B := Aside0.mk Q_B
            have LR := Aside0.mk Q_LR
            have C0 := Aside0.mk Q_C0
            have D0 := Aside0.mk Q_D0
            have M0 := Aside0.mk Q_M0
            refine qAB (w1 := w') (v := .bool true) (by rfl) rfl ?_ ?_
            · go_simp
              (try simp only [i64_w])
              try rfl
            refine hK.out _ _ ⟨(by rw [ha.out]; exact qr 0 hb_ rfl rfl rfl), Q_B, Q_LR, Q_C0, Q_D0, Q_M0⟩
          exact quB
        · rintro b a w' hall ⟨ha, Q_B, Q_LR, Q_C0, Q_D0, Q_M0⟩
          clear B C0 D0 LR M0
          have hb16_ := hall 16 (by kernel_rfl)
          subst ha
          simp only [putSel, hb16_, if_true, Act.put, List.setIfInBounds_toArray, List.set_cons_zero, List.set_cons_succ]
          have B := Aside0.mk Q_B
          clear Q_B
          have LR := Aside0.mk Q_LR
          clear Q_LR
          have C0 := Aside0.mk Q_C0
          clear Q_C0
          have D0 := Aside0.mk Q_D0
          clear Q_D0
          have M0 := Aside0.mk Q_M0
          clear Q_M0
          clear hall hb16_
          go_wp2
          go_ret3
          exact ⟨_, _, rfl, Kd.R_nil k61 61 _ _ _, Kd.R_nil (Kd.int .i64) 3 _ _ _, B.out⟩
end P
end Go.Proofs.YtdncpkppkafkpaaDoor
namespace Go.Proofs.YtdncpkppkafkpaaDoor.P
open Go.RowKit Go.Proofs.YtdncpkppkafkpaaDoorW.PrintWords Go.Proofs.YtdncpkppkafkpaaDoorW.PrintLast Go.Proofs.YtdncpkppkafkpaaDoorW.PrintMore
attribute [local go_sem] qz qx qIA qHA qj qi qy qw
set_option linter.unusedVariables false
set_option linter.unusedSimpArgs false
def qVB.f (k : Nat) (a0 : ByteArray) : Option ((List (S61)) × List Int × Bool) := (qLB.f k a0).bind fun bt486 => (if bt486.2.2 = true then ((qKA.f k bt486.1).bind fun t493 => (some (bt486.1, bt486.2.1, t493))) else (some (bt486.1, bt486.2.1, false)))
set_option maxHeartbeats 8000000 in
set_option maxRecDepth 100000 in
theorem qVB.calls (k : Nat) (a0 : ByteArray) (r1 : List (S61)) (r2 : List Int) (r3 : Bool) (w : World) (hL : Laid w) (h : qVB.f k a0 = some (r1, r2, r3)) :
  Calls Tryd.prog 35 #[.string a0] w fun e w' => ∃ v0_ v1_ : Value, e = .returned (.tuple #[v0_, v1_, .bool r3]) ∧ Kd.R k61 61 w' w.heap.size (fun _ => True) v0_ r1 ∧ Kd.R (Kd.int .i64) 3 w' w.heap.size (fun _ => True) v1_ r2 ∧ Below w.heap.size w w' := by
 have HLD := Aside0.mk hL
 clear hL
 have HB := Aside0.mk (Below.refl w.heap.size w)
 have H : ((qLB.f k a0).bind fun bt486 => (if bt486.2.2 = true then ((qKA.f k bt486.1).bind fun t493 => (some (bt486.1, bt486.2.1, t493))) else (some (bt486.1, bt486.2.1, false)))) = some (r1, r2, r3) := h
 clear h
 replace H := Option.bind_eq_some_iff.mp H
 obtain ⟨⟨t486, t487, t488⟩, A20, H⟩ := H
 replace H : (if t488 = true then ((qKA.f k t486).bind fun t493 => (some (t486, t487, t493))) else (some (t486, t487, false))) = some (r1, r2, r3) := H
 have A2 := Aside0.mk A20
 clear A20
 by_cases c3 : t488 = true
 ·subst c3
  have H1 : ((qKA.f k t486).bind fun t493 => (some (t486, t487, t493))) = some (r1, r2, r3) := by rw [if_pos rfl] at H; exact H
  clear H
  have H := H1
  clear H1
  replace H := Option.bind_eq_some_iff.mp H
  obtain ⟨t493, A40, H⟩ := H
  replace H : (some (t486, t487, t493)) = some (r1, r2, r3) := H
  have A4 := Aside0.mk A40
  clear A40
  simp only [Option.some.injEq, Prod.mk.injEq] at H
  obtain ⟨rfl, rfl, rfl⟩ := H
  go_enter Tryd.func35, Tryd.ntmps35
  go_wp2_with (first | ((with_reducible refine qW (f := 33) rfl ?_); refine qNA (some 10) rfl rfl Tryd.func33 (by kernel_rfl) rfl #[.string a0] rfl (by (try simp only [List.map_toArray, List.map_cons, List.map_nil]); first | done | rfl | (simp only [List.length_drop, List.length_take]; rfl)) ?_; (with_reducible refine (qLB.calls k a0 t486 t487 true _ ?side1 A2.out).mono ?_); (case side1 => first | (with_reducible exact HLD.out) | exact Laid.below HLD.out (by repeat (first | (with_reducible first | exact HB.out | apply qt | apply qBA | apply qg | refine qb ?_ (Aside0.out (by with_reducible assumption))) | exact HB.out))); rintro e w5 ⟨v489, v491, rfl, ho0, ho1, hb⟩; refine ⟨_, rfl, ?_⟩; have n0_ := Aside0.mk (Kd.qCA ho0 (qX bl)); have n1_ := Aside0.mk (Kd.qCA ho1 (qX bl)); have n2_ := Aside0.mk (qJ bl hb); clear HB; have HO490 := n0_; have HO492 := n1_; have HB := n2_; clear n0_ n1_ n2_; (try clear hb); (try clear hb2); (try clear hk); (try clear hi); (try clear ho0); (try clear ho1); obtain ⟨Ao6, co6, eo6⟩ := Kd.qo HO490.out; subst eo6) | (go_at_call 51; (with_reducible refine (qKA.calls k _ _ t486 t493 _ ?side1 ?side2 A4.out).mono ?_); (case side1 => repeat (first | exact (Kd.qQ HO490.out).2.2 | (with_reducible refine Kd.qXA ?_ _) | (with_reducible refine Kd.qWA ?_ _) | (with_reducible refine Kd.qsA ?_))); (case side2 => exact (Kd.qQ HO490.out).2.1); rintro e w7 ⟨rfl, hb⟩; have n0_ := Aside0.mk (Kd.qV (by (with_reducible repeat (first | apply Kd.qG | apply Kd.qH | apply Kd.qI)); exact HO490.out) hb); have n1_ := Aside0.mk (Kd.qV (by (with_reducible repeat (first | apply Kd.qG | apply Kd.qH | apply Kd.qI)); exact HO492.out) hb); have n2_ := Aside0.mk (qJ bl hb); clear HO490; clear HO492; clear HB; have HO490 := n0_; have HO492 := n1_; have HB := n2_; clear n0_ n1_ n2_; (try clear hb); (try clear hb2); (try clear hk); (try clear hi)))
  go_ret3
  exact ⟨_, _, by first | rfl | (simp [qN, qM] <;> rfl) | (simp [*, qN, qM] <;> rfl), by (with_reducible repeat (first | apply Kd.qG | apply Kd.qH | apply Kd.qI)); exact HO490.out, by (with_reducible repeat (first | apply Kd.qG | apply Kd.qH | apply Kd.qI)); exact HO492.out, bl⟩
 ·replace c3 := Bool.eq_false_iff.mpr c3
  subst c3
  have H1 : (some (t486, t487, false)) = some (r1, r2, r3) := by rw [if_neg (show ¬ (false = true) by decide)] at H; exact H
  clear H
  have H := H1
  clear H1
  simp only [Option.some.injEq, Prod.mk.injEq] at H
  obtain ⟨rfl, rfl, rfl⟩ := H
  go_enter Tryd.func35, Tryd.ntmps35
  go_wp2_with (first | ((with_reducible refine qW (f := 33) rfl ?_); refine qNA (some 10) rfl rfl Tryd.func33 (by kernel_rfl) rfl #[.string a0] rfl (by (try simp only [List.map_toArray, List.map_cons, List.map_nil]); first | done | rfl | (simp only [List.length_drop, List.length_take]; rfl)) ?_; (with_reducible refine (qLB.calls k a0 t486 t487 false _ ?side1 A2.out).mono ?_); (case side1 => first | (with_reducible exact HLD.out) | exact Laid.below HLD.out (by repeat (first | (with_reducible first | exact HB.out | apply qt | apply qBA | apply qg | refine qb ?_ (Aside0.out (by with_reducible assumption))) | exact HB.out))); rintro e w8 ⟨v489, v491, rfl, ho0, ho1, hb⟩; refine ⟨_, rfl, ?_⟩; have n0_ := Aside0.mk (Kd.qCA ho0 (qX bl)); have n1_ := Aside0.mk (Kd.qCA ho1 (qX bl)); have n2_ := Aside0.mk (qJ bl hb); clear HB; have HO490 := n0_; have HO492 := n1_; have HB := n2_; clear n0_ n1_ n2_; (try clear hb); (try clear hb2); (try clear hk); (try clear hi); (try clear ho0); (try clear ho1)))
  go_ret3
  exact ⟨_, _, by first | rfl | (simp [qN, qM] <;> rfl) | (simp [*, qN, qM] <;> rfl), by (with_reducible repeat (first | apply Kd.qG | apply Kd.qH | apply Kd.qI)); exact HO490.out, by (with_reducible repeat (first | apply Kd.qG | apply Kd.qH | apply Kd.qI)); exact HO492.out, bl⟩
def qTA.f (l0 : List Int) : Option (Int × Int × Int × Int × Int × Int) := if 0 < (l0.length : Int) then (if 1 < (l0.length : Int) then (if 2 < (l0.length : Int) then (if 3 < (l0.length : Int) then (if 4 < (l0.length : Int) then (if 5 < (l0.length : Int) then (some (rd l0 0, rd l0 1, rd l0 2, rd l0 3, rd l0 4, rd l0 5)) else (none)) else (none)) else (none)) else (none)) else (none)) else (none)
def qTA.T1 : Bool × List (List Nat × List Nat) := (true, [([], []), ([0], [0]), ([1], [1]), ([], []), ([3], [3]), ([4], [4]), ([], []), ([6], [6]), ([7], [7]), ([], []), ([9], [9]), ([10], [10]), ([], []), ([12], [12]), ([13], [13]), ([], []), ([15], [15]), ([16], [16]), ([2, 5, 8, 11, 14, 17], [2, 5, 8, 11, 14, 17]), ([18, 0, 1, 2, 3, 4, 5, 6, 7, 8, 9, 10, 11, 12, 13, 14, 15, 16, 17, 18], [18])])
def qTA.B1 : List Nat := [0, 1, 3, 0, 8, 24, 0, 64, 192, 0, 512, 1536, 0, 4096, 12288, 0, 32768, 98304, 262143, 524287]
theorem qTA.tab1 : rtab .any (opsOf Tryd.f57 1) = qTA.T1 := by kernel_rfl
theorem qTA.bits1 : waitsOk qTA.T1.2 qTA.B1 = true := by kernel_rfl
set_option maxHeartbeats 8000000 in
set_option maxRecDepth 100000 in
theorem qTA.calls (A0 : Option Addr) (c0 : Nat) (l0 : List Int) (r1 : Int) (r2 : Int) (r3 : Int) (r4 : Int) (r5 : Int) (r6 : Int) (w : World) (hr0 : Kd.C (Kd.int .i64) w A0 l0.length l0) (hc0 : l0.length ≤ c0) (h : qTA.f l0 = some (r1, r2, r3, r4, r5, r6)) :
  Calls Tryd.prog 57 #[.slice A0 l0.length c0] w fun e w' => e = .returned (.agg #[.int .i64 r1, .int .i64 r2, .int .i64 r3, .int .i64 r4, .int .i64 r5, .int .i64 r6]) ∧ Below w.heap.size w w' := by
 have hu31 := Tryd.underlying31
 have HR0 := Aside0.mk hr0
 have HC0 := Aside0.mk hc0
 clear hr0 hc0
 have HB := Aside0.mk (Below.refl w.heap.size w)
 have H : (if 0 < (l0.length : Int) then (if 1 < (l0.length : Int) then (if 2 < (l0.length : Int) then (if 3 < (l0.length : Int) then (if 4 < (l0.length : Int) then (if 5 < (l0.length : Int) then (some (rd l0 0, rd l0 1, rd l0 2, rd l0 3, rd l0 4, rd l0 5)) else (none)) else (none)) else (none)) else (none)) else (none)) else (none)) = some (r1, r2, r3, r4, r5, r6) := h
 clear h
 by_cases c2 : 0 < (l0.length : Int)
 ·rw [if_pos c2] at H
  have c2b0 : decide (0 < (l0.length : Int)) = true := decide_eq_true c2
  have c2b1 : decide (0 < l0.length) = true := decide_eq_true (by omega)
  clear c2
  by_cases c3 : 1 < (l0.length : Int)
  ·rw [if_pos c3] at H
   have c3b0 : decide (1 < (l0.length : Int)) = true := decide_eq_true c3
   have c3b1 : decide (1 < l0.length) = true := decide_eq_true (by omega)
   clear c3
   by_cases c4 : 2 < (l0.length : Int)
   ·rw [if_pos c4] at H
    have c4b0 : decide (2 < (l0.length : Int)) = true := decide_eq_true c4
    have c4b1 : decide (2 < l0.length) = true := decide_eq_true (by omega)
    clear c4
    by_cases c5 : 3 < (l0.length : Int)
    ·rw [if_pos c5] at H
     have c5b0 : decide (3 < (l0.length : Int)) = true := decide_eq_true c5
     have c5b1 : decide (3 < l0.length) = true := decide_eq_true (by omega)
     clear c5
     by_cases c6 : 4 < (l0.length : Int)
     ·rw [if_pos c6] at H
      have c6b0 : decide (4 < (l0.length : Int)) = true := decide_eq_true c6
      have c6b1 : decide (4 < l0.length) = true := decide_eq_true (by omega)
      clear c6
      by_cases c7 : 5 < (l0.length : Int)
      ·rw [if_pos c7] at H
       have c7b0 : decide (5 < (l0.length : Int)) = true := decide_eq_true c7
       have c7b1 : decide (5 < l0.length) = true := decide_eq_true (by omega)
       clear c7
       simp only [Option.some.injEq, Prod.mk.injEq] at H
       obtain ⟨rfl, rfl, rfl, rfl, rfl, rfl⟩ := H
       go_enter Tryd.func57, Tryd.ntmps57
       try go_wp2_with (first | ((with_reducible refine qT (N := 2) rfl ?_); refine qR ?hg (N := 2) ?hd (cs := #[.int .i64 0, .int .i64 0, .int .i64 0, .int .i64 0, .int .i64 0, .int .i64 0]) (t := 31) ?hr ?_; (case hd => rfl); (case hg => rfl); (case hr => first | (go_simp; done) | (go_simp; rfl)); intro gb634 hg w8 hbox hb; have n0_ := Aside0.mk (qJ bl hb); have n1_ := Aside0.mk (hbox); have n2_ := Aside0.mk ((gg hg)); have n3_ := Aside0.mk ((gg hg)); clear HB; have HB := n0_; have BK634 := n1_; have GW634 := n2_; have GE634 := n3_; clear n0_ n1_ n2_ n3_; clear hb hbox hg))
       have n0_ := Aside0.mk (qE BK634.out)
       have n1_ := Aside0.mk (qg HB.out)
       clear BK634
       clear HB
       have BK634 := n0_
       have HB := n1_
       clear n0_ n1_
       have p635 : 0 ≤ (0 : Int) := (by omega)
       have q635 : 0 < (l0.length : Int) := of_decide_eq_true (by first | (with_reducible assumption) | assumption)
       obtain ⟨ad635, e635, hx635_0⟩ := Kd.qAA HR0.out 0 p635 q635
       have hw635_0 := hx635_0
       (try rw [show ((0 : Int)).toNat = 0 from rfl] at hw635_0)
       (try rw [show 0 * 1 = 0 from rfl] at hw635_0)
       (try rw [Addr.add_zero'] at hw635_0)
       cases e635
       have qi635 : (0 < l0.length) = True := eq_true (by omega)
       (try rw [show ((0 : Int)).toNat = 0 from rfl] at hx635_0)
       (try rw [Addr.add_zero'] at hx635_0)
       replace hx635_0 := (HB.out.cell (World.block_lt_of_cell? w _ hx635_0)).trans hx635_0
       replace p635 := eq_true p635
       replace q635 := eq_true q635
       have p636 : 0 ≤ (1 : Int) := (by omega)
       have q636 : 1 < (l0.length : Int) := of_decide_eq_true (by first | (with_reducible assumption) | assumption)
       obtain ⟨ad636, e636, hx636_0⟩ := Kd.qAA HR0.out 1 p636 q636
       have hw636_0 := hx636_0
       (try rw [show ((1 : Int)).toNat = 1 from rfl] at hw636_0)
       (try rw [show 1 * 1 = 1 from rfl] at hw636_0)
       (try simp only [Nat.reduceMul, Nat.reduceEqDiff, Go.Addr.add, ↓reduceIte] at hw636_0)
       obtain rfl : ad635 = ad636 := (by injection e636)
       (try simp only [show (1 : Int).toNat = 1 from rfl, Nat.reduceMul, Nat.reduceEqDiff, Go.Addr.add, ↓reduceIte] at hx636_0)
       have qi636 : (1 < l0.length) = True := eq_true (by omega)
       (try rw [show ((1 : Int)).toNat = 1 from rfl] at hx636_0)
       replace hx636_0 := (HB.out.cell (World.block_lt_of_cell? w _ hx636_0)).trans hx636_0
       replace p636 := eq_true p636
       replace q636 := eq_true q636
       have p637 : 0 ≤ (2 : Int) := (by omega)
       have q637 : 2 < (l0.length : Int) := of_decide_eq_true (by first | (with_reducible assumption) | assumption)
       obtain ⟨ad637, e637, hx637_0⟩ := Kd.qAA HR0.out 2 p637 q637
       have hw637_0 := hx637_0
       (try rw [show ((2 : Int)).toNat = 2 from rfl] at hw637_0)
       (try rw [show 2 * 1 = 2 from rfl] at hw637_0)
       (try simp only [Nat.reduceMul, Nat.reduceEqDiff, Go.Addr.add, ↓reduceIte] at hw637_0)
       obtain rfl : ad635 = ad637 := (by injection e637)
       (try simp only [show (2 : Int).toNat = 2 from rfl, Nat.reduceMul, Nat.reduceEqDiff, Go.Addr.add, ↓reduceIte] at hx637_0)
       have qi637 : (2 < l0.length) = True := eq_true (by omega)
       (try rw [show ((2 : Int)).toNat = 2 from rfl] at hx637_0)
       replace hx637_0 := (HB.out.cell (World.block_lt_of_cell? w _ hx637_0)).trans hx637_0
       replace p637 := eq_true p637
       replace q637 := eq_true q637
       have p638 : 0 ≤ (3 : Int) := (by omega)
       have q638 : 3 < (l0.length : Int) := of_decide_eq_true (by first | (with_reducible assumption) | assumption)
       obtain ⟨ad638, e638, hx638_0⟩ := Kd.qAA HR0.out 3 p638 q638
       have hw638_0 := hx638_0
       (try rw [show ((3 : Int)).toNat = 3 from rfl] at hw638_0)
       (try rw [show 3 * 1 = 3 from rfl] at hw638_0)
       (try simp only [Nat.reduceMul, Nat.reduceEqDiff, Go.Addr.add, ↓reduceIte] at hw638_0)
       obtain rfl : ad635 = ad638 := (by injection e638)
       (try simp only [show (3 : Int).toNat = 3 from rfl, Nat.reduceMul, Nat.reduceEqDiff, Go.Addr.add, ↓reduceIte] at hx638_0)
       have qi638 : (3 < l0.length) = True := eq_true (by omega)
       (try rw [show ((3 : Int)).toNat = 3 from rfl] at hx638_0)
       replace hx638_0 := (HB.out.cell (World.block_lt_of_cell? w _ hx638_0)).trans hx638_0
       replace p638 := eq_true p638
       replace q638 := eq_true q638
       have p639 : 0 ≤ (4 : Int) := (by omega)
       have q639 : 4 < (l0.length : Int) := of_decide_eq_true (by first | (with_reducible assumption) | assumption)
       obtain ⟨ad639, e639, hx639_0⟩ := Kd.qAA HR0.out 4 p639 q639
       have hw639_0 := hx639_0
       (try rw [show ((4 : Int)).toNat = 4 from rfl] at hw639_0)
       (try rw [show 4 * 1 = 4 from rfl] at hw639_0)
       (try simp only [Nat.reduceMul, Nat.reduceEqDiff, Go.Addr.add, ↓reduceIte] at hw639_0)
       obtain rfl : ad635 = ad639 := (by injection e639)
       (try simp only [show (4 : Int).toNat = 4 from rfl, Nat.reduceMul, Nat.reduceEqDiff, Go.Addr.add, ↓reduceIte] at hx639_0)
       have qi639 : (4 < l0.length) = True := eq_true (by omega)
       (try rw [show ((4 : Int)).toNat = 4 from rfl] at hx639_0)
       replace hx639_0 := (HB.out.cell (World.block_lt_of_cell? w _ hx639_0)).trans hx639_0
       replace p639 := eq_true p639
       replace q639 := eq_true q639
       have p640 : 0 ≤ (5 : Int) := (by omega)
       have q640 : 5 < (l0.length : Int) := of_decide_eq_true (by first | (with_reducible assumption) | assumption)
       obtain ⟨ad640, e640, hx640_0⟩ := Kd.qAA HR0.out 5 p640 q640
       have hw640_0 := hx640_0
       (try rw [show ((5 : Int)).toNat = 5 from rfl] at hw640_0)
       (try rw [show 5 * 1 = 5 from rfl] at hw640_0)
       (try simp only [Nat.reduceMul, Nat.reduceEqDiff, Go.Addr.add, ↓reduceIte] at hw640_0)
       obtain rfl : ad635 = ad640 := (by injection e640)
       (try simp only [show (5 : Int).toNat = 5 from rfl, Nat.reduceMul, Nat.reduceEqDiff, Go.Addr.add, ↓reduceIte] at hx640_0)
       have qi640 : (5 < l0.length) = True := eq_true (by omega)
       (try rw [show ((5 : Int)).toNat = 5 from rfl] at hx640_0)
       replace hx640_0 := (HB.out.cell (World.block_lt_of_cell? w _ hx640_0)).trans hx640_0
       replace p640 := eq_true p640
       replace q640 := eq_true q640
       refine qBB (n := 20) (S := fun w' => w'.cell? ad635 = some (.int .i64 (rd l0 0)) ∧ w'.cell? ⟨ad635.block, ad635.off + 1, none⟩ = some (.int .i64 (rd l0 1)) ∧ w'.cell? ⟨ad635.block, ad635.off + 2, none⟩ = some (.int .i64 (rd l0 2)) ∧ w'.cell? ⟨ad635.block, ad635.off + 3, none⟩ = some (.int .i64 (rd l0 3)) ∧ w'.cell? ⟨ad635.block, ad635.off + 4, none⟩ = some (.int .i64 (rd l0 4)) ∧ w'.cell? ⟨ad635.block, ad635.off + 5, none⟩ = some (.int .i64 (rd l0 5))) (ds := []) #[false, false, false, false, false, false, false, false, false, false, false, false, false, false, false, false, false, false, false, false] (by kernel_rfl) rfl rfl ⟨((HB.out.cell (World.block_lt_of_cell? w _ hw635_0)).trans hw635_0), ((HB.out.cell (World.block_lt_of_cell? w _ hw636_0)).trans hw636_0), ((HB.out.cell (World.block_lt_of_cell? w _ hw637_0)).trans hw637_0), ((HB.out.cell (World.block_lt_of_cell? w _ hw638_0)).trans hw638_0), ((HB.out.cell (World.block_lt_of_cell? w _ hw639_0)).trans hw639_0), ((HB.out.cell (World.block_lt_of_cell? w _ hw640_0)).trans hw640_0)⟩ (fun hHeld => ?_); refine qOA qTA.tab1 qTA.bits1 (fun HT_ HW_ => ?_)
       generalize w8.drew = w9 at BK634 HB hx635_0 hx636_0 hx637_0 hx638_0 hx639_0 hx640_0 hHeld ⊢
       refine pS (i := 0) (N := some 3) #[true, false, false, false, false, false, false, false, false, false, false, false, false, false, false, false, false, false, false, false] HT_ ?_
       refine pS (i := 1) (N := some 4) #[true, true, false, false, false, false, false, false, false, false, false, false, false, false, false, false, false, false, false, false] HT_ ?_
       refine pS (i := 3) (N := some 6) #[true, true, false, true, false, false, false, false, false, false, false, false, false, false, false, false, false, false, false, false] HT_ ?_
       refine pS (i := 4) (N := some 7) #[true, true, false, true, true, false, false, false, false, false, false, false, false, false, false, false, false, false, false, false] HT_ ?_
       refine pS (i := 6) (N := some 9) #[true, true, false, true, true, false, true, false, false, false, false, false, false, false, false, false, false, false, false, false] HT_ ?_
       refine pS (i := 7) (N := some 10) #[true, true, false, true, true, false, true, true, false, false, false, false, false, false, false, false, false, false, false, false] HT_ ?_
       refine pS (i := 9) (N := some 12) #[true, true, false, true, true, false, true, true, false, true, false, false, false, false, false, false, false, false, false, false] HT_ ?_
       refine pS (i := 10) (N := some 13) #[true, true, false, true, true, false, true, true, false, true, true, false, false, false, false, false, false, false, false, false] HT_ ?_
       refine pS (i := 12) (N := some 15) #[true, true, false, true, true, false, true, true, false, true, true, false, true, false, false, false, false, false, false, false] HT_ ?_
       refine pS (i := 13) (N := some 16) #[true, true, false, true, true, false, true, true, false, true, true, false, true, true, false, false, false, false, false, false] HT_ ?_
       refine pS (i := 15) (N := some 18) #[true, true, false, true, true, false, true, true, false, true, true, false, true, true, false, true, false, false, false, false] HT_ ?_
       refine pS (i := 16) (N := some 19) #[true, true, false, true, true, false, true, true, false, true, true, false, true, true, false, true, true, false, false, false] HT_ ?_
       refine tS (i := 2) (N := some 5) #[true, true, true, true, true, false, true, true, false, true, true, false, true, true, false, true, true, false, false, false] HT_ HW_ hHeld ?_
       refine tS (i := 5) (N := some 8) #[true, true, true, true, true, true, true, true, false, true, true, false, true, true, false, true, true, false, false, false] HT_ HW_ hHeld ?_
       refine tS (i := 8) (N := some 11) #[true, true, true, true, true, true, true, true, true, true, true, false, true, true, false, true, true, false, false, false] HT_ HW_ hHeld ?_
       refine tS (i := 11) (N := some 14) #[true, true, true, true, true, true, true, true, true, true, true, true, true, true, false, true, true, false, false, false] HT_ HW_ hHeld ?_
       refine tS (i := 14) (N := some 17) #[true, true, true, true, true, true, true, true, true, true, true, true, true, true, true, true, true, false, false, false] HT_ HW_ hHeld ?_
       refine tS (i := 17) (N := some 20) #[true, true, true, true, true, true, true, true, true, true, true, true, true, true, true, true, true, true, false, false] HT_ HW_ hHeld ?_
       refine pS (i := 18) (N := some 21) #[true, true, true, true, true, true, true, true, true, true, true, true, true, true, true, true, true, true, true, false] HT_ ?_
       refine one_ (i := 19) (N := none) #[true, true, true, true, true, true, true, true, true, true, true, true, true, true, true, true, true, true, true, true] rfl rfl (quA HT_.out (by kernel_rfl)) (by decide) (fun K hK => ?_)
       have hs10 : w9.cell? ⟨gb634, 0, none⟩ = some (.int .i64 0) := (qa BK634.out 0).trans rfl
       have hfs10 := qA BK634.out 0
       have hs11 : w9.cell? ⟨gb634, 1, none⟩ = some (.int .i64 0) := (qa BK634.out 1).trans rfl
       have hfs11 := qA BK634.out 1
       have hs12 : w9.cell? ⟨gb634, 2, none⟩ = some (.int .i64 0) := (qa BK634.out 2).trans rfl
       have hfs12 := qA BK634.out 2
       have hs13 : w9.cell? ⟨gb634, 3, none⟩ = some (.int .i64 0) := (qa BK634.out 3).trans rfl
       have hfs13 := qA BK634.out 3
       have hs14 : w9.cell? ⟨gb634, 4, none⟩ = some (.int .i64 0) := (qa BK634.out 4).trans rfl
       have hfs14 := qA BK634.out 4
       have hs15 : w9.cell? ⟨gb634, 5, none⟩ = some (.int .i64 0) := (qa BK634.out 5).trans rfl
       have hfs15 := qA BK634.out 5
       refine skip_ (w1 := ?_) (by rfl) rfl ?_ ?_
       rotate_left
       ·go_simp
        rfl
       refine hK.out _ _ ⟨((qU (p := ⟨gb634, _, none⟩) (by first | exact Nat.ne_of_lt (Nat.lt_of_lt_of_le (by have := World.block_lt_of_cell? _ _ hw635_0; first | rwa [qB] at this | exact this) GW634.out) | (rw [qB]; exact Nat.ne_of_lt (Nat.lt_of_lt_of_le (by have := World.block_lt_of_cell? _ _ hw635_0; first | rwa [qB] at this | exact this) GW634.out)) | (show (Addr.add _ _).block ≠ _; rw [qB]; exact Nat.ne_of_lt (Nat.lt_of_lt_of_le (by have := World.block_lt_of_cell? _ _ hw635_0; first | rwa [qB] at this | exact this) GW634.out)) | (dsimp only; exact Nat.ne_of_lt (Nat.lt_of_lt_of_le (by have := World.block_lt_of_cell? _ _ hw635_0; first | rwa [qB] at this | exact this) GW634.out))) _).trans (((qU (p := ⟨gb634, _, none⟩) (by first | exact Nat.ne_of_lt (Nat.lt_of_lt_of_le (by have := World.block_lt_of_cell? _ _ hw635_0; first | rwa [qB] at this | exact this) GW634.out) | (rw [qB]; exact Nat.ne_of_lt (Nat.lt_of_lt_of_le (by have := World.block_lt_of_cell? _ _ hw635_0; first | rwa [qB] at this | exact this) GW634.out)) | (show (Addr.add _ _).block ≠ _; rw [qB]; exact Nat.ne_of_lt (Nat.lt_of_lt_of_le (by have := World.block_lt_of_cell? _ _ hw635_0; first | rwa [qB] at this | exact this) GW634.out)) | (dsimp only; exact Nat.ne_of_lt (Nat.lt_of_lt_of_le (by have := World.block_lt_of_cell? _ _ hw635_0; first | rwa [qB] at this | exact this) GW634.out))) _).trans (((qU (p := ⟨gb634, _, none⟩) (by first | exact Nat.ne_of_lt (Nat.lt_of_lt_of_le (by have := World.block_lt_of_cell? _ _ hw635_0; first | rwa [qB] at this | exact this) GW634.out) | (rw [qB]; exact Nat.ne_of_lt (Nat.lt_of_lt_of_le (by have := World.block_lt_of_cell? _ _ hw635_0; first | rwa [qB] at this | exact this) GW634.out)) | (show (Addr.add _ _).block ≠ _; rw [qB]; exact Nat.ne_of_lt (Nat.lt_of_lt_of_le (by have := World.block_lt_of_cell? _ _ hw635_0; first | rwa [qB] at this | exact this) GW634.out)) | (dsimp only; exact Nat.ne_of_lt (Nat.lt_of_lt_of_le (by have := World.block_lt_of_cell? _ _ hw635_0; first | rwa [qB] at this | exact this) GW634.out))) _).trans (((qU (p := ⟨gb634, _, none⟩) (by first | exact Nat.ne_of_lt (Nat.lt_of_lt_of_le (by have := World.block_lt_of_cell? _ _ hw635_0; first | rwa [qB] at this | exact this) GW634.out) | (rw [qB]; exact Nat.ne_of_lt (Nat.lt_of_lt_of_le (by have := World.block_lt_of_cell? _ _ hw635_0; first | rwa [qB] at this | exact this) GW634.out)) | (show (Addr.add _ _).block ≠ _; rw [qB]; exact Nat.ne_of_lt (Nat.lt_of_lt_of_le (by have := World.block_lt_of_cell? _ _ hw635_0; first | rwa [qB] at this | exact this) GW634.out)) | (dsimp only; exact Nat.ne_of_lt (Nat.lt_of_lt_of_le (by have := World.block_lt_of_cell? _ _ hw635_0; first | rwa [qB] at this | exact this) GW634.out))) _).trans (((qU (p := ⟨gb634, _, none⟩) (by first | exact Nat.ne_of_lt (Nat.lt_of_lt_of_le (by have := World.block_lt_of_cell? _ _ hw635_0; first | rwa [qB] at this | exact this) GW634.out) | (rw [qB]; exact Nat.ne_of_lt (Nat.lt_of_lt_of_le (by have := World.block_lt_of_cell? _ _ hw635_0; first | rwa [qB] at this | exact this) GW634.out)) | (show (Addr.add _ _).block ≠ _; rw [qB]; exact Nat.ne_of_lt (Nat.lt_of_lt_of_le (by have := World.block_lt_of_cell? _ _ hw635_0; first | rwa [qB] at this | exact this) GW634.out)) | (dsimp only; exact Nat.ne_of_lt (Nat.lt_of_lt_of_le (by have := World.block_lt_of_cell? _ _ hw635_0; first | rwa [qB] at this | exact this) GW634.out))) _).trans (((qU (p := ⟨gb634, _, none⟩) (by first | exact Nat.ne_of_lt (Nat.lt_of_lt_of_le (by have := World.block_lt_of_cell? _ _ hw635_0; first | rwa [qB] at this | exact this) GW634.out) | (rw [qB]; exact Nat.ne_of_lt (Nat.lt_of_lt_of_le (by have := World.block_lt_of_cell? _ _ hw635_0; first | rwa [qB] at this | exact this) GW634.out)) | (show (Addr.add _ _).block ≠ _; rw [qB]; exact Nat.ne_of_lt (Nat.lt_of_lt_of_le (by have := World.block_lt_of_cell? _ _ hw635_0; first | rwa [qB] at this | exact this) GW634.out)) | (dsimp only; exact Nat.ne_of_lt (Nat.lt_of_lt_of_le (by have := World.block_lt_of_cell? _ _ hw635_0; first | rwa [qB] at this | exact this) GW634.out))) _).trans (hHeld.1)))))))))))), ((qU (p := ⟨gb634, _, none⟩) (by first | exact Nat.ne_of_lt (Nat.lt_of_lt_of_le (by have := World.block_lt_of_cell? _ _ hw636_0; first | rwa [qB] at this | exact this) GW634.out) | (rw [qB]; exact Nat.ne_of_lt (Nat.lt_of_lt_of_le (by have := World.block_lt_of_cell? _ _ hw636_0; first | rwa [qB] at this | exact this) GW634.out)) | (show (Addr.add _ _).block ≠ _; rw [qB]; exact Nat.ne_of_lt (Nat.lt_of_lt_of_le (by have := World.block_lt_of_cell? _ _ hw636_0; first | rwa [qB] at this | exact this) GW634.out)) | (dsimp only; exact Nat.ne_of_lt (Nat.lt_of_lt_of_le (by have := World.block_lt_of_cell? _ _ hw636_0; first | rwa [qB] at this | exact this) GW634.out))) _).trans (((qU (p := ⟨gb634, _, none⟩) (by first | exact Nat.ne_of_lt (Nat.lt_of_lt_of_le (by have := World.block_lt_of_cell? _ _ hw636_0; first | rwa [qB] at this | exact this) GW634.out) | (rw [qB]; exact Nat.ne_of_lt (Nat.lt_of_lt_of_le (by have := World.block_lt_of_cell? _ _ hw636_0; first | rwa [qB] at this | exact this) GW634.out)) | (show (Addr.add _ _).block ≠ _; rw [qB]; exact Nat.ne_of_lt (Nat.lt_of_lt_of_le (by have := World.block_lt_of_cell? _ _ hw636_0; first | rwa [qB] at this | exact this) GW634.out)) | (dsimp only; exact Nat.ne_of_lt (Nat.lt_of_lt_of_le (by have := World.block_lt_of_cell? _ _ hw636_0; first | rwa [qB] at this | exact this) GW634.out))) _).trans (((qU (p := ⟨gb634, _, none⟩) (by first | exact Nat.ne_of_lt (Nat.lt_of_lt_of_le (by have := World.block_lt_of_cell? _ _ hw636_0; first | rwa [qB] at this | exact this) GW634.out) | (rw [qB]; exact Nat.ne_of_lt (Nat.lt_of_lt_of_le (by have := World.block_lt_of_cell? _ _ hw636_0; first | rwa [qB] at this | exact this) GW634.out)) | (show (Addr.add _ _).block ≠ _; rw [qB]; exact Nat.ne_of_lt (Nat.lt_of_lt_of_le (by have := World.block_lt_of_cell? _ _ hw636_0; first | rwa [qB] at this | exact this) GW634.out)) | (dsimp only; exact Nat.ne_of_lt (Nat.lt_of_lt_of_le (by have := World.block_lt_of_cell? _ _ hw636_0; first | rwa [qB] at this | exact this) GW634.out))) _).trans (((qU (p := ⟨gb634, _, none⟩) (by first | exact Nat.ne_of_lt (Nat.lt_of_lt_of_le (by have := World.block_lt_of_cell? _ _ hw636_0; first | rwa [qB] at this | exact this) GW634.out) | (rw [qB]; exact Nat.ne_of_lt (Nat.lt_of_lt_of_le (by have := World.block_lt_of_cell? _ _ hw636_0; first | rwa [qB] at this | exact this) GW634.out)) | (show (Addr.add _ _).block ≠ _; rw [qB]; exact Nat.ne_of_lt (Nat.lt_of_lt_of_le (by have := World.block_lt_of_cell? _ _ hw636_0; first | rwa [qB] at this | exact this) GW634.out)) | (dsimp only; exact Nat.ne_of_lt (Nat.lt_of_lt_of_le (by have := World.block_lt_of_cell? _ _ hw636_0; first | rwa [qB] at this | exact this) GW634.out))) _).trans (((qU (p := ⟨gb634, _, none⟩) (by first | exact Nat.ne_of_lt (Nat.lt_of_lt_of_le (by have := World.block_lt_of_cell? _ _ hw636_0; first | rwa [qB] at this | exact this) GW634.out) | (rw [qB]; exact Nat.ne_of_lt (Nat.lt_of_lt_of_le (by have := World.block_lt_of_cell? _ _ hw636_0; first | rwa [qB] at this | exact this) GW634.out)) | (show (Addr.add _ _).block ≠ _; rw [qB]; exact Nat.ne_of_lt (Nat.lt_of_lt_of_le (by have := World.block_lt_of_cell? _ _ hw636_0; first | rwa [qB] at this | exact this) GW634.out)) | (dsimp only; exact Nat.ne_of_lt (Nat.lt_of_lt_of_le (by have := World.block_lt_of_cell? _ _ hw636_0; first | rwa [qB] at this | exact this) GW634.out))) _).trans (((qU (p := ⟨gb634, _, none⟩) (by first | exact Nat.ne_of_lt (Nat.lt_of_lt_of_le (by have := World.block_lt_of_cell? _ _ hw636_0; first | rwa [qB] at this | exact this) GW634.out) | (rw [qB]; exact Nat.ne_of_lt (Nat.lt_of_lt_of_le (by have := World.block_lt_of_cell? _ _ hw636_0; first | rwa [qB] at this | exact this) GW634.out)) | (show (Addr.add _ _).block ≠ _; rw [qB]; exact Nat.ne_of_lt (Nat.lt_of_lt_of_le (by have := World.block_lt_of_cell? _ _ hw636_0; first | rwa [qB] at this | exact this) GW634.out)) | (dsimp only; exact Nat.ne_of_lt (Nat.lt_of_lt_of_le (by have := World.block_lt_of_cell? _ _ hw636_0; first | rwa [qB] at this | exact this) GW634.out))) _).trans (hHeld.2.1)))))))))))), ((qU (p := ⟨gb634, _, none⟩) (by first | exact Nat.ne_of_lt (Nat.lt_of_lt_of_le (by have := World.block_lt_of_cell? _ _ hw637_0; first | rwa [qB] at this | exact this) GW634.out) | (rw [qB]; exact Nat.ne_of_lt (Nat.lt_of_lt_of_le (by have := World.block_lt_of_cell? _ _ hw637_0; first | rwa [qB] at this | exact this) GW634.out)) | (show (Addr.add _ _).block ≠ _; rw [qB]; exact Nat.ne_of_lt (Nat.lt_of_lt_of_le (by have := World.block_lt_of_cell? _ _ hw637_0; first | rwa [qB] at this | exact this) GW634.out)) | (dsimp only; exact Nat.ne_of_lt (Nat.lt_of_lt_of_le (by have := World.block_lt_of_cell? _ _ hw637_0; first | rwa [qB] at this | exact this) GW634.out))) _).trans (((qU (p := ⟨gb634, _, none⟩) (by first | exact Nat.ne_of_lt (Nat.lt_of_lt_of_le (by have := World.block_lt_of_cell? _ _ hw637_0; first | rwa [qB] at this | exact this) GW634.out) | (rw [qB]; exact Nat.ne_of_lt (Nat.lt_of_lt_of_le (by have := World.block_lt_of_cell? _ _ hw637_0; first | rwa [qB] at this | exact this) GW634.out)) | (show (Addr.add _ _).block ≠ _; rw [qB]; exact Nat.ne_of_lt (Nat.lt_of_lt_of_le (by have := World.block_lt_of_cell? _ _ hw637_0; first | rwa [qB] at this | exact this) GW634.out)) | (dsimp only; exact Nat.ne_of_lt (Nat.lt_of_lt_of_le (by have := World.block_lt_of_cell? _ _ hw637_0; first | rwa [qB] at this | exact this) GW634.out))) _).trans (((qU (p := ⟨gb634, _, none⟩) (by first | exact Nat.ne_of_lt (Nat.lt_of_lt_of_le (by have := World.block_lt_of_cell? _ _ hw637_0; first | rwa [qB] at this | exact this) GW634.out) | (rw [qB]; exact Nat.ne_of_lt (Nat.lt_of_lt_of_le (by have := World.block_lt_of_cell? _ _ hw637_0; first | rwa [qB] at this | exact this) GW634.out)) | (show (Addr.add _ _).block ≠ _; rw [qB]; exact Nat.ne_of_lt (Nat.lt_of_lt_of_le (by have := World.block_lt_of_cell? _ _ hw637_0; first | rwa [qB] at this | exact this) GW634.out)) | (dsimp only; exact Nat.ne_of_lt (Nat.lt_of_lt_of_le (by have := World.block_lt_of_cell? _ _ hw637_0; first | rwa [qB] at this | exact this) GW634.out))) _).trans (((qU (p := ⟨gb634, _, none⟩) (by first | exact Nat.ne_of_lt (Nat.lt_of_lt_of_le (by have := World.block_lt_of_cell? _ _ hw637_0; first | rwa [qB] at this | exact this) GW634.out) | (rw [qB]; exact Nat.ne_of_lt (Nat.lt_of_lt_of_le (by have := World.block_lt_of_cell? _ _ hw637_0; first | rwa [qB] at this | exact this) GW634.out)) | (show (Addr.add _ _).block ≠ _; rw [qB]; exact Nat.ne_of_lt (Nat.lt_of_lt_of_le (by have := World.block_lt_of_cell? _ _ hw637_0; first | rwa [qB] at this | exact this) GW634.out)) | (dsimp only; exact Nat.ne_of_lt (Nat.lt_of_lt_of_le (by have := World.block_lt_of_cell? _ _ hw637_0; first | rwa [qB] at this | exact this) GW634.out))) _).trans (((qU (p := ⟨gb634, _, none⟩) (by first | exact Nat.ne_of_lt (Nat.lt_of_lt_of_le (by have := World.block_lt_of_cell? _ _ hw637_0; first | rwa [qB] at this | exact this) GW634.out) | (rw [qB]; exact Nat.ne_of_lt (Nat.lt_of_lt_of_le (by have := World.block_lt_of_cell? _ _ hw637_0; first | rwa [qB] at this | exact this) GW634.out)) | (show (Addr.add _ _).block ≠ _; rw [qB]; exact Nat.ne_of_lt (Nat.lt_of_lt_of_le (by have := World.block_lt_of_cell? _ _ hw637_0; first | rwa [qB] at this | exact this) GW634.out)) | (dsimp only; exact Nat.ne_of_lt (Nat.lt_of_lt_of_le (by have := World.block_lt_of_cell? _ _ hw637_0; first | rwa [qB] at this | exact this) GW634.out))) _).trans (((qU (p := ⟨gb634, _, none⟩) (by first | exact Nat.ne_of_lt (Nat.lt_of_lt_of_le (by have := World.block_lt_of_cell? _ _ hw637_0; first | rwa [qB] at this | exact this) GW634.out) | (rw [qB]; exact Nat.ne_of_lt (Nat.lt_of_lt_of_le (by have := World.block_lt_of_cell? _ _ hw637_0; first | rwa [qB] at this | exact this) GW634.out)) | (show (Addr.add _ _).block ≠ _; rw [qB]; exact Nat.ne_of_lt (Nat.lt_of_lt_of_le (by have := World.block_lt_of_cell? _ _ hw637_0; first | rwa [qB] at this | exact this) GW634.out)) | (dsimp only; exact Nat.ne_of_lt (Nat.lt_of_lt_of_le (by have := World.block_lt_of_cell? _ _ hw637_0; first | rwa [qB] at this | exact this) GW634.out))) _).trans (hHeld.2.2.1)))))))))))), ((qU (p := ⟨gb634, _, none⟩) (by first | exact Nat.ne_of_lt (Nat.lt_of_lt_of_le (by have := World.block_lt_of_cell? _ _ hw638_0; first | rwa [qB] at this | exact this) GW634.out) | (rw [qB]; exact Nat.ne_of_lt (Nat.lt_of_lt_of_le (by have := World.block_lt_of_cell? _ _ hw638_0; first | rwa [qB] at this | exact this) GW634.out)) | (show (Addr.add _ _).block ≠ _; rw [qB]; exact Nat.ne_of_lt (Nat.lt_of_lt_of_le (by have := World.block_lt_of_cell? _ _ hw638_0; first | rwa [qB] at this | exact this) GW634.out)) | (dsimp only; exact Nat.ne_of_lt (Nat.lt_of_lt_of_le (by have := World.block_lt_of_cell? _ _ hw638_0; first | rwa [qB] at this | exact this) GW634.out))) _).trans (((qU (p := ⟨gb634, _, none⟩) (by first | exact Nat.ne_of_lt (Nat.lt_of_lt_of_le (by have := World.block_lt_of_cell? _ _ hw638_0; first | rwa [qB] at this | exact this) GW634.out) | (rw [qB]; exact Nat.ne_of_lt (Nat.lt_of_lt_of_le (by have := World.block_lt_of_cell? _ _ hw638_0; first | rwa [qB] at this | exact this) GW634.out)) | (show (Addr.add _ _).block ≠ _; rw [qB]; exact Nat.ne_of_lt (Nat.lt_of_lt_of_le (by have := World.block_lt_of_cell? _ _ hw638_0; first | rwa [qB] at this | exact this) GW634.out)) | (dsimp only; exact Nat.ne_of_lt (Nat.lt_of_lt_of_le (by have := World.block_lt_of_cell? _ _ hw638_0; first | rwa [qB] at this | exact this) GW634.out))) _).trans (((qU (p := ⟨gb634, _, none⟩) (by first | exact Nat.ne_of_lt (Nat.lt_of_lt_of_le (by have := World.block_lt_of_cell? _ _ hw638_0; first | rwa [qB] at this | exact this) GW634.out) | (rw [qB]; exact Nat.ne_of_lt (Nat.lt_of_lt_of_le (by have := World.block_lt_of_cell? _ _ hw638_0; first | rwa [qB] at this | exact this) GW634.out)) | (show (Addr.add _ _).block ≠ _; rw [qB]; exact Nat.ne_of_lt (Nat.lt_of_lt_of_le (by have := World.block_lt_of_cell? _ _ hw638_0; first | rwa [qB] at this | exact this) GW634.out)) | (dsimp only; exact Nat.ne_of_lt (Nat.lt_of_lt_of_le (by have := World.block_lt_of_cell? _ _ hw638_0; first | rwa [qB] at this | exact this) GW634.out))) _).trans (((qU (p := ⟨gb634, _, none⟩) (by first | exact Nat.ne_of_lt (Nat.lt_of_lt_of_le (by have := World.block_lt_of_cell? _ _ hw638_0; first | rwa [qB] at this | exact this) GW634.out) | (rw [qB]; exact Nat.ne_of_lt (Nat.lt_of_lt_of_le (by have := World.block_lt_of_cell? _ _ hw638_0; first | rwa [qB] at this | exact this) GW634.out)) | (show (Addr.add _ _).block ≠ _; rw [qB]; exact Nat.ne_of_lt (Nat.lt_of_lt_of_le (by have := World.block_lt_of_cell? _ _ hw638_0; first | rwa [qB] at this | exact this) GW634.out)) | (dsimp only; exact Nat.ne_of_lt (Nat.lt_of_lt_of_le (by have := World.block_lt_of_cell? _ _ hw638_0; first | rwa [qB] at this | exact this) GW634.out))) _).trans (((qU (p := ⟨gb634, _, none⟩) (by first | exact Nat.ne_of_lt (Nat.lt_of_lt_of_le (by have := World.block_lt_of_cell? _ _ hw638_0; first | rwa [qB] at this | exact this) GW634.out) | (rw [qB]; exact Nat.ne_of_lt (Nat.lt_of_lt_of_le (by have := World.block_lt_of_cell? _ _ hw638_0; first | rwa [qB] at this | exact this) GW634.out)) | (show (Addr.add _ _).block ≠ _; rw [qB]; exact Nat.ne_of_lt (Nat.lt_of_lt_of_le (by have := World.block_lt_of_cell? _ _ hw638_0; first | rwa [qB] at this | exact this) GW634.out)) | (dsimp only; exact Nat.ne_of_lt (Nat.lt_of_lt_of_le (by have := World.block_lt_of_cell? _ _ hw638_0; first | rwa [qB] at this | exact this) GW634.out))) _).trans (((qU (p := ⟨gb634, _, none⟩) (by first | exact Nat.ne_of_lt (Nat.lt_of_lt_of_le (by have := World.block_lt_of_cell? _ _ hw638_0; first | rwa [qB] at this | exact this) GW634.out) | (rw [qB]; exact Nat.ne_of_lt (Nat.lt_of_lt_of_le (by have := World.block_lt_of_cell? _ _ hw638_0; first | rwa [qB] at this | exact this) GW634.out)) | (show (Addr.add _ _).block ≠ _; rw [qB]; exact Nat.ne_of_lt (Nat.lt_of_lt_of_le (by have := World.block_lt_of_cell? _ _ hw638_0; first | rwa [qB] at this | exact this) GW634.out)) | (dsimp only; exact Nat.ne_of_lt (Nat.lt_of_lt_of_le (by have := World.block_lt_of_cell? _ _ hw638_0; first | rwa [qB] at this | exact this) GW634.out))) _).trans (hHeld.2.2.2.1)))))))))))), ((qU (p := ⟨gb634, _, none⟩) (by first | exact Nat.ne_of_lt (Nat.lt_of_lt_of_le (by have := World.block_lt_of_cell? _ _ hw639_0; first | rwa [qB] at this | exact this) GW634.out) | (rw [qB]; exact Nat.ne_of_lt (Nat.lt_of_lt_of_le (by have := World.block_lt_of_cell? _ _ hw639_0; first | rwa [qB] at this | exact this) GW634.out)) | (show (Addr.add _ _).block ≠ _; rw [qB]; exact Nat.ne_of_lt (Nat.lt_of_lt_of_le (by have := World.block_lt_of_cell? _ _ hw639_0; first | rwa [qB] at this | exact this) GW634.out)) | (dsimp only; exact Nat.ne_of_lt (Nat.lt_of_lt_of_le (by have := World.block_lt_of_cell? _ _ hw639_0; first | rwa [qB] at this | exact this) GW634.out))) _).trans (((qU (p := ⟨gb634, _, none⟩) (by first | exact Nat.ne_of_lt (Nat.lt_of_lt_of_le (by have := World.block_lt_of_cell? _ _ hw639_0; first | rwa [qB] at this | exact this) GW634.out) | (rw [qB]; exact Nat.ne_of_lt (Nat.lt_of_lt_of_le (by have := World.block_lt_of_cell? _ _ hw639_0; first | rwa [qB] at this | exact this) GW634.out)) | (show (Addr.add _ _).block ≠ _; rw [qB]; exact Nat.ne_of_lt (Nat.lt_of_lt_of_le (by have := World.block_lt_of_cell? _ _ hw639_0; first | rwa [qB] at this | exact this) GW634.out)) | (dsimp only; exact Nat.ne_of_lt (Nat.lt_of_lt_of_le (by have := World.block_lt_of_cell? _ _ hw639_0; first | rwa [qB] at this | exact this) GW634.out))) _).trans (((qU (p := ⟨gb634, _, none⟩) (by first | exact Nat.ne_of_lt (Nat.lt_of_lt_of_le (by have := World.block_lt_of_cell? _ _ hw639_0; first | rwa [qB] at this | exact this) GW634.out) | (rw [qB]; exact Nat.ne_of_lt (Nat.lt_of_lt_of_le (by have := World.block_lt_of_cell? _ _ hw639_0; first | rwa [qB] at this | exact this) GW634.out)) | (show (Addr.add _ _).block ≠ _; rw [qB]; exact Nat.ne_of_lt (Nat.lt_of_lt_of_le (by have := World.block_lt_of_cell? _ _ hw639_0; first | rwa [qB] at this | exact this) GW634.out)) | (dsimp only; exact Nat.ne_of_lt (Nat.lt_of_lt_of_le (by have := World.block_lt_of_cell? _ _ hw639_0; first | rwa [qB] at this | exact this) GW634.out))) _).trans (((qU (p := ⟨gb634, _, none⟩) (by first | exact Nat.ne_of_lt (Nat.lt_of_lt_of_le (by have := World.block_lt_of_cell? _ _ hw639_0; first | rwa [qB] at this | exact this) GW634.out) | (rw [qB]; exact Nat.ne_of_lt (Nat.lt_of_lt_of_le (by have := World.block_lt_of_cell? _ _ hw639_0; first | rwa [qB] at this | exact this) GW634.out)) | (show (Addr.add _ _).block ≠ _; rw [qB]; exact Nat.ne_of_lt (Nat.lt_of_lt_of_le (by have := World.block_lt_of_cell? _ _ hw639_0; first | rwa [qB] at this | exact this) GW634.out)) | (dsimp only; exact Nat.ne_of_lt (Nat.lt_of_lt_of_le (by have := World.block_lt_of_cell? _ _ hw639_0; first | rwa [qB] at this | exact this) GW634.out))) _).trans (((qU (p := ⟨gb634, _, none⟩) (by first | exact Nat.ne_of_lt (Nat.lt_of_lt_of_le (by have := World.block_lt_of_cell? _ _ hw639_0; first | rwa [qB] at this | exact this) GW634.out) | (rw [qB]; exact Nat.ne_of_lt (Nat.lt_of_lt_of_le (by have := World.block_lt_of_cell? _ _ hw639_0; first | rwa [qB] at this | exact this) GW634.out)) | (show (Addr.add _ _).block ≠ _; rw [qB]; exact Nat.ne_of_lt (Nat.lt_of_lt_of_le (by have := World.block_lt_of_cell? _ _ hw639_0; first | rwa [qB] at this | exact this) GW634.out)) | (dsimp only; exact Nat.ne_of_lt (Nat.lt_of_lt_of_le (by have := World.block_lt_of_cell? _ _ hw639_0; first | rwa [qB] at this | exact this) GW634.out))) _).trans (((qU (p := ⟨gb634, _, none⟩) (by first | exact Nat.ne_of_lt (Nat.lt_of_lt_of_le (by have := World.block_lt_of_cell? _ _ hw639_0; first | rwa [qB] at this | exact this) GW634.out) | (rw [qB]; exact Nat.ne_of_lt (Nat.lt_of_lt_of_le (by have := World.block_lt_of_cell? _ _ hw639_0; first | rwa [qB] at this | exact this) GW634.out)) | (show (Addr.add _ _).block ≠ _; rw [qB]; exact Nat.ne_of_lt (Nat.lt_of_lt_of_le (by have := World.block_lt_of_cell? _ _ hw639_0; first | rwa [qB] at this | exact this) GW634.out)) | (dsimp only; exact Nat.ne_of_lt (Nat.lt_of_lt_of_le (by have := World.block_lt_of_cell? _ _ hw639_0; first | rwa [qB] at this | exact this) GW634.out))) _).trans (hHeld.2.2.2.2.1)))))))))))), ((qU (p := ⟨gb634, _, none⟩) (by first | exact Nat.ne_of_lt (Nat.lt_of_lt_of_le (by have := World.block_lt_of_cell? _ _ hw640_0; first | rwa [qB] at this | exact this) GW634.out) | (rw [qB]; exact Nat.ne_of_lt (Nat.lt_of_lt_of_le (by have := World.block_lt_of_cell? _ _ hw640_0; first | rwa [qB] at this | exact this) GW634.out)) | (show (Addr.add _ _).block ≠ _; rw [qB]; exact Nat.ne_of_lt (Nat.lt_of_lt_of_le (by have := World.block_lt_of_cell? _ _ hw640_0; first | rwa [qB] at this | exact this) GW634.out)) | (dsimp only; exact Nat.ne_of_lt (Nat.lt_of_lt_of_le (by have := World.block_lt_of_cell? _ _ hw640_0; first | rwa [qB] at this | exact this) GW634.out))) _).trans (((qU (p := ⟨gb634, _, none⟩) (by first | exact Nat.ne_of_lt (Nat.lt_of_lt_of_le (by have := World.block_lt_of_cell? _ _ hw640_0; first | rwa [qB] at this | exact this) GW634.out) | (rw [qB]; exact Nat.ne_of_lt (Nat.lt_of_lt_of_le (by have := World.block_lt_of_cell? _ _ hw640_0; first | rwa [qB] at this | exact this) GW634.out)) | (show (Addr.add _ _).block ≠ _; rw [qB]; exact Nat.ne_of_lt (Nat.lt_of_lt_of_le (by have := World.block_lt_of_cell? _ _ hw640_0; first | rwa [qB] at this | exact this) GW634.out)) | (dsimp only; exact Nat.ne_of_lt (Nat.lt_of_lt_of_le (by have := World.block_lt_of_cell? _ _ hw640_0; first | rwa [qB] at this | exact this) GW634.out))) _).trans (((qU (p := ⟨gb634, _, none⟩) (by first | exact Nat.ne_of_lt (Nat.lt_of_lt_of_le (by have := World.block_lt_of_cell? _ _ hw640_0; first | rwa [qB] at this | exact this) GW634.out) | (rw [qB]; exact Nat.ne_of_lt (Nat.lt_of_lt_of_le (by have := World.block_lt_of_cell? _ _ hw640_0; first | rwa [qB] at this | exact this) GW634.out)) | (show (Addr.add _ _).block ≠ _; rw [qB]; exact Nat.ne_of_lt (Nat.lt_of_lt_of_le (by have := World.block_lt_of_cell? _ _ hw640_0; first | rwa [qB] at this | exact this) GW634.out)) | (dsimp only; exact Nat.ne_of_lt (Nat.lt_of_lt_of_le (by have := World.block_lt_of_cell? _ _ hw640_0; first | rwa [qB] at this | exact this) GW634.out))) _).trans (((qU (p := ⟨gb634, _, none⟩) (by first | exact Nat.ne_of_lt (Nat.lt_of_lt_of_le (by have := World.block_lt_of_cell? _ _ hw640_0; first | rwa [qB] at this | exact this) GW634.out) | (rw [qB]; exact Nat.ne_of_lt (Nat.lt_of_lt_of_le (by have := World.block_lt_of_cell? _ _ hw640_0; first | rwa [qB] at this | exact this) GW634.out)) | (show (Addr.add _ _).block ≠ _; rw [qB]; exact Nat.ne_of_lt (Nat.lt_of_lt_of_le (by have := World.block_lt_of_cell? _ _ hw640_0; first | rwa [qB] at this | exact this) GW634.out)) | (dsimp only; exact Nat.ne_of_lt (Nat.lt_of_lt_of_le (by have := World.block_lt_of_cell? _ _ hw640_0; first | rwa [qB] at this | exact this) GW634.out))) _).trans (((qU (p := ⟨gb634, _, none⟩) (by first | exact Nat.ne_of_lt (Nat.lt_of_lt_of_le (by have := World.block_lt_of_cell? _ _ hw640_0; first | rwa [qB] at this | exact this) GW634.out) | (rw [qB]; exact Nat.ne_of_lt (Nat.lt_of_lt_of_le (by have := World.block_lt_of_cell? _ _ hw640_0; first | rwa [qB] at this | exact this) GW634.out)) | (show (Addr.add _ _).block ≠ _; rw [qB]; exact Nat.ne_of_lt (Nat.lt_of_lt_of_le (by have := World.block_lt_of_cell? _ _ hw640_0; first | rwa [qB] at this | exact this) GW634.out)) | (dsimp only; exact Nat.ne_of_lt (Nat.lt_of_lt_of_le (by have := World.block_lt_of_cell? _ _ hw640_0; first | rwa [qB] at this | exact this) GW634.out))) _).trans (((qU (p := ⟨gb634, _, none⟩) (by first | exact Nat.ne_of_lt (Nat.lt_of_lt_of_le (by have := World.block_lt_of_cell? _ _ hw640_0; first | rwa [qB] at this | exact this) GW634.out) | (rw [qB]; exact Nat.ne_of_lt (Nat.lt_of_lt_of_le (by have := World.block_lt_of_cell? _ _ hw640_0; first | rwa [qB] at this | exact this) GW634.out)) | (show (Addr.add _ _).block ≠ _; rw [qB]; exact Nat.ne_of_lt (Nat.lt_of_lt_of_le (by have := World.block_lt_of_cell? _ _ hw640_0; first | rwa [qB] at this | exact this) GW634.out)) | (dsimp only; exact Nat.ne_of_lt (Nat.lt_of_lt_of_le (by have := World.block_lt_of_cell? _ _ hw640_0; first | rwa [qB] at this | exact this) GW634.out))) _).trans (hHeld.2.2.2.2.2))))))))))))⟩ (fun hHeld => ?_)
       clear hK K
       refine done_ (qzA HT_.out (by kernel_rfl)) ?_
       try go_wp2
       refine bodyPost_ret (results_cell_row rfl _ _ gb634 31 #[.int .i64 (rd l0 0), .int .i64 (rd l0 1), .int .i64 (rd l0 2), .int .i64 (rd l0 3), .int .i64 (rd l0 4), .int .i64 (rd l0 5)] (0, 0) _ rfl (by (with_reducible repeat (first | refine qD ?_ _ | refine qE ?_ | refine qC ?_ _)); refine qL (cs := #[.int .i64 (rd l0 0), .int .i64 (rd l0 1), .int .i64 (rd l0 2), .int .i64 (rd l0 3), .int .i64 (rd l0 4), .int .i64 0]) ?_ 5 _ rfl; (with_reducible repeat (first | refine qD ?_ _ | refine qE ?_ | refine qC ?_ _)); refine qL (cs := #[.int .i64 (rd l0 0), .int .i64 (rd l0 1), .int .i64 (rd l0 2), .int .i64 (rd l0 3), .int .i64 0, .int .i64 0]) ?_ 4 _ rfl; (with_reducible repeat (first | refine qD ?_ _ | refine qE ?_ | refine qC ?_ _)); refine qL (cs := #[.int .i64 (rd l0 0), .int .i64 (rd l0 1), .int .i64 (rd l0 2), .int .i64 0, .int .i64 0, .int .i64 0]) ?_ 3 _ rfl; (with_reducible repeat (first | refine qD ?_ _ | refine qE ?_ | refine qC ?_ _)); refine qL (cs := #[.int .i64 (rd l0 0), .int .i64 (rd l0 1), .int .i64 0, .int .i64 0, .int .i64 0, .int .i64 0]) ?_ 2 _ rfl; (with_reducible repeat (first | refine qD ?_ _ | refine qE ?_ | refine qC ?_ _)); refine qL (cs := #[.int .i64 (rd l0 0), .int .i64 0, .int .i64 0, .int .i64 0, .int .i64 0, .int .i64 0]) ?_ 1 _ rfl; (with_reducible repeat (first | refine qD ?_ _ | refine qE ?_ | refine qC ?_ _)); refine qL (cs := #[.int .i64 0, .int .i64 0, .int .i64 0, .int .i64 0, .int .i64 0, .int .i64 0]) ?_ 0 _ rfl; (with_reducible repeat (first | refine qD ?_ _ | refine qE ?_ | refine qC ?_ _)); exact BK634.out) Tryd.underlying31 rfl (by kernel_rfl)) rfl ?_
       exact ⟨by first | rfl | (simp [qN, qM] <;> rfl) | (simp [*, qN, qM] <;> rfl), bl⟩
      ·rw [if_neg c7] at H
       exact absurd H (by simp)
     ·rw [if_neg c6] at H
      exact absurd H (by simp)
    ·rw [if_neg c5] at H
     exact absurd H (by simp)
   ·rw [if_neg c4] at H
    exact absurd H (by simp)
  ·rw [if_neg c3] at H
   exact absurd H (by simp)
 ·rw [if_neg c2] at H
  exact absurd H (by simp)
def qk.l0 : Nat → List Int → List Int → List Int → Int → Int → Option (Int × Int × Int × Int × Int × Int × Bool)
 | 0, _, _, _, _, _ => none
 | k + 1, x16, x24, x26, x28, x29 => if x29 < x28 then (if 0 ≤ x29 then (if x29 < (x24.length : Int) then (if x29 < (x16.length : Int) then (if 0 ≤ (rd x24 x29) then (if (rd x24 x29) < (x26.length : Int) then (qk.l0 k x16 x24 (x26.set ((rd x24 x29) : Int).toNat (rd x16 x29)) x28 (wrap64 (x29 + 1))) else (none)) else (none)) else (none)) else (none)) else (none)) else ((qTA.f x26).bind fun bt661 => (some (bt661.1, bt661.2.1, bt661.2.2.1, bt661.2.2.2.1, bt661.2.2.2.2.1, bt661.2.2.2.2.2, true)))
def qk.f (k : Nat) (a0 : ByteArray) : Option (Int × Int × Int × Int × Int × Int × Bool) := (qVB.f k a0).bind fun bt642 => (if bt642.2.2 = true then ((qF.f k bt642.1).bind fun bt649 => (if 6 ≤ 35184372088832 then (qk.l0 k bt642.2.1 bt649.1 (List.replicate 6 0) (bt649.1.length : Int) 0) else (none))) else (some (0, 0, 0, 0, 0, 0, false)))
set_option maxHeartbeats 8000000 in
set_option maxRecDepth 100000 in
theorem qk.calls (k : Nat) (a0 : ByteArray) (r1 : Int) (r2 : Int) (r3 : Int) (r4 : Int) (r5 : Int) (r6 : Int) (r7 : Bool) (w : World) (hL : Laid w) (h : qk.f k a0 = some (r1, r2, r3, r4, r5, r6, r7)) :
  Calls Tryd.prog 41 #[.string a0] w fun e w' => e = .returned (.tuple #[.agg #[.int .i64 r1, .int .i64 r2, .int .i64 r3, .int .i64 r4, .int .i64 r5, .int .i64 r6], .bool r7]) ∧ Below w.heap.size w w' := by
 have hu31 := Tryd.underlying31
 have HLD := Aside0.mk hL
 clear hL
 have HB := Aside0.mk (Below.refl w.heap.size w)
 have H : ((qVB.f k a0).bind fun bt642 => (if bt642.2.2 = true then ((qF.f k bt642.1).bind fun bt649 => (if 6 ≤ 35184372088832 then (qk.l0 k bt642.2.1 bt649.1 (List.replicate 6 0) (bt649.1.length : Int) 0) else (none))) else (some (0, 0, 0, 0, 0, 0, false)))) = some (r1, r2, r3, r4, r5, r6, r7) := h
 clear h
 replace H := Option.bind_eq_some_iff.mp H
 obtain ⟨⟨t642, t643, t644⟩, A20, H⟩ := H
 replace H : (if t644 = true then ((qF.f k t642).bind fun bt649 => (if 6 ≤ 35184372088832 then (qk.l0 k t643 bt649.1 (List.replicate 6 0) (bt649.1.length : Int) 0) else (none))) else (some (0, 0, 0, 0, 0, 0, false))) = some (r1, r2, r3, r4, r5, r6, r7) := H
 have A2 := Aside0.mk A20
 clear A20
 by_cases c3 : t644 = true
 ·subst c3
  have H1 : ((qF.f k t642).bind fun bt649 => (if 6 ≤ 35184372088832 then (qk.l0 k t643 bt649.1 (List.replicate 6 0) (bt649.1.length : Int) 0) else (none))) = some (r1, r2, r3, r4, r5, r6, r7) := by rw [if_pos rfl] at H; exact H
  clear H
  have H := H1
  clear H1
  replace H := Option.bind_eq_some_iff.mp H
  obtain ⟨⟨t649, t650⟩, A40, H⟩ := H
  replace H : (if 6 ≤ 35184372088832 then (qk.l0 k t643 t649 (List.replicate 6 0) (t649.length : Int) 0) else (none)) = some (r1, r2, r3, r4, r5, r6, r7) := H
  have A4 := Aside0.mk A40
  clear A40
  by_cases c5 : 6 ≤ 35184372088832
  ·rw [if_pos c5] at H
   have c5b0 := eq_true c5
   have c5b1 : decide (6 ≤ 35184372088832) = true := decide_eq_true c5
   clear c5
   obtain ⟨y655, hy655⟩ : ∃ y_ : List Int, y_ = (List.replicate 6 0) := ⟨_, rfl⟩
   replace H : (qk.l0 k t643 t649 y655 (t649.length : Int) 0) = some (r1, r2, r3, r4, r5, r6, r7) := by first | (rw [hy655]; with_reducible exact H) | (have H2_ := (Option.bind_some _ _).symm.trans H; rw [hy655]; with_reducible exact H2_) | (have H2_ := (Option.bind_some _ _).symm.trans H; with_reducible exact H2_) | with_reducible exact H | (rw [hy655]; exact H) | exact H
   have Ny655 := Aside0.mk hy655
   clear hy655
   have H' := Aside0.mk H
   clear H
   go_enter Tryd.func41, Tryd.ntmps41
   go_wp2_with (first | ((with_reducible refine qT (N := 2) rfl ?_); refine qR ?hg (N := 2) ?hd (cs := #[.int .i64 0, .int .i64 0, .int .i64 0, .int .i64 0, .int .i64 0, .int .i64 0]) (t := 31) ?hr ?_; (case hd => rfl); (case hg => rfl); (case hr => first | (go_simp; done) | (go_simp; rfl)); intro gb641 hg w6 hbox hb; have n0_ := Aside0.mk (qJ bl hb); have n1_ := Aside0.mk (hbox); have n2_ := Aside0.mk ((gg hg)); have n3_ := Aside0.mk ((gg hg)); clear HB; have HB := n0_; have BK641 := n1_; have GW641 := n2_; have GE641 := n3_; clear n0_ n1_ n2_ n3_; clear hb hbox hg) | ((with_reducible refine qW (f := 35) rfl ?_); refine qNA (some 14) rfl rfl Tryd.func35 (by kernel_rfl) rfl #[.string a0] rfl (by (try simp only [List.map_toArray, List.map_cons, List.map_nil]); first | done | rfl | (simp only [List.length_drop, List.length_take]; rfl)) ?_; (with_reducible refine (qVB.calls k a0 t642 t643 true _ ?side1 A2.out).mono ?_); (case side1 => first | (with_reducible exact HLD.out) | exact Laid.below HLD.out (by repeat (first | (with_reducible first | exact HB.out | apply qt | apply qBA | apply qg | refine qb ?_ (Aside0.out (by with_reducible assumption))) | exact HB.out))); rintro e w7 ⟨v645, v647, rfl, ho0, ho1, hb⟩; refine ⟨_, rfl, ?_⟩; have n0_ := Aside0.mk (Kd.qCA ho0 (qX bl)); have n1_ := Aside0.mk (Kd.qCA ho1 (qX bl)); have n2_ := Aside0.mk (bb BK641 hb); have n3_ := Aside0.mk (qJ bl hb); clear BK641; clear HB; have HO646 := n0_; have HO648 := n1_; have BK641 := n2_; have HB := n3_; clear n0_ n1_ n2_ n3_; (try clear hb); (try clear hb2); (try clear hk); (try clear hi); (try clear ho0); (try clear ho1); obtain ⟨Ao8, co8, eo8⟩ := Kd.qo HO646.out; subst eo8) | ((with_reducible refine qW (f := 38) rfl ?_); refine qNA (some 23) rfl rfl Tryd.func38 (by kernel_rfl) rfl #[.slice Ao8 t642.length co8] rfl (by (try simp only [List.map_toArray, List.map_cons, List.map_nil]); first | done | rfl | (simp only [List.length_drop, List.length_take]; rfl)) ?_; (with_reducible refine (qF.calls k _ _ t642 t649 t650 _ ?side1 ?side2 A4.out).mono ?_); (case side1 => repeat (first | exact (Kd.qQ HO646.out).2.2 | (with_reducible refine Kd.qXA ?_ _) | (with_reducible refine Kd.qWA ?_ _) | (with_reducible refine Kd.qsA ?_))); (case side2 => exact (Kd.qQ HO646.out).2.1); rintro e w9 ⟨v651, v653, rfl, ho0, ho1, hb⟩; refine ⟨_, rfl, ?_⟩; have n0_ := Aside0.mk (Kd.qV (by (with_reducible repeat (first | apply Kd.qG | apply Kd.qH | apply Kd.qI)); exact HO646.out) hb); have n1_ := Aside0.mk (Kd.qf (Kd.R_told (Kd.R_told (Kd.R_old (by (with_reducible repeat (first | apply Kd.qG | apply Kd.qH | apply Kd.qI)); exact HO648.out) hb) (Kd.qHB ho0)) (Kd.qHB ho1)) (fun _ h_ => h_.1)); have n2_ := Aside0.mk (Kd.qCA (Kd.qGB ho0 (Kd.R_lt (by (with_reducible repeat (first | apply Kd.qG | apply Kd.qH | apply Kd.qI)); exact HO648.out))) (qX bl)); have n3_ := Aside0.mk (Kd.qCA (Kd.qGB ho1 (Kd.R_lt (by (with_reducible repeat (first | apply Kd.qG | apply Kd.qH | apply Kd.qI)); exact HO648.out))) (qX bl)); have n4_ := Aside0.mk (bb BK641 hb); have n5_ := Aside0.mk (qJ bl hb); clear HO646; clear HO648; clear BK641; clear HB; have HO646 := n0_; have HO648 := n1_; have HO652 := n2_; have HO654 := n3_; have BK641 := n4_; have HB := n5_; clear n0_ n1_ n2_ n3_ n4_ n5_; (try clear hb); (try clear hb2); (try clear hk); (try clear hi); (try clear ho0); (try clear ho1)) | ((with_reducible refine qT (N := 26) rfl ?_); refine Kd.qbC (Kd.int .i64) _ 3 rfl (N := 26) rfl 25 _ _ rfl 6 rfl rfl Tryd.underlying25 (.int .i64 0) 8 info3 rfl (by decide) (by omega) 0 (ok := fun _ => True) (okp := fun _ => True) rfl (fun _ hk => hk) trivial (by omega) (by omega) (Below.refl _ _) (Nat.le_refl _) ?_; intro v656 w10 ho11 hb hg_ hnew_; clear hg_ hnew_; (first | rw [← Ny655.out] at ho11 | (simp only [Int.reduceToNat] at ho11; rw [← Ny655.out] at ho11)); have n0_ := Aside0.mk (Kd.qV (by (with_reducible repeat (first | apply Kd.qG | apply Kd.qH | apply Kd.qI)); exact HO646.out) hb); have n1_ := Aside0.mk (Kd.qjA (by (with_reducible repeat (first | apply Kd.qG | apply Kd.qH | apply Kd.qI)); exact HO648.out) (Kd.qHB ho11) hb); have n2_ := Aside0.mk (Kd.qjA (by (with_reducible repeat (first | apply Kd.qG | apply Kd.qH | apply Kd.qI)); exact HO652.out) (Kd.qHB ho11) hb); have n3_ := Aside0.mk (Kd.qjA (by (with_reducible repeat (first | apply Kd.qG | apply Kd.qH | apply Kd.qI)); exact HO654.out) (Kd.qHB ho11) hb); have n4_ := Aside0.mk (Kd.qCA (Kd.qGB (Kd.qGB (Kd.qGB ho11 (Kd.R_lt (by (with_reducible repeat (first | apply Kd.qG | apply Kd.qH | apply Kd.qI)); exact HO648.out))) (Kd.R_lt (by (with_reducible repeat (first | apply Kd.qG | apply Kd.qH | apply Kd.qI)); exact HO652.out))) (Kd.R_lt (by (with_reducible repeat (first | apply Kd.qG | apply Kd.qH | apply Kd.qI)); exact HO654.out))) (qX bl)); have n5_ := Aside0.mk (bb BK641 hb); have n6_ := Aside0.mk (qJ bl hb); clear HO646; clear HO648; clear HO652; clear HO654; clear BK641; clear HB; have HO646 := n0_; have HO648 := n1_; have HO652 := n2_; have HO654 := n3_; have HO657 := n4_; have BK641 := n5_; have HB := n6_; clear n0_ n1_ n2_ n3_ n4_ n5_ n6_; clear hb ho11; obtain ⟨Ao12, co12, eo12⟩ := Kd.qo HO652.out; subst eo12))
   go_loopg [29] k (fun kq v29 w' => ∃ (x26_1 : List Int) (x29_1 : Int), v29 = .int .i64 x29_1 ∧ Aside0 (qk.l0 kq t643 t649 x26_1 (t649.length : Int) x29_1 = some (r1, r2, r3, r4, r5, r6, r7)) ∧ Aside0 (kq ≤ k) ∧ Aside0 (Kd.R (Kd.int .i64) 3 w' w.heap.size (fun k_ => some k_ ≠ ((.slice Ao12 t649.length co12) : Value).ownBlock ∧ some k_ ≠ (v656 : Value).ownBlock) v647 t643) ∧ Aside0 (Kd.R (Kd.int .i64) 3 w' w.heap.size (fun k_ => some k_ ≠ (v647 : Value).ownBlock ∧ some k_ ≠ (v656 : Value).ownBlock) (.slice Ao12 t649.length co12) t649) ∧ Aside0 (Kd.R (Kd.int .i64) 3 w' w.heap.size (fun k_ => some k_ ≠ (v647 : Value).ownBlock ∧ some k_ ≠ ((.slice Ao12 t649.length co12) : Value).ownBlock) v656 x26_1) ∧ Aside0 (w'.heap[gb641]? = some (.cells #[.int .i64 0, .int .i64 0, .int .i64 0, .int .i64 0, .int .i64 0, .int .i64 0] 31 (0, 0))) ∧ Aside0 (Below w.heap.size w w'))
   case atStart => exact ⟨(y655), (0), (by first | rfl | (simp; done) | (simp [*]; done)), H', ⟨Nat.le_refl _⟩, ⟨by (with_reducible repeat (first | apply Kd.qG | apply Kd.qH | apply Kd.qI)); exact Kd.qf HO648.out (fun _ hk => ⟨hk.1.1.2, hk.2⟩)⟩, ⟨by (with_reducible repeat (first | apply Kd.qG | apply Kd.qH | apply Kd.qI)); exact Kd.qf HO652.out (fun _ hk => ⟨hk.1.2, hk.2⟩)⟩, ⟨by (with_reducible repeat (first | apply Kd.qG | apply Kd.qH | apply Kd.qI)); exact Kd.qf HO657.out (fun _ hk => ⟨hk.1.1.2, hk.1.2⟩)⟩, ⟨by (with_reducible repeat (first | refine qD ?_ _ | refine qE ?_ | refine qC ?_ _)); exact BK641.out⟩, ⟨bl⟩⟩
   case round =>
    clear H'
    try clear p2
    try clear c3
    try clear c4
    try clear c5
    try clear c5b0
    try clear c5b1
    obtain ⟨x26_1, x29_1, rfl, HA, HK1, HO_16, HO_24, HO_26, BK641, HB⟩ := hrel
    cases gk with
    | zero => exact absurd HA.out (by simp [qk.l0])
    | succ k1 =>
     have H := HA.out
     clear HA
     simp only [qk.l0] at H
     by_cases c13 : x29_1 < (t649.length : Int)
     ·rw [if_pos c13] at H
      have c13b0 : decide (x29_1 < (t649.length : Int)) = true := decide_eq_true c13
      clear c13
      by_cases c14 : 0 ≤ x29_1
      ·rw [if_pos c14] at H
       have c14b0 : decide (0 ≤ x29_1) = true := decide_eq_true c14
       clear c14
       by_cases c15 : x29_1 < (t649.length : Int)
       ·rw [if_pos c15] at H
        have c15b0 : decide (x29_1 < (t649.length : Int)) = true := decide_eq_true c15
        clear c15
        by_cases c16 : x29_1 < (t643.length : Int)
        ·rw [if_pos c16] at H
         have c16b0 : decide (x29_1 < (t643.length : Int)) = true := decide_eq_true c16
         clear c16
         by_cases c17 : 0 ≤ (rd t649 x29_1)
         ·rw [if_pos c17] at H
          have c17b0 : decide (0 ≤ (rd t649 x29_1)) = true := decide_eq_true c17
          clear c17
          by_cases c18 : (rd t649 x29_1) < (x26_1.length : Int)
          ·rw [if_pos c18] at H
           have c18b0 : decide ((rd t649 x29_1) < (x26_1.length : Int)) = true := decide_eq_true c18
           clear c18
           obtain ⟨y660, hy660⟩ : ∃ y_ : List Int, y_ = (x26_1.set ((rd t649 x29_1) : Int).toNat (rd t643 x29_1)) := ⟨_, rfl⟩
           replace H : (qk.l0 k1 t643 t649 y660 (t649.length : Int) (wrap64 (x29_1 + 1))) = some (r1, r2, r3, r4, r5, r6, r7) := by first | (rw [hy660]; with_reducible exact H) | (have H2_ := (Option.bind_some _ _).symm.trans H; rw [hy660]; with_reducible exact H2_) | (have H2_ := (Option.bind_some _ _).symm.trans H; with_reducible exact H2_) | with_reducible exact H | (rw [hy660]; exact H) | exact H
           have Ny660 := Aside0.mk hy660
           clear hy660
           have H' := Aside0.mk H
           clear H
           have p658 : 0 ≤ (x29_1 : Int) := of_decide_eq_true (by first | (with_reducible assumption) | assumption)
           have q658 : x29_1 < (t649.length : Int) := of_decide_eq_true (by first | (with_reducible assumption) | assumption)
           obtain ⟨ad658, e658, hx658_0⟩ := Kd.qAA (Kd.qQ HO_24.out).2.2 x29_1 p658 q658
           cases e658
           replace p658 := eq_true p658
           replace q658 := eq_true q658
           obtain ⟨Ao20, co20, eo20⟩ := Kd.qo HO_16.out
           subst eo20
           have p659 : 0 ≤ (x29_1 : Int) := of_decide_eq_true (by first | (with_reducible assumption) | assumption)
           have q659 : x29_1 < (t643.length : Int) := of_decide_eq_true (by first | (with_reducible assumption) | assumption)
           obtain ⟨ad659, e659, hx659_0⟩ := Kd.qAA (Kd.qQ HO_16.out).2.2 x29_1 p659 q659
           cases e659
           replace p659 := eq_true p659
           replace q659 := eq_true q659
           have p19 : 0 ≤ ((rd t649 x29_1) : Int) := of_decide_eq_true (by first | (with_reducible assumption) | assumption)
           have q19 : ((rd t649 x29_1) : Int) < ((x26_1.length : Int) : Int) := of_decide_eq_true (by first | (with_reducible assumption) | assumption)
           obtain ⟨go19, co19, eo19, gb19, gl19, cl19, HG19⟩ := Kd.qiB HO_26.out (by omega)
           (first | cases eo19 | (injection eo19 with ea_ en_ ec_; (first | subst ea_ | (injection ea_ with ea_; subst ea_)); subst ec_; clear en_))
           have GB19 := Aside0.mk gb19
           have GG19 := Aside0.mk HG19
           clear gb19 gl19 HG19
           obtain ⟨hx19_0, hf19_0⟩ := Kd.qnA 0 HO_26.out ((rd t649 x29_1) : Int) p19 q19
           replace p19 := eq_true p19
           replace q19 := eq_true q19
           have HP21 := Kd.qhB HO_26.out ((rd t649 x29_1) : Int) (rd t643 x29_1)
           go_wp2_with (first | ((with_reducible refine qaA (t := 3) (p := 40) rfl ?_); refine qSA (t := 3) (p := 40) (v := ?vo_w22) (w1 := (wr.setCell ⟨go19, ((rd t649 x29_1) : Int).toNat, none⟩ (.int .i64 (rd t643 x29_1)))) ?hg ?ho ?hn ?hr ?_; (case ho => rfl); (case hg => rfl); (case hn => rfl); (case hr => first | (go_simp; done) | (go_simp; rfl)); intro w22 hw; have hg : wr.grownBy w22 (some go19) := (by rw [hw]; exact HP21.2); have hp_ : Kd.R (Kd.int .i64) 3 w22 w.heap.size (fun k_ => some k_ ≠ (.slice (some ad659) t643.length co20 : Value).ownBlock ∧ some k_ ≠ (.slice (some ad658) t649.length co12 : Value).ownBlock) (.slice (some ⟨go19, 0, none⟩) x26_1.length co19) y660 := (by rw [hw, Ny660.out]; exact HP21.1); clear HP21; have n0_ := Aside0.mk (Kd.qqA (v := (.slice (some ⟨go19, 0, none⟩) x26_1.length co19)) (v1 := (.slice (some ⟨go19, 0, none⟩) x26_1.length co19)) (ok := (fun k_ => some k_ ≠ (.slice (some ad658) t649.length co12 : Value).ownBlock)) (by (with_reducible repeat (first | apply Kd.qG | apply Kd.qH | apply Kd.qI)); exact HO_16.out) hg (.inl rfl)); have n1_ := Aside0.mk (Kd.qqA (v := (.slice (some ⟨go19, 0, none⟩) x26_1.length co19)) (v1 := (.slice (some ⟨go19, 0, none⟩) x26_1.length co19)) (ok := (fun k_ => some k_ ≠ (.slice (some ad659) t643.length co20 : Value).ownBlock)) (by (with_reducible repeat (first | apply Kd.qG | apply Kd.qH | apply Kd.qI)); exact HO_24.out) hg (.inl rfl)); have n2_ := Aside0.mk (hp_); have n3_ := Aside0.mk (qmA (g := gb641) (o := .cells #[.int .i64 0, .int .i64 0, .int .i64 0, .int .i64 0, .int .i64 0, .int .i64 0] 31 (0, 0)) (by (with_reducible repeat (first | refine qD ?_ _ | refine qE ?_ | refine qC ?_ _)); exact BK641.out) hg (Kd.R_ne HO_26.out BK641.out (by decide))); have n4_ := Aside0.mk ((by rw [hw]; exact qb (HB.out) GB19.out : Below w.heap.size w w22)); clear HO_16; clear HO_24; clear HO_26; clear BK641; clear HB; have HO_16 := n0_; have HO_24 := n1_; have HO_26 := n2_; have BK641 := n3_; have HB := n4_; clear n0_ n1_ n2_ n3_ n4_; clear hg hw hp_))
           go_roundg k1
           case measure => have := HK1.out; omega
           case rel => exact ⟨(y660), (wrap64 (x29_1 + 1)), (by first | rfl | (simp; done) | (simp [*]; done)), H', ⟨by have := HK1.out; omega⟩, ⟨by (with_reducible repeat (first | apply Kd.qG | apply Kd.qH | apply Kd.qI)); exact HO_16.out⟩, ⟨by (with_reducible repeat (first | apply Kd.qG | apply Kd.qH | apply Kd.qI)); exact HO_24.out⟩, ⟨by (with_reducible repeat (first | apply Kd.qG | apply Kd.qH | apply Kd.qI)); exact HO_26.out⟩, ⟨by (with_reducible repeat (first | refine qD ?_ _ | refine qE ?_ | refine qC ?_ _)); exact BK641.out⟩, ⟨bl⟩⟩
          ·rw [if_neg c18] at H
           exact absurd H (by simp)
         ·rw [if_neg c17] at H
          exact absurd H (by simp)
        ·rw [if_neg c16] at H
         exact absurd H (by simp)
       ·rw [if_neg c15] at H
        exact absurd H (by simp)
      ·rw [if_neg c14] at H
       exact absurd H (by simp)
     ·rw [if_neg c13] at H
      have c13b0 : decide (x29_1 < (t649.length : Int)) = false := decide_eq_false c13
      clear c13
      replace H := Option.bind_eq_some_iff.mp H
      obtain ⟨⟨t661, t662, t663, t664, t665, t666⟩, A230, H⟩ := H
      replace H : (some (t661, t662, t663, t664, t665, t666, true)) = some (r1, r2, r3, r4, r5, r6, r7) := H
      have A23 := Aside0.mk A230
      clear A230
      simp only [Option.some.injEq, Prod.mk.injEq] at H
      obtain ⟨rfl, rfl, rfl, rfl, rfl, rfl, rfl⟩ := H
      obtain ⟨Ao24, co24, eo24⟩ := Kd.qo HO_26.out
      subst eo24
      go_wp2_with (first | ((with_reducible refine qW (f := 57) rfl ?_); refine qNA (some 43) rfl rfl Tryd.func57 (by kernel_rfl) rfl #[.slice Ao24 x26_1.length co24] rfl (by (try simp only [List.map_toArray, List.map_cons, List.map_nil]); first | done | rfl | (simp only [List.length_drop, List.length_take]; rfl)) ?_; (with_reducible refine (qTA.calls _ _ x26_1 t661 t662 t663 t664 t665 t666 _ ?side1 ?side2 A23.out).mono ?_); (case side1 => repeat (first | exact (Kd.qQ HO_26.out).2.2 | (with_reducible refine Kd.qXA ?_ _) | (with_reducible refine Kd.qWA ?_ _) | (with_reducible refine Kd.qsA ?_))); (case side2 => exact (Kd.qQ HO_26.out).2.1); rintro e w25 ⟨rfl, hb⟩; refine ⟨_, rfl, ?_⟩; have n0_ := Aside0.mk (Kd.qV (by (with_reducible repeat (first | apply Kd.qG | apply Kd.qH | apply Kd.qI)); exact HO_16.out) hb); have n1_ := Aside0.mk (Kd.qV (by (with_reducible repeat (first | apply Kd.qG | apply Kd.qH | apply Kd.qI)); exact HO_24.out) hb); have n2_ := Aside0.mk (Kd.qV (by (with_reducible repeat (first | apply Kd.qG | apply Kd.qH | apply Kd.qI)); exact HO_26.out) hb); have n3_ := Aside0.mk (bb BK641 hb); have n4_ := Aside0.mk (qJ bl hb); clear HO_16; clear HO_24; clear HO_26; clear BK641; clear HB; have HO_16 := n0_; have HO_24 := n1_; have HO_26 := n2_; have BK641 := n3_; have HB := n4_; clear n0_ n1_ n2_ n3_ n4_; (try clear hb); (try clear hb2); (try clear hk); (try clear hi); have hcz26_0 := bc BK641 0; have hcz26_1 := bc BK641 1; have hcz26_2 := bc BK641 2; have hcz26_3 := bc BK641 3; have hcz26_4 := bc BK641 4; have hcz26_5 := bc BK641 5; have hfz26_0 := qA BK641.out 0; have hfz26_1 := qA BK641.out 1; have hfz26_2 := qA BK641.out 2; have hfz26_3 := qA BK641.out 3; have hfz26_4 := qA BK641.out 4; have hfz26_5 := qA BK641.out 5))
      refine bodyPost_ret (qkA rfl _ _ gb641 31 #[.int .i64 t661, .int .i64 t662, .int .i64 t663, .int .i64 t664, .int .i64 t665, .int .i64 t666] (0, 0) _ rfl (by (with_reducible repeat (first | refine qD ?_ _ | refine qE ?_ | refine qC ?_ _)); refine qL (cs := #[.int .i64 t661, .int .i64 t662, .int .i64 t663, .int .i64 t664, .int .i64 t665, .int .i64 0]) ?_ 5 _ rfl; (with_reducible repeat (first | refine qD ?_ _ | refine qE ?_ | refine qC ?_ _)); refine qL (cs := #[.int .i64 t661, .int .i64 t662, .int .i64 t663, .int .i64 t664, .int .i64 0, .int .i64 0]) ?_ 4 _ rfl; (with_reducible repeat (first | refine qD ?_ _ | refine qE ?_ | refine qC ?_ _)); refine qL (cs := #[.int .i64 t661, .int .i64 t662, .int .i64 t663, .int .i64 0, .int .i64 0, .int .i64 0]) ?_ 3 _ rfl; (with_reducible repeat (first | refine qD ?_ _ | refine qE ?_ | refine qC ?_ _)); refine qL (cs := #[.int .i64 t661, .int .i64 t662, .int .i64 0, .int .i64 0, .int .i64 0, .int .i64 0]) ?_ 2 _ rfl; (with_reducible repeat (first | refine qD ?_ _ | refine qE ?_ | refine qC ?_ _)); refine qL (cs := #[.int .i64 t661, .int .i64 0, .int .i64 0, .int .i64 0, .int .i64 0, .int .i64 0]) ?_ 1 _ rfl; (with_reducible repeat (first | refine qD ?_ _ | refine qE ?_ | refine qC ?_ _)); refine qL (cs := #[.int .i64 0, .int .i64 0, .int .i64 0, .int .i64 0, .int .i64 0, .int .i64 0]) ?_ 0 _ rfl; (with_reducible repeat (first | refine qD ?_ _ | refine qE ?_ | refine qC ?_ _)); exact BK641.out) Tryd.underlying31 rfl (by kernel_rfl)) rfl ?_
      exact ⟨by first | rfl | (simp [qN, qM] <;> rfl) | (simp [*, qN, qM] <;> rfl), bl⟩
  ·rw [if_neg c5] at H
   exact absurd H (by simp)
 ·replace c3 := Bool.eq_false_iff.mpr c3
  subst c3
  have H1 : (some (0, 0, 0, 0, 0, 0, false)) = some (r1, r2, r3, r4, r5, r6, r7) := by rw [if_neg (show ¬ (false = true) by decide)] at H; exact H
  clear H
  have H := H1
  clear H1
  simp only [Option.some.injEq, Prod.mk.injEq] at H
  obtain ⟨rfl, rfl, rfl, rfl, rfl, rfl, rfl⟩ := H
  go_enter Tryd.func41, Tryd.ntmps41
  go_wp2_with (first | ((with_reducible refine qT (N := 2) rfl ?_); refine qR ?hg (N := 2) ?hd (cs := #[.int .i64 0, .int .i64 0, .int .i64 0, .int .i64 0, .int .i64 0, .int .i64 0]) (t := 31) ?hr ?_; (case hd => rfl); (case hg => rfl); (case hr => first | (go_simp; done) | (go_simp; rfl)); intro gb641 hg w27 hbox hb; have n0_ := Aside0.mk (qJ bl hb); have n1_ := Aside0.mk (hbox); have n2_ := Aside0.mk ((gg hg)); have n3_ := Aside0.mk ((gg hg)); clear HB; have HB := n0_; have BK641 := n1_; have GW641 := n2_; have GE641 := n3_; clear n0_ n1_ n2_ n3_; clear hb hbox hg) | ((with_reducible refine qW (f := 35) rfl ?_); refine qNA (some 14) rfl rfl Tryd.func35 (by kernel_rfl) rfl #[.string a0] rfl (by (try simp only [List.map_toArray, List.map_cons, List.map_nil]); first | done | rfl | (simp only [List.length_drop, List.length_take]; rfl)) ?_; (with_reducible refine (qVB.calls k a0 t642 t643 false _ ?side1 A2.out).mono ?_); (case side1 => first | (with_reducible exact HLD.out) | exact Laid.below HLD.out (by repeat (first | (with_reducible first | exact HB.out | apply qt | apply qBA | apply qg | refine qb ?_ (Aside0.out (by with_reducible assumption))) | exact HB.out))); rintro e w28 ⟨v645, v647, rfl, ho0, ho1, hb⟩; refine ⟨_, rfl, ?_⟩; have n0_ := Aside0.mk (Kd.qCA ho0 (qX bl)); have n1_ := Aside0.mk (Kd.qCA ho1 (qX bl)); have n2_ := Aside0.mk (bb BK641 hb); have n3_ := Aside0.mk (qJ bl hb); clear BK641; clear HB; have HO646 := n0_; have HO648 := n1_; have BK641 := n2_; have HB := n3_; clear n0_ n1_ n2_ n3_; (try clear hb); (try clear hb2); (try clear hk); (try clear hi); (try clear ho0); (try clear ho1); have hcz29_0 := bc BK641 0; have hcz29_1 := bc BK641 1; have hcz29_2 := bc BK641 2; have hcz29_3 := bc BK641 3; have hcz29_4 := bc BK641 4; have hcz29_5 := bc BK641 5; have hfz29_0 := qA BK641.out 0; have hfz29_1 := qA BK641.out 1; have hfz29_2 := qA BK641.out 2; have hfz29_3 := qA BK641.out 3; have hfz29_4 := qA BK641.out 4; have hfz29_5 := qA BK641.out 5))
  refine bodyPost_ret (qkA rfl _ _ gb641 31 #[.int .i64 0, .int .i64 0, .int .i64 0, .int .i64 0, .int .i64 0, .int .i64 0] (0, 0) _ rfl (by (with_reducible repeat (first | refine qD ?_ _ | refine qE ?_ | refine qC ?_ _)); refine qL (cs := #[.int .i64 0, .int .i64 0, .int .i64 0, .int .i64 0, .int .i64 0, .int .i64 0]) ?_ 5 _ rfl; (with_reducible repeat (first | refine qD ?_ _ | refine qE ?_ | refine qC ?_ _)); refine qL (cs := #[.int .i64 0, .int .i64 0, .int .i64 0, .int .i64 0, .int .i64 0, .int .i64 0]) ?_ 4 _ rfl; (with_reducible repeat (first | refine qD ?_ _ | refine qE ?_ | refine qC ?_ _)); refine qL (cs := #[.int .i64 0, .int .i64 0, .int .i64 0, .int .i64 0, .int .i64 0, .int .i64 0]) ?_ 3 _ rfl; (with_reducible repeat (first | refine qD ?_ _ | refine qE ?_ | refine qC ?_ _)); refine qL (cs := #[.int .i64 0, .int .i64 0, .int .i64 0, .int .i64 0, .int .i64 0, .int .i64 0]) ?_ 2 _ rfl; (with_reducible repeat (first | refine qD ?_ _ | refine qE ?_ | refine qC ?_ _)); refine qL (cs := #[.int .i64 0, .int .i64 0, .int .i64 0, .int .i64 0, .int .i64 0, .int .i64 0]) ?_ 1 _ rfl; (with_reducible repeat (first | refine qD ?_ _ | refine qE ?_ | refine qC ?_ _)); refine qL (cs := #[.int .i64 0, .int .i64 0, .int .i64 0, .int .i64 0, .int .i64 0, .int .i64 0]) ?_ 0 _ rfl; (with_reducible repeat (first | refine qD ?_ _ | refine qE ?_ | refine qC ?_ _)); exact BK641.out) Tryd.underlying31 rfl (by kernel_rfl)) rfl ?_
  exact ⟨by first | rfl | (simp [qN, qM] <;> rfl) | (simp [*, qN, qM] <;> rfl), bl⟩
def qgA.f (k : Nat) (a0 : ByteArray) : Option (Int × Int × Int × Int × Int × Int × Bool) := (qk.f k a0).bind fun bt668 => (some (bt668.1, bt668.2.1, bt668.2.2.1, bt668.2.2.2.1, bt668.2.2.2.2.1, bt668.2.2.2.2.2.1, bt668.2.2.2.2.2.2))
set_option maxHeartbeats 8000000 in
set_option maxRecDepth 100000 in
theorem qgA.calls (k : Nat) (a0 : ByteArray) (r1 : Int) (r2 : Int) (r3 : Int) (r4 : Int) (r5 : Int) (r6 : Int) (r7 : Bool) (w : World) (hL : Laid w) (h : qgA.f k a0 = some (r1, r2, r3, r4, r5, r6, r7)) :
  Calls Tryd.prog 22 #[.string a0] w fun e w' => e = .returned (.tuple #[.agg #[.int .i64 r1, .int .i64 r2, .int .i64 r3, .int .i64 r4, .int .i64 r5, .int .i64 r6], .bool r7]) ∧ Below w.heap.size w w' := by
 have hu31 := Tryd.underlying31
 have HLD := Aside0.mk hL
 clear hL
 have HB := Aside0.mk (Below.refl w.heap.size w)
 have H : ((qk.f k a0).bind fun bt668 => (some (bt668.1, bt668.2.1, bt668.2.2.1, bt668.2.2.2.1, bt668.2.2.2.2.1, bt668.2.2.2.2.2.1, bt668.2.2.2.2.2.2))) = some (r1, r2, r3, r4, r5, r6, r7) := h
 clear h
 replace H := Option.bind_eq_some_iff.mp H
 obtain ⟨⟨t668, t669, t670, t671, t672, t673, t674⟩, A20, H⟩ := H
 replace H : (some (t668, t669, t670, t671, t672, t673, t674)) = some (r1, r2, r3, r4, r5, r6, r7) := H
 have A2 := Aside0.mk A20
 clear A20
 simp only [Option.some.injEq, Prod.mk.injEq] at H
 obtain ⟨rfl, rfl, rfl, rfl, rfl, rfl, rfl⟩ := H
 go_enter Tryd.func22, Tryd.ntmps22
 go_wp2_with (first | ((with_reducible refine qT (N := 2) rfl ?_); refine qR ?hg (N := 2) ?hd (cs := #[.int .i64 0, .int .i64 0, .int .i64 0, .int .i64 0, .int .i64 0, .int .i64 0]) (t := 31) ?hr ?_; (case hd => rfl); (case hg => rfl); (case hr => first | (go_simp; done) | (go_simp; rfl)); intro gb667 hg w3 hbox hb; have n0_ := Aside0.mk (qJ bl hb); have n1_ := Aside0.mk (hbox); have n2_ := Aside0.mk ((gg hg)); have n3_ := Aside0.mk ((gg hg)); clear HB; have HB := n0_; have BK667 := n1_; have GW667 := n2_; have GE667 := n3_; clear n0_ n1_ n2_ n3_; clear hb hbox hg) | ((with_reducible refine qW (f := 41) rfl ?_); refine qNA (some 5) rfl rfl Tryd.func41 (by kernel_rfl) rfl #[.string a0] rfl (by (try simp only [List.map_toArray, List.map_cons, List.map_nil]); first | done | rfl | (simp only [List.length_drop, List.length_take]; rfl)) ?_; (with_reducible refine (qk.calls k a0 t668 t669 t670 t671 t672 t673 t674 _ ?side1 A2.out).mono ?_); (case side1 => first | (with_reducible exact HLD.out) | exact Laid.below HLD.out (by repeat (first | (with_reducible first | exact HB.out | apply qt | apply qBA | apply qg | refine qb ?_ (Aside0.out (by with_reducible assumption))) | exact HB.out))); rintro e w4 ⟨rfl, hb⟩; refine ⟨_, rfl, ?_⟩; have n0_ := Aside0.mk (bb BK667 hb); have n1_ := Aside0.mk (qJ bl hb); clear BK667; clear HB; have BK667 := n0_; have HB := n1_; clear n0_ n1_; (try clear hb); (try clear hb2); (try clear hk); (try clear hi); have hcz5_0 := bc BK667 0; have hcz5_1 := bc BK667 1; have hcz5_2 := bc BK667 2; have hcz5_3 := bc BK667 3; have hcz5_4 := bc BK667 4; have hcz5_5 := bc BK667 5; have hfz5_0 := qA BK667.out 0; have hfz5_1 := qA BK667.out 1; have hfz5_2 := qA BK667.out 2; have hfz5_3 := qA BK667.out 3; have hfz5_4 := qA BK667.out 4; have hfz5_5 := qA BK667.out 5))
 refine bodyPost_ret (qkA rfl _ _ gb667 31 #[.int .i64 t668, .int .i64 t669, .int .i64 t670, .int .i64 t671, .int .i64 t672, .int .i64 t673] (0, 0) _ rfl (by (with_reducible repeat (first | refine qD ?_ _ | refine qE ?_ | refine qC ?_ _)); refine qL (cs := #[.int .i64 t668, .int .i64 t669, .int .i64 t670, .int .i64 t671, .int .i64 t672, .int .i64 0]) ?_ 5 _ rfl; (with_reducible repeat (first | refine qD ?_ _ | refine qE ?_ | refine qC ?_ _)); refine qL (cs := #[.int .i64 t668, .int .i64 t669, .int .i64 t670, .int .i64 t671, .int .i64 0, .int .i64 0]) ?_ 4 _ rfl; (with_reducible repeat (first | refine qD ?_ _ | refine qE ?_ | refine qC ?_ _)); refine qL (cs := #[.int .i64 t668, .int .i64 t669, .int .i64 t670, .int .i64 0, .int .i64 0, .int .i64 0]) ?_ 3 _ rfl; (with_reducible repeat (first | refine qD ?_ _ | refine qE ?_ | refine qC ?_ _)); refine qL (cs := #[.int .i64 t668, .int .i64 t669, .int .i64 0, .int .i64 0, .int .i64 0, .int .i64 0]) ?_ 2 _ rfl; (with_reducible repeat (first | refine qD ?_ _ | refine qE ?_ | refine qC ?_ _)); refine qL (cs := #[.int .i64 t668, .int .i64 0, .int .i64 0, .int .i64 0, .int .i64 0, .int .i64 0]) ?_ 1 _ rfl; (with_reducible repeat (first | refine qD ?_ _ | refine qE ?_ | refine qC ?_ _)); refine qL (cs := #[.int .i64 0, .int .i64 0, .int .i64 0, .int .i64 0, .int .i64 0, .int .i64 0]) ?_ 0 _ rfl; (with_reducible repeat (first | refine qD ?_ _ | refine qE ?_ | refine qC ?_ _)); exact BK667.out) Tryd.underlying31 rfl (by kernel_rfl)) rfl ?_
 exact ⟨by first | rfl | (simp [qN, qM] <;> rfl) | (simp [*, qN, qM] <;> rfl), bl⟩
def qlA.f (a0_0 : Int) (a0_1 : Int) (a0_2 : Int) (a0_3 : Int) (a0_4 : Int) (a0_5 : Int) (a1_0 : Int) (a1_1 : Int) (a1_2 : Int) (a1_3 : Int) (a1_4 : Int) (a1_5 : Int) : Option (Bool) := if a0_0 = a1_0 then (if a0_1 = a1_1 then (if a0_2 = a1_2 then (if a0_3 = a1_3 then (if a0_4 = a1_4 then (if a0_5 = a1_5 then (some true) else (some false)) else (some false)) else (some false)) else (some false)) else (some false)) else (some false)
set_option maxHeartbeats 8000000 in
set_option maxRecDepth 100000 in
theorem qlA.calls (a0_0 : Int) (a0_1 : Int) (a0_2 : Int) (a0_3 : Int) (a0_4 : Int) (a0_5 : Int) (a1_0 : Int) (a1_1 : Int) (a1_2 : Int) (a1_3 : Int) (a1_4 : Int) (a1_5 : Int) (r : Bool) (w : World) (h : qlA.f a0_0 a0_1 a0_2 a0_3 a0_4 a0_5 a1_0 a1_1 a1_2 a1_3 a1_4 a1_5 = some r) :
  Calls Tryd.prog 23 #[.agg #[.int .i64 a0_0, .int .i64 a0_1, .int .i64 a0_2, .int .i64 a0_3, .int .i64 a0_4, .int .i64 a0_5], .agg #[.int .i64 a1_0, .int .i64 a1_1, .int .i64 a1_2, .int .i64 a1_3, .int .i64 a1_4, .int .i64 a1_5]] w fun e w' => e = .returned (.bool r) ∧ Below w.heap.size w w' := by
 have hu31 := Tryd.underlying31
 have HB := Aside0.mk (Below.refl w.heap.size w)
 have H : (if a0_0 = a1_0 then (if a0_1 = a1_1 then (if a0_2 = a1_2 then (if a0_3 = a1_3 then (if a0_4 = a1_4 then (if a0_5 = a1_5 then (some true) else (some false)) else (some false)) else (some false)) else (some false)) else (some false)) else (some false)) = some r := h
 clear h
 by_cases c3 : a0_0 = a1_0
 ·rw [if_pos c3] at H
  have c3b0 : (a0_0 == a1_0) = true := beq_iff_eq.mpr c3
  have c3b1 : (a0_0 != a1_0) = false := bne_eq_false_iff_eq.mpr c3
  clear c3
  by_cases c4 : a0_1 = a1_1
  ·rw [if_pos c4] at H
   have c4b0 : (a0_1 == a1_1) = true := beq_iff_eq.mpr c4
   have c4b1 : (a0_1 != a1_1) = false := bne_eq_false_iff_eq.mpr c4
   clear c4
   by_cases c5 : a0_2 = a1_2
   ·rw [if_pos c5] at H
    have c5b0 : (a0_2 == a1_2) = true := beq_iff_eq.mpr c5
    have c5b1 : (a0_2 != a1_2) = false := bne_eq_false_iff_eq.mpr c5
    clear c5
    by_cases c6 : a0_3 = a1_3
    ·rw [if_pos c6] at H
     have c6b0 : (a0_3 == a1_3) = true := beq_iff_eq.mpr c6
     have c6b1 : (a0_3 != a1_3) = false := bne_eq_false_iff_eq.mpr c6
     clear c6
     by_cases c7 : a0_4 = a1_4
     ·rw [if_pos c7] at H
      have c7b0 : (a0_4 == a1_4) = true := beq_iff_eq.mpr c7
      have c7b1 : (a0_4 != a1_4) = false := bne_eq_false_iff_eq.mpr c7
      clear c7
      by_cases c8 : a0_5 = a1_5
      ·rw [if_pos c8] at H
       have c8b0 : (a0_5 == a1_5) = true := beq_iff_eq.mpr c8
       have c8b1 : (a0_5 != a1_5) = false := bne_eq_false_iff_eq.mpr c8
       clear c8
       obtain rfl := Option.some.inj H
       go_enter Tryd.func23, Tryd.ntmps23
       go_wp2_with (first | ((with_reducible refine qT (N := 2) rfl ?_); refine qR ?hg (N := 2) ?hd (cs := #[.int .i64 a0_0, .int .i64 a0_1, .int .i64 a0_2, .int .i64 a0_3, .int .i64 a0_4, .int .i64 a0_5]) (t := 31) ?hr ?_; (case hd => rfl); (case hg => rfl); (case hr => first | (go_simp; done) | (go_simp; rfl)); intro gb675 hg w9 hbox hb; have n0_ := Aside0.mk (qJ bl hb); have n1_ := Aside0.mk (hbox); have n2_ := Aside0.mk ((gg hg)); have n3_ := Aside0.mk ((gg hg)); clear HB; have HB := n0_; have BK675 := n1_; have GW675 := n2_; have GE675 := n3_; clear n0_ n1_ n2_ n3_; clear hb hbox hg) | ((with_reducible refine qT (N := 3) rfl ?_); refine qR ?hg (N := 3) ?hd (cs := #[.int .i64 a1_0, .int .i64 a1_1, .int .i64 a1_2, .int .i64 a1_3, .int .i64 a1_4, .int .i64 a1_5]) (t := 31) ?hr ?_; (case hd => rfl); (case hg => rfl); (case hr => first | (go_simp; done) | (go_simp; rfl)); intro gb676 hg w10 hbox hb; have n0_ := Aside0.mk (bb BK675 hb); have n1_ := Aside0.mk (qJ bl hb); have n2_ := Aside0.mk (hbox); have n3_ := Aside0.mk ((gg hg)); have n4_ := Aside0.mk ((gg hg)); have n5_ := Aside0.mk ((nl BK675 hg)); have n6_ := Aside0.mk ((nr BK675 hg)); clear BK675; clear HB; have BK675 := n0_; have HB := n1_; have BK676 := n2_; have GW676 := n3_; have GE676 := n4_; have NB675_676 := n5_; have NB676_675 := n6_; clear n0_ n1_ n2_ n3_ n4_ n5_ n6_; clear hb hbox hg; have hnb11 := NB675_676.out; have hnc11 := NB676_675.out; have hcz12_0 := bc BK675 0; have hcz12_1 := bc BK675 1; have hcz12_2 := bc BK675 2; have hcz12_3 := bc BK675 3; have hcz12_4 := bc BK675 4; have hcz12_5 := bc BK675 5; have hfz12_0 := qA BK675.out 0; have hfz12_1 := qA BK675.out 1; have hfz12_2 := qA BK675.out 2; have hfz12_3 := qA BK675.out 3; have hfz12_4 := qA BK675.out 4; have hfz12_5 := qA BK675.out 5; have hcz13_0 := bc BK676 0; have hcz13_1 := bc BK676 1; have hcz13_2 := bc BK676 2; have hcz13_3 := bc BK676 3; have hcz13_4 := bc BK676 4; have hcz13_5 := bc BK676 5; have hfz13_0 := qA BK676.out 0; have hfz13_1 := qA BK676.out 1; have hfz13_2 := qA BK676.out 2; have hfz13_3 := qA BK676.out 3; have hfz13_4 := qA BK676.out 4; have hfz13_5 := qA BK676.out 5))
       go_ret
       exact ⟨by first | rfl | (simp [qN, qM] <;> rfl) | (simp [*, qN, qM] <;> rfl), bl⟩
      ·rw [if_neg c8] at H
       have c8b0 : (a0_5 == a1_5) = false := beq_eq_false_iff_ne.mpr c8
       have c8b1 : (a0_5 != a1_5) = true := bne_iff_ne.mpr c8
       obtain rfl := Option.some.inj H
       go_enter Tryd.func23, Tryd.ntmps23
       go_wp2_with (first | ((with_reducible refine qT (N := 2) rfl ?_); refine qR ?hg (N := 2) ?hd (cs := #[.int .i64 a0_0, .int .i64 a0_1, .int .i64 a0_2, .int .i64 a0_3, .int .i64 a0_4, .int .i64 a0_5]) (t := 31) ?hr ?_; (case hd => rfl); (case hg => rfl); (case hr => first | (go_simp; done) | (go_simp; rfl)); intro gb675 hg w14 hbox hb; have n0_ := Aside0.mk (qJ bl hb); have n1_ := Aside0.mk (hbox); have n2_ := Aside0.mk ((gg hg)); have n3_ := Aside0.mk ((gg hg)); clear HB; have HB := n0_; have BK675 := n1_; have GW675 := n2_; have GE675 := n3_; clear n0_ n1_ n2_ n3_; clear hb hbox hg) | ((with_reducible refine qT (N := 3) rfl ?_); refine qR ?hg (N := 3) ?hd (cs := #[.int .i64 a1_0, .int .i64 a1_1, .int .i64 a1_2, .int .i64 a1_3, .int .i64 a1_4, .int .i64 a1_5]) (t := 31) ?hr ?_; (case hd => rfl); (case hg => rfl); (case hr => first | (go_simp; done) | (go_simp; rfl)); intro gb676 hg w15 hbox hb; have n0_ := Aside0.mk (bb BK675 hb); have n1_ := Aside0.mk (qJ bl hb); have n2_ := Aside0.mk (hbox); have n3_ := Aside0.mk ((gg hg)); have n4_ := Aside0.mk ((gg hg)); have n5_ := Aside0.mk ((nl BK675 hg)); have n6_ := Aside0.mk ((nr BK675 hg)); clear BK675; clear HB; have BK675 := n0_; have HB := n1_; have BK676 := n2_; have GW676 := n3_; have GE676 := n4_; have NB675_676 := n5_; have NB676_675 := n6_; clear n0_ n1_ n2_ n3_ n4_ n5_ n6_; clear hb hbox hg; have hnb16 := NB675_676.out; have hnc16 := NB676_675.out; have hcz17_0 := bc BK675 0; have hcz17_1 := bc BK675 1; have hcz17_2 := bc BK675 2; have hcz17_3 := bc BK675 3; have hcz17_4 := bc BK675 4; have hcz17_5 := bc BK675 5; have hfz17_0 := qA BK675.out 0; have hfz17_1 := qA BK675.out 1; have hfz17_2 := qA BK675.out 2; have hfz17_3 := qA BK675.out 3; have hfz17_4 := qA BK675.out 4; have hfz17_5 := qA BK675.out 5; have hcz18_0 := bc BK676 0; have hcz18_1 := bc BK676 1; have hcz18_2 := bc BK676 2; have hcz18_3 := bc BK676 3; have hcz18_4 := bc BK676 4; have hcz18_5 := bc BK676 5; have hfz18_0 := qA BK676.out 0; have hfz18_1 := qA BK676.out 1; have hfz18_2 := qA BK676.out 2; have hfz18_3 := qA BK676.out 3; have hfz18_4 := qA BK676.out 4; have hfz18_5 := qA BK676.out 5))
       go_ret
       exact ⟨by first | rfl | (simp [qN, qM] <;> rfl) | (simp [*, qN, qM] <;> rfl), bl⟩
     ·rw [if_neg c7] at H
      have c7b0 : (a0_4 == a1_4) = false := beq_eq_false_iff_ne.mpr c7
      have c7b1 : (a0_4 != a1_4) = true := bne_iff_ne.mpr c7
      obtain rfl := Option.some.inj H
      go_enter Tryd.func23, Tryd.ntmps23
      go_wp2_with (first | ((with_reducible refine qT (N := 2) rfl ?_); refine qR ?hg (N := 2) ?hd (cs := #[.int .i64 a0_0, .int .i64 a0_1, .int .i64 a0_2, .int .i64 a0_3, .int .i64 a0_4, .int .i64 a0_5]) (t := 31) ?hr ?_; (case hd => rfl); (case hg => rfl); (case hr => first | (go_simp; done) | (go_simp; rfl)); intro gb675 hg w19 hbox hb; have n0_ := Aside0.mk (qJ bl hb); have n1_ := Aside0.mk (hbox); have n2_ := Aside0.mk ((gg hg)); have n3_ := Aside0.mk ((gg hg)); clear HB; have HB := n0_; have BK675 := n1_; have GW675 := n2_; have GE675 := n3_; clear n0_ n1_ n2_ n3_; clear hb hbox hg) | ((with_reducible refine qT (N := 3) rfl ?_); refine qR ?hg (N := 3) ?hd (cs := #[.int .i64 a1_0, .int .i64 a1_1, .int .i64 a1_2, .int .i64 a1_3, .int .i64 a1_4, .int .i64 a1_5]) (t := 31) ?hr ?_; (case hd => rfl); (case hg => rfl); (case hr => first | (go_simp; done) | (go_simp; rfl)); intro gb676 hg w20 hbox hb; have n0_ := Aside0.mk (bb BK675 hb); have n1_ := Aside0.mk (qJ bl hb); have n2_ := Aside0.mk (hbox); have n3_ := Aside0.mk ((gg hg)); have n4_ := Aside0.mk ((gg hg)); have n5_ := Aside0.mk ((nl BK675 hg)); have n6_ := Aside0.mk ((nr BK675 hg)); clear BK675; clear HB; have BK675 := n0_; have HB := n1_; have BK676 := n2_; have GW676 := n3_; have GE676 := n4_; have NB675_676 := n5_; have NB676_675 := n6_; clear n0_ n1_ n2_ n3_ n4_ n5_ n6_; clear hb hbox hg; have hnb21 := NB675_676.out; have hnc21 := NB676_675.out; have hcz22_0 := bc BK675 0; have hcz22_1 := bc BK675 1; have hcz22_2 := bc BK675 2; have hcz22_3 := bc BK675 3; have hcz22_4 := bc BK675 4; have hcz22_5 := bc BK675 5; have hfz22_0 := qA BK675.out 0; have hfz22_1 := qA BK675.out 1; have hfz22_2 := qA BK675.out 2; have hfz22_3 := qA BK675.out 3; have hfz22_4 := qA BK675.out 4; have hfz22_5 := qA BK675.out 5; have hcz23_0 := bc BK676 0; have hcz23_1 := bc BK676 1; have hcz23_2 := bc BK676 2; have hcz23_3 := bc BK676 3; have hcz23_4 := bc BK676 4; have hcz23_5 := bc BK676 5; have hfz23_0 := qA BK676.out 0; have hfz23_1 := qA BK676.out 1; have hfz23_2 := qA BK676.out 2; have hfz23_3 := qA BK676.out 3; have hfz23_4 := qA BK676.out 4; have hfz23_5 := qA BK676.out 5))
      go_ret
      exact ⟨by first | rfl | (simp [qN, qM] <;> rfl) | (simp [*, qN, qM] <;> rfl), bl⟩
    ·rw [if_neg c6] at H
     have c6b0 : (a0_3 == a1_3) = false := beq_eq_false_iff_ne.mpr c6
     have c6b1 : (a0_3 != a1_3) = true := bne_iff_ne.mpr c6
     obtain rfl := Option.some.inj H
     go_enter Tryd.func23, Tryd.ntmps23
     go_wp2_with (first | ((with_reducible refine qT (N := 2) rfl ?_); refine qR ?hg (N := 2) ?hd (cs := #[.int .i64 a0_0, .int .i64 a0_1, .int .i64 a0_2, .int .i64 a0_3, .int .i64 a0_4, .int .i64 a0_5]) (t := 31) ?hr ?_; (case hd => rfl); (case hg => rfl); (case hr => first | (go_simp; done) | (go_simp; rfl)); intro gb675 hg w24 hbox hb; have n0_ := Aside0.mk (qJ bl hb); have n1_ := Aside0.mk (hbox); have n2_ := Aside0.mk ((gg hg)); have n3_ := Aside0.mk ((gg hg)); clear HB; have HB := n0_; have BK675 := n1_; have GW675 := n2_; have GE675 := n3_; clear n0_ n1_ n2_ n3_; clear hb hbox hg) | ((with_reducible refine qT (N := 3) rfl ?_); refine qR ?hg (N := 3) ?hd (cs := #[.int .i64 a1_0, .int .i64 a1_1, .int .i64 a1_2, .int .i64 a1_3, .int .i64 a1_4, .int .i64 a1_5]) (t := 31) ?hr ?_; (case hd => rfl); (case hg => rfl); (case hr => first | (go_simp; done) | (go_simp; rfl)); intro gb676 hg w25 hbox hb; have n0_ := Aside0.mk (bb BK675 hb); have n1_ := Aside0.mk (qJ bl hb); have n2_ := Aside0.mk (hbox); have n3_ := Aside0.mk ((gg hg)); have n4_ := Aside0.mk ((gg hg)); have n5_ := Aside0.mk ((nl BK675 hg)); have n6_ := Aside0.mk ((nr BK675 hg)); clear BK675; clear HB; have BK675 := n0_; have HB := n1_; have BK676 := n2_; have GW676 := n3_; have GE676 := n4_; have NB675_676 := n5_; have NB676_675 := n6_; clear n0_ n1_ n2_ n3_ n4_ n5_ n6_; clear hb hbox hg; have hnb26 := NB675_676.out; have hnc26 := NB676_675.out; have hcz27_0 := bc BK675 0; have hcz27_1 := bc BK675 1; have hcz27_2 := bc BK675 2; have hcz27_3 := bc BK675 3; have hcz27_4 := bc BK675 4; have hcz27_5 := bc BK675 5; have hfz27_0 := qA BK675.out 0; have hfz27_1 := qA BK675.out 1; have hfz27_2 := qA BK675.out 2; have hfz27_3 := qA BK675.out 3; have hfz27_4 := qA BK675.out 4; have hfz27_5 := qA BK675.out 5; have hcz28_0 := bc BK676 0; have hcz28_1 := bc BK676 1; have hcz28_2 := bc BK676 2; have hcz28_3 := bc BK676 3; have hcz28_4 := bc BK676 4; have hcz28_5 := bc BK676 5; have hfz28_0 := qA BK676.out 0; have hfz28_1 := qA BK676.out 1; have hfz28_2 := qA BK676.out 2; have hfz28_3 := qA BK676.out 3; have hfz28_4 := qA BK676.out 4; have hfz28_5 := qA BK676.out 5))
     go_ret
     exact ⟨by first | rfl | (simp [qN, qM] <;> rfl) | (simp [*, qN, qM] <;> rfl), bl⟩
   ·rw [if_neg c5] at H
    have c5b0 : (a0_2 == a1_2) = false := beq_eq_false_iff_ne.mpr c5
    have c5b1 : (a0_2 != a1_2) = true := bne_iff_ne.mpr c5
    obtain rfl := Option.some.inj H
    go_enter Tryd.func23, Tryd.ntmps23
    go_wp2_with (first | ((with_reducible refine qT (N := 2) rfl ?_); refine qR ?hg (N := 2) ?hd (cs := #[.int .i64 a0_0, .int .i64 a0_1, .int .i64 a0_2, .int .i64 a0_3, .int .i64 a0_4, .int .i64 a0_5]) (t := 31) ?hr ?_; (case hd => rfl); (case hg => rfl); (case hr => first | (go_simp; done) | (go_simp; rfl)); intro gb675 hg w29 hbox hb; have n0_ := Aside0.mk (qJ bl hb); have n1_ := Aside0.mk (hbox); have n2_ := Aside0.mk ((gg hg)); have n3_ := Aside0.mk ((gg hg)); clear HB; have HB := n0_; have BK675 := n1_; have GW675 := n2_; have GE675 := n3_; clear n0_ n1_ n2_ n3_; clear hb hbox hg) | ((with_reducible refine qT (N := 3) rfl ?_); refine qR ?hg (N := 3) ?hd (cs := #[.int .i64 a1_0, .int .i64 a1_1, .int .i64 a1_2, .int .i64 a1_3, .int .i64 a1_4, .int .i64 a1_5]) (t := 31) ?hr ?_; (case hd => rfl); (case hg => rfl); (case hr => first | (go_simp; done) | (go_simp; rfl)); intro gb676 hg w30 hbox hb; have n0_ := Aside0.mk (bb BK675 hb); have n1_ := Aside0.mk (qJ bl hb); have n2_ := Aside0.mk (hbox); have n3_ := Aside0.mk ((gg hg)); have n4_ := Aside0.mk ((gg hg)); have n5_ := Aside0.mk ((nl BK675 hg)); have n6_ := Aside0.mk ((nr BK675 hg)); clear BK675; clear HB; have BK675 := n0_; have HB := n1_; have BK676 := n2_; have GW676 := n3_; have GE676 := n4_; have NB675_676 := n5_; have NB676_675 := n6_; clear n0_ n1_ n2_ n3_ n4_ n5_ n6_; clear hb hbox hg; have hnb31 := NB675_676.out; have hnc31 := NB676_675.out; have hcz32_0 := bc BK675 0; have hcz32_1 := bc BK675 1; have hcz32_2 := bc BK675 2; have hcz32_3 := bc BK675 3; have hcz32_4 := bc BK675 4; have hcz32_5 := bc BK675 5; have hfz32_0 := qA BK675.out 0; have hfz32_1 := qA BK675.out 1; have hfz32_2 := qA BK675.out 2; have hfz32_3 := qA BK675.out 3; have hfz32_4 := qA BK675.out 4; have hfz32_5 := qA BK675.out 5; have hcz33_0 := bc BK676 0; have hcz33_1 := bc BK676 1; have hcz33_2 := bc BK676 2; have hcz33_3 := bc BK676 3; have hcz33_4 := bc BK676 4; have hcz33_5 := bc BK676 5; have hfz33_0 := qA BK676.out 0; have hfz33_1 := qA BK676.out 1; have hfz33_2 := qA BK676.out 2; have hfz33_3 := qA BK676.out 3; have hfz33_4 := qA BK676.out 4; have hfz33_5 := qA BK676.out 5))
    go_ret
    exact ⟨by first | rfl | (simp [qN, qM] <;> rfl) | (simp [*, qN, qM] <;> rfl), bl⟩
  ·rw [if_neg c4] at H
   have c4b0 : (a0_1 == a1_1) = false := beq_eq_false_iff_ne.mpr c4
   have c4b1 : (a0_1 != a1_1) = true := bne_iff_ne.mpr c4
   obtain rfl := Option.some.inj H
   go_enter Tryd.func23, Tryd.ntmps23
   go_wp2_with (first | ((with_reducible refine qT (N := 2) rfl ?_); refine qR ?hg (N := 2) ?hd (cs := #[.int .i64 a0_0, .int .i64 a0_1, .int .i64 a0_2, .int .i64 a0_3, .int .i64 a0_4, .int .i64 a0_5]) (t := 31) ?hr ?_; (case hd => rfl); (case hg => rfl); (case hr => first | (go_simp; done) | (go_simp; rfl)); intro gb675 hg w34 hbox hb; have n0_ := Aside0.mk (qJ bl hb); have n1_ := Aside0.mk (hbox); have n2_ := Aside0.mk ((gg hg)); have n3_ := Aside0.mk ((gg hg)); clear HB; have HB := n0_; have BK675 := n1_; have GW675 := n2_; have GE675 := n3_; clear n0_ n1_ n2_ n3_; clear hb hbox hg) | ((with_reducible refine qT (N := 3) rfl ?_); refine qR ?hg (N := 3) ?hd (cs := #[.int .i64 a1_0, .int .i64 a1_1, .int .i64 a1_2, .int .i64 a1_3, .int .i64 a1_4, .int .i64 a1_5]) (t := 31) ?hr ?_; (case hd => rfl); (case hg => rfl); (case hr => first | (go_simp; done) | (go_simp; rfl)); intro gb676 hg w35 hbox hb; have n0_ := Aside0.mk (bb BK675 hb); have n1_ := Aside0.mk (qJ bl hb); have n2_ := Aside0.mk (hbox); have n3_ := Aside0.mk ((gg hg)); have n4_ := Aside0.mk ((gg hg)); have n5_ := Aside0.mk ((nl BK675 hg)); have n6_ := Aside0.mk ((nr BK675 hg)); clear BK675; clear HB; have BK675 := n0_; have HB := n1_; have BK676 := n2_; have GW676 := n3_; have GE676 := n4_; have NB675_676 := n5_; have NB676_675 := n6_; clear n0_ n1_ n2_ n3_ n4_ n5_ n6_; clear hb hbox hg; have hnb36 := NB675_676.out; have hnc36 := NB676_675.out; have hcz37_0 := bc BK675 0; have hcz37_1 := bc BK675 1; have hcz37_2 := bc BK675 2; have hcz37_3 := bc BK675 3; have hcz37_4 := bc BK675 4; have hcz37_5 := bc BK675 5; have hfz37_0 := qA BK675.out 0; have hfz37_1 := qA BK675.out 1; have hfz37_2 := qA BK675.out 2; have hfz37_3 := qA BK675.out 3; have hfz37_4 := qA BK675.out 4; have hfz37_5 := qA BK675.out 5; have hcz38_0 := bc BK676 0; have hcz38_1 := bc BK676 1; have hcz38_2 := bc BK676 2; have hcz38_3 := bc BK676 3; have hcz38_4 := bc BK676 4; have hcz38_5 := bc BK676 5; have hfz38_0 := qA BK676.out 0; have hfz38_1 := qA BK676.out 1; have hfz38_2 := qA BK676.out 2; have hfz38_3 := qA BK676.out 3; have hfz38_4 := qA BK676.out 4; have hfz38_5 := qA BK676.out 5))
   go_ret
   exact ⟨by first | rfl | (simp [qN, qM] <;> rfl) | (simp [*, qN, qM] <;> rfl), bl⟩
 ·rw [if_neg c3] at H
  have c3b0 : (a0_0 == a1_0) = false := beq_eq_false_iff_ne.mpr c3
  have c3b1 : (a0_0 != a1_0) = true := bne_iff_ne.mpr c3
  obtain rfl := Option.some.inj H
  go_enter Tryd.func23, Tryd.ntmps23
  go_wp2_with (first | ((with_reducible refine qT (N := 2) rfl ?_); refine qR ?hg (N := 2) ?hd (cs := #[.int .i64 a0_0, .int .i64 a0_1, .int .i64 a0_2, .int .i64 a0_3, .int .i64 a0_4, .int .i64 a0_5]) (t := 31) ?hr ?_; (case hd => rfl); (case hg => rfl); (case hr => first | (go_simp; done) | (go_simp; rfl)); intro gb675 hg w39 hbox hb; have n0_ := Aside0.mk (qJ bl hb); have n1_ := Aside0.mk (hbox); have n2_ := Aside0.mk ((gg hg)); have n3_ := Aside0.mk ((gg hg)); clear HB; have HB := n0_; have BK675 := n1_; have GW675 := n2_; have GE675 := n3_; clear n0_ n1_ n2_ n3_; clear hb hbox hg) | ((with_reducible refine qT (N := 3) rfl ?_); refine qR ?hg (N := 3) ?hd (cs := #[.int .i64 a1_0, .int .i64 a1_1, .int .i64 a1_2, .int .i64 a1_3, .int .i64 a1_4, .int .i64 a1_5]) (t := 31) ?hr ?_; (case hd => rfl); (case hg => rfl); (case hr => first | (go_simp; done) | (go_simp; rfl)); intro gb676 hg w40 hbox hb; have n0_ := Aside0.mk (bb BK675 hb); have n1_ := Aside0.mk (qJ bl hb); have n2_ := Aside0.mk (hbox); have n3_ := Aside0.mk ((gg hg)); have n4_ := Aside0.mk ((gg hg)); have n5_ := Aside0.mk ((nl BK675 hg)); have n6_ := Aside0.mk ((nr BK675 hg)); clear BK675; clear HB; have BK675 := n0_; have HB := n1_; have BK676 := n2_; have GW676 := n3_; have GE676 := n4_; have NB675_676 := n5_; have NB676_675 := n6_; clear n0_ n1_ n2_ n3_ n4_ n5_ n6_; clear hb hbox hg; have hnb41 := NB675_676.out; have hnc41 := NB676_675.out; have hcz42_0 := bc BK675 0; have hcz42_1 := bc BK675 1; have hcz42_2 := bc BK675 2; have hcz42_3 := bc BK675 3; have hcz42_4 := bc BK675 4; have hcz42_5 := bc BK675 5; have hfz42_0 := qA BK675.out 0; have hfz42_1 := qA BK675.out 1; have hfz42_2 := qA BK675.out 2; have hfz42_3 := qA BK675.out 3; have hfz42_4 := qA BK675.out 4; have hfz42_5 := qA BK675.out 5; have hcz43_0 := bc BK676 0; have hcz43_1 := bc BK676 1; have hcz43_2 := bc BK676 2; have hcz43_3 := bc BK676 3; have hcz43_4 := bc BK676 4; have hcz43_5 := bc BK676 5; have hfz43_0 := qA BK676.out 0; have hfz43_1 := qA BK676.out 1; have hfz43_2 := qA BK676.out 2; have hfz43_3 := qA BK676.out 3; have hfz43_4 := qA BK676.out 4; have hfz43_5 := qA BK676.out 5))
  go_ret
  exact ⟨by first | rfl | (simp [qN, qM] <;> rfl) | (simp [*, qN, qM] <;> rfl), bl⟩
def qMA.f (k : Nat) (a0 : ByteArray) : Option (Bool) := if (a0.size : Int) > 1048576 then (some true) else ((qfA.f k a0).bind fun bt677 => ((qgA.f k a0).bind fun bt685 => ((qlA.f bt685.1 bt685.2.1 bt685.2.2.1 bt685.2.2.2.1 bt685.2.2.2.2.1 bt685.2.2.2.2.2.1 bt677.1 bt677.2.1 bt677.2.2.1 bt677.2.2.2.1 bt677.2.2.2.2.1 bt677.2.2.2.2.2.1).bind fun t693 => (if t693 = true then (if (bt685.2.2.2.2.2.2 != bt677.2.2.2.2.2.2) = true then (some false) else (some true)) else (some false)))))
set_option maxHeartbeats 8000000 in
set_option maxRecDepth 100000 in
theorem qMA.calls (k : Nat) (a0 : ByteArray) (r : Bool) (w : World) (hL : Laid w) (h : qMA.f k a0 = some r) :
  Calls Tryd.prog 7 #[.string a0] w fun e w' => e = .returned (.bool r) ∧ Below w.heap.size w w' := by
 have hu31 := Tryd.underlying31
 have HLD := Aside0.mk hL
 clear hL
 have HB := Aside0.mk (Below.refl w.heap.size w)
 have H : (if (a0.size : Int) > 1048576 then (some true) else ((qfA.f k a0).bind fun bt677 => ((qgA.f k a0).bind fun bt685 => ((qlA.f bt685.1 bt685.2.1 bt685.2.2.1 bt685.2.2.2.1 bt685.2.2.2.2.1 bt685.2.2.2.2.2.1 bt677.1 bt677.2.1 bt677.2.2.1 bt677.2.2.2.1 bt677.2.2.2.2.1 bt677.2.2.2.2.2.1).bind fun t693 => (if t693 = true then (if (bt685.2.2.2.2.2.2 != bt677.2.2.2.2.2.2) = true then (some false) else (some true)) else (some false)))))) = some r := h
 clear h
 by_cases c2 : (a0.size : Int) > 1048576
 ·rw [if_pos c2] at H
  have c2b0 : decide (1048576 < (a0.size : Int)) = true := decide_eq_true c2
  have c2b1 : decide (1048576 < a0.size) = true := decide_eq_true (by omega)
  clear c2
  obtain rfl := Option.some.inj H
  go_enter Tryd.func7, Tryd.ntmps7
  go_wp2
  go_ret
  exact ⟨by first | rfl | (simp [qN, qM] <;> rfl) | (simp [*, qN, qM] <;> rfl), bl⟩
 ·rw [if_neg c2] at H
  have c2b0 : decide (1048576 < (a0.size : Int)) = false := decide_eq_false c2
  have c2b1 : decide (1048576 < a0.size) = false := decide_eq_false (by omega)
  clear c2
  replace H := Option.bind_eq_some_iff.mp H
  obtain ⟨⟨t677, t678, t679, t680, t681, t682, t683⟩, A30, H⟩ := H
  replace H : ((qgA.f k a0).bind fun bt685 => ((qlA.f bt685.1 bt685.2.1 bt685.2.2.1 bt685.2.2.2.1 bt685.2.2.2.2.1 bt685.2.2.2.2.2.1 t677 t678 t679 t680 t681 t682).bind fun t693 => (if t693 = true then (if (bt685.2.2.2.2.2.2 != t683) = true then (some false) else (some true)) else (some false)))) = some r := H
  have A3 := Aside0.mk A30
  clear A30
  replace H := Option.bind_eq_some_iff.mp H
  obtain ⟨⟨t685, t686, t687, t688, t689, t690, t691⟩, A40, H⟩ := H
  replace H : ((qlA.f t685 t686 t687 t688 t689 t690 t677 t678 t679 t680 t681 t682).bind fun t693 => (if t693 = true then (if (t691 != t683) = true then (some false) else (some true)) else (some false))) = some r := H
  have A4 := Aside0.mk A40
  clear A40
  replace H := Option.bind_eq_some_iff.mp H
  obtain ⟨t693, A50, H⟩ := H
  replace H : (if t693 = true then (if (t691 != t683) = true then (some false) else (some true)) else (some false)) = some r := H
  have A5 := Aside0.mk A50
  clear A50
  by_cases c6 : t693 = true
  ·subst c6
   have H1 : (if (t691 != t683) = true then (some false) else (some true)) = some r := by rw [if_pos rfl] at H; exact H
   clear H
   have H := H1
   clear H1
   by_cases c7 : (t691 != t683) = true
   ·rw [if_pos c7] at H
    have c7b0 : (t691 != t683) = true := c7
    (try (have c7b1 : decide (t691 = t683) = false := by simpa using c7))
    (try (have c7b2 : (t691 == t683) = false := by simpa using c7))
    (try (have c7b3 : ¬ (t691 = t683) := by simpa using c7))
    clear c7
    obtain rfl := Option.some.inj H
    go_enter Tryd.func7, Tryd.ntmps7
    go_wp2_with (first | ((with_reducible refine qW (f := 21) rfl ?_); refine qNA (some 12) rfl rfl Tryd.func21 (by kernel_rfl) rfl #[.string a0] rfl (by (try simp only [List.map_toArray, List.map_cons, List.map_nil]); first | done | rfl | (simp only [List.length_drop, List.length_take]; rfl)) ?_; (with_reducible refine (qfA.calls k a0 t677 t678 t679 t680 t681 t682 t683 _ A3.out).mono ?_); rintro e w8 ⟨rfl, hb⟩; refine ⟨_, rfl, ?_⟩; have n0_ := Aside0.mk (qJ bl hb); clear HB; have HB := n0_; clear n0_; (try clear hb); (try clear hb2); (try clear hk); (try clear hi)) | ((with_reducible refine qT (N := 3) rfl ?_); refine qR ?hg (N := 3) ?hd (cs := #[.int .i64 0, .int .i64 0, .int .i64 0, .int .i64 0, .int .i64 0, .int .i64 0]) (t := 31) ?hr ?_; (case hd => rfl); (case hg => rfl); (case hr => first | (go_simp; done) | (go_simp; rfl)); intro gb684 hg w9 hbox hb; have n0_ := Aside0.mk (qJ bl hb); have n1_ := Aside0.mk (hbox); have n2_ := Aside0.mk ((gg hg)); have n3_ := Aside0.mk ((gg hg)); clear HB; have HB := n0_; have BK684 := n1_; have GW684 := n2_; have GE684 := n3_; clear n0_ n1_ n2_ n3_; clear hb hbox hg; have hcz10_0 := bc BK684 0; have hcz10_1 := bc BK684 1; have hcz10_2 := bc BK684 2; have hcz10_3 := bc BK684 3; have hcz10_4 := bc BK684 4; have hcz10_5 := bc BK684 5; have hfz10_0 := qA BK684.out 0; have hfz10_1 := qA BK684.out 1; have hfz10_2 := qA BK684.out 2; have hfz10_3 := qA BK684.out 3; have hfz10_4 := qA BK684.out 4; have hfz10_5 := qA BK684.out 5) | ((with_reducible refine qW (f := 22) rfl ?_); refine qNA (some 17) rfl rfl Tryd.func22 (by kernel_rfl) rfl #[.string a0] rfl (by (try simp only [List.map_toArray, List.map_cons, List.map_nil]); first | done | rfl | (simp only [List.length_drop, List.length_take]; rfl)) ?_; (with_reducible refine (qgA.calls k a0 t685 t686 t687 t688 t689 t690 t691 _ ?side1 A4.out).mono ?_); (case side1 => first | (with_reducible exact HLD.out) | exact Laid.below HLD.out (by repeat (first | (with_reducible first | exact HB.out | apply qt | apply qBA | apply qg | refine qb ?_ (Aside0.out (by with_reducible assumption))) | exact HB.out))); rintro e w11 ⟨rfl, hb⟩; refine ⟨_, rfl, ?_⟩; have n0_ := Aside0.mk (qZA (g := gb684) (o := .cells #[.int .i64 t677, .int .i64 t678, .int .i64 t679, .int .i64 t680, .int .i64 t681, .int .i64 t682] 31 (0, 0)) (by (with_reducible repeat (first | refine qD ?_ _ | refine qE ?_ | refine qC ?_ _)); refine qL (cs := #[.int .i64 t677, .int .i64 t678, .int .i64 t679, .int .i64 t680, .int .i64 t681, .int .i64 0]) ?_ 5 _ rfl; (with_reducible repeat (first | refine qD ?_ _ | refine qE ?_ | refine qC ?_ _)); refine qL (cs := #[.int .i64 t677, .int .i64 t678, .int .i64 t679, .int .i64 t680, .int .i64 0, .int .i64 0]) ?_ 4 _ rfl; (with_reducible repeat (first | refine qD ?_ _ | refine qE ?_ | refine qC ?_ _)); refine qL (cs := #[.int .i64 t677, .int .i64 t678, .int .i64 t679, .int .i64 0, .int .i64 0, .int .i64 0]) ?_ 3 _ rfl; (with_reducible repeat (first | refine qD ?_ _ | refine qE ?_ | refine qC ?_ _)); refine qL (cs := #[.int .i64 t677, .int .i64 t678, .int .i64 0, .int .i64 0, .int .i64 0, .int .i64 0]) ?_ 2 _ rfl; (with_reducible repeat (first | refine qD ?_ _ | refine qE ?_ | refine qC ?_ _)); refine qL (cs := #[.int .i64 t677, .int .i64 0, .int .i64 0, .int .i64 0, .int .i64 0, .int .i64 0]) ?_ 1 _ rfl; (with_reducible repeat (first | refine qD ?_ _ | refine qE ?_ | refine qC ?_ _)); refine qL (cs := #[.int .i64 0, .int .i64 0, .int .i64 0, .int .i64 0, .int .i64 0, .int .i64 0]) ?_ 0 _ rfl; (with_reducible repeat (first | refine qD ?_ _ | refine qE ?_ | refine qC ?_ _)); exact BK684.out) hb); have n1_ := Aside0.mk (qJ bl hb); clear BK684; clear HB; have BK684 := n0_; have HB := n1_; clear n0_ n1_; (try clear hb); (try clear hb2); (try clear hk); (try clear hi)) | ((with_reducible refine qT (N := 5) rfl ?_); refine qR ?hg (N := 5) ?hd (cs := #[.int .i64 0, .int .i64 0, .int .i64 0, .int .i64 0, .int .i64 0, .int .i64 0]) (t := 31) ?hr ?_; (case hd => rfl); (case hg => rfl); (case hr => first | (go_simp; done) | (go_simp; rfl)); intro gb692 hg w12 hbox hb; have n0_ := Aside0.mk (bb BK684 hb); have n1_ := Aside0.mk (qJ bl hb); have n2_ := Aside0.mk (hbox); have n3_ := Aside0.mk ((gg hg)); have n4_ := Aside0.mk ((gg hg)); have n5_ := Aside0.mk ((nl BK684 hg)); have n6_ := Aside0.mk ((nr BK684 hg)); clear BK684; clear HB; have BK684 := n0_; have HB := n1_; have BK692 := n2_; have GW692 := n3_; have GE692 := n4_; have NB684_692 := n5_; have NB692_684 := n6_; clear n0_ n1_ n2_ n3_ n4_ n5_ n6_; clear hb hbox hg; have hnb13 := NB692_684.out; have hnc13 := NB684_692.out; have hcz14_0 := bc BK692 0; have hcz14_1 := bc BK692 1; have hcz14_2 := bc BK692 2; have hcz14_3 := bc BK692 3; have hcz14_4 := bc BK692 4; have hcz14_5 := bc BK692 5; have hfz14_0 := qA BK692.out 0; have hfz14_1 := qA BK692.out 1; have hfz14_2 := qA BK692.out 2; have hfz14_3 := qA BK692.out 3; have hfz14_4 := qA BK692.out 4; have hfz14_5 := qA BK692.out 5; have hcz15_0 := bc BK684 0; have hcz15_1 := bc BK684 1; have hcz15_2 := bc BK684 2; have hcz15_3 := bc BK684 3; have hcz15_4 := bc BK684 4; have hcz15_5 := bc BK684 5; have hfz15_0 := qA BK684.out 0; have hfz15_1 := qA BK684.out 1; have hfz15_2 := qA BK684.out 2; have hfz15_3 := qA BK684.out 3; have hfz15_4 := qA BK684.out 4; have hfz15_5 := qA BK684.out 5) | ((with_reducible refine qW (f := 23) rfl ?_); refine qNA (some 22) rfl rfl Tryd.func23 (by kernel_rfl) rfl #[.agg #[.int .i64 t685, .int .i64 t686, .int .i64 t687, .int .i64 t688, .int .i64 t689, .int .i64 t690], .agg #[.int .i64 t677, .int .i64 t678, .int .i64 t679, .int .i64 t680, .int .i64 t681, .int .i64 t682]] rfl (by (try simp only [List.map_toArray, List.map_cons, List.map_nil]); first | done | rfl | (simp only [List.length_drop, List.length_take]; rfl)) ?_; (with_reducible refine (qlA.calls t685 t686 t687 t688 t689 t690 t677 t678 t679 t680 t681 t682 true _ A5.out).mono ?_); rintro e w16 ⟨rfl, hb⟩; refine ⟨_, rfl, ?_⟩; have n0_ := Aside0.mk (qZA (g := gb684) (o := .cells #[.int .i64 t677, .int .i64 t678, .int .i64 t679, .int .i64 t680, .int .i64 t681, .int .i64 t682] 31 (0, 0)) (by (with_reducible repeat (first | refine qD ?_ _ | refine qE ?_ | refine qC ?_ _)); refine ql ?_ NB684_692.out _; (with_reducible repeat (first | refine qD ?_ _ | refine qE ?_ | refine qC ?_ _)); refine ql ?_ NB684_692.out _; (with_reducible repeat (first | refine qD ?_ _ | refine qE ?_ | refine qC ?_ _)); refine ql ?_ NB684_692.out _; (with_reducible repeat (first | refine qD ?_ _ | refine qE ?_ | refine qC ?_ _)); refine ql ?_ NB684_692.out _; (with_reducible repeat (first | refine qD ?_ _ | refine qE ?_ | refine qC ?_ _)); refine ql ?_ NB684_692.out _; (with_reducible repeat (first | refine qD ?_ _ | refine qE ?_ | refine qC ?_ _)); refine ql ?_ NB684_692.out _; (with_reducible repeat (first | refine qD ?_ _ | refine qE ?_ | refine qC ?_ _)); exact BK684.out) hb); have n1_ := Aside0.mk (qZA (g := gb692) (o := .cells #[.int .i64 t685, .int .i64 t686, .int .i64 t687, .int .i64 t688, .int .i64 t689, .int .i64 t690] 31 (0, 0)) (by (with_reducible repeat (first | refine qD ?_ _ | refine qE ?_ | refine qC ?_ _)); refine qL (cs := #[.int .i64 t685, .int .i64 t686, .int .i64 t687, .int .i64 t688, .int .i64 t689, .int .i64 0]) ?_ 5 _ rfl; (with_reducible repeat (first | refine qD ?_ _ | refine qE ?_ | refine qC ?_ _)); refine qL (cs := #[.int .i64 t685, .int .i64 t686, .int .i64 t687, .int .i64 t688, .int .i64 0, .int .i64 0]) ?_ 4 _ rfl; (with_reducible repeat (first | refine qD ?_ _ | refine qE ?_ | refine qC ?_ _)); refine qL (cs := #[.int .i64 t685, .int .i64 t686, .int .i64 t687, .int .i64 0, .int .i64 0, .int .i64 0]) ?_ 3 _ rfl; (with_reducible repeat (first | refine qD ?_ _ | refine qE ?_ | refine qC ?_ _)); refine qL (cs := #[.int .i64 t685, .int .i64 t686, .int .i64 0, .int .i64 0, .int .i64 0, .int .i64 0]) ?_ 2 _ rfl; (with_reducible repeat (first | refine qD ?_ _ | refine qE ?_ | refine qC ?_ _)); refine qL (cs := #[.int .i64 t685, .int .i64 0, .int .i64 0, .int .i64 0, .int .i64 0, .int .i64 0]) ?_ 1 _ rfl; (with_reducible repeat (first | refine qD ?_ _ | refine qE ?_ | refine qC ?_ _)); refine qL (cs := #[.int .i64 0, .int .i64 0, .int .i64 0, .int .i64 0, .int .i64 0, .int .i64 0]) ?_ 0 _ rfl; (with_reducible repeat (first | refine qD ?_ _ | refine qE ?_ | refine qC ?_ _)); exact BK692.out) hb); have n2_ := Aside0.mk (qJ bl hb); clear BK684; clear BK692; clear HB; have BK684 := n0_; have BK692 := n1_; have HB := n2_; clear n0_ n1_ n2_; (try clear hb); (try clear hb2); (try clear hk); (try clear hi)))
    go_ret
    exact ⟨by first | rfl | (simp [qN, qM] <;> rfl) | (simp [*, qN, qM] <;> rfl), bl⟩
   ·rw [if_neg c7] at H
    have c7b0 : (t691 != t683) = false := by simpa using c7
    (try (have c7b1 : decide (t691 = t683) = true := by simpa using c7))
    (try (have c7b2 : (t691 == t683) = true := by simpa using c7))
    clear c7
    obtain rfl := Option.some.inj H
    go_enter Tryd.func7, Tryd.ntmps7
    go_wp2_with (first | ((with_reducible refine qW (f := 21) rfl ?_); refine qNA (some 12) rfl rfl Tryd.func21 (by kernel_rfl) rfl #[.string a0] rfl (by (try simp only [List.map_toArray, List.map_cons, List.map_nil]); first | done | rfl | (simp only [List.length_drop, List.length_take]; rfl)) ?_; (with_reducible refine (qfA.calls k a0 t677 t678 t679 t680 t681 t682 t683 _ A3.out).mono ?_); rintro e w17 ⟨rfl, hb⟩; refine ⟨_, rfl, ?_⟩; have n0_ := Aside0.mk (qJ bl hb); clear HB; have HB := n0_; clear n0_; (try clear hb); (try clear hb2); (try clear hk); (try clear hi)) | ((with_reducible refine qT (N := 3) rfl ?_); refine qR ?hg (N := 3) ?hd (cs := #[.int .i64 0, .int .i64 0, .int .i64 0, .int .i64 0, .int .i64 0, .int .i64 0]) (t := 31) ?hr ?_; (case hd => rfl); (case hg => rfl); (case hr => first | (go_simp; done) | (go_simp; rfl)); intro gb684 hg w18 hbox hb; have n0_ := Aside0.mk (qJ bl hb); have n1_ := Aside0.mk (hbox); have n2_ := Aside0.mk ((gg hg)); have n3_ := Aside0.mk ((gg hg)); clear HB; have HB := n0_; have BK684 := n1_; have GW684 := n2_; have GE684 := n3_; clear n0_ n1_ n2_ n3_; clear hb hbox hg; have hcz19_0 := bc BK684 0; have hcz19_1 := bc BK684 1; have hcz19_2 := bc BK684 2; have hcz19_3 := bc BK684 3; have hcz19_4 := bc BK684 4; have hcz19_5 := bc BK684 5; have hfz19_0 := qA BK684.out 0; have hfz19_1 := qA BK684.out 1; have hfz19_2 := qA BK684.out 2; have hfz19_3 := qA BK684.out 3; have hfz19_4 := qA BK684.out 4; have hfz19_5 := qA BK684.out 5) | ((with_reducible refine qW (f := 22) rfl ?_); refine qNA (some 17) rfl rfl Tryd.func22 (by kernel_rfl) rfl #[.string a0] rfl (by (try simp only [List.map_toArray, List.map_cons, List.map_nil]); first | done | rfl | (simp only [List.length_drop, List.length_take]; rfl)) ?_; (with_reducible refine (qgA.calls k a0 t685 t686 t687 t688 t689 t690 t691 _ ?side1 A4.out).mono ?_); (case side1 => first | (with_reducible exact HLD.out) | exact Laid.below HLD.out (by repeat (first | (with_reducible first | exact HB.out | apply qt | apply qBA | apply qg | refine qb ?_ (Aside0.out (by with_reducible assumption))) | exact HB.out))); rintro e w20 ⟨rfl, hb⟩; refine ⟨_, rfl, ?_⟩; have n0_ := Aside0.mk (qZA (g := gb684) (o := .cells #[.int .i64 t677, .int .i64 t678, .int .i64 t679, .int .i64 t680, .int .i64 t681, .int .i64 t682] 31 (0, 0)) (by (with_reducible repeat (first | refine qD ?_ _ | refine qE ?_ | refine qC ?_ _)); refine qL (cs := #[.int .i64 t677, .int .i64 t678, .int .i64 t679, .int .i64 t680, .int .i64 t681, .int .i64 0]) ?_ 5 _ rfl; (with_reducible repeat (first | refine qD ?_ _ | refine qE ?_ | refine qC ?_ _)); refine qL (cs := #[.int .i64 t677, .int .i64 t678, .int .i64 t679, .int .i64 t680, .int .i64 0, .int .i64 0]) ?_ 4 _ rfl; (with_reducible repeat (first | refine qD ?_ _ | refine qE ?_ | refine qC ?_ _)); refine qL (cs := #[.int .i64 t677, .int .i64 t678, .int .i64 t679, .int .i64 0, .int .i64 0, .int .i64 0]) ?_ 3 _ rfl; (with_reducible repeat (first | refine qD ?_ _ | refine qE ?_ | refine qC ?_ _)); refine qL (cs := #[.int .i64 t677, .int .i64 t678, .int .i64 0, .int .i64 0, .int .i64 0, .int .i64 0]) ?_ 2 _ rfl; (with_reducible repeat (first | refine qD ?_ _ | refine qE ?_ | refine qC ?_ _)); refine qL (cs := #[.int .i64 t677, .int .i64 0, .int .i64 0, .int .i64 0, .int .i64 0, .int .i64 0]) ?_ 1 _ rfl; (with_reducible repeat (first | refine qD ?_ _ | refine qE ?_ | refine qC ?_ _)); refine qL (cs := #[.int .i64 0, .int .i64 0, .int .i64 0, .int .i64 0, .int .i64 0, .int .i64 0]) ?_ 0 _ rfl; (with_reducible repeat (first | refine qD ?_ _ | refine qE ?_ | refine qC ?_ _)); exact BK684.out) hb); have n1_ := Aside0.mk (qJ bl hb); clear BK684; clear HB; have BK684 := n0_; have HB := n1_; clear n0_ n1_; (try clear hb); (try clear hb2); (try clear hk); (try clear hi)) | ((with_reducible refine qT (N := 5) rfl ?_); refine qR ?hg (N := 5) ?hd (cs := #[.int .i64 0, .int .i64 0, .int .i64 0, .int .i64 0, .int .i64 0, .int .i64 0]) (t := 31) ?hr ?_; (case hd => rfl); (case hg => rfl); (case hr => first | (go_simp; done) | (go_simp; rfl)); intro gb692 hg w21 hbox hb; have n0_ := Aside0.mk (bb BK684 hb); have n1_ := Aside0.mk (qJ bl hb); have n2_ := Aside0.mk (hbox); have n3_ := Aside0.mk ((gg hg)); have n4_ := Aside0.mk ((gg hg)); have n5_ := Aside0.mk ((nl BK684 hg)); have n6_ := Aside0.mk ((nr BK684 hg)); clear BK684; clear HB; have BK684 := n0_; have HB := n1_; have BK692 := n2_; have GW692 := n3_; have GE692 := n4_; have NB684_692 := n5_; have NB692_684 := n6_; clear n0_ n1_ n2_ n3_ n4_ n5_ n6_; clear hb hbox hg; have hnb22 := NB692_684.out; have hnc22 := NB684_692.out; have hcz23_0 := bc BK692 0; have hcz23_1 := bc BK692 1; have hcz23_2 := bc BK692 2; have hcz23_3 := bc BK692 3; have hcz23_4 := bc BK692 4; have hcz23_5 := bc BK692 5; have hfz23_0 := qA BK692.out 0; have hfz23_1 := qA BK692.out 1; have hfz23_2 := qA BK692.out 2; have hfz23_3 := qA BK692.out 3; have hfz23_4 := qA BK692.out 4; have hfz23_5 := qA BK692.out 5; have hcz24_0 := bc BK684 0; have hcz24_1 := bc BK684 1; have hcz24_2 := bc BK684 2; have hcz24_3 := bc BK684 3; have hcz24_4 := bc BK684 4; have hcz24_5 := bc BK684 5; have hfz24_0 := qA BK684.out 0; have hfz24_1 := qA BK684.out 1; have hfz24_2 := qA BK684.out 2; have hfz24_3 := qA BK684.out 3; have hfz24_4 := qA BK684.out 4; have hfz24_5 := qA BK684.out 5) | ((with_reducible refine qW (f := 23) rfl ?_); refine qNA (some 22) rfl rfl Tryd.func23 (by kernel_rfl) rfl #[.agg #[.int .i64 t685, .int .i64 t686, .int .i64 t687, .int .i64 t688, .int .i64 t689, .int .i64 t690], .agg #[.int .i64 t677, .int .i64 t678, .int .i64 t679, .int .i64 t680, .int .i64 t681, .int .i64 t682]] rfl (by (try simp only [List.map_toArray, List.map_cons, List.map_nil]); first | done | rfl | (simp only [List.length_drop, List.length_take]; rfl)) ?_; (with_reducible refine (qlA.calls t685 t686 t687 t688 t689 t690 t677 t678 t679 t680 t681 t682 true _ A5.out).mono ?_); rintro e w25 ⟨rfl, hb⟩; refine ⟨_, rfl, ?_⟩; have n0_ := Aside0.mk (qZA (g := gb684) (o := .cells #[.int .i64 t677, .int .i64 t678, .int .i64 t679, .int .i64 t680, .int .i64 t681, .int .i64 t682] 31 (0, 0)) (by (with_reducible repeat (first | refine qD ?_ _ | refine qE ?_ | refine qC ?_ _)); refine ql ?_ NB684_692.out _; (with_reducible repeat (first | refine qD ?_ _ | refine qE ?_ | refine qC ?_ _)); refine ql ?_ NB684_692.out _; (with_reducible repeat (first | refine qD ?_ _ | refine qE ?_ | refine qC ?_ _)); refine ql ?_ NB684_692.out _; (with_reducible repeat (first | refine qD ?_ _ | refine qE ?_ | refine qC ?_ _)); refine ql ?_ NB684_692.out _; (with_reducible repeat (first | refine qD ?_ _ | refine qE ?_ | refine qC ?_ _)); refine ql ?_ NB684_692.out _; (with_reducible repeat (first | refine qD ?_ _ | refine qE ?_ | refine qC ?_ _)); refine ql ?_ NB684_692.out _; (with_reducible repeat (first | refine qD ?_ _ | refine qE ?_ | refine qC ?_ _)); exact BK684.out) hb); have n1_ := Aside0.mk (qZA (g := gb692) (o := .cells #[.int .i64 t685, .int .i64 t686, .int .i64 t687, .int .i64 t688, .int .i64 t689, .int .i64 t690] 31 (0, 0)) (by (with_reducible repeat (first | refine qD ?_ _ | refine qE ?_ | refine qC ?_ _)); refine qL (cs := #[.int .i64 t685, .int .i64 t686, .int .i64 t687, .int .i64 t688, .int .i64 t689, .int .i64 0]) ?_ 5 _ rfl; (with_reducible repeat (first | refine qD ?_ _ | refine qE ?_ | refine qC ?_ _)); refine qL (cs := #[.int .i64 t685, .int .i64 t686, .int .i64 t687, .int .i64 t688, .int .i64 0, .int .i64 0]) ?_ 4 _ rfl; (with_reducible repeat (first | refine qD ?_ _ | refine qE ?_ | refine qC ?_ _)); refine qL (cs := #[.int .i64 t685, .int .i64 t686, .int .i64 t687, .int .i64 0, .int .i64 0, .int .i64 0]) ?_ 3 _ rfl; (with_reducible repeat (first | refine qD ?_ _ | refine qE ?_ | refine qC ?_ _)); refine qL (cs := #[.int .i64 t685, .int .i64 t686, .int .i64 0, .int .i64 0, .int .i64 0, .int .i64 0]) ?_ 2 _ rfl; (with_reducible repeat (first | refine qD ?_ _ | refine qE ?_ | refine qC ?_ _)); refine qL (cs := #[.int .i64 t685, .int .i64 0, .int .i64 0, .int .i64 0, .int .i64 0, .int .i64 0]) ?_ 1 _ rfl; (with_reducible repeat (first | refine qD ?_ _ | refine qE ?_ | refine qC ?_ _)); refine qL (cs := #[.int .i64 0, .int .i64 0, .int .i64 0, .int .i64 0, .int .i64 0, .int .i64 0]) ?_ 0 _ rfl; (with_reducible repeat (first | refine qD ?_ _ | refine qE ?_ | refine qC ?_ _)); exact BK692.out) hb); have n2_ := Aside0.mk (qJ bl hb); clear BK684; clear BK692; clear HB; have BK684 := n0_; have BK692 := n1_; have HB := n2_; clear n0_ n1_ n2_; (try clear hb); (try clear hb2); (try clear hk); (try clear hi)))
    go_ret
    exact ⟨by first | rfl | (simp [qN, qM] <;> rfl) | (simp [*, qN, qM] <;> rfl), bl⟩
  ·replace c6 := Bool.eq_false_iff.mpr c6
   subst c6
   have H1 : (some false) = some r := by rw [if_neg (show ¬ (false = true) by decide)] at H; exact H
   clear H
   have H := H1
   clear H1
   obtain rfl := Option.some.inj H
   go_enter Tryd.func7, Tryd.ntmps7
   go_wp2_with (first | ((with_reducible refine qW (f := 21) rfl ?_); refine qNA (some 12) rfl rfl Tryd.func21 (by kernel_rfl) rfl #[.string a0] rfl (by (try simp only [List.map_toArray, List.map_cons, List.map_nil]); first | done | rfl | (simp only [List.length_drop, List.length_take]; rfl)) ?_; (with_reducible refine (qfA.calls k a0 t677 t678 t679 t680 t681 t682 t683 _ A3.out).mono ?_); rintro e w26 ⟨rfl, hb⟩; refine ⟨_, rfl, ?_⟩; have n0_ := Aside0.mk (qJ bl hb); clear HB; have HB := n0_; clear n0_; (try clear hb); (try clear hb2); (try clear hk); (try clear hi)) | ((with_reducible refine qT (N := 3) rfl ?_); refine qR ?hg (N := 3) ?hd (cs := #[.int .i64 0, .int .i64 0, .int .i64 0, .int .i64 0, .int .i64 0, .int .i64 0]) (t := 31) ?hr ?_; (case hd => rfl); (case hg => rfl); (case hr => first | (go_simp; done) | (go_simp; rfl)); intro gb684 hg w27 hbox hb; have n0_ := Aside0.mk (qJ bl hb); have n1_ := Aside0.mk (hbox); have n2_ := Aside0.mk ((gg hg)); have n3_ := Aside0.mk ((gg hg)); clear HB; have HB := n0_; have BK684 := n1_; have GW684 := n2_; have GE684 := n3_; clear n0_ n1_ n2_ n3_; clear hb hbox hg; have hcz28_0 := bc BK684 0; have hcz28_1 := bc BK684 1; have hcz28_2 := bc BK684 2; have hcz28_3 := bc BK684 3; have hcz28_4 := bc BK684 4; have hcz28_5 := bc BK684 5; have hfz28_0 := qA BK684.out 0; have hfz28_1 := qA BK684.out 1; have hfz28_2 := qA BK684.out 2; have hfz28_3 := qA BK684.out 3; have hfz28_4 := qA BK684.out 4; have hfz28_5 := qA BK684.out 5) | ((with_reducible refine qW (f := 22) rfl ?_); refine qNA (some 17) rfl rfl Tryd.func22 (by kernel_rfl) rfl #[.string a0] rfl (by (try simp only [List.map_toArray, List.map_cons, List.map_nil]); first | done | rfl | (simp only [List.length_drop, List.length_take]; rfl)) ?_; (with_reducible refine (qgA.calls k a0 t685 t686 t687 t688 t689 t690 t691 _ ?side1 A4.out).mono ?_); (case side1 => first | (with_reducible exact HLD.out) | exact Laid.below HLD.out (by repeat (first | (with_reducible first | exact HB.out | apply qt | apply qBA | apply qg | refine qb ?_ (Aside0.out (by with_reducible assumption))) | exact HB.out))); rintro e w29 ⟨rfl, hb⟩; refine ⟨_, rfl, ?_⟩; have n0_ := Aside0.mk (qZA (g := gb684) (o := .cells #[.int .i64 t677, .int .i64 t678, .int .i64 t679, .int .i64 t680, .int .i64 t681, .int .i64 t682] 31 (0, 0)) (by (with_reducible repeat (first | refine qD ?_ _ | refine qE ?_ | refine qC ?_ _)); refine qL (cs := #[.int .i64 t677, .int .i64 t678, .int .i64 t679, .int .i64 t680, .int .i64 t681, .int .i64 0]) ?_ 5 _ rfl; (with_reducible repeat (first | refine qD ?_ _ | refine qE ?_ | refine qC ?_ _)); refine qL (cs := #[.int .i64 t677, .int .i64 t678, .int .i64 t679, .int .i64 t680, .int .i64 0, .int .i64 0]) ?_ 4 _ rfl; (with_reducible repeat (first | refine qD ?_ _ | refine qE ?_ | refine qC ?_ _)); refine qL (cs := #[.int .i64 t677, .int .i64 t678, .int .i64 t679, .int .i64 0, .int .i64 0, .int .i64 0]) ?_ 3 _ rfl; (with_reducible repeat (first | refine qD ?_ _ | refine qE ?_ | refine qC ?_ _)); refine qL (cs := #[.int .i64 t677, .int .i64 t678, .int .i64 0, .int .i64 0, .int .i64 0, .int .i64 0]) ?_ 2 _ rfl; (with_reducible repeat (first | refine qD ?_ _ | refine qE ?_ | refine qC ?_ _)); refine qL (cs := #[.int .i64 t677, .int .i64 0, .int .i64 0, .int .i64 0, .int .i64 0, .int .i64 0]) ?_ 1 _ rfl; (with_reducible repeat (first | refine qD ?_ _ | refine qE ?_ | refine qC ?_ _)); refine qL (cs := #[.int .i64 0, .int .i64 0, .int .i64 0, .int .i64 0, .int .i64 0, .int .i64 0]) ?_ 0 _ rfl; (with_reducible repeat (first | refine qD ?_ _ | refine qE ?_ | refine qC ?_ _)); exact BK684.out) hb); have n1_ := Aside0.mk (qJ bl hb); clear BK684; clear HB; have BK684 := n0_; have HB := n1_; clear n0_ n1_; (try clear hb); (try clear hb2); (try clear hk); (try clear hi)) | ((with_reducible refine qT (N := 5) rfl ?_); refine qR ?hg (N := 5) ?hd (cs := #[.int .i64 0, .int .i64 0, .int .i64 0, .int .i64 0, .int .i64 0, .int .i64 0]) (t := 31) ?hr ?_; (case hd => rfl); (case hg => rfl); (case hr => first | (go_simp; done) | (go_simp; rfl)); intro gb692 hg w30 hbox hb; have n0_ := Aside0.mk (bb BK684 hb); have n1_ := Aside0.mk (qJ bl hb); have n2_ := Aside0.mk (hbox); have n3_ := Aside0.mk ((gg hg)); have n4_ := Aside0.mk ((gg hg)); have n5_ := Aside0.mk ((nl BK684 hg)); have n6_ := Aside0.mk ((nr BK684 hg)); clear BK684; clear HB; have BK684 := n0_; have HB := n1_; have BK692 := n2_; have GW692 := n3_; have GE692 := n4_; have NB684_692 := n5_; have NB692_684 := n6_; clear n0_ n1_ n2_ n3_ n4_ n5_ n6_; clear hb hbox hg; have hnb31 := NB692_684.out; have hnc31 := NB684_692.out; have hcz32_0 := bc BK692 0; have hcz32_1 := bc BK692 1; have hcz32_2 := bc BK692 2; have hcz32_3 := bc BK692 3; have hcz32_4 := bc BK692 4; have hcz32_5 := bc BK692 5; have hfz32_0 := qA BK692.out 0; have hfz32_1 := qA BK692.out 1; have hfz32_2 := qA BK692.out 2; have hfz32_3 := qA BK692.out 3; have hfz32_4 := qA BK692.out 4; have hfz32_5 := qA BK692.out 5; have hcz33_0 := bc BK684 0; have hcz33_1 := bc BK684 1; have hcz33_2 := bc BK684 2; have hcz33_3 := bc BK684 3; have hcz33_4 := bc BK684 4; have hcz33_5 := bc BK684 5; have hfz33_0 := qA BK684.out 0; have hfz33_1 := qA BK684.out 1; have hfz33_2 := qA BK684.out 2; have hfz33_3 := qA BK684.out 3; have hfz33_4 := qA BK684.out 4; have hfz33_5 := qA BK684.out 5) | ((with_reducible refine qW (f := 23) rfl ?_); refine qNA (some 22) rfl rfl Tryd.func23 (by kernel_rfl) rfl #[.agg #[.int .i64 t685, .int .i64 t686, .int .i64 t687, .int .i64 t688, .int .i64 t689, .int .i64 t690], .agg #[.int .i64 t677, .int .i64 t678, .int .i64 t679, .int .i64 t680, .int .i64 t681, .int .i64 t682]] rfl (by (try simp only [List.map_toArray, List.map_cons, List.map_nil]); first | done | rfl | (simp only [List.length_drop, List.length_take]; rfl)) ?_; (with_reducible refine (qlA.calls t685 t686 t687 t688 t689 t690 t677 t678 t679 t680 t681 t682 false _ A5.out).mono ?_); rintro e w34 ⟨rfl, hb⟩; refine ⟨_, rfl, ?_⟩; have n0_ := Aside0.mk (qZA (g := gb684) (o := .cells #[.int .i64 t677, .int .i64 t678, .int .i64 t679, .int .i64 t680, .int .i64 t681, .int .i64 t682] 31 (0, 0)) (by (with_reducible repeat (first | refine qD ?_ _ | refine qE ?_ | refine qC ?_ _)); refine ql ?_ NB684_692.out _; (with_reducible repeat (first | refine qD ?_ _ | refine qE ?_ | refine qC ?_ _)); refine ql ?_ NB684_692.out _; (with_reducible repeat (first | refine qD ?_ _ | refine qE ?_ | refine qC ?_ _)); refine ql ?_ NB684_692.out _; (with_reducible repeat (first | refine qD ?_ _ | refine qE ?_ | refine qC ?_ _)); refine ql ?_ NB684_692.out _; (with_reducible repeat (first | refine qD ?_ _ | refine qE ?_ | refine qC ?_ _)); refine ql ?_ NB684_692.out _; (with_reducible repeat (first | refine qD ?_ _ | refine qE ?_ | refine qC ?_ _)); refine ql ?_ NB684_692.out _; (with_reducible repeat (first | refine qD ?_ _ | refine qE ?_ | refine qC ?_ _)); exact BK684.out) hb); have n1_ := Aside0.mk (qZA (g := gb692) (o := .cells #[.int .i64 t685, .int .i64 t686, .int .i64 t687, .int .i64 t688, .int .i64 t689, .int .i64 t690] 31 (0, 0)) (by (with_reducible repeat (first | refine qD ?_ _ | refine qE ?_ | refine qC ?_ _)); refine qL (cs := #[.int .i64 t685, .int .i64 t686, .int .i64 t687, .int .i64 t688, .int .i64 t689, .int .i64 0]) ?_ 5 _ rfl; (with_reducible repeat (first | refine qD ?_ _ | refine qE ?_ | refine qC ?_ _)); refine qL (cs := #[.int .i64 t685, .int .i64 t686, .int .i64 t687, .int .i64 t688, .int .i64 0, .int .i64 0]) ?_ 4 _ rfl; (with_reducible repeat (first | refine qD ?_ _ | refine qE ?_ | refine qC ?_ _)); refine qL (cs := #[.int .i64 t685, .int .i64 t686, .int .i64 t687, .int .i64 0, .int .i64 0, .int .i64 0]) ?_ 3 _ rfl; (with_reducible repeat (first | refine qD ?_ _ | refine qE ?_ | refine qC ?_ _)); refine qL (cs := #[.int .i64 t685, .int .i64 t686, .int .i64 0, .int .i64 0, .int .i64 0, .int .i64 0]) ?_ 2 _ rfl; (with_reducible repeat (first | refine qD ?_ _ | refine qE ?_ | refine qC ?_ _)); refine qL (cs := #[.int .i64 t685, .int .i64 0, .int .i64 0, .int .i64 0, .int .i64 0, .int .i64 0]) ?_ 1 _ rfl; (with_reducible repeat (first | refine qD ?_ _ | refine qE ?_ | refine qC ?_ _)); refine qL (cs := #[.int .i64 0, .int .i64 0, .int .i64 0, .int .i64 0, .int .i64 0, .int .i64 0]) ?_ 0 _ rfl; (with_reducible repeat (first | refine qD ?_ _ | refine qE ?_ | refine qC ?_ _)); exact BK692.out) hb); have n2_ := Aside0.mk (qJ bl hb); clear BK684; clear BK692; clear HB; have BK684 := n0_; have BK692 := n1_; have HB := n2_; clear n0_ n1_ n2_; (try clear hb); (try clear hb2); (try clear hk); (try clear hi)))
   go_ret
   exact ⟨by first | rfl | (simp [qN, qM] <;> rfl) | (simp [*, qN, qM] <;> rfl), bl⟩
def qMA.Pure : Prop := ∀ (a0 : ByteArray), a0.size ≤ 140737488351232 → ∃ k, qMA.f k a0 = some true
end Go.Proofs.YtdncpkppkafkpaaDoor.P
namespace Go.Proofs.YtdncpkppkafkpaaDoor
open Go.RowKit Go.Proofs.YtdncpkppkafkpaaDoor.P Go.Proofs.YtdncpkppkafkpaaDoorW.PrintWords Go.Proofs.YtdncpkppkafkpaaDoorW.PrintLast
set_option linter.unusedVariables false
set_option linter.unusedSimpArgs false
theorem qIC (s : ByteArray) : s.data.toList.length = s.size := by rw [Array.length_toList]; rfl
theorem nr_bt (s : ByteArray) (i : Nat) (h : i < s.data.toList.length) : bt s (i : Int) = ((s.data.toList[i]).toNat : Int) := by
 have h' : i < s.size := by rw [← qIC]; exact h
 unfold bt
 rw [dif_pos (by simpa using h')]
 simp only [Int.toNat_natCast, Array.getElem_toList]
 rfl
theorem nr_u8 (c : UInt8) (n : Nat) (hn : n < 256) : ((c.toNat : Int) = (n : Int)) ↔ c = UInt8.ofNat n := by
 constructor
 ·intro h
  have : c.toNat = n := by omega
  rw [← this]; simp
 ·intro h
  subst h
  simp; omega
abbrev RdN := Int × Int × List Int × Bool
def badN : RdN := (0, 0, [], false)
def okN (c : UInt8) : Bool := decide (c = 46) || isDg c
def runN : List UInt8 → Nat → Nat → Nat → List Int → RdN
 | [], x, w, h, cs => if (0 < h ∧ x ≠ w) ∨ x = 0 then badN else ((x : Int), ((h + 1 : Nat) : Int), cs, true)
 | c :: r, x, w, h, cs =>
  if c = 47 then (if (0 < h ∧ x ≠ w) ∨ x = 0 then badN else runN r 0 x (h + 1) cs)
  else if okN c = true then runN r (x + 1) w h (cs ++ [(c.toNat : Int)])
  else badN
theorem nr_end (a : ByteArray) (ha : a.size ≤ 41) (w h : Nat) (cs : List Int) : Ev (fun k => qO.l0 k a false 0 ((a.size : Int) + 1) (w : Int) (h : Int) cs) ((w : Int), (h : Int), cs, true) := by
 refine Ev.step (f := fun k => _) (fun k => by rw [qO.l0]) ?_
 exact Ev.neg (by omega) (Ev.now _)
theorem nr_sep (a : ByteArray) (i x w h : Nat) (cs : List Int) (hx : x ≤ 100) (hh : h ≤ 100) (hi : i ≤ 100) (R : RdN)
  (hR : Ev (fun k => qO.l0 k a false 0 ((i : Int) + 1) (x : Int) ((h + 1 : Nat) : Int) cs) R) :
  Ev (fun k => qO.j1 k a false (x : Int) (i : Int) false (w : Int) (h : Int) cs) (if (0 < h ∧ x ≠ w) ∨ x = 0 then badN else R) := by
 have w1 : wrap64 ((i : Int) + 1) = (i : Int) + 1 := by unfold wrap64; omega
 have w2 : wrap64 ((h : Int) + 1) = ((h + 1 : Nat) : Int) := by unfold wrap64; omega
 refine Ev.step (f := fun k => _) (fun k => by rw [qO.j1]) ?_
 refine Ev.neg (by decide) ?_
 rw [w1, w2]
 by_cases h1 : 0 < h
 ·refine Ev.pos (by omega) ?_
  by_cases h2 : x = w
  ·refine Ev.pos (by omega) ?_
   by_cases h3 : x = 0
   ·rw [if_pos (.inr h3)]; exact Ev.pos (by omega) (Ev.now _)
   ·rw [if_neg (by omega)]; exact Ev.neg (by omega) hR
  ·rw [if_pos (.inl ⟨h1, h2⟩)]; exact Ev.neg (by omega) (Ev.now _)
 ·refine Ev.neg (by omega) ?_
  by_cases h3 : x = 0
  ·rw [if_pos (.inr h3)]; exact Ev.pos (by omega) (Ev.now _)
  ·rw [if_neg (by omega)]; exact Ev.neg (by omega) hR
theorem nr_loop (a : ByteArray) (ha : a.size ≤ 41) (d : Nat) : ∀ (i x w h : Nat) (cs : List Int), i ≤ a.size → a.size - i = d → x ≤ i → h ≤ i → cs.length ≤ i →
  Ev (fun k => qO.l0 k a false (x : Int) (i : Int) (w : Int) (h : Int) cs) (runN (a.data.toList.drop i) x w h cs) := by
 have hsz := qIC a
 induction d with
 | zero =>
  intro i x w h cs hi hd hx hh hc
  obtain rfl : i = a.size := by omega
  refine Ev.step (f := fun k => _) (fun k => by rw [qO.l0]) ?_
  refine Ev.pos (by omega) (Ev.neg (by omega) ?_)
  rw [List.drop_eq_nil_of_le (by omega), runN]
  exact nr_sep a a.size x w h cs (by omega) (by omega) (by omega) _ (nr_end a ha x (h + 1) cs)
 | succ d ih =>
  intro i x w h cs hi hd hx hh hc
  have hl : i < a.data.toList.length := by omega
  have e1 : ((i : Int) + 1) = ((i + 1 : Nat) : Int) := by omega
  have w1 : wrap64 ((i : Int) + 1) = ((i + 1 : Nat) : Int) := by unfold wrap64; omega
  have w2 : wrap64 ((x : Int) + 1) = ((x + 1 : Nat) : Int) := by unfold wrap64; omega
  have hdr := List.drop_eq_getElem_cons hl
  obtain ⟨c, hcc, hb⟩ : ∃ c, a.data.toList[i] = c ∧ bt a (i : Int) = (c.toNat : Int) := ⟨_, rfl, nr_bt a i hl⟩
  rw [hcc] at hdr
  clear hcc
  have HB := Lib.hid hb
  have HW1 := Lib.hid w1
  have HW2 := Lib.hid w2
  have HD := Lib.hid hdr
  clear hb w1 w2 hdr
  refine Ev.step (f := fun k => _) (fun k => by rw [qO.l0]) ?_
  refine Ev.pos (by omega) (Ev.pos (by omega) (Ev.pos (by omega) ?_))
  rw [HD.out, HB.out, runN]
  by_cases h47 : c = 47
  ·rw [show ((c.toNat : Int) != 47) = false by subst h47; rfl, if_pos h47]
   clear HB HD h47
   refine nr_sep a i x w h cs (by omega) (by omega) (by omega) _ ?_
   rw [e1]
   exact ih (i + 1) 0 x (h + 1) cs (by omega) (by omega) (by omega) (by omega) (by omega)
  ·rw [show ((c.toNat : Int) != 47) = true by
    rw [bne_iff_ne]; intro e; exact h47 ((nr_u8 c 47 (by decide)).1 e), if_neg h47]
   have go1 := ih (i + 1) (x + 1) w h (cs ++ [(c.toNat : Int)]) (by omega) (by omega) (by omega) (by omega) (by simp; omega)
   have step : Ev (fun k => qO.j3 k a false (x : Int) (i : Int) false (w : Int) (h : Int) cs) (runN (a.data.toList.drop (i + 1)) (x + 1) w h (cs ++ [(c.toNat : Int)])) := by
    refine Ev.step (f := fun k => _) (fun k => by rw [qO.j3]) ?_
    refine Ev.neg (by decide) (Ev.pos (by omega) (Ev.pos (by omega) (Ev.pos (by omega) ?_)))
    rw [HW1.out, HW2.out, HB.out]
    exact go1
   have bad : Ev (fun k => qO.j3 k a false (x : Int) (i : Int) true (w : Int) (h : Int) cs) badN := by
    refine Ev.step (f := fun k => _) (fun k => by rw [qO.j3]) ?_
    exact Ev.pos rfl (Ev.now _)
   have j2 : ∀ b : Bool, (c ≠ 46 → b = isDg c) → Ev (fun k => qO.j2 k a false (x : Int) (i : Int) b (w : Int) (h : Int) cs) (if okN c = true then runN (a.data.toList.drop (i + 1)) (x + 1) w h (cs ++ [(c.toNat : Int)]) else badN) := by
    intro b hb
    refine Ev.step (f := fun k => _) (fun k => by rw [qO.j2]) ?_
    refine Ev.pos (by omega) (Ev.pos (by omega) ?_)
    rw [HB.out]
    by_cases h46 : c = 46
    ·rw [if_pos (by unfold okN; rw [decide_eq_true h46]; rfl)]
     exact Ev.pos (by subst h46; rfl) step
    ·refine Ev.neg (fun e => h46 ((nr_u8 c 46 (by decide)).1 e)) ?_
     rw [hb h46]
     have hok : okN c = isDg c := by unfold okN; rw [decide_eq_false h46, Bool.false_or]
     rw [hok]
     cases isDg c with
     | true => rw [if_pos rfl]; exact step
     | false => rw [if_neg (by decide)]; exact bad
   refine Ev.step (f := fun k => _) (fun k => by rw [qO.j1]) ?_
   refine Ev.pos rfl (Ev.pos (by omega) (Ev.pos (by omega) ?_))
   rw [HB.out]
   clear HB HD HW1 HW2 go1 ih step bad e1
   have d1 : isDg c = (decide (48 ≤ c.toNat) && decide (c.toNat ≤ 57)) := rfl
   by_cases p1 : 48 ≤ c.toNat
   ·refine Ev.pos (by omega) ?_
    by_cases p2 : c.toNat ≤ 57
    ·refine Ev.pos (by omega) (Ev.neg (by decide) (j2 true fun _ => ?_))
     rw [d1, decide_eq_true p1, decide_eq_true p2]; rfl
    ·refine Ev.neg (by omega) ?_
     have d2 : isDg c = false := by rw [d1, decide_eq_false p2, Bool.and_false]
     by_cases p3 : c.toNat = 111
     ·exact Ev.pos (by omega) (j2 false fun _ => d2.symm)
     ·exact Ev.neg (by omega) (j2 false fun _ => d2.symm)
   ·refine Ev.neg (by omega) ?_
    have d2 : isDg c = false := by rw [d1, decide_eq_false p1, Bool.false_and]
    by_cases p3 : c.toNat = 111
    ·exact Ev.pos (by omega) (j2 false fun _ => d2.symm)
    ·exact Ev.neg (by omega) (j2 false fun _ => d2.symm)
def wideN (a : ByteArray) : Nat := (sp 47 a.data.toList).1.length
def rowsN (a : ByteArray) : List (List UInt8) := (sp 47 a.data.toList).1 :: (sp 47 a.data.toList).2
def highN (a : ByteArray) : Nat := (sp 47 a.data.toList).2.length + 1
def nums (l : List UInt8) : List Int := l.map fun c => (c.toNat : Int)
def fitN (a : ByteArray) : Prop := wideN a ≠ 0 ∧ (∀ r ∈ rowsN a, r.length = wideN a ∧ r.all okN = true)
instance (a : ByteArray) : Decidable (fitN a) := by unfold fitN; infer_instance
theorem runN_eq (l : List UInt8) : ∀ (x w h : Nat) (cs : List Int), runN l x w h cs =
  if (l.all (fun b => b == 47 || okN b)) = true ∧ x + (sp 47 l).1.length ≠ 0 ∧ (0 < h → x + (sp 47 l).1.length = w) ∧ (∀ r ∈ (sp 47 l).2, r.length = x + (sp 47 l).1.length)
  then (((x + (sp 47 l).1.length : Nat) : Int), ((h + ((sp 47 l).2.length + 1) : Nat) : Int), cs ++ nums ((sp 47 l).1 ++ (sp 47 l).2.flatten), true) else badN := by
 induction l with
 | nil =>
  intro x w h cs
  rw [runN]
  simp only [sp, List.all_nil, List.length_nil, Nat.add_zero, List.flatten_nil, List.append_nil, nums, List.map_nil, Nat.zero_add]
  by_cases hb : (0 < h ∧ x ≠ w) ∨ x = 0
  ·rw [if_pos hb, if_neg (by rintro ⟨_, h1, h2, _⟩; exact hb.elim (fun h34 => h34.2 (h2 h34.1)) h1)]
  ·rw [if_neg hb, if_pos ⟨trivial, fun e => hb (.inr e), fun h3 => Classical.byContradiction fun h4 => hb (.inl ⟨h3, h4⟩), by simp⟩]
 | cons c r ih =>
  intro x w h cs
  rw [runN]
  by_cases h47 : c = 47
  ·subst h47
   rw [if_pos rfl]
   simp only [sp, if_true, List.all_cons, beq_self_eq_true, Bool.true_or, Bool.true_and, List.length_nil, Nat.add_zero, List.nil_append, List.flatten_cons, List.length_cons]
   by_cases hb : (0 < h ∧ x ≠ w) ∨ x = 0
   ·rw [if_pos hb, if_neg (by rintro ⟨_, h1, h2, _⟩; exact hb.elim (fun h34 => h34.2 (h2 h34.1)) h1)]
   ·rw [if_neg hb, ih]
    have hx0 : x ≠ 0 := fun e => hb (.inr e)
    have hxw : 0 < h → x = w := fun h3 => Classical.byContradiction fun h4 => hb (.inl ⟨h3, h4⟩)
    by_cases hg : (r.all (fun b => b == 47 || okN b)) = true ∧ ∀ q ∈ (sp 47 r).1 :: (sp 47 r).2, q.length = x
    ·have hf : (sp 47 r).1.length = x := hg.2 _ (List.mem_cons_self)
     rw [if_pos ⟨hg.1, by omega, fun _ => by omega, fun q hq => by have := hg.2 q (List.mem_cons_of_mem _ hq); omega⟩, if_pos ⟨hg.1, hx0, hxw, hg.2⟩]
     have e1 : 0 + (sp 47 r).1.length = x := by omega
     have e2 : h + 1 + ((sp 47 r).2.length + 1) = h + ((sp 47 r).2.length + 1 + 1) := by omega
     rw [e1, e2]
    ·rw [if_neg, if_neg]
     ·rintro ⟨h1, _, _, h4⟩; exact hg ⟨h1, h4⟩
     ·rintro ⟨h1, _, h3, h4⟩
      have h5 := h3 (by omega)
      refine hg ⟨h1, fun q hq => ?_⟩
      rcases List.mem_cons.1 hq with rfl | hq
      ·omega
      ·have := h4 q hq; omega
  ·rw [if_neg h47]
   have e47 : (c == 47) = false := by simpa using h47
   simp only [sp, if_neg h47, List.all_cons, e47, Bool.false_or, List.length_cons]
   have hsh : x + ((sp 47 r).1.length + 1) = x + 1 + (sp 47 r).1.length := by omega
   by_cases h3 : okN c = true
   ·rw [if_pos h3, ih, h3, Bool.true_and, hsh]
    simp only [nums, List.cons_append, List.map_cons, List.append_assoc, List.nil_append]
   ·rw [if_neg h3, if_neg]
    rintro ⟨h1, _⟩
    rw [Bool.eq_false_iff.2 h3] at h1; simp at h1
def flatN (a : ByteArray) : List UInt8 := (rowsN a).flatten
theorem fitN_iff (a : ByteArray) : fitN a ↔ (a.data.toList.all (fun b => b == 47 || okN b)) = true ∧ wideN a ≠ 0 ∧ ∀ r ∈ (sp 47 a.data.toList).2, r.length = wideN a := by
 have hs := sp_all 47 okN a.data.toList (by decide)
 unfold fitN rowsN
 rw [← hs, Bool.and_eq_true]
 constructor
 ·rintro ⟨h1, h2⟩
  exact ⟨⟨(h2 _ List.mem_cons_self).2, List.all_eq_true.2 fun r hr => (h2 r (List.mem_cons_of_mem _ hr)).2⟩, h1, fun r hr => (h2 r (List.mem_cons_of_mem _ hr)).1⟩
 ·rintro ⟨⟨h1, h2⟩, h3, h4⟩
  refine ⟨h3, fun r hr => ?_⟩
  rcases List.mem_cons.1 hr with rfl | hr
  ·exact ⟨rfl, h1⟩
  ·exact ⟨h4 r hr, List.all_eq_true.1 h2 r hr⟩
theorem neRead_ev (a : ByteArray) : Ev (fun k => qO.f k a false) (if a.size ≤ 41 ∧ fitN a then ((wideN a : Int), (highN a : Int), nums (flatN a), true) else badN) := by
 unfold qO.f
 by_cases h41 : a.size ≤ 41
 ·refine Ev.neg (by omega) ?_
  have := nr_loop a h41 a.size 0 0 0 0 [] (by omega) (by omega) (by omega) (by omega) (by simp)
  rw [List.drop_zero, runN_eq] at this
  simp only [Nat.zero_add, List.nil_append, Nat.lt_irrefl, false_implies, true_and] at this
  have hw : (sp 47 a.data.toList).1.length = wideN a := rfl
  rw [hw] at this
  by_cases hf : fitN a
  ·rw [if_pos ⟨h41, hf⟩]
   obtain ⟨h1, h2, h3⟩ := (fitN_iff a).1 hf
   rw [if_pos ⟨h1, h2, h3⟩] at this
   exact this
  ·rw [if_neg (fun h => hf h.2)]
   rw [if_neg (fun h => hf ((fitN_iff a).2 h))] at this
   exact this
 ·rw [if_neg (fun h => h41 h.1)]
  exact Ev.pos (by omega) (Ev.now _)
def idxFrom : Nat → List UInt8 → List Nat
 | _, [] => []
 | b, c :: r => if c = 46 then idxFrom (b + 1) r else b :: idxFrom (b + 1) r
theorem idxFrom_append (l r : List UInt8) : ∀ b, idxFrom b (l ++ r) = idxFrom b l ++ idxFrom (b + l.length) r := by
 induction l with
 | nil => intro b; simp [idxFrom]
 | cons c l ih =>
  intro b
  rw [List.cons_append, idxFrom, idxFrom, ih, List.length_cons, show b + 1 + l.length = b + (l.length + 1) by omega]
  split
  ·rfl
  ·rfl
theorem qUA (l : List UInt8) : ∀ (b i : Nat), i ∈ idxFrom b l ↔ b ≤ i ∧ ∃ c, l[i - b]? = some c ∧ c ≠ 46 := by
 induction l with
 | nil => intro b i; simp [idxFrom]
 | cons c l ih =>
  intro b i
  have key : (i ∈ idxFrom (b + 1) l) ↔ (b + 1 ≤ i ∧ ∃ d, (c :: l)[i - b]? = some d ∧ d ≠ 46) := by
   rw [ih]
   constructor
   ·rintro ⟨h1, d, h2, h3⟩
    exact ⟨h1, d, by rw [show i - b = (i - (b + 1)) + 1 by omega, List.getElem?_cons_succ]; exact h2, h3⟩
   ·rintro ⟨h1, d, h2, h3⟩
    rw [show i - b = (i - (b + 1)) + 1 by omega, List.getElem?_cons_succ] at h2
    exact ⟨h1, d, h2, h3⟩
  rw [idxFrom]
  by_cases h46 : c = 46
  ·rw [if_pos h46, key]
   constructor
   ·rintro ⟨h1, h2⟩; exact ⟨by omega, h2⟩
   ·rintro ⟨h1, d, h2, h3⟩
    refine ⟨?_, d, h2, h3⟩
    rcases Nat.lt_or_ge b i with h | h
    ·exact h
    ·obtain rfl : i = b := by omega
     rw [Nat.sub_self] at h2
     simp at h2
     exact absurd (h2.symm.trans h46) h3
  ·rw [if_neg h46, List.mem_cons, key]
   constructor
   ·rintro (rfl | ⟨h1, h2⟩)
    ·exact ⟨Nat.le_refl _, c, by simp, h46⟩
    ·exact ⟨by omega, h2⟩
   ·rintro ⟨h1, d, h2, h3⟩
    rcases Nat.lt_or_ge b i with h | h
    ·exact .inr ⟨h, d, h2, h3⟩
    ·exact .inl (by omega)
theorem idxFrom_sorted (l : List UInt8) : ∀ b, (idxFrom b l).Pairwise (· < ·) := by
 induction l with
 | nil => intro b; simp [idxFrom]
 | cons c l ih =>
  intro b
  rw [idxFrom]
  split
  ·exact ih _
  ·exact List.pairwise_cons.2 ⟨fun i hi => ((qUA l (b + 1) i).1 hi).1, ih _⟩
theorem qdB (l : List UInt8) (b : Nat) : (idxFrom b l).Nodup := (idxFrom_sorted l b).imp (fun h => Nat.ne_of_lt h)
def ints (l : List Nat) : List Int := l.map fun (i : Nat) => Int.ofNat i
theorem rdNums (l : List UInt8) (i : Nat) (h : i < l.length) : rd (nums l) (i : Int) = (l[i].toNat : Int) := by
 unfold rd nums
 rw [Int.toNat_natCast, List.getD_eq_getElem?_getD, List.getElem?_map, List.getElem?_eq_getElem h]
 rfl
theorem neDigits_loop (l : List UInt8) (hl : l.length ≤ 100) (d : Nat) : ∀ (i : Nat) (acc : List Nat), i ≤ l.length → l.length - i = d → acc.length ≤ i →
  Ev (fun k => qd.l0 k (ints acc) (nums l) (l.length : Int) (i : Int)) (ints (acc ++ idxFrom i (l.drop i))) := by
 have hn : (nums l).length = l.length := List.length_map _
 induction d with
 | zero =>
  intro i acc hi hd ha
  refine Ev.step (f := fun k => _) (fun k => by rw [qd.l0]) ?_
  rw [List.drop_eq_nil_of_le (by omega), idxFrom, List.append_nil]
  exact Ev.neg (by omega) (Ev.now _)
 | succ d ih =>
  intro i acc hi hd ha
  have h : i < l.length := by omega
  have w1 : wrap64 ((i : Int) + 1) = ((i + 1 : Nat) : Int) := by unfold wrap64; omega
  refine Ev.step (f := fun k => _) (fun k => by rw [qd.l0]) ?_
  refine Ev.pos (by omega) (Ev.pos (by omega) (Ev.pos (by omega) ?_))
  rw [rdNums l i h, w1, List.drop_eq_getElem_cons h, idxFrom]
  by_cases h46 : l[i] = 46
  ·rw [if_pos h46]
   refine Ev.pos (by rw [h46]; rfl) ?_
   exact ih (i + 1) acc (by omega) (by omega) (by omega)
  ·rw [if_neg h46]
   refine Ev.neg (fun e => h46 ((nr_u8 _ 46 (by decide)).1 e)) (Ev.pos (by unfold ints; rw [List.length_map]; omega) ?_)
   have := ih (i + 1) (acc ++ [i]) (by omega) (by omega) (by simp; omega)
   rw [List.append_assoc] at this
   have e : ints (acc ++ [i]) = ints acc ++ [(i : Int)] := by unfold ints; rw [List.map_append]; rfl
   rw [e] at this
   exact this
theorem qcB (w h : Int) (l : List UInt8) (hl : l.length ≤ 100) : Ev (fun k => qd.f k w h (nums l)) (ints (idxFrom 0 l)) := by
 have hn : (nums l).length = l.length := List.length_map _
 unfold qd.f
 rw [hn]
 have := neDigits_loop l hl l.length 0 [] (by omega) (by omega) (by simp)
 rw [List.drop_zero, List.nil_append] at this
 exact this
def cellAt (w i : Nat) : CC := ⟨((i % w : Nat) : Int), ((i / w : Nat) : Int)⟩
def digAt (l : List UInt8) (i : Nat) : Int := ((l.getD i 0).toNat : Int) - 48
def rowCells (y : Nat) : Nat → List UInt8 → List CC
 | _, [] => []
 | x, c :: r => if c = 46 then rowCells y (x + 1) r else ⟨(x : Int), (y : Int)⟩ :: rowCells y (x + 1) r
def rowDs : List UInt8 → List Int
 | [] => []
 | c :: r => if c = 46 then rowDs r else ((c.toNat : Int) - 48) :: rowDs r
def rowMs : Nat → List UInt8 → List (Int × Bool) → List (Int × Bool)
 | _, [], m => m
 | x, c :: r, m => rowMs (x + 1) r (if c = 46 then m else ((x : Int), true) :: m)
theorem sixRow_eq (y : Nat) (l : List UInt8) : ∀ (x : Nat) (s : Sx), s.cs.length ≤ 6 → sixRow y x l s =
  if l.all okN = true ∧ s.cs.length + (rowCells y x l).length ≤ 6 then some ⟨s.cs ++ rowCells y x l, s.ds ++ rowDs l, rowMs x l s.ms⟩ else none := by
 induction l with
 | nil =>
  intro x s hs
  rw [sixRow, if_pos ⟨rfl, by simpa [rowCells] using hs⟩]
  simp [rowCells, rowDs, rowMs]
 | cons c l ih =>
  intro x s hs
  rw [sixRow, sixByte, rowCells, rowDs, rowMs, List.all_cons]
  by_cases h46 : c = 46
  ·rw [if_pos h46, if_pos h46, if_pos h46, if_pos h46, Option.bind_some, ih _ _ hs]
   have : okN c = true := by unfold okN; rw [decide_eq_true h46]; rfl
   rw [this, Bool.true_and]
  ·rw [if_neg h46, if_neg h46, if_neg h46, if_neg h46]
   have hok : okN c = isDg c := by unfold okN; rw [decide_eq_false h46, Bool.false_or]
   rw [hok]
   cases isDg c with
   | false =>
    rw [if_neg (by decide), Option.bind_none, if_neg (by simp)]
   | true =>
    rw [if_pos rfl, Bool.true_and]
    by_cases h6 : s.cs.length = 6
    ·rw [if_pos h6, Option.bind_none, if_neg (by simp; intros; omega)]
    ·rw [if_neg h6, Option.bind_some, ih _ _ (by simp; omega)]
     simp only [List.length_append, List.length_cons, List.length_nil]
     by_cases hc : l.all okN = true ∧ s.cs.length + ((rowCells y (x + 1) l).length + 1) ≤ 6
     ·rw [if_pos ⟨hc.1, by omega⟩, if_pos hc]
      simp [List.append_assoc]
     ·rw [if_neg (fun h => hc ⟨h.1, by omega⟩), if_neg hc]
end Go.Proofs.YtdncpkppkafkpaaDoor
set_option linter.unusedSectionVars false
namespace Go.Proofs.YtdncpkppkafkpaaDoor.Bfs
section
variable {α β : Type} [DecidableEq α]
def put (L : List (α × β)) (y : Option α) (p : β) : List (α × β) := match y with
 | none => L
 | some y => if y ∈ L.map Prod.fst then L else L ++ [(y, p)]
def puts (L : List (α × β)) : List (Option α × β) → List (α × β)
 | [] => L
 | (y, p) :: r => puts (put L y p) r
variable (next : Nat → α → β → List (Option α × β))
def round (i : Nat) (L : List (α × β)) : List (α × β) := match L[i]? with
 | none => L
 | some x => puts L (next i x.1 x.2)
def run : Nat → Nat → List (α × β) → List (α × β)
 | 0, _, L => L
 | n + 1, i, L => if i < L.length then run n (i + 1) (round next i L) else L
theorem qUC {L : List (α × β)} {y : α} (h : y ∈ L.map Prod.fst) (p : β) : put L (some y) p = L := if_pos h
theorem qGC {L : List (α × β)} {y : α} (h : ¬ y ∈ L.map Prod.fst) (p : β) : put L (some y) p = L ++ [(y, p)] := if_neg h
theorem qTC {L : List (α × β)} (h : (L.map Prod.fst).Nodup) (y : Option α) (p : β) : ((put L y p).map Prod.fst).Nodup := by
 unfold put
 split
 ·exact h
 ·rename_i y
  split
  ·exact h
  ·rename_i hy
   rw [List.map_append, List.nodup_append]
   refine ⟨h, by simp, ?_⟩
   intro a ha b hb e
   simp at hb
   subst hb
   subst e
   exact hy ha
theorem puts_nodup (l : List (Option α × β)) : ∀ {L : List (α × β)}, (L.map Prod.fst).Nodup → ((puts L l).map Prod.fst).Nodup := by
 induction l with
 | nil => intro L h; exact h
 | cons x l ih => intro L h; exact ih (qTC h _ _)
theorem round_nodup {L : List (α × β)} (h : (L.map Prod.fst).Nodup) (i : Nat) : ((round next i L).map Prod.fst).Nodup := by
 unfold round
 split
 ·exact h
 ·exact puts_nodup _ h
theorem run_nodup : ∀ (n i : Nat) {L : List (α × β)}, (L.map Prod.fst).Nodup → ((run next n i L).map Prod.fst).Nodup
 | 0, _, L, h => h
 | n + 1, i, L, h => by
  unfold run
  split
  ·exact run_nodup n (i + 1) (round_nodup next h i)
  ·exact h
theorem put_all {Q : α × β → Prop} {L : List (α × β)} (h : ∀ x ∈ L, Q x) (y : Option α) (p : β) (hy : ∀ z, y = some z → Q (z, p)) : ∀ x ∈ put L y p, Q x := by
 unfold put
 split
 ·exact h
 ·rename_i z
  split
  ·exact h
  ·intro x hx
   rcases List.mem_append.1 hx with hx | hx
   ·exact h x hx
   ·simp at hx; subst hx; exact hy z rfl
theorem puts_all {Q : α × β → Prop} : ∀ (l : List (Option α × β)) {L : List (α × β)}, (∀ x ∈ L, Q x) → (∀ s ∈ l, ∀ z, s.1 = some z → Q (z, s.2)) → ∀ x ∈ puts L l, Q x
 | [], L, h, _ => h
 | s :: l, L, h, hs => puts_all l (put_all h s.1 s.2 (hs s (by simp))) (fun t ht => hs t (by simp [ht]))
theorem round_all {Q : α × β → Prop} (hn : ∀ i x p, Q (x, p) → ∀ s ∈ next i x p, ∀ z, s.1 = some z → Q (z, s.2)) (i : Nat) {L : List (α × β)} (h : ∀ x ∈ L, Q x) : ∀ x ∈ round next i L, Q x := by
 unfold round
 split
 ·exact h
 ·rename_i x hx
  exact puts_all _ h (hn i x.1 x.2 (h x (List.mem_of_getElem? hx)))
theorem run_all {Q : α × β → Prop} (hn : ∀ i x p, Q (x, p) → ∀ s ∈ next i x p, ∀ z, s.1 = some z → Q (z, s.2)) : ∀ (n i : Nat) {L : List (α × β)}, (∀ x ∈ L, Q x) → ∀ x ∈ run next n i L, Q x
 | 0, _, L, h => h
 | n + 1, i, L, h => by
  unfold run
  split
  ·exact run_all hn n (i + 1) (round_all next hn i h)
  ·exact h
theorem qTB {U : List α} : ∀ {l : List α}, l.Nodup → (∀ x ∈ l, x ∈ U) → l.length ≤ U.length := by
 intro l
 induction l generalizing U with
 | nil => intro _ _; simp
 | cons a l ih =>
  intro hn hu
  obtain ⟨h1, h2⟩ := List.nodup_cons.1 hn
  have ha : a ∈ U := hu a (by simp)
  have := ih (U := U.erase a) h2 (fun x hx => by
   have hne : x ≠ a := fun e => h1 (e ▸ hx)
   exact (List.mem_erase_of_ne hne).2 (hu x (by simp [hx])))
  rw [List.length_erase_of_mem ha] at this
  have : 0 < U.length := List.length_pos_of_mem ha
  simp only [List.length_cons]
  omega
end
end Go.Proofs.YtdncpkppkafkpaaDoor.Bfs
namespace Go.Proofs.YtdncpkppkafkpaaDoor
open Go.RowKit Go.Proofs.YtdncpkppkafkpaaDoor.P Go.Proofs.YtdncpkppkafkpaaDoorW.PrintWords Go.Proofs.YtdncpkppkafkpaaDoorW.PrintLast
set_option linter.unusedVariables false
set_option linter.unusedSimpArgs false
theorem cellAt_row (w y x : Nat) (h : x < w) : cellAt w (y * w + x) = ⟨(x : Int), (y : Int)⟩ := by
 unfold cellAt
 have h1 : (y * w + x) % w = x := by rw [Nat.mul_comm, Nat.mul_add_mod, Nat.mod_eq_of_lt h]
 have h2 : (y * w + x) / w = y := by rw [Nat.mul_comm, Nat.mul_add_div (by omega), Nat.div_eq_of_lt h, Nat.add_zero]
 rw [h1, h2]
theorem rowCells_idx (w y : Nat) (l : List UInt8) : ∀ x, x + l.length ≤ w → rowCells y x l = (idxFrom (y * w + x) l).map (cellAt w) := by
 induction l with
 | nil => intro x _; rfl
 | cons c l ih =>
  intro x h
  rw [List.length_cons] at h
  rw [rowCells, idxFrom, ih (x + 1) (by omega), show y * w + (x + 1) = y * w + x + 1 by omega]
  split
  ·rfl
  ·rw [List.map_cons, cellAt_row w y x (by omega)]
theorem rowDs_idx (F : List UInt8) (l : List UInt8) : ∀ b, (∀ j, j < l.length → F[b + j]? = l[j]?) → rowDs l = (idxFrom b l).map (digAt F) := by
 induction l with
 | nil => intro b _; rfl
 | cons c l ih =>
  intro b h
  have h0 := h 0 (by simp)
  have hr := ih (b + 1) (fun j hj => by
   have := h (j + 1) (by simpa using hj)
   rw [List.getElem?_cons_succ, show b + (j + 1) = b + 1 + j by omega] at this
   exact this)
  rw [rowDs, idxFrom, hr]
  split
  ·rfl
  ·rw [List.map_cons]
   congr 1
   unfold digAt
   rw [List.getD_eq_getElem?_getD, show F[b]? = some c by simpa using h0]
   rfl
theorem rowMs_keys (y : Nat) (l : List UInt8) : ∀ (x : Nat) (m : List (Int × Bool)) (z : Int), z ∈ (rowMs x l m).map Prod.fst ↔ z ∈ (rowCells y x l).map (fun c => c.f0) ∨ z ∈ m.map Prod.fst := by
 induction l with
 | nil => intro x m z; simp [rowMs, rowCells]
 | cons c l ih =>
  intro x m z
  rw [rowMs, rowCells, ih]
  by_cases h : c = 46
  ·rw [if_pos h, if_pos h]
  ·rw [if_neg h, if_neg h, List.map_cons, List.map_cons, List.mem_cons, List.mem_cons]
   constructor
   ·rintro (h1 | h1 | h1)
    ·exact .inl (.inr h1)
    ·exact .inl (.inl h1)
    ·exact .inr h1
   ·rintro ((h1 | h1) | h1)
    ·exact .inr (.inl h1)
    ·exact .inl h1
    ·exact .inr (.inr h1)
def allCells : Nat → List (List UInt8) → List CC
 | _, [] => []
 | y, r :: L => rowCells y 0 r ++ allCells (y + 1) L
def allDs : List (List UInt8) → List Int
 | [] => []
 | r :: L => rowDs r ++ allDs L
def allMs : List (List UInt8) → List (Int × Bool) → List (Int × Bool)
 | [], m => m
 | r :: L, m => allMs L (rowMs 0 r m)
def rowOk (w : Nat) (r : List UInt8) : Prop := r.length = w ∧ r.all (fun c => c == 46) = false ∧ r.all okN = true
instance (w : Nat) (r : List UInt8) : Decidable (rowOk w r) := by unfold rowOk; infer_instance
def datas (L : List ByteArray) : List (List UInt8) := L.map fun r => r.data.toList
theorem datas_cons (r : ByteArray) (L : List ByteArray) : datas (r :: L) = r.data.toList :: datas L := rfl
theorem sixRows_eq (w : Nat) (L : List ByteArray) : ∀ (y : Nat) (s : Sx), s.cs.length ≤ 6 → sixRows w y L s =
  if (∀ r ∈ datas L, rowOk w r) ∧ s.cs.length + (allCells y (datas L)).length ≤ 6 then some ⟨s.cs ++ allCells y (datas L), s.ds ++ allDs (datas L), allMs (datas L) s.ms⟩ else none := by
 induction L with
 | nil =>
  intro y s hs
  rw [sixRows, if_pos ⟨by simp [datas], by simpa [datas, allCells] using hs⟩]
  simp [datas, allCells, allDs, allMs]
 | cons r L ih =>
  intro y s hs
  have hz : r.data.toList.length = r.size := qIC r
  rw [sixRows, datas_cons, allCells, allDs, allMs]
  by_cases h1 : r.size = w
  ·rw [if_pos h1]
   cases h2 : isDots r with
   | true =>
    rw [if_pos rfl, if_neg]
    rintro ⟨h, _⟩
    have h3 := (h _ List.mem_cons_self).2.1
    unfold isDots at h2
    rw [h2] at h3
    cases h3
   | false =>
    rw [if_neg (by decide), sixRow_eq y _ 0 s hs]
    by_cases h3 : r.data.toList.all okN = true ∧ s.cs.length + (rowCells y 0 r.data.toList).length ≤ 6
    ·rw [if_pos h3, Option.bind_some, ih _ _ (by rw [List.length_append]; exact h3.2)]
     simp only [List.length_append]
     have hr : rowOk w r.data.toList := ⟨by omega, by unfold isDots at h2; exact h2, h3.1⟩
     by_cases h4 : (∀ r ∈ datas L, rowOk w r) ∧ s.cs.length + (rowCells y 0 r.data.toList).length + (allCells (y + 1) (datas L)).length ≤ 6
     ·rw [if_pos h4, if_pos ⟨fun q hq => by rcases List.mem_cons.1 hq with rfl | hq; exact hr; exact h4.1 q hq, by omega⟩]
      simp only [List.append_assoc]
     ·rw [if_neg h4, if_neg]
      rintro ⟨h5, h6⟩
      exact h4 ⟨fun q hq => h5 q (List.mem_cons_of_mem _ hq), by omega⟩
    ·rw [if_neg h3, Option.bind_none, if_neg]
     rintro ⟨h5, h6⟩
     rw [List.length_append] at h6
     exact h3 ⟨(h5 _ List.mem_cons_self).2.2, by omega⟩
  ·rw [if_neg h1, if_neg]
   rintro ⟨h, _⟩
   have := (h _ List.mem_cons_self).1
   omega
theorem allCells_idx (w : Nat) (L : List (List UInt8)) : ∀ y, (∀ r ∈ L, r.length = w) → allCells y L = (idxFrom (y * w) L.flatten).map (cellAt w) := by
 induction L with
 | nil => intro y _; rfl
 | cons r L ih =>
  intro y h
  have hr := h r List.mem_cons_self
  rw [allCells, List.flatten_cons, idxFrom_append, List.map_append, ih (y + 1) (fun q hq => h q (List.mem_cons_of_mem _ hq)), rowCells_idx w y r 0 (by omega), hr, Nat.add_zero, show (y + 1) * w = y * w + w by rw [Nat.add_mul, Nat.one_mul]]
theorem allDs_idx (F : List UInt8) (L : List (List UInt8)) : ∀ b, (∀ j, j < L.flatten.length → F[b + j]? = L.flatten[j]?) → allDs L = (idxFrom b L.flatten).map (digAt F) := by
 induction L with
 | nil => intro b _; rfl
 | cons r L ih =>
  intro b h
  rw [List.flatten_cons] at h
  rw [allDs, List.flatten_cons, idxFrom_append, List.map_append, rowDs_idx F r b (fun j hj => by
   have := h j (by rw [List.length_append]; omega)
   rwa [List.getElem?_append_left hj] at this), ih (b + r.length) (fun j hj => by
   have := h (r.length + j) (by rw [List.length_append]; omega)
   rw [List.getElem?_append_right (by omega), show r.length + j - r.length = j by omega, show b + (r.length + j) = b + r.length + j by omega] at this
   exact this)]
theorem allMs_keys (L : List (List UInt8)) : ∀ (y : Nat) (m : List (Int × Bool)) (z : Int), z ∈ (allMs L m).map Prod.fst ↔ z ∈ (allCells y L).map (fun c => c.f0) ∨ z ∈ m.map Prod.fst := by
 induction L with
 | nil => intro y m z; simp [allMs, allCells]
 | cons r L ih =>
  intro y m z
  rw [allMs, allCells, ih (y + 1), rowMs_keys y, List.map_append, List.mem_append]
  constructor
  ·rintro (h | h | h)
   ·exact .inl (.inr h)
   ·exact .inl (.inl h)
   ·exact .inr h
  ·rintro ((h | h) | h)
   ·exact .inr (.inl h)
   ·exact .inl h
   ·exact .inr (.inr h)
theorem rowsOf6_data (a : ByteArray) : datas (rowsOf6 a) = rowsN a := split_sp a 47
theorem rowsOf6_head (a : ByteArray) : ((rowsOf6 a).headD ByteArray.empty).size = wideN a := by
 have h := rowsOf6_data a
 cases hL : rowsOf6 a with
 | nil => rw [hL] at h; cases h
 | cons r L =>
  rw [hL, datas_cons] at h
  have : r.data.toList = (sp 47 a.data.toList).1 := (List.cons.inj h).1
  show r.size = _
  rw [← qIC, this]
  rfl
def placesN (a : ByteArray) : List Nat := idxFrom 0 (flatN a)
def goodN (a : ByteArray) : Prop := ∀ r ∈ rowsN a, rowOk (wideN a) r
instance (a : ByteArray) : Decidable (goodN a) := by unfold goodN; infer_instance
theorem qXC {a : ByteArray} (h : goodN a) : ∀ r ∈ rowsN a, r.length = wideN a := fun r hr => (h r hr).1
theorem sixAll_eq (a : ByteArray) : sixAll a = if goodN a ∧ (placesN a).length ≤ 6 then some ⟨(placesN a).map (cellAt (wideN a)), (placesN a).map (digAt (flatN a)), allMs (rowsN a) []⟩ else none := by
 unfold sixAll
 rw [sixRows_eq _ _ _ _ (by simp), rowsOf6_head, rowsOf6_data]
 simp only [List.length_nil, Nat.zero_add, List.nil_append]
 by_cases hg : goodN a
 ·have e1 : allCells 0 (rowsN a) = (placesN a).map (cellAt (wideN a)) := by
   have := allCells_idx (wideN a) (rowsN a) 0 (qXC hg)
   rwa [Nat.zero_mul] at this
  have e2 : allDs (rowsN a) = (placesN a).map (digAt (flatN a)) := allDs_idx (flatN a) (rowsN a) 0 (fun j _ => by rw [Nat.zero_add]; rfl)
  rw [e1, e2, List.length_map]
  by_cases h6 : (placesN a).length ≤ 6
  ·rw [if_pos ⟨hg, h6⟩, if_pos ⟨hg, h6⟩]
  ·rw [if_neg (fun h => h6 h.2), if_neg (fun h => h6 h.2)]
 ·rw [if_neg (fun h => hg h.1), if_neg (fun h => hg h.1)]
theorem count_spec : ∀ m : List (Int × Bool), ∃ K : List Int, K.Nodup ∧ K.length = MapKit.count m ∧ ∀ z, z ∈ K ↔ z ∈ m.map Prod.fst
 | [] => ⟨[], List.nodup_nil, rfl, fun z => Iff.rfl⟩
 | x :: l => by
  obtain ⟨K, h1, h2, h3⟩ := count_spec l
  have hm : MapKit.met l x.1 = true ↔ x.1 ∈ l.map Prod.fst := by
   unfold MapKit.met
   rw [List.any_eq_true]
   constructor
   ·rintro ⟨y, hy, e⟩; exact List.mem_map.2 ⟨y, hy, of_decide_eq_true e⟩
   ·intro h; obtain ⟨y, hy, e⟩ := List.mem_map.1 h; exact ⟨y, hy, decide_eq_true e⟩
  rw [MapKit.count]
  by_cases h : MapKit.met l x.1 = true
  ·rw [if_pos h]
   refine ⟨K, h1, h2, fun z => ?_⟩
   rw [h3, List.map_cons, List.mem_cons]
   constructor
   ·exact .inr
   ·rintro (rfl | h4)
    ·exact hm.1 h
    ·exact h4
  ·rw [if_neg h]
   refine ⟨x.1 :: K, List.nodup_cons.2 ⟨fun h4 => h (hm.2 ((h3 _).1 h4)), h1⟩, by rw [List.length_cons, h2], fun z => ?_⟩
   rw [List.mem_cons, h3, List.map_cons, List.mem_cons]
theorem nodup_range (w : Nat) : ((List.range w).map fun (i : Nat) => Int.ofNat i).Nodup := by
 rw [List.nodup_iff_pairwise_ne, List.pairwise_map]
 exact List.Pairwise.imp (fun h e => h (Int.ofNat.inj e)) (List.nodup_iff_pairwise_ne.1 List.nodup_range)
theorem count_full (m : List (Int × Bool)) (w : Nat) (hk : ∀ z ∈ m.map Prod.fst, ∃ i : Nat, i < w ∧ z = Int.ofNat i) : MapKit.count m = w ↔ ∀ j, j < w → Int.ofNat j ∈ m.map Prod.fst := by
 obtain ⟨K, h1, h2, h3⟩ := count_spec m
 have hU : ∀ z ∈ K, z ∈ (List.range w).map fun (i : Nat) => Int.ofNat i := fun z hz => by
  obtain ⟨i, hi, rfl⟩ := hk z ((h3 z).1 hz)
  exact List.mem_map.2 ⟨i, List.mem_range.2 hi, rfl⟩
 have hl : ((List.range w).map fun (i : Nat) => Int.ofNat i).length = w := by simp
 constructor
 ·intro h j hj
  rw [← h3]
  refine Classical.byContradiction fun hn => ?_
  have hjU : Int.ofNat j ∈ (List.range w).map fun (i : Nat) => Int.ofNat i := List.mem_map.2 ⟨j, List.mem_range.2 hj, rfl⟩
  have := Bfs.qTB (U := ((List.range w).map fun (i : Nat) => Int.ofNat i).erase (Int.ofNat j)) h1 (fun z hz => (List.mem_erase_of_ne (fun e => hn (by rw [← e]; exact hz))).2 (hU z hz))
  rw [List.length_erase_of_mem hjU, hl] at this
  omega
 ·intro h
  have a1 := Bfs.qTB h1 hU
  have a2 := Bfs.qTB (nodup_range w) (U := K) (fun z hz => by
   obtain ⟨i, hi, rfl⟩ := List.mem_map.1 hz
   exact (h3 _).2 (h i (List.mem_range.1 hi)))
  rw [hl] at a1 a2
  omega
def colsFull (a : ByteArray) : Prop := ∀ j, j < wideN a → ∃ i ∈ placesN a, i % wideN a = j
def linesFull (a : ByteArray) : Prop := ∀ j, j < highN a → ∃ i ∈ placesN a, i / wideN a = j
instance (a : ByteArray) : Decidable (colsFull a) := by unfold colsFull; infer_instance
instance (a : ByteArray) : Decidable (linesFull a) := by unfold linesFull; infer_instance
theorem cols_count {a : ByteArray} (hg : goodN a) : MapKit.count (allMs (rowsN a) []) = wideN a ↔ colsFull a := by
 have e1 : allCells 0 (rowsN a) = (placesN a).map (cellAt (wideN a)) := by
  have := allCells_idx (wideN a) (rowsN a) 0 (qXC hg)
  rwa [Nat.zero_mul] at this
 have hw : 0 < wideN a := by
  rcases Nat.eq_zero_or_pos (wideN a) with h | h
  ·have := hg _ (show (sp 47 a.data.toList).1 ∈ rowsN a from List.mem_cons_self)
   have h2 : (sp 47 a.data.toList).1 = [] := List.eq_nil_of_length_eq_zero h
   rw [h2] at this
   exact absurd this.2.1 (by simp)
  ·exact h
 have hkey : ∀ z, z ∈ (allMs (rowsN a) []).map Prod.fst ↔ ∃ i ∈ placesN a, z = Int.ofNat (i % wideN a) := by
  intro z
  rw [allMs_keys (rowsN a) 0, e1, List.map_map]
  simp only [List.map_nil, List.not_mem_nil, or_false, List.mem_map]
  constructor
  ·rintro ⟨i, hi, rfl⟩; exact ⟨i, hi, rfl⟩
  ·rintro ⟨i, hi, rfl⟩; exact ⟨i, hi, rfl⟩
 rw [count_full _ _ (fun z hz => by obtain ⟨i, _, e⟩ := (hkey z).1 hz; exact ⟨i % wideN a, Nat.mod_lt _ hw, e⟩)]
 unfold colsFull
 constructor
 ·intro h j hj
  obtain ⟨i, hi, e⟩ := (hkey _).1 (h j hj)
  exact ⟨i, hi, (Int.ofNat.inj e).symm⟩
 ·intro h j hj
  obtain ⟨i, hi, e⟩ := h j hj
  exact (hkey _).2 ⟨i, hi, by rw [e]⟩
theorem six_f (k : Nat) (a : ByteArray) (ha : a.size ≤ 1048576) : qLB.f k a =
  if goodN a ∧ (placesN a).length = 6 ∧ colsFull a then (qRA.f k ((placesN a).map (cellAt (wideN a)))).bind fun t => some (if t = true then ((placesN a).map (cellAt (wideN a)), (placesN a).map (digAt (flatN a)), true) else ([], [], false)) else some ([], [], false) := by
 unfold qLB.f
 rw [if_pos (by omega), sixAll_eq, rowsOf6_head]
 by_cases hg : goodN a
 ·by_cases h6 : (placesN a).length ≤ 6
  ·rw [if_pos ⟨hg, h6⟩]
   simp only [sixFin, List.length_map]
   by_cases e6 : (placesN a).length = 6
   ·rw [if_pos e6]
    by_cases hc : MapKit.count (allMs (rowsN a) []) = wideN a
    ·rw [if_pos hc, if_pos ⟨hg, e6, (cols_count hg).1 hc⟩]
    ·rw [if_neg hc, if_neg (fun h => hc ((cols_count hg).2 h.2.2))]
   ·rw [if_neg e6, if_neg (fun h => e6 h.2.1)]
  ·rw [if_neg (fun h => h6 h.2), if_neg (fun h => h6 (by omega))]
   rfl
 ·rw [if_neg (fun h => hg h.1), if_neg (fun h => hg h.1)]
  rfl
def mkM (m d : Nat) : Nat := m ||| 2 ^ d
theorem qgB : ∀ m : Nat, m < 64 → ∀ d : Nat, d < 6 → Go.bits .or .i64 (m : Int) (shl .i64 1 (d : Int)) = ((mkM m d : Nat) : Int) ∧ mkM m d < 64 := by decide +kernel
theorem qdC : ∀ m : Nat, m < 64 → ∀ d : Nat, d < 6 → ∀ j : Nat, j < 6 → (mkM m d).testBit j = (m.testBit j || decide (d = j)) := by decide +kernel
theorem full_bits : ∀ m : Nat, m < 64 → ∀ w : Nat, w < 7 → (((m : Int) = wrap64 (shl .i64 1 (w : Int) - 1)) ↔ ∀ j : Nat, j < 6 → m.testBit j = decide (j < w)) := by decide +kernel
def foldM (f : Nat → Nat) (l : List Nat) (m : Nat) : Nat := l.foldl (fun m i => mkM m (f i)) m
theorem foldM_lt (f : Nat → Nat) : ∀ (l : List Nat) (m : Nat), m < 64 → (∀ i ∈ l, f i < 6) → foldM f l m < 64
 | [], m, h, _ => h
 | i :: l, m, h, hl => foldM_lt f l _ (qgB m h (f i) (hl i List.mem_cons_self)).2 (fun j hj => hl j (List.mem_cons_of_mem _ hj))
theorem qZC (f : Nat → Nat) (j : Nat) (hj : j < 6) : ∀ (l : List Nat) (m : Nat), m < 64 → (∀ i ∈ l, f i < 6) → (foldM f l m).testBit j = (m.testBit j || l.any fun i => decide (f i = j))
 | [], m, h, _ => by simp [foldM]
 | i :: l, m, h, hl => by
  have h1 := hl i List.mem_cons_self
  have ih := qZC f j hj l (mkM m (f i)) (qgB m h (f i) h1).2 (fun q hq => hl q (List.mem_cons_of_mem _ hq))
  show (foldM f l (mkM m (f i))).testBit j = _
  rw [ih, qdC m h (f i) h1 j hj, List.any_cons, Bool.or_assoc]
theorem foldM_full (f : Nat → Nat) (l : List Nat) (w : Nat) (hw : w ≤ 6) (hl : ∀ i ∈ l, f i < w) : (((foldM f l 0 : Nat) : Int) = wrap64 (shl .i64 1 (w : Int) - 1)) ↔ ∀ j, j < w → ∃ i ∈ l, f i = j := by
 have h6 : ∀ i ∈ l, f i < 6 := fun i hi => by have := hl i hi; omega
 rw [full_bits _ (foldM_lt f l 0 (by decide) h6) w (by omega)]
 constructor
 ·intro h j hj
  have := h j (by omega)
  rw [qZC f j (by omega) l 0 (by decide) h6, decide_eq_true hj] at this
  simp only [Nat.zero_testBit, Bool.false_or, List.any_eq_true, decide_eq_true_eq] at this
  exact this
 ·intro h j hj
  rw [qZC f j hj l 0 (by decide) h6, Nat.zero_testBit, Bool.false_or]
  by_cases hjw : j < w
  ·rw [decide_eq_true hjw, List.any_eq_true]
   obtain ⟨i, hi, e⟩ := h j hjw
   exact ⟨i, hi, decide_eq_true e⟩
  ·rw [decide_eq_false hjw, List.any_eq_false]
   intro i hi
   have := hl i hi
   rw [decide_eq_true_eq]
   omega
theorem rdInts (D : List Nat) (j : Nat) (h : j < D.length) : rd (ints D) (j : Int) = (D[j] : Int) := by
 unfold rd ints
 rw [Int.toNat_natCast, List.getD_eq_getElem?_getD, List.getElem?_map, List.getElem?_eq_getElem h]
 rfl
theorem qeA (D : List Nat) : (ints D).length = D.length := List.length_map _
theorem w64_small (q : Nat) (h : q < 100) : wrap64 (q : Int) = (q : Int) := by unfold wrap64; omega
theorem qdA (j : Nat) (h : j < 1000) : wrap64 ((j : Int) + 1) = ((j + 1 : Nat) : Int) := by unfold wrap64; omega
theorem nz_of {w : Nat} (h : 0 < w) : ¬ (w : Int) = 0 := by omega
theorem qzB {a b : Nat} (h : b ≤ a) : ¬ (a : Int) < (b : Int) := by omega
theorem tmodN (a b : Nat) : Int.tmod (a : Int) (b : Int) = ((a % b : Nat) : Int) := rfl
theorem tdivN (a b : Nat) : Int.tdiv (a : Int) (b : Int) = ((a / b : Nat) : Int) := rfl
theorem neSix_loop (w h : Nat) (hw0 : 0 < w) (hw : w ≤ 6) (hh : h ≤ 6) (X : List Int) (D : List Nat) (hDl : D.length ≤ 100) (hD : ∀ i ∈ D, i < w * h) (far : List Int) (hf : far.length = w * h) :
  ∀ (l : List Nat) (j m1 m2 : Nat), D.drop j = l → j ≤ D.length → m1 < 64 → m2 < 64 →
  Ev (fun k => qc.l0 k (ints D) (m1 : Int) (m2 : Int) far (D.length : Int) (j : Int) (w : Int) (h : Int) X)
   (if ∃ i ∈ l, rd far (i : Int) < 0 then false else (decide (((foldM (· % w) l m1 : Nat) : Int) = wrap64 (shl .i64 1 (w : Int) - 1)) && decide (((foldM (· / w) l m2 : Nat) : Int) = wrap64 (shl .i64 1 (h : Int) - 1)))) := by
 intro l
 induction l with
 | nil =>
  intro j m1 m2 hd hj h1 h2
  have hn : D.length ≤ j := by
   rcases Nat.lt_or_ge j D.length with h | h
   ·rw [List.drop_eq_getElem_cons h] at hd; cases hd
   ·exact h
  rw [if_neg (by simp)]
  refine Ev.step (f := fun k => _) (fun k => by rw [qc.l0]) ?_
  have a1 : ¬ (j : Int) < (D.length : Int) := qzB hn
  refine Ev.neg a1 (Ev.pos (Int.natCast_nonneg _) ?_)
  show Ev _ (decide ((m1 : Int) = _) && decide ((m2 : Int) = _))
  by_cases e : (m1 : Int) = wrap64 (shl .i64 1 (w : Int) - 1)
  ·rw [decide_eq_true e, Bool.true_and]
   refine Ev.pos e (Ev.pos (Int.natCast_nonneg _) (Ev.some_ ?_))
   by_cases e2 : (m2 : Int) = wrap64 (shl .i64 1 (h : Int) - 1)
   ·rw [decide_eq_true e2, beq_iff_eq.2 e2]
   ·rw [decide_eq_false e2, beq_eq_false_iff_ne.2 e2]
  ·rw [decide_eq_false e, Bool.false_and]
   exact Ev.neg e (Ev.now _)
 | cons i l ih =>
  intro j m1 m2 hd hj h1 h2
  have hlt : j < D.length := by
   rcases Nat.lt_or_ge j D.length with h | h
   ·exact h
   ·rw [List.drop_eq_nil_of_le h] at hd; cases hd
  rw [List.drop_eq_getElem_cons hlt] at hd
  obtain ⟨hi, hd'⟩ := List.cons.inj hd
  have him : i < w * h := hD i (hi ▸ List.getElem_mem hlt)
  have hr : rd (ints D) (j : Int) = (i : Int) := by rw [rdInts D j hlt, hi]
  have w1 := qdA j (Nat.lt_of_lt_of_le hlt (Nat.le_trans hDl (by decide)))
  have hj1 : j + 1 ≤ D.length := hlt
  have a1 : (j : Int) < (D.length : Int) := Int.ofNat_lt.2 hlt
  have a2 : (0 : Int) ≤ (j : Int) := Int.natCast_nonneg _
  have a3 : (j : Int) < ((ints D).length : Int) := by rw [qeA]; exact a1
  have a4 : (0 : Int) ≤ (i : Int) := Int.natCast_nonneg _
  have a5 : (i : Int) < (far.length : Int) := by rw [hf]; exact Int.ofNat_lt.2 him
  have a6 : ¬ (w : Int) = 0 := nz_of hw0
  have hmod : i % w < 6 := Nat.lt_of_lt_of_le (Nat.mod_lt i hw0) hw
  have hdiv : i / w < h := by rw [Nat.div_lt_iff_lt_mul hw0, Nat.mul_comm]; exact him
  have hdiv6 : i / w < 6 := Nat.lt_of_lt_of_le hdiv hh
  have w2 : wrap64 ((i / w : Nat) : Int) = ((i / w : Nat) : Int) := w64_small _ (Nat.lt_of_lt_of_le hdiv6 (by decide))
  have ih := ih (j + 1) (mkM m1 (i % w)) (mkM m2 (i / w)) hd' hj1 (qgB m1 h1 _ hmod).2 (qgB m2 h2 _ hdiv6).2
  have b1 := (qgB m1 h1 _ hmod).1
  have b2 := (qgB m2 h2 (i / w) hdiv6).1
  clear hd hi hd'
  refine Ev.step (f := fun k => _) (fun k => by rw [qc.l0]) ?_
  refine Ev.pos a1 (Ev.pos a2 (Ev.pos a3 ?_))
  rw [hr]
  refine Ev.pos a4 (Ev.pos a5 ?_)
  by_cases hneg : rd far (i : Int) < 0
  ·rw [if_pos ⟨i, List.mem_cons_self, hneg⟩]
   exact Ev.pos hneg (Ev.now _)
  ·refine Ev.neg hneg (Ev.neg a6 ?_)
   rw [tmodN, tdivN, w2, w1]
   refine Ev.pos (Int.natCast_nonneg _) (Ev.pos (Int.natCast_nonneg _) ?_)
   rw [b1, b2]
   have e : (∃ q ∈ i :: l, rd far (q : Int) < 0) ↔ ∃ q ∈ l, rd far (q : Int) < 0 := by
    constructor
    ·rintro ⟨q, hq, hn⟩
     rcases List.mem_cons.1 hq with rfl | hq
     ·exact absurd hn hneg
     ·exact ⟨q, hq, hn⟩
    ·rintro ⟨q, hq, hn⟩
     exact ⟨q, List.mem_cons_of_mem _ hq, hn⟩
   by_cases hx : ∃ q ∈ l, rd far (q : Int) < 0
   ·rw [if_pos hx] at ih
    rw [if_pos (e.2 hx)]
    exact ih
   ·rw [if_neg hx] at ih
    rw [if_neg (fun h => hx (e.1 h))]
    exact ih
theorem qxA {a : ByteArray} (h : fitN a) : (flatN a).length = wideN a * highN a := by
 have key : ∀ (L : List (List UInt8)) (w : Nat), (∀ r ∈ L, r.length = w) → L.flatten.length = w * L.length := by
  intro L w
  induction L with
  | nil => intro _; rfl
  | cons r L ih =>
   intro hL
   rw [List.flatten_cons, List.length_append, ih (fun q hq => hL q (List.mem_cons_of_mem _ hq)), hL r List.mem_cons_self, List.length_cons, Nat.mul_add, Nat.mul_one]
   omega
 exact key (rowsN a) (wideN a) (fun r hr => (h.2 r hr).1)
theorem qJB {a : ByteArray} (h : fitN a) : ∀ i ∈ placesN a, i < wideN a * highN a := by
 intro i hi
 obtain ⟨_, c, hc, _⟩ := (qUA (flatN a) 0 i).1 hi
 have := (List.getElem?_eq_some_iff.1 hc).1
 rw [qxA h] at this
 omega
theorem qwA (l : List UInt8) : ∀ b, (idxFrom b l).length ≤ l.length := by
 induction l with
 | nil => intro b; simp [idxFrom]
 | cons c l ih =>
  intro b
  rw [idxFrom]
  split
  ·have := ih (b + 1); simp; omega
  ·have := ih (b + 1); simp; omega
def sixN (a : ByteArray) (far : List Int) : Bool := decide ((placesN a).length = 6) && (decide (wideN a ≤ 6) && (decide (highN a ≤ 6) && (decide (∀ i ∈ placesN a, ¬ rd far (i : Int) < 0) && (decide (colsFull a) && decide (linesFull a)))))
theorem neSix_ev (a : ByteArray) (hf : fitN a) (h41 : a.size ≤ 41) (far : List Int) (hfl : far.length = (flatN a).length)
  (hfar : (placesN a).length = 6 → wideN a ≤ 6 → highN a ≤ 6 → Ev (fun k => qS.f k (wideN a : Int) (highN a : Int) (nums (flatN a))) far) :
  Ev (fun k => qc.f k (wideN a : Int) (highN a : Int) (nums (flatN a))) (sixN a far) := by
 have hsz : (flatN a).length ≤ 100 := by
  have h1 := qRC 47 a.data.toList
  have h2 := qIC a
  have key : ∀ L : List (List UInt8), L.flatten.length = (L.map List.length).sum := by
   intro L
   induction L with
   | nil => rfl
   | cons r L ih => simp [ih]
  have h3 : (flatN a).length = (sp 47 a.data.toList).1.length + ((sp 47 a.data.toList).2.map List.length).sum := by
   unfold flatN rowsN
   rw [List.flatten_cons, List.length_append, key]
  omega
 have hw0 : 0 < wideN a := Nat.pos_of_ne_zero hf.1
 have hbad : ∀ b : Bool, b = true → Ev (fun k => qc.j0 k (ints (placesN a)) b (wideN a : Int) (highN a : Int) (nums (flatN a))) false := fun b hb => by
  refine Ev.step (f := fun k => _) (fun k => by rw [qc.j0]) ?_
  exact Ev.pos hb (Ev.now _)
 unfold qc.f
 refine Ev.bind (qcB _ _ _ hsz) ?_
 have hlen : (ints (idxFrom 0 (flatN a))).length = (placesN a).length := qeA _
 rw [hlen]
 unfold sixN
 by_cases e6 : (placesN a).length = 6
 ·rw [decide_eq_true e6, Bool.true_and]
  refine Ev.pos (by omega) ?_
  by_cases ew : wideN a ≤ 6
  ·rw [decide_eq_true ew, Bool.true_and]
   refine Ev.neg (by omega) ?_
   by_cases eh : highN a ≤ 6
   ·rw [decide_eq_true eh, Bool.true_and, decide_eq_false (show ¬ (highN a : Int) > 6 by omega)]
    refine Ev.step (f := fun k => _) (fun k => by rw [qc.j0]) ?_
    refine Ev.neg (by decide) (Ev.bind (hfar e6 ew eh) ?_)
    have hl := neSix_loop (wideN a) (highN a) hw0 ew eh (nums (flatN a)) (placesN a) (by omega) (qJB hf) far (by rw [hfl, qxA hf]) (placesN a) 0 0 0 List.drop_zero (by omega) (by decide) (by decide)
    have e0 : ((ints (idxFrom 0 (flatN a))).length : Int) = ((placesN a).length : Int) := by rw [hlen]
    rw [e0]
    have hres : (if ∃ i ∈ placesN a, rd far (i : Int) < 0 then false else (decide (((foldM (· % wideN a) (placesN a) 0 : Nat) : Int) = wrap64 (shl .i64 1 (wideN a : Int) - 1)) && decide (((foldM (· / wideN a) (placesN a) 0 : Nat) : Int) = wrap64 (shl .i64 1 (highN a : Int) - 1)))) = (decide (∀ i ∈ placesN a, ¬ rd far (i : Int) < 0) && (decide (colsFull a) && decide (linesFull a))) := by
     have c1 := foldM_full (· % wideN a) (placesN a) (wideN a) ew (fun i _ => Nat.mod_lt i hw0)
     have c2 := foldM_full (· / wideN a) (placesN a) (highN a) eh (fun i hi => by
      show i / wideN a < highN a
      rw [Nat.div_lt_iff_lt_mul hw0, Nat.mul_comm]; exact qJB hf i hi)
     by_cases hx : ∃ i ∈ placesN a, rd far (i : Int) < 0
     ·rw [if_pos hx, decide_eq_false, Bool.false_and]
      intro h
      obtain ⟨i, hi, hn⟩ := hx
      exact h i hi hn
     ·rw [if_neg hx, decide_eq_true (show ∀ i ∈ placesN a, ¬ rd far (i : Int) < 0 from fun i hi hn => hx ⟨i, hi, hn⟩), Bool.true_and, decide_eq_decide.2 c1, decide_eq_decide.2 c2]
      rfl
    rw [hres] at hl
    exact hl
   ·rw [decide_eq_false eh, Bool.false_and, decide_eq_true (show (highN a : Int) > 6 by omega)]
    exact hbad true rfl
  ·rw [decide_eq_false ew, Bool.false_and]
   exact Ev.pos (by omega) (hbad true rfl)
 ·rw [decide_eq_false e6, Bool.false_and]
  exact Ev.neg (by omega) (hbad true rfl)
theorem good_six (a : ByteArray) (h6 : (placesN a).length = 6) : (goodN a ∧ colsFull a) ↔ (a.size ≤ 41 ∧ fitN a ∧ wideN a ≤ 6 ∧ highN a ≤ 6 ∧ colsFull a ∧ linesFull a) := by
 have line : ∀ (L : List (List UInt8)) (w y : Nat), 0 < w → (∀ r ∈ L, r.length = w) → ∀ j r, L[j]? = some r → ((r.all fun c => c == 46) = false ↔ ∃ i ∈ idxFrom (y * w) L.flatten, i / w = y + j) := by
  intro L w y hw hL j r hj
  have hjl := (List.getElem?_eq_some_iff.1 hj).1
  have hcell : ∀ x, x < w → L.flatten[j * w + x]? = r[x]? := by
   clear h6
   induction L generalizing j with
   | nil => simp at hj
   | cons q L ih =>
    intro x hx
    have hq := hL q List.mem_cons_self
    cases j with
    | zero =>
     simp only [List.getElem?_cons_zero, Option.some.injEq] at hj
     subst hj
     rw [List.flatten_cons, Nat.zero_mul, Nat.zero_add, List.getElem?_append_left (by omega)]
    | succ j =>
     rw [List.getElem?_cons_succ] at hj
     rw [List.flatten_cons, List.getElem?_append_right (by rw [hq, Nat.add_mul, Nat.one_mul]; omega), hq, show (j + 1) * w + x - w = j * w + x by rw [Nat.add_mul, Nat.one_mul]; omega]
     exact ih (fun q hq => hL q (List.mem_cons_of_mem _ hq)) j hj (List.getElem?_eq_some_iff.1 hj).1 x hx
  have hrl : r.length = w := hL r (List.mem_of_getElem? hj)
  constructor
  ·intro h
   obtain ⟨c, hc, hne⟩ := List.all_eq_false.1 h
   obtain ⟨x, hx⟩ := List.mem_iff_getElem?.1 hc
   have hxl := (List.getElem?_eq_some_iff.1 hx).1
   refine ⟨y * w + (j * w + x), (qUA _ _ _).2 ⟨by omega, c, ?_, fun e => hne (by rw [e]; rfl)⟩, ?_⟩
   ·rw [show y * w + (j * w + x) - y * w = j * w + x by omega, hcell x (by omega)]
    exact hx
   ·rw [show y * w + (j * w + x) = w * (y + j) + x by rw [Nat.mul_add, Nat.mul_comm w y, Nat.mul_comm w j]; omega, Nat.mul_add_div hw, Nat.div_eq_of_lt (by omega), Nat.add_zero]
  ·rintro ⟨i, hi, e⟩
   obtain ⟨h1, c, h2, h3⟩ := (qUA _ _ _).1 hi
   have hmod := Nat.div_add_mod i w
   have hmlt := Nat.mod_lt i hw
   rw [e] at hmod
   have hix : i - y * w = j * w + i % w := by rw [Nat.mul_add, Nat.mul_comm w y, Nat.mul_comm w j] at hmod; omega
   rw [hix, hcell _ hmlt] at h2
   rw [List.all_eq_false]
   exact ⟨c, List.mem_of_getElem? h2, by simpa using h3⟩
 constructor
 ·rintro ⟨hg, hc⟩
  have hlen := qXC hg
  have hw0 : 0 < wideN a := by
   rcases Nat.eq_zero_or_pos (wideN a) with h | h
   ·have := hg _ (show (sp 47 a.data.toList).1 ∈ rowsN a from List.mem_cons_self)
    have h2 : (sp 47 a.data.toList).1 = [] := List.eq_nil_of_length_eq_zero h
    rw [h2] at this
    exact absurd this.2.1 (by simp)
   ·exact h
  have hfit : fitN a := ⟨by omega, fun r hr => ⟨(hg r hr).1, (hg r hr).2.2⟩⟩
  have hlines : linesFull a := by
   intro j hj
   have hjl : j < (rowsN a).length := hj
   have hr : (rowsN a)[j]? = some (rowsN a)[j] := List.getElem?_eq_getElem hjl
   have := (line (rowsN a) (wideN a) 0 hw0 hlen j _ hr).1 (hg _ (List.getElem_mem hjl)).2.1
   rw [Nat.zero_mul, Nat.zero_add] at this
   exact this
  have hw6 : wideN a ≤ 6 := by
   have := Bfs.qTB (U := (placesN a).map (· % wideN a)) (List.nodup_range (n := wideN a)) (fun j hj => by
    obtain ⟨i, hi, e⟩ := hc j (List.mem_range.1 hj)
    exact List.mem_map.2 ⟨i, hi, e⟩)
   rw [List.length_range, List.length_map, h6] at this
   exact this
  have hh6 : highN a ≤ 6 := by
   have := Bfs.qTB (U := (placesN a).map (· / wideN a)) (List.nodup_range (n := highN a)) (fun j hj => by
    obtain ⟨i, hi, e⟩ := hlines j (List.mem_range.1 hj)
    exact List.mem_map.2 ⟨i, hi, e⟩)
   rw [List.length_range, List.length_map, h6] at this
   exact this
  refine ⟨?_, hfit, hw6, hh6, hc, hlines⟩
  have h1 := qRC 47 a.data.toList
  rw [qIC] at h1
  have key : ∀ L : List (List UInt8), L.flatten.length = (L.map List.length).sum := by
   intro L
   induction L with
   | nil => rfl
   | cons r L ih => simp [ih]
  have h2 := qxA hfit
  unfold flatN rowsN at h2
  rw [List.flatten_cons, List.length_append, key] at h2
  have h3 : wideN a * highN a ≤ 6 * 6 := Nat.mul_le_mul hw6 hh6
  have h4 : (sp 47 a.data.toList).2.length + 1 = highN a := rfl
  omega
 ·rintro ⟨_, hf, hw6, hh6, hc, hl⟩
  refine ⟨fun r hr => ⟨(hf.2 r hr).1, ?_, (hf.2 r hr).2⟩, hc⟩
  obtain ⟨j, hj⟩ := List.mem_iff_getElem?.1 hr
  have hjl : j < highN a := (List.getElem?_eq_some_iff.1 hj).1
  obtain ⟨i, hi, e⟩ := hl j hjl
  exact (line (rowsN a) (wideN a) 0 (Nat.pos_of_ne_zero hf.1) (fun r hr => (hf.2 r hr).1) j r hj).2 ⟨i, by rw [Nat.zero_mul]; exact hi, by omega⟩
abbrev DD := S31
theorem dd_ext {a b : DD} (h0 : a.f0 = b.f0) (h1 : a.f1 = b.f1) (h2 : a.f2 = b.f2) (h3 : a.f3 = b.f3) (h4 : a.f4 = b.f4) (h5 : a.f5 = b.f5) : a = b := by
 cases a; cases b; simp only at h0 h1 h2 h3 h4 h5; subst h0; subst h1; subst h2; subst h3; subst h4; subst h5; rfl
instance ddDec : DecidableEq DD := fun a b =>
 if h : a.f0 = b.f0 ∧ a.f1 = b.f1 ∧ a.f2 = b.f2 ∧ a.f3 = b.f3 ∧ a.f4 = b.f4 ∧ a.f5 = b.f5 then isTrue (dd_ext h.1 h.2.1 h.2.2.1 h.2.2.2.1 h.2.2.2.2.1 h.2.2.2.2.2) else isFalse (fun e => h (by subst e; exact ⟨rfl, rfl, rfl, rfl, rfl, rfl⟩))
def rolD (x : DD) (d : Nat) : DD := if d = 0 then ⟨x.f3, x.f0, x.f2, x.f5, x.f4, x.f1⟩ else if d = 1 then ⟨x.f4, x.f1, x.f0, x.f3, x.f5, x.f2⟩ else if d = 2 then ⟨x.f1, x.f5, x.f2, x.f0, x.f4, x.f3⟩ else ⟨x.f2, x.f1, x.f5, x.f3, x.f0, x.f4⟩
def dirsW : ByteArray := ⟨#[110, 101, 115, 119]⟩
def dirW (d : Nat) : ByteArray := dirsW.extract d (d + 1)
def stepsD (x : DD) (w : ByteArray) : Nat → Nat → List (Option DD × ByteArray)
 | 0, _ => []
 | n + 1, d => (some (rolD x d), w ++ dirW d) :: stepsD x w n (d + 1)
def nextD (_ : Nat) (x : DD) (w : ByteArray) : List (Option DD × ByteArray) := stepsD x w 4 0
def faceD (x : DD) (n : Int) : Int := if n = 0 then x.f0 else if n = 1 then x.f1 else if n = 2 then x.f2 else if n = 3 then x.f3 else if n = 4 then x.f4 else x.f5
def putD (x p : DD) : DD := ⟨faceD x p.f0, faceD x p.f1, faceD x p.f2, faceD x p.f3, faceD x p.f4, faceD x p.f5⟩
theorem putD_rol (x p : DD) (d : Nat) : rolD (putD x p) d = putD x (rolD p d) := by
 unfold rolD
 by_cases h0 : d = 0
 ·simp only [if_pos h0]; rfl
 by_cases h1 : d = 1
 ·simp only [if_neg h0, if_pos h1]; rfl
 by_cases h2 : d = 2
 ·simp only [if_neg h0, if_neg h1, if_pos h2]; rfl
 ·simp only [if_neg h0, if_neg h1, if_neg h2]; rfl
def plainD : DD := ⟨0, 1, 2, 3, 4, 5⟩
def runD (x : DD) : List (DD × ByteArray) := Bfs.run nextD 24 0 [(x, ⟨#[]⟩)]
def rots : List DD := (runD plainD).map Prod.fst
theorem rots_len : rots.length = 24 := by decide +kernel
theorem rots_closed : ∀ p ∈ rots, rolD p 0 ∈ rots ∧ rolD p 1 ∈ rots ∧ rolD p 2 ∈ rots ∧ rolD p 3 ∈ rots := by decide +kernel
theorem rots_plain : plainD ∈ rots := by decide +kernel
def imgs (x : DD) : List DD := rots.map (putD x)
theorem imgs_len (x : DD) : (imgs x).length = 24 := by unfold imgs; rw [List.length_map, rots_len]
theorem imgs_rol {x y : DD} (h : y ∈ imgs x) (d : Nat) (hd : d < 4) : rolD y d ∈ imgs x := by
 obtain ⟨p, hp, rfl⟩ := List.mem_map.1 h
 rw [putD_rol]
 refine List.mem_map_of_mem ?_
 have hc := rots_closed p hp
 have : d = 0 ∨ d = 1 ∨ d = 2 ∨ d = 3 := by omega
 rcases this with rfl | rfl | rfl | rfl
 ·exact hc.1
 ·exact hc.2.1
 ·exact hc.2.2.1
 ·exact hc.2.2.2
theorem steps_mem (x : DD) (w : ByteArray) : ∀ (n d : Nat), d + n = 4 → ∀ s ∈ stepsD x w n d, ∃ e, e < 4 ∧ s = (some (rolD x e), w ++ dirW e)
 | 0, _, _, s, hs => by cases hs
 | n + 1, d, hd, s, hs => by
  rcases List.mem_cons.1 hs with rfl | hs
  ·exact ⟨d, by omega, rfl⟩
  ·exact steps_mem x w n (d + 1) (by omega) s hs
structure FoundD (x : DD) (L : List (DD × ByteArray)) : Prop where
 nodup : (L.map Prod.fst).Nodup
 img : ∀ z ∈ L, z.1 ∈ imgs x
theorem FoundD.len {x : DD} {L : List (DD × ByteArray)} (h : FoundD x L) : L.length ≤ 24 := by
 have := Bfs.qTB (U := imgs x) h.nodup (fun y hy => by
  obtain ⟨z, hz, rfl⟩ := List.mem_map.1 hy
  exact h.img z hz)
 rwa [imgs_len, List.length_map] at this
theorem FoundD.put {x : DD} {L : List (DD × ByteArray)} (h : FoundD x L) (y : Option DD) (p : ByteArray) (hy : ∀ z, y = some z → z ∈ imgs x) : FoundD x (Bfs.put L y p) :=
 ⟨Bfs.qTC h.nodup y p, Bfs.put_all (Q := fun z => z.1 ∈ imgs x) h.img y p hy⟩
theorem nextD_img {x : DD} (i : Nat) (y : DD) (p : ByteArray) (h : y ∈ imgs x) : ∀ s ∈ nextD i y p, ∀ z, s.1 = some z → z ∈ imgs x := by
 intro s hs z hz
 obtain ⟨e, he, rfl⟩ := steps_mem y p 4 0 rfl s hs
 cases hz
 exact imgs_rol h e he
theorem FoundD.round {x : DD} {L : List (DD × ByteArray)} (h : FoundD x L) (i : Nat) : FoundD x (Bfs.round nextD i L) :=
 ⟨Bfs.round_nodup _ h.nodup i, Bfs.round_all nextD (Q := fun z => z.1 ∈ imgs x) (fun i y p hy => nextD_img i y p hy) i h.img⟩
theorem FoundD.run {x : DD} {L : List (DD × ByteArray)} (h : FoundD x L) (n i : Nat) : FoundD x (Bfs.run nextD n i L) :=
 ⟨Bfs.run_nodup _ n i h.nodup, Bfs.run_all nextD (Q := fun z => z.1 ∈ imgs x) (fun i y p hy => nextD_img i y p hy) n i h.img⟩
end Go.Proofs.YtdncpkppkafkpaaDoor
