/- The program's KeptEdges returns what the reference's returns, for all texts (the law lets longer texts by). No further condition. -/
import Derived.Test.YtdncpkppkafkpaaDoorKFnExactKeptEdges3

namespace Go.Proofs.YtdncpkppkafkpaaDoor
open Go.RowKit Go.Proofs.YtdncpkppkafkpaaDoor.P Go.Proofs.YtdncpkppkafkpaaDoorW.PrintWords Go.Proofs.YtdncpkppkafkpaaDoorW.PrintLast
set_option linter.unusedVariables false
set_option linter.unusedSimpArgs false
theorem six_getW (l : List ByteArray) (j : Nat) (h : j < l.length) : rdOf ByteArray.empty l (j : Int) = l[j] := by
 unfold rdOf
 rw [Int.toNat_natCast, List.getD_eq_getElem?_getD, List.getElem?_eq_getElem h]; rfl
theorem six_bt (s : ByteArray) (i : Nat) (h : i < s.data.toList.length) : bt s (i : Int) = ((s.data.toList[i]).toNat : Int) := by
 have h' : i < s.size := by have : s.data.toList.length = s.size := (by rw [Array.length_toList]; rfl); omega
 unfold bt
 rw [dif_pos (by simpa using h')]
 simp only [Int.toNat_natCast, Array.getElem_toList]
 rfl
def sixT14 : Bool × List (List Nat × List Nat) := (true, [([], []), ([], []), ([], []), ([], []), ([], []), ([3, 4], [3, 4]), ([5], [5]), ([2, 6], [2, 6]), ([], []), ([], []), ([], []), ([9, 10], [9, 10]), ([11], [11]), ([12], [12]), ([13], [13]), ([8, 14, 7], [8, 14]), ([7, 15, 2, 3, 4, 5, 6, 7], [2, 7]), ([15, 16, 2, 3, 4, 5, 6, 7, 8, 9, 10, 11, 12, 13, 14, 15, 16], [8, 15]), ([0, 1, 17, 0, 1, 2, 3, 4, 5, 6, 7, 8, 9, 10, 11, 12, 13, 14, 15, 16, 17], [0, 1])])
def sixB14 : List Nat := [0, 0, 0, 0, 0, 24, 56, 124, 0, 0, 0, 1536, 3584, 7680, 15872, 32764, 65532, 131068, 262143]
def sixT17 : Bool × List (List Nat × List Nat) := (true, [([], []), ([0], [0]), ([1], [1]), ([2], [2]), ([3], [3]), ([4, 3, 3], [3, 4]), ([3], [3]), ([6, 3], [3, 6]), ([7, 3], [3, 7]), ([8, 3], [3, 8]), ([5, 9, 3], [3, 5, 9]), ([3, 10], [3, 10]), ([11, 5], [11]), ([12], [12]), ([13, 12, 12], [12, 13]), ([14, 12], [12, 14]), ([12, 15], [12, 15])])
def sixB17 : List Nat := [0, 1, 3, 7, 15, 31, 15, 79, 207, 463, 1023, 2047, 4095, 8191, 16383, 32767, 65535]
theorem sixTab14 : rtab .any (opsOf Tryd.f33 14) = sixT14 := by kernel_rfl
theorem sixBits14 : waitsOk sixT14.2 sixB14 = true := by kernel_rfl
theorem sixTab17 : rtab .any (opsOf Tryd.f33 17) = sixT17 := by kernel_rfl
theorem sixBits17 : waitsOk sixT17.2 sixB17 = true := by kernel_rfl
namespace P
set_option maxHeartbeats 4000000 in
set_option maxRecDepth 100000 in
theorem qNB.calls (k : Nat) (a0 : ByteArray) (r1 : List CC) (r2 : List Int) (r3 : Bool) (w : World) (hL : Laid w) (h : qNB.f k a0 = some (r1, r2, r3)) :
    Calls Tryd.prog 33 #[.string a0] w fun e w' => ∃ v0_ v1_ : Value, e = .returned (.tuple #[v0_, v1_, .bool r3]) ∧ Kd.R k61 61 w' w.heap.size (fun _ => True) v0_ r1 ∧ Kd.R (Kd.int .i64) 3 w' w.heap.size (fun _ => True) v1_ r2 ∧ Below w.heap.size w w' := by
  unfold qNB.f at h
  by_cases hs : a0.size < 4294967281
  case neg => rw [if_neg hs] at h; cases h
  rw [if_pos hs] at h
  have hsp : strings_Split.f a0 ⟨#[47]⟩ = some (rowsOf6 a0) := if_pos ⟨hs, by decide⟩
  have hlen := split_len a0
  have hcnt := Lib.countB_le ⟨#[47]⟩ (by decide) a0.size a0 (Nat.le_refl _)
  have hrs : ∀ r ∈ rowsOf6 a0, r.size < 4294967281 := fun r hr => Nat.lt_of_le_of_lt (split_size a0 r hr) hs
  unfold sixAll at h
  generalize rowsOf6 a0 = L at h hsp hlen hrs
  have hLn : L.length ≤ 4294967281 := by omega
  have hL0 : 0 < L.length := by omega
  clear hlen hcnt hs
  obtain ⟨r0, hr0⟩ : ∃ r0, L[0] = r0 := ⟨_, rfl⟩
  have hhd : L.headD ByteArray.empty = r0 := by rw [← hr0]; cases L with | nil => simp at hL0 | cons a l => rfl
  rw [hhd] at h
  obtain ⟨T, hT⟩ : ∃ T, sixRows r0.size 0 L ⟨[], [], []⟩ = T := ⟨_, rfl⟩
  rw [hT] at h
  have HT := Aside0.mk hT
  have HF := Aside0.mk h
  have HSP := Aside0.mk hsp
  have HRS := Aside0.mk hrs
  have HL0 := Aside0.mk hL0
  have HLN := Aside0.mk hLn
  have HLD := Aside0.mk hL
  have HLP := Aside0.mk (show (0 : Int) < (L.length : Int) by omega)
  have HR0 := Aside0.mk (show rdOf ByteArray.empty L 0 = r0 from (six_getW L 0 hL0).trans hr0)
  clear hT h hsp hrs hLn hL hhd hr0 hL0
  have hu := Tryd.underlying61
  go_enter Tryd.func33, Tryd.ntmps33
  have B0 := Aside0.mk (Below.refl w.heap.size w)
  have hmm := @run_makeMap Tryd.prog
  go_wp2_with (first
    | ((with_reducible refine qa (N := 12) rfl ?_); refine Kd.R_lit k61 w.heap.size 61 ?hg (N := 12) ?hd (xs := ([] : List CC)) (inner := []) (ok := fun _ => True) (okp := fun _ => True) ?hr ?hp (fun _ hk => hk) trivial B0.out B0.out.size (by simp) ?_; (case hd => rfl); (case hg => rfl); (case hr => first | (go_simp; done) | (go_simp; rfl)); (case hp => exact (Reps.none _ _)); intro vc wA ho hb hg_ hnew_; have C1 := Aside0.mk ho; have B1 := Aside0.mk hb; clear ho hb hg_ hnew_ B0)
    | ((with_reducible refine qa (N := 13) rfl ?_); refine Kd.R_lit (Kd.int .i64) w.heap.size 3 ?hg (N := 13) ?hd (xs := ([] : List Int)) (inner := []) (ok := fun _ => True) (okp := fun _ => True) ?hr ?hp (fun _ hk => hk) trivial B1.out B1.out.size (by simp) ?_; (case hd => rfl); (case hg => rfl); (case hr => first | (go_simp; done) | (go_simp; rfl)); (case hp => exact (Reps.none _ _)); intro vd wB ho hb hg_ hnew_; have C2 := Aside0.mk (quB C1.out hg_); have D2 := Aside0.mk ho; have B2 := Aside0.mk hb; clear ho hb hg_ hnew_ B1 C1)
    | ((with_reducible refine qZ (f := 46) rfl ?_); refine qPA (some 15) rfl rfl Tryd.func46 (by kernel_rfl) rfl #[.string a0, .string ⟨#[47]⟩] rfl (by (try simp only [List.map_toArray, List.map_cons, List.map_nil]); first | done | rfl | simp) ?_; refine (strings_Split.calls a0 ⟨#[47]⟩ L _ (Laid.below HLD.out B2.out) HSP.out).mono ?_; rintro e wC ⟨vw, rfl, hw, hb⟩; refine ⟨_, rfl, ?_⟩; have C3 := Aside0.mk (Kd.qS C2.out hb); have D3 := Aside0.mk (Kd.qS D2.out hb); have L3 := Aside0.mk (Kd.qu hw B2.out.size); have B3 := Aside0.mk (qhA B2.out B2.out.size hb); obtain ⟨ad, cw, ew⟩ := Kd.R_slice1 L3.out HL0.out; subst ew; clear hw hb C2 D2 B2))
  have M4 := Aside0.mk (show mapI.Is (wC.alloc (.map #[] 0)) wC.heap.size [] from MapKit.Is.made wC)
  have HG := Aside0.mk (show w.heap.size ≤ wC.heap.size from B3.out.size)
  have C4 := Aside0.mk (Kd.qB C3.out (.map #[] 0))
  have D4 := Aside0.mk (Kd.qB D3.out (.map #[] 0))
  have L4 := Aside0.mk (Kd.qB L3.out (.map #[] 0))
  have B4 := Aside0.mk (qx B3.out (.map #[] 0))
  clear C3 D3 L3 B3 hmm
  generalize hgg : wC.heap.size = g at M4 HG ⊢
  clear hgg
  generalize wC.alloc (.map #[] 0) = wD at M4 C4 D4 L4 B4 ⊢
  go_loopg [5, 6, 19] L.length (fun gg v5 v6 v19 wq => ∃ (vc vd : Value) (s : Sx) (y : Nat), vc = v5 ∧ vd = v6 ∧ v19 = .int .i64 y ∧ L.length - y ≤ gg ∧ y ≤ L.length ∧ Aside0 (sixRows r0.size y (L.drop y) s = T) ∧ Aside0 (SixOk s) ∧ Aside0 (Kd.R k61 61 wq w.heap.size (fun _ => True) vc s.cs) ∧ Aside0 (Kd.R (Kd.int .i64) 3 wq w.heap.size (fun _ => True) vd s.ds) ∧ Aside0 (Kd.R Kd.string 9 wq w.heap.size (fun _ => True) (.slice (some ad) L.length cw) L) ∧ Aside0 (mapI.Is wq g s.ms) ∧ Aside0 (Below w.heap.size w wq))
  case atStart => exact ⟨_, _, ⟨[], [], []⟩, 0, rfl, rfl, rfl, by omega, by omega, HT, ⟨SixOk.start⟩, C4, D4, L4, M4, B4⟩
  case round =>
    clear C4 D4 L4 M4 B4 HT
    obtain ⟨vc, vd, s, y, rfl, rfl, rfl, hgk, hy, HT, HK, C0, D0, LR, M0, B⟩ := hrel
    rename World => wr
    by_cases hlt : y < L.length
    · have hltz : (y : Int) < (L.length : Int) := by omega
      obtain ⟨_, _, hC⟩ := Kd.qO LR.out
      obtain ⟨ady, ey, hcell⟩ := Kd.qyA hC (y : Int) (by omega) (by omega)
      obtain rfl : ad = ady := by injection ey
      obtain ⟨ad0, e0, hcell0⟩ := Kd.qyA hC (0 : Int) (by omega) (by omega)
      obtain rfl : ad = ad0 := by injection e0
      rw [HR0.out] at hcell0
      obtain ⟨row, hrow⟩ : ∃ row, L[y] = row := ⟨_, rfl⟩
      rw [six_getW L y hlt, hrow, Int.toNat_natCast] at hcell
      have hmem : row ∈ L := hrow ▸ List.getElem_mem hlt
      have hT := HT.out
      rw [List.drop_eq_getElem_cons hlt, hrow, sixRows] at hT
      have hrz := HRS.out row hmem
      have HRZ := Aside0.mk hrz
      have htr : qoA.f row ⟨#[46]⟩ = some ⟨(Lib.trimS row.data.toList [46]).toArray⟩ := if_pos ⟨by omega, by decide, by decide⟩
      have hdot := six_trim row _ htr
      generalize (⟨(Lib.trimS row.data.toList [46]).toArray⟩ : ByteArray) = u at htr hdot
      have HTR := Aside0.mk htr
      have HDT := Aside0.mk hdot
      clear hC hrow htr hdot HT hmem ey e0
      have hcell1 : wr.cell? ad = some (.string r0) := hcell0
      by_cases hz : row.size = r0.size
      · have hzi : (row.size : Int) = (r0.size : Int) := by omega
        rw [if_pos hz] at hT
        have HT1 := Aside0.mk hT
        clear hT
        by_cases hu0 : u = ⟨#[]⟩
        · subst hu0
          have HTN := Aside0.mk (show none = T by have := HT1.out; rwa [if_pos (HDT.out.1 rfl)] at this)
          have HFN := HF.out
          rw [← HTN.out] at HFN
          simp only [sixFin, Option.some.injEq, Prod.mk.injEq] at HFN
          obtain ⟨rfl, rfl, rfl⟩ := HFN
          go_wp2_with (first
            | (go_at_call 47; refine (qoA.calls row ⟨#[46]⟩ ⟨#[]⟩ _ HTR.out).mono ?_; rintro e w2 ⟨rfl, hb⟩; have B1 := Aside0.mk (qhA B.out B.out.size hb); clear hb))
          go_ret3
          exact ⟨_, _, rfl, Kd.R_nil k61 61 _ _ _, Kd.R_nil (Kd.int .i64) 3 _ _ _, B1.out⟩
        · have HTS := Aside0.mk (show (sixRow y 0 row.data.toList s).bind (sixRows r0.size (y + 1) (L.drop (y + 1))) = T by have := HT1.out; rwa [if_neg (fun h => hu0 (HDT.out.2 h))] at this)
          clear HT1 HDT
          have hue : u.toList.isEmpty = false := by
            rw [Bool.eq_false_iff]
            intro h
            apply hu0
            rw [Lib.toList_data, List.isEmpty_iff] at h
            obtain ⟨⟨l⟩⟩ := u
            obtain rfl : l = [] := h
            rfl
          go_wp2_with (first
            | (go_at_call 47; refine (qoA.calls row ⟨#[46]⟩ u _ HTR.out).mono ?_; rintro e w2 ⟨rfl, hb⟩; have B1 := Aside0.mk (qhA B.out B.out.size hb); have C1 := Aside0.mk (Kd.qS C0.out hb); have D1 := Aside0.mk (Kd.qS D0.out hb); have L1 := Aside0.mk (Kd.qS LR.out hb); have M1 := Aside0.mk (M0.out.below hb); clear hb B C0 D0 LR M0 hcell hcell0 hcell1))
          go_loopg [5, 6, 38] row.size (fun gg v5 v6 v38 wq => ∃ (vc vd : Value) (s : Sx) (x : Nat), vc = v5 ∧ vd = v6 ∧ v38 = .int .i64 x ∧ row.size - x ≤ gg ∧ x ≤ row.size ∧ Aside0 ((sixRow y x (row.data.toList.drop x) s).bind (sixRows r0.size (y + 1) (L.drop (y + 1))) = T) ∧ Aside0 (SixOk s) ∧ Aside0 (Kd.R k61 61 wq w.heap.size (fun _ => True) vc s.cs) ∧ Aside0 (Kd.R (Kd.int .i64) 3 wq w.heap.size (fun _ => True) vd s.ds) ∧ Aside0 (Kd.R Kd.string 9 wq w.heap.size (fun _ => True) (.slice (some ad) L.length cw) L) ∧ Aside0 (mapI.Is wq g s.ms) ∧ Aside0 (Below w.heap.size w wq))
          case atStart => exact ⟨_, _, s, 0, rfl, rfl, rfl, by omega, by omega, HTS, HK, C1, D1, L1, M1, B1⟩
          case round =>
            clear C1 D1 L1 M1 B1 HTS HK
            obtain ⟨vc, vd, s, x, rfl, rfl, rfl, hgx, hx, HT, HK, C0, D0, LR, M0, B⟩ := hrel
            rename World => wq
            have hdl : row.data.toList.length = row.size := by rw [Array.length_toList]; rfl
            by_cases hxl : x < row.size
            · have hxz : (x : Int) < (row.size : Int) := by omega
              have hx0 : (0 : Int) ≤ (x : Int) := by omega
              have hxt : x < row.data.toList.length := by omega
              obtain ⟨c, hc⟩ : ∃ c, row.data.toList[x] = c := ⟨_, rfl⟩
              have hT := HT.out
              rw [List.drop_eq_getElem_cons hxt, hc, sixRow, sixByte] at hT
              have hbt := six_bt row x hxt
              rw [hc] at hbt
              have hix : ∀ h : x < row.size, ((row[x]'h).toNat : Int) = (c.toNat : Int) := fun h => by have := bt_at row (x : Int) (by simpa using h); rw [hbt] at this; simpa using this
              have hc256 : c.toNat < 256 := c.toNat_lt
              have HBT := Aside0.mk hbt
              clear HT hbt hc hdl hxt
              have p0 := eq_true hx0
              have q0 := eq_true hxz
              obtain ⟨n, hn⟩ : ∃ n : Int, (c.toNat : Int) = n := ⟨_, rfl⟩
              simp only [hn] at hix
              by_cases h46 : c = 46
              · have hn46 : n = 46 := by rw [← hn, h46]; rfl
                rw [if_pos h46] at hT
                have HT := Aside0.mk hT
                clear hT
                subst hn46
                clear hn
                go_wp2
                go_roundg (row.size - (x + 1))
                case measure => omega
                case rel => exact ⟨_, _, s, x + 1, rfl, rfl, by push_cast; rfl, by omega, by omega, HT, HK, C0, D0, LR, M0, B⟩
              · have hn46 : ¬ n = 46 := fun e => h46 (by rw [← hn] at e; have : c.toNat = 46 := by omega
                                                         have := congrArg UInt8.ofNat this; simpa using this)
                rw [if_neg h46] at hT
                have HT := Aside0.mk hT
                clear hT
                have hdg := dg_eq c
                rw [hn] at hdg
                obtain ⟨dg, hdgv⟩ : ∃ dg, isDg c = dg := ⟨_, rfl⟩
                rw [hdgv] at hdg
                have HDG := Aside0.mk hdg
                have HDV := Aside0.mk hdgv
                have HN := Aside0.mk hn
                clear hdg hdgv hn
                cases dg with
                | false =>
                  have HTN := Aside0.mk (show none = T by have := HT.out; rwa [HDV.out, if_neg (by decide), Option.bind_none, Option.bind_none] at this)
                  have HFN := HF.out
                  rw [← HTN.out] at HFN
                  simp only [sixFin, Option.some.injEq, Prod.mk.injEq] at HFN
                  obtain ⟨rfl, rfl, rfl⟩ := HFN
                  go_wp2_with (first
                    | ((with_reducible refine qZ (f := 48) rfl ?_); refine qPA (some 48) rfl rfl Tryd.func48 (by kernel_rfl) rfl #[.int .u8 n] rfl (by (try simp only [List.map_toArray, List.map_cons, List.map_nil]); first | done | rfl | simp) ?_; refine (quA.calls n false _ HDG.out).mono ?_; rintro e w2 ⟨rfl, hb0⟩; refine ⟨_, rfl, ?_⟩; have hb := hb0.below; clear hb0; have B1 := Aside0.mk (qhA B.out B.out.size hb); clear hb))
                  go_ret3
                  exact ⟨_, _, rfl, Kd.R_nil k61 61 _ _ _, Kd.R_nil (Kd.int .i64) 3 _ _ _, B1.out⟩
                | true =>
                  have HT1 := Aside0.mk (show ((if s.cs.length = 6 then (none : Option Sx) else some ⟨s.cs ++ [⟨(x : Int), (y : Int)⟩], s.ds ++ [((c.toNat : Int) - 48)], ((x : Int), true) :: s.ms⟩).bind (sixRow y (x + 1) (row.data.toList.drop (x + 1)))).bind (sixRows r0.size (y + 1) (L.drop (y + 1))) = T by have := HT.out; rwa [HDV.out, if_pos rfl] at this)
                  clear HT
                  obtain ⟨Ac, cc, eac⟩ := Kd.qn C0.out
                  subst eac
                  by_cases h6 : s.cs.length = 6
                  · have h6i : (s.cs.length : Int) = 6 := by omega
                    have HTN := Aside0.mk (show none = T by have := HT1.out; rwa [if_pos h6, Option.bind_none, Option.bind_none] at this)
                    have HFN := HF.out
                    rw [← HTN.out] at HFN
                    simp only [sixFin, Option.some.injEq, Prod.mk.injEq] at HFN
                    obtain ⟨rfl, rfl, rfl⟩ := HFN
                    clear HT1
                    go_wp2_with (first
                      | ((with_reducible refine qZ (f := 48) rfl ?_); refine qPA (some 48) rfl rfl Tryd.func48 (by kernel_rfl) rfl #[.int .u8 n] rfl (by (try simp only [List.map_toArray, List.map_cons, List.map_nil]); first | done | rfl | simp) ?_; refine (quA.calls n true _ HDG.out).mono ?_; rintro e w2 ⟨rfl, hb0⟩; refine ⟨_, rfl, ?_⟩; have hb := hb0.below; clear hb0; have B1 := Aside0.mk (qhA B.out B.out.size hb); clear hb))
                    go_ret3
                    exact ⟨_, _, rfl, Kd.R_nil k61 61 _ _ _, Kd.R_nil (Kd.int .i64) 3 _ _ _, B1.out⟩
                  · have h6i : ¬ (s.cs.length : Int) = 6 := by omega
                    have HT2 := Aside0.mk (show (sixRow y (x + 1) (row.data.toList.drop (x + 1)) ⟨s.cs ++ [⟨(x : Int), (y : Int)⟩], s.ds ++ [((c.toNat : Int) - 48)], ((x : Int), true) :: s.ms⟩).bind (sixRows r0.size (y + 1) (L.drop (y + 1))) = T by have := HT1.out; rwa [if_neg h6] at this)
                    clear HT1
                    go_wp2_with (first
                      | ((with_reducible refine qZ (f := 48) rfl ?_); refine qPA (some 48) rfl rfl Tryd.func48 (by kernel_rfl) rfl #[.int .u8 n] rfl (by (try simp only [List.map_toArray, List.map_cons, List.map_nil]); first | done | rfl | simp) ?_; refine (quA.calls n true _ HDG.out).mono ?_; rintro e w2 ⟨rfl, hb0⟩; refine ⟨_, rfl, ?_⟩; have hb := hb0.below; clear hb0; have n0_ := Aside0.mk (qhA B.out B.out.size hb); have n1_ := Aside0.mk (Kd.qS C0.out hb); have n2_ := Aside0.mk (Kd.qS D0.out hb); have n3_ := Aside0.mk (Kd.qS LR.out hb); have n4_ := Aside0.mk (M0.out.below hb); clear hb B C0 D0 LR M0; have B := n0_; have C0 := n1_; have D0 := n2_; have LR := n3_; have M0 := n4_; clear n0_ n1_ n2_ n3_ n4_))
                    generalize hvc : (Value.slice Ac s.cs.length cc) = vc at C0 ⊢
                    clear hvc
                    have hrange : 48 ≤ n ∧ n ≤ 57 := by
                      have h1 := HDV.out
                      have h2 := HN.out
                      unfold isDg at h1
                      simp only [Bool.and_eq_true, decide_eq_true_eq] at h1
                      omega
                    have hw8 : IntKind.u8.wrap (n - 48) = n - 48 := by show (n - 48) % 256 = n - 48; omega
                    have hw64 : IntKind.i64.wrap (n - 48) = n - 48 := by rw [IntKind.wrap_i64]; omega
                    have HOK := Aside0.mk (show s.cs.length < 6 by have := HK.out.cs; omega)
                    have HOK2 := Aside0.mk (show s.ds.length < 6 by have := HK.out.cs; have := HK.out.ds; omega)
                    have HML := Aside0.mk (show s.ms.length < maxLen by have := HK.out.cs; have := HK.out.ms; unfold maxLen; omega)
                    have HXW := Aside0.mk (show (Lit.int .i64 (x : Int)).wf = true by have := HRZ.out; unfold Lit.wf; simp only [Bool.and_eq_true, decide_eq_true_eq]; exact ⟨by show (-9223372036854775808 : Int) ≤ _; omega, by show _ ≤ (9223372036854775807 : Int); omega⟩)
                    clear hrange h6i
                    refine qsA (n := 19) (S := fun w' => True) (ds := []) #[false, false, false, false, false, false, false, false, false, false, false, false, false, false, false, false, false, false, false] (by kernel_rfl) rfl rfl trivial (fun hHeld => ?_); refine qRA sixTab14 sixBits14 (fun HT_ HW_ => ?_)
                    refine pure_ (i := 0) (N := some 55) (v := ?_) (a' := ?_) #[true, false, false, false, false, false, false, false, false, false, false, false, false, false, false, false, false, false, false] rfl rfl (qSA HT_.out (by kernel_rfl)) (fun _ _ _ h => h) (Or.inl ⟨by rfl, ?_⟩) ?_ ?_
                    rotate_left
                    · intro w'
                      go_simp
                      with_reducible rfl
                    rotate_left
                    · simp only [Act.put, List.setIfInBounds_toArray, List.set_cons_zero, List.set_cons_succ, i64_w, i32_w]
                      rfl
                    refine pure_ (i := 1) (N := some 56) (v := ?_) (a' := ?_) #[true, true, false, false, false, false, false, false, false, false, false, false, false, false, false, false, false, false, false] rfl rfl (qSA HT_.out (by kernel_rfl)) (fun _ _ _ h => h) (Or.inl ⟨by rfl, ?_⟩) ?_ ?_
                    rotate_left
                    · intro w'
                      go_simp
                      with_reducible rfl
                    rotate_left
                    · simp only [Act.put, List.setIfInBounds_toArray, List.set_cons_zero, List.set_cons_succ, i64_w, i32_w]
                      rfl
                    refine pure_ (i := 2) (N := some 57) (v := ?_) (a' := ?_) #[true, true, true, false, false, false, false, false, false, false, false, false, false, false, false, false, false, false, false] rfl rfl (qSA HT_.out (by kernel_rfl)) (fun _ _ _ h => h) (Or.inl ⟨by rfl, ?_⟩) ?_ ?_
                    rotate_left
                    · intro w'
                      go_simp
                      with_reducible rfl
                    rotate_left
                    · simp only [Act.put, List.setIfInBounds_toArray, List.set_cons_zero, List.set_cons_succ, i64_w, i32_w]
                      rfl
                    refine pure_ (i := 3) (N := some 58) (v := ?_) (a' := ?_) #[true, true, true, true, false, false, false, false, false, false, false, false, false, false, false, false, false, false, false] rfl rfl (qSA HT_.out (by kernel_rfl)) (fun _ _ _ h => h) (Or.inl ⟨by rfl, ?_⟩) ?_ ?_
                    rotate_left
                    · intro w'
                      go_simp
                      with_reducible rfl
                    rotate_left
                    · simp only [Act.put, List.setIfInBounds_toArray, List.set_cons_zero, List.set_cons_succ, i64_w, i32_w]
                      rfl
                    refine pure_ (i := 4) (N := some 59) (v := ?_) (a' := ?_) #[true, true, true, true, true, false, false, false, false, false, false, false, false, false, false, false, false, false, false] rfl rfl (qSA HT_.out (by kernel_rfl)) (fun _ _ _ h => h) (Or.inl ⟨by rfl, ?_⟩) ?_ ?_
                    rotate_left
                    · intro w'
                      go_simp
                      with_reducible rfl
                    rotate_left
                    · simp only [Act.put, List.setIfInBounds_toArray, List.set_cons_zero, List.set_cons_succ, i64_w, i32_w]
                      rfl
                    refine pure_ (i := 5) (N := some 60) (v := ?_) (a' := ?_) #[true, true, true, true, true, true, false, false, false, false, false, false, false, false, false, false, false, false, false] rfl rfl (qSA HT_.out (by kernel_rfl)) (fun _ _ _ h => h) (Or.inl ⟨by rfl, ?_⟩) ?_ ?_
                    rotate_left
                    · intro w'
                      go_simp
                      with_reducible rfl
                    rotate_left
                    · simp only [Act.put, List.setIfInBounds_toArray, List.set_cons_zero, List.set_cons_succ, i64_w, i32_w]
                      rfl
                    refine pure_ (i := 8) (N := some 63) (v := ?_) (a' := ?_) #[true, true, true, true, true, true, false, false, true, false, false, false, false, false, false, false, false, false, false] rfl rfl (qSA HT_.out (by kernel_rfl)) (fun _ _ _ h => h) (Or.inl ⟨by rfl, ?_⟩) ?_ ?_
                    rotate_left
                    · intro w'
                      go_simp
                      with_reducible rfl
                    rotate_left
                    · simp only [Act.put, List.setIfInBounds_toArray, List.set_cons_zero, List.set_cons_succ, i64_w, i32_w]
                      rfl
                    refine pure_ (i := 9) (N := some 64) (v := ?_) (a' := ?_) #[true, true, true, true, true, true, false, false, true, true, false, false, false, false, false, false, false, false, false] rfl rfl (qSA HT_.out (by kernel_rfl)) (fun _ _ _ h => h) (Or.inl ⟨by rfl, ?_⟩) ?_ ?_
                    rotate_left
                    · intro w'
                      go_simp
                      with_reducible rfl
                    rotate_left
                    · simp only [Act.put, List.setIfInBounds_toArray, List.set_cons_zero, List.set_cons_succ, i64_w, i32_w]
                      rfl
                    refine pure_ (i := 10) (N := some 65) (v := ?_) (a' := ?_) #[true, true, true, true, true, true, false, false, true, true, true, false, false, false, false, false, false, false, false] rfl rfl (qSA HT_.out (by kernel_rfl)) (fun _ _ _ h => h) (Or.inl ⟨by rfl, ?_⟩) ?_ ?_
                    rotate_left
                    · intro w'
                      go_simp
                      with_reducible rfl
                    rotate_left
                    · simp only [Act.put, List.setIfInBounds_toArray, List.set_cons_zero, List.set_cons_succ, i64_w, i32_w]
                      rfl
                    refine pure_ (i := 11) (N := some 66) (v := ?_) (a' := ?_) #[true, true, true, true, true, true, false, false, true, true, true, true, false, false, false, false, false, false, false] rfl rfl (qSA HT_.out (by kernel_rfl)) (fun _ _ _ h => h) (Or.inl ⟨by rfl, ?_⟩) ?_ ?_
                    rotate_left
                    · intro w'
                      go_simp
                      with_reducible rfl
                    rotate_left
                    · simp only [Act.put, List.setIfInBounds_toArray, List.set_cons_zero, List.set_cons_succ, i64_w, i32_w]
                      rfl
                    refine pure_ (i := 12) (N := some 67) (v := ?_) (a' := ?_) #[true, true, true, true, true, true, false, false, true, true, true, true, true, false, false, false, false, false, false] rfl rfl (qSA HT_.out (by kernel_rfl)) (fun _ _ _ h => h) (Or.inl ⟨by rfl, ?_⟩) ?_ ?_
                    rotate_left
                    · intro w'
                      go_simp
                      with_reducible rfl
                    rotate_left
                    · simp only [Act.put, List.setIfInBounds_toArray, List.set_cons_zero, List.set_cons_succ, i64_w, i32_w]
                      rfl
                    refine pure_ (i := 13) (N := some 68) (v := ?_) (a' := ?_) #[true, true, true, true, true, true, false, false, true, true, true, true, true, true, false, false, false, false, false] rfl rfl (qSA HT_.out (by kernel_rfl)) (fun _ _ _ h => h) (Or.inl ⟨by rfl, ?_⟩) ?_ ?_
                    rotate_left
                    · intro w'
                      go_simp
                      with_reducible rfl
                    rotate_left
                    · simp only [Act.put, List.setIfInBounds_toArray, List.set_cons_zero, List.set_cons_succ, i64_w, i32_w]
                      rfl
                    refine qvC [6, 7, 14, 15, 16, 17, 18] (fun a0_ b a w' => ∃ (s61 : Value) (s62 : Value) (s69 : Value) (s70 : Value) (m16_ : Value) (m17_ : Value), a = putSel a0_ b [(6, 61, s61), (7, 62, s62), (14, 69, s69), (15, 70, s70), (16, 5, m16_), (17, 6, m17_)] ∧ (Below w.heap.size w w') ∧ (Kd.R Kd.string 9 w' w.heap.size (fun _ => True) (.slice (some ad) L.length cw) L) ∧ (b 7 = false → Kd.R k61 61 w' w.heap.size (fun _ => True) vc s.cs) ∧ (b 6 = true → b 7 = false → Kd.R k61 61 w' w.heap.size (fun k_ => some k_ ≠ (vc : Value).ownBlock) s61 [(⟨(x : Int), (y : Int)⟩ : CC)]) ∧ (b 7 = true → Kd.R k61 61 w' w.heap.size (fun _ => True) s62 (s.cs ++ [(⟨(x : Int), (y : Int)⟩ : CC)])) ∧ (b 15 = false → Kd.R (Kd.int .i64) 3 w' w.heap.size (fun _ => True) vd s.ds) ∧ (b 14 = true → b 15 = false → Kd.R (Kd.int .i64) 3 w' w.heap.size (fun k_ => some k_ ≠ (vd : Value).ownBlock) s69 [(n - 48)]) ∧ (b 15 = true → Kd.R (Kd.int .i64) 3 w' w.heap.size (fun _ => True) s70 (s.ds ++ [(n - 48)])) ∧ (b 18 = false → mapI.Is w' g s.ms) ∧ (b 18 = true → mapI.Is w' g (((x : Int), true) :: s.ms)) ∧ (b 16 = true → (m16_ : Value) = s62) ∧ (b 17 = true → (m17_ : Value) = s70)) HT_.out HW_.out (by kernel_rfl) (by kernel_rfl) ?_ ?_ ?_
                    · exact ⟨.bool false, .bool false, .bool false, .bool false, .bool false, .bool false, by simp only [putSel, Bool.false_eq_true, if_false], qg B.out, Kd.qF LR.out, fun _ => Kd.qF C0.out, fun h_ => absurd h_ (by decide), fun h_ => absurd h_ (by decide), fun _ => Kd.qF D0.out, fun h_ => absurd h_ (by decide), fun h_ => absurd h_ (by decide), fun _ => M0.out.drew, fun h_ => absurd h_ (by decide), fun h_ => absurd h_ (by decide), fun h_ => absurd h_ (by decide)⟩
                    · skip
                      clear B C0 D0 LR M0
                      refine qt ?_ ?_
                      · rintro b a w' ⟨s61, s62, s69, s70, m16_, m17_, ha, Q_B, Q_LR, Q_C0, Q_LC, Q_C1, Q_D0, Q_LD, Q_D1, Q_M0, Q_M1, Q_X16_, Q_X17_⟩ hb_ hon hoff
                        refine ⟨_, rfl, fun K hK => ?_⟩
                        have e60 : a.tmps[60]? = some (.agg #[.int .i64 (x : Int), .int .i64 (y : Int)]) := by rw [ha]; exact (qDA rfl).trans rfl
                        replace ha := Aside0.mk ha
                        have B := Aside0.mk Q_B
                        have LR := Aside0.mk Q_LR
                        have C0 := Aside0.mk (Q_C0 (hoff 7 (by kernel_rfl)))
                        have D0 := Aside0.mk (Q_D0 (hoff 15 (by kernel_rfl)))
                        have M0 := Aside0.mk (Q_M0 (hoff 18 (by kernel_rfl)))
                        refine Kd.qUB k61 (w0 := w) w.heap.size 61 (by rfl) (N := 61) rfl (xs := ([(⟨(x : Int), (y : Int)⟩ : CC)] : List _)) (inner := [.int .i64 (x : Int), .int .i64 (y : Int)]) (ok := fun k_ => some k_ ≠ (vc : Value).ownBlock) (okp := fun _ => False) ?hr61 ?hp61 (fun _ hk => hk.elim) (Kd.fresh' (Kd.R_lt C0.out) _ (Nat.le_refl _)) B.out B.out.size (by simp) ?_
                        case hr61 => first | (go_simp; done) | (go_simp; rfl)
                        case hp61 => exact Reps.c2 (show Kd.M k61 _ _ _ (⟨(x : Int), (y : Int)⟩ : CC) [.int .i64 (x : Int), .int .i64 (y : Int)] from k61_mkM _ _ _ _) (Reps.none _ _)
                        intro v_ w1_ hR_ hB_ hg_ _
                        refine hK.out _ _ ⟨v_, s62, s69, s70, m16_, m17_, (by rw [ha.out]; exact qv 0 hb_ rfl rfl rfl), hB_, quB LR.out hg_, fun _ => quB C0.out hg_, fun _ _ => hR_, fun h0_ => absurd ((hoff 7 (by kernel_rfl)).symm.trans h0_) (by decide), fun _ => quB D0.out hg_, fun h0_ h1_ => quB (Q_LD h0_ h1_) hg_, fun h0_ => absurd ((hoff 15 (by kernel_rfl)).symm.trans h0_) (by decide), fun _ => M0.out.qgB (hg_.block g M0.out.lt (by simp)), fun h0_ => absurd ((hoff 18 (by kernel_rfl)).symm.trans h0_) (by decide), fun h0_ => absurd ((hoff 16 (by kernel_rfl)).symm.trans h0_) (by decide), fun h0_ => absurd ((hoff 17 (by kernel_rfl)).symm.trans h0_) (by decide)⟩
                      refine qt ?_ ?_
                      · rintro b a w' ⟨s61, s62, s69, s70, m16_, m17_, ha, Q_B, Q_LR, Q_C0, Q_LC, Q_C1, Q_D0, Q_LD, Q_D1, Q_M0, Q_M1, Q_X16_, Q_X17_⟩ hb_ hon hoff
                        refine ⟨_, rfl, fun K hK => ?_⟩
                        have e57 : a.tmps[57]? = some (vc) := by rw [ha]; exact (qDA rfl).trans rfl
                        have e61 : a.tmps[61]? = some (s61) := by rw [ha]; exact qHA (e := (6, 61, s61)) 0 rfl rfl (hon 6 (by kernel_rfl)) rfl
                        replace ha := Aside0.mk ha
                        have B := Aside0.mk Q_B
                        have LR := Aside0.mk Q_LR
                        have C0 := Aside0.mk (Q_C0 hb_)
                        have LC := Aside0.mk (Q_LC (hon 6 (by kernel_rfl)) hb_)
                        have D0 := Aside0.mk (Q_D0 (hoff 15 (by kernel_rfl)))
                        have M0 := Aside0.mk (Q_M0 (hoff 18 (by kernel_rfl)))
                        obtain ⟨A_, c_, hs_⟩ := Kd.qn LC.out
                        have LX_ := LC.out
                        rw [hs_] at LX_
                        have HRd_ := (Kd.qO LX_).2.2
                        have hbd_ := HOK.out
                        refine Kd.R_append_rows_step k61 (w0 := w) w.heap.size (by rfl) (.tmp 57) (.tmp 61) 50 61 (.agg #[(.int .i64 0), (.int .i64 0)]) 16 rfl Tryd.underlying50 info61 rfl (by decide) (by omega) vc s.cs [(⟨(x : Int), (y : Int)⟩ : CC)] A_ _ c_ (fun _ => True) (fun _ => False) (qBC e57) ((qBC e61).trans hs_) C0.out HRd_ (fun x_ cs_ hk_ => by obtain rfl := k61_open hk_; exact k61_mkM _ _ _ x_) (fun _ hk => hk.elim) (fun _ _ => trivial) B.out B.out.size (by simp only [List.length_cons, List.length_nil]; omega) ?_
                        intro v_ w1_ hR_ hB_ hg_ _
                        refine hK.out _ _ ⟨s61, v_, s69, s70, m16_, m17_, (by rw [ha.out]; exact qv 1 hb_ rfl rfl rfl), hB_, Kd.qTA LR.out (Kd.qw C0.out) (by decide) hg_, fun h0_ => absurd ((qdB b 7).symm.trans h0_) (by decide), fun _ h1_ => absurd ((qdB b 7).symm.trans h1_) (by decide), fun _ => hR_, fun _ => Kd.qTA D0.out (Kd.qw C0.out) (by decide) hg_, fun h0_ h1_ => Kd.qTA (Q_LD h0_ h1_) (Kd.qw C0.out) (by decide) hg_, fun h0_ => absurd ((hoff 15 (by kernel_rfl)).symm.trans h0_) (by decide), fun _ => M0.out.qgB (hg_.block g M0.out.lt (M0.out.ne C0.out)), fun h0_ => absurd ((hoff 18 (by kernel_rfl)).symm.trans h0_) (by decide), fun h0_ => absurd ((hoff 16 (by kernel_rfl)).symm.trans h0_) (by decide), fun h0_ => absurd ((hoff 17 (by kernel_rfl)).symm.trans h0_) (by decide)⟩
                      refine qt ?_ ?_
                      · rintro b a w' ⟨s61, s62, s69, s70, m16_, m17_, ha, Q_B, Q_LR, Q_C0, Q_LC, Q_C1, Q_D0, Q_LD, Q_D1, Q_M0, Q_M1, Q_X16_, Q_X17_⟩ hb_ hon hoff
                        refine ⟨_, rfl, fun K hK => ?_⟩
                        have e68 : a.tmps[68]? = some (.int .i64 (n - 48)) := by rw [ha]; exact (qDA rfl).trans rfl
                        replace ha := Aside0.mk ha
                        have B := Aside0.mk Q_B
                        have LR := Aside0.mk Q_LR
                        have D0 := Aside0.mk (Q_D0 (hoff 15 (by kernel_rfl)))
                        have M0 := Aside0.mk (Q_M0 (hoff 18 (by kernel_rfl)))
                        refine Kd.qUB (Kd.int .i64) (w0 := w) w.heap.size 3 (by rfl) (N := 69) rfl (xs := ([(n - 48)] : List _)) (inner := [.int .i64 (n - 48)]) (ok := fun k_ => some k_ ≠ (vd : Value).ownBlock) (okp := fun _ => False) ?hr69 ?hp69 (fun _ hk => hk.elim) (Kd.fresh' (Kd.R_lt D0.out) _ (Nat.le_refl _)) B.out B.out.size (by simp) ?_
                        case hr69 => first | (go_simp; done) | (go_simp; rfl)
                        case hp69 => exact Reps.one (show Kd.M (Kd.int .i64) _ _ _ (n - 48) [.int .i64 (n - 48)] from rfl) (Reps.none _ _)
                        intro v_ w1_ hR_ hB_ hg_ _
                        refine hK.out _ _ ⟨s61, s62, v_, s70, m16_, m17_, (by rw [ha.out]; exact qv 2 hb_ rfl rfl rfl), hB_, quB LR.out hg_, fun h0_ => quB (Q_C0 h0_) hg_, fun h0_ h1_ => quB (Q_LC h0_ h1_) hg_, fun h0_ => quB (Q_C1 h0_) hg_, fun _ => quB D0.out hg_, fun _ _ => hR_, fun h0_ => absurd ((hoff 15 (by kernel_rfl)).symm.trans h0_) (by decide), fun _ => M0.out.qgB (hg_.block g M0.out.lt (by simp)), fun h0_ => absurd ((hoff 18 (by kernel_rfl)).symm.trans h0_) (by decide), fun h0_ => absurd ((hoff 16 (by kernel_rfl)).symm.trans h0_) (by decide), fun h0_ => absurd ((hoff 17 (by kernel_rfl)).symm.trans h0_) (by decide)⟩
                      refine qt ?_ ?_
                      · rintro b a w' ⟨s61, s62, s69, s70, m16_, m17_, ha, Q_B, Q_LR, Q_C0, Q_LC, Q_C1, Q_D0, Q_LD, Q_D1, Q_M0, Q_M1, Q_X16_, Q_X17_⟩ hb_ hon hoff
                        refine ⟨_, rfl, fun K hK => ?_⟩
                        have e63 : a.tmps[63]? = some (vd) := by rw [ha]; exact (qDA rfl).trans rfl
                        have e69 : a.tmps[69]? = some (s69) := by rw [ha]; exact qHA (e := (14, 69, s69)) 2 rfl rfl (hon 14 (by kernel_rfl)) rfl
                        replace ha := Aside0.mk ha
                        have B := Aside0.mk Q_B
                        have LR := Aside0.mk Q_LR
                        have C1 := Aside0.mk (Q_C1 (hon 7 (by kernel_rfl)))
                        have D0 := Aside0.mk (Q_D0 hb_)
                        have LD := Aside0.mk (Q_LD (hon 14 (by kernel_rfl)) hb_)
                        have M0 := Aside0.mk (Q_M0 (hoff 18 (by kernel_rfl)))
                        obtain ⟨A_, c_, hs_⟩ := Kd.qn LD.out
                        have LX_ := LD.out
                        rw [hs_] at LX_
                        have HRd_ := (Kd.qO LX_).2.2
                        have hbd_ := HOK2.out
                        refine Kd.R_append_rows_step (Kd.int .i64) (w0 := w) w.heap.size (by rfl) (.tmp 63) (.tmp 69) 25 3 (.int .i64 0) 8 rfl Tryd.underlying25 info3 rfl (by decide) (by omega) vd s.ds [(n - 48)] A_ _ c_ (fun _ => True) (fun _ => False) (qBC e63) ((qBC e69).trans hs_) D0.out HRd_ (fun _ _ hk_ => hk_) (fun _ hk => hk.elim) (fun _ _ => trivial) B.out B.out.size (by simp only [List.length_cons, List.length_nil]; omega) ?_
                        intro v_ w1_ hR_ hB_ hg_ _
                        refine hK.out _ _ ⟨s61, s62, s69, v_, m16_, m17_, (by rw [ha.out]; exact qv 3 hb_ rfl rfl rfl), hB_, Kd.qTA LR.out (Kd.qw D0.out) (by decide) hg_, fun h0_ => absurd ((hon 7 (by kernel_rfl)).symm.trans h0_) (by decide), fun _ h1_ => absurd ((hon 7 (by kernel_rfl)).symm.trans h1_) (by decide), fun _ => Kd.qTA C1.out (Kd.qw D0.out) (by decide) hg_, fun h0_ => absurd ((qdB b 15).symm.trans h0_) (by decide), fun _ h1_ => absurd ((qdB b 15).symm.trans h1_) (by decide), fun _ => hR_, fun _ => M0.out.qgB (hg_.block g M0.out.lt (M0.out.ne D0.out)), fun h0_ => absurd ((hoff 18 (by kernel_rfl)).symm.trans h0_) (by decide), fun h0_ => absurd ((hoff 16 (by kernel_rfl)).symm.trans h0_) (by decide), fun h0_ => absurd ((hoff 17 (by kernel_rfl)).symm.trans h0_) (by decide)⟩
                      refine qt ?_ ?_
                      · rintro b a w' ⟨s61, s62, s69, s70, m16_, m17_, ha, Q_B, Q_LR, Q_C0, Q_LC, Q_C1, Q_D0, Q_LD, Q_D1, Q_M0, Q_M1, Q_X16_, Q_X17_⟩ hb_ hon hoff
                        refine ⟨_, rfl, fun K hK => ?_⟩
                        have e62 : a.tmps[62]? = some (s62) := by rw [ha]; exact qHA (e := (7, 62, s62)) 1 rfl rfl (hon 7 (by kernel_rfl)) rfl
                        replace ha := Aside0.mk ha
                        have B := Aside0.mk Q_B
                        have LR := Aside0.mk Q_LR
                        have C1 := Aside0.mk (Q_C1 (hon 7 (by kernel_rfl)))
                        have D1 := Aside0.mk (Q_D1 (hon 15 (by kernel_rfl)))
                        have M0 := Aside0.mk (Q_M0 (hoff 18 (by kernel_rfl)))
                        refine qmA (w1 := w') (v := s62) (by rfl) rfl ?_ ?_
                        · go_simp
                          (try simp only [i64_w])
                          try rfl
                        refine hK.out _ _ ⟨s61, s62, s69, s70, (s62), m17_, (by rw [ha.out]; exact qv 4 hb_ rfl rfl rfl), Q_B, Q_LR, fun h0_ => absurd ((hon 7 (by kernel_rfl)).symm.trans h0_) (by decide), fun _ h1_ => absurd ((hon 7 (by kernel_rfl)).symm.trans h1_) (by decide), Q_C1, fun h0_ => absurd ((hon 15 (by kernel_rfl)).symm.trans h0_) (by decide), fun _ h1_ => absurd ((hon 15 (by kernel_rfl)).symm.trans h1_) (by decide), Q_D1, Q_M0, fun h0_ => absurd ((hoff 18 (by kernel_rfl)).symm.trans h0_) (by decide), fun _ => rfl, fun h0_ => absurd ((hoff 17 (by kernel_rfl)).symm.trans h0_) (by decide)⟩
                      refine qt ?_ ?_
                      · rintro b a w' ⟨s61, s62, s69, s70, m16_, m17_, ha, Q_B, Q_LR, Q_C0, Q_LC, Q_C1, Q_D0, Q_LD, Q_D1, Q_M0, Q_M1, Q_X16_, Q_X17_⟩ hb_ hon hoff
                        refine ⟨_, rfl, fun K hK => ?_⟩
                        have e70 : a.tmps[70]? = some (s70) := by rw [ha]; exact qHA (e := (15, 70, s70)) 3 rfl rfl (hon 15 (by kernel_rfl)) rfl
                        replace ha := Aside0.mk ha
                        have B := Aside0.mk Q_B
                        have LR := Aside0.mk Q_LR
                        have C1 := Aside0.mk (Q_C1 (hon 7 (by kernel_rfl)))
                        have D1 := Aside0.mk (Q_D1 (hon 15 (by kernel_rfl)))
                        have M0 := Aside0.mk (Q_M0 (hoff 18 (by kernel_rfl)))
                        refine qmA (w1 := w') (v := s70) (by rfl) rfl ?_ ?_
                        · go_simp
                          (try simp only [i64_w])
                          try rfl
                        refine hK.out _ _ ⟨s61, s62, s69, s70, m16_, (s70), (by rw [ha.out]; exact qv 5 hb_ rfl rfl rfl), Q_B, Q_LR, fun h0_ => absurd ((hon 7 (by kernel_rfl)).symm.trans h0_) (by decide), fun _ h1_ => absurd ((hon 7 (by kernel_rfl)).symm.trans h1_) (by decide), Q_C1, fun h0_ => absurd ((hon 15 (by kernel_rfl)).symm.trans h0_) (by decide), fun _ h1_ => absurd ((hon 15 (by kernel_rfl)).symm.trans h1_) (by decide), Q_D1, Q_M0, fun h0_ => absurd ((hoff 18 (by kernel_rfl)).symm.trans h0_) (by decide), Q_X16_, fun _ => rfl⟩
                      refine qt ?_ ?_
                      · rintro b a w' ⟨s61, s62, s69, s70, m16_, m17_, ha, Q_B, Q_LR, Q_C0, Q_LC, Q_C1, Q_D0, Q_LD, Q_D1, Q_M0, Q_M1, Q_X16_, Q_X17_⟩ hb_ hon hoff
                        refine ⟨_, rfl, fun K hK => ?_⟩
                        have e55 : a.tmps[55]? = some (.map (some g)) := by rw [ha]; exact (qDA rfl).trans rfl
                        have e56 : a.tmps[56]? = some (.int .i64 (x : Int)) := by rw [ha]; exact (qDA rfl).trans rfl
                        replace ha := Aside0.mk ha
                        have B := Aside0.mk Q_B
                        have LR := Aside0.mk Q_LR
                        have C1 := Aside0.mk (Q_C1 (hon 7 (by kernel_rfl)))
                        have D1 := Aside0.mk (Q_D1 (hon 15 (by kernel_rfl)))
                        have M0 := Aside0.mk (Q_M0 hb_)
                        obtain ⟨w1_, hrun_, hM1_, hgr_⟩ := M0.out.run_put HML.out (x := (x : Int)) HXW.out (v := true) trivial
                        have hrun2_ : (Instr.mapUpdate 64 (.map (some g)) (.int .i64 (x : Int)) (.bool true)).run Tryd.prog w' = .ok () w1_ := hrun_
                        refine skip_ (w1 := w1_) (by rfl) rfl ?hr18 ?_
                        case hr18 =>
                          have a1_ := qBC e55
                          have a2_ := qBC e56
                          unfold execOp
                          simp [a1_, a2_, show a.eval (.const (.bool true)) = .bool true from rfl, hrun2_, Result.andThen]
                        refine hK.out _ _ ⟨s61, s62, s69, s70, m16_, m17_, (by rw [ha.out]; exact putSel_none (v := undef) rfl), B.out.grown hgr_ B.out.size (fun k_ e_ => by cases e_; exact HG.out), M0.out.row LR.out hgr_, fun h0_ => absurd ((hon 7 (by kernel_rfl)).symm.trans h0_) (by decide), fun _ h1_ => absurd ((hon 7 (by kernel_rfl)).symm.trans h1_) (by decide), fun _ => M0.out.row C1.out hgr_, fun h0_ => absurd ((hon 15 (by kernel_rfl)).symm.trans h0_) (by decide), fun _ h1_ => absurd ((hon 15 (by kernel_rfl)).symm.trans h1_) (by decide), fun _ => M0.out.row D1.out hgr_, fun h0_ => absurd ((qdB b 18).symm.trans h0_) (by decide), fun _ => hM1_, Q_X16_, Q_X17_⟩
                      exact qEC
                    · rintro b a w' hall ⟨s61, s62, s69, s70, m16_, m17_, ha, Q_B, Q_LR, Q_C0, Q_LC, Q_C1, Q_D0, Q_LD, Q_D1, Q_M0, Q_M1, Q_X16_, Q_X17_⟩
                      clear B C0 D0 LR M0
                      have hb6_ := hall 6 (by kernel_rfl)
                      have hb7_ := hall 7 (by kernel_rfl)
                      have hb14_ := hall 14 (by kernel_rfl)
                      have hb15_ := hall 15 (by kernel_rfl)
                      have hb16_ := hall 16 (by kernel_rfl)
                      have hb17_ := hall 17 (by kernel_rfl)
                      have hb18_ := hall 18 (by kernel_rfl)
                      subst ha
                      obtain rfl := Q_X16_ hb16_
                      obtain rfl := Q_X17_ hb17_
                      simp only [putSel, hb6_, hb7_, hb14_, hb15_, hb16_, hb17_, hb18_, if_true, Act.put, List.setIfInBounds_toArray, List.set_cons_zero, List.set_cons_succ]
                      have B := Aside0.mk Q_B
                      clear Q_B
                      have LR := Aside0.mk Q_LR
                      clear Q_LR
                      clear Q_C0
                      clear Q_LC
                      have C1 := Aside0.mk (Q_C1 hb7_)
                      clear Q_C1
                      clear Q_D0
                      clear Q_LD
                      have D1 := Aside0.mk (Q_D1 hb15_)
                      clear Q_D1
                      clear Q_M0
                      have M1 := Aside0.mk (Q_M1 hb18_)
                      clear Q_M1
                      clear hall hb6_ hb7_ hb14_ hb15_ hb16_ hb17_ hb18_
                      go_wp2
                      go_roundg (row.size - (x + 1))
                      case measure => omega
                      case rel => exact ⟨_, _, ⟨s.cs ++ [⟨(x : Int), (y : Int)⟩], s.ds ++ [((c.toNat : Int) - 48)], ((x : Int), true) :: s.ms⟩, x + 1, rfl, rfl, by push_cast; rfl, by omega, by omega, HT2, ⟨HK.out.add h6 _ _ _⟩, C1, by rw [HN.out]; exact D1, LR, M1, B⟩
            · have hxz : ¬ (x : Int) < (row.size : Int) := by omega
              have HT2 := Aside0.mk (show sixRows r0.size (y + 1) (L.drop (y + 1)) s = T by have := HT.out; rwa [List.drop_eq_nil_of_le (by omega), sixRow, Option.bind_some] at this)
              clear HT hdl
              go_wp2
              go_roundg (L.length - (y + 1))
              case measure => omega
              case rel => exact ⟨_, _, s, y + 1, rfl, rfl, by (first | (push_cast; rfl) | (have hz_ := HLN.out; show Value.int .i64 (wrap64 ((y : Int) + 1)) = _; rw [show wrap64 ((y : Int) + 1) = ((y + 1 : Nat) : Int) by unfold wrap64; omega])), by omega, by omega, HT2, HK, C0, D0, LR, M0, B⟩
      · have hzi : ¬ (row.size : Int) = (r0.size : Int) := by omega
        rw [if_neg hz] at hT
        have HTN := Aside0.mk hT
        clear hT
        have HFN := HF.out
        rw [← HTN.out] at HFN
        simp only [sixFin, Option.some.injEq, Prod.mk.injEq] at HFN
        obtain ⟨rfl, rfl, rfl⟩ := HFN
        go_wp2
        go_ret3
        exact ⟨_, _, rfl, Kd.R_nil k61 61 _ _ _, Kd.R_nil (Kd.int .i64) 3 _ _ _, B.out⟩
    · have hltz : ¬ (y : Int) < (L.length : Int) := by omega
      have hT := HT.out
      rw [List.drop_eq_nil_of_le (by omega), sixRows] at hT
      have HFN := HF.out
      rw [← hT, sixFin] at HFN
      clear hT HT
      have hLpos : 0 < L.length := HL0.out
      go_wp2
      obtain ⟨Ac, cc, eac⟩ := Kd.qn C0.out
      subst eac
      by_cases h6 : s.cs.length = 6
      · rw [if_pos h6] at HFN
        have h6i : (s.cs.length : Int) = 6 := by omega
        by_cases hq : MapKit.count s.ms = r0.size
        · rw [if_pos hq] at HFN
          have hqi : (MapKit.count s.ms : Int) = (r0.size : Int) := by omega
          obtain ⟨th, hth, hr⟩ := Option.bind_eq_some_iff.mp HFN
          have HH := Aside0.mk hth
          clear HFN hth
          refine qsA (n := 17) (S := fun w' => True) (ds := []) #[false, false, false, false, false, false, false, false, false, false, false, false, false, false, false, false, false] (by kernel_rfl) rfl rfl trivial (fun hHeld => ?_); refine qRA sixTab17 sixBits17 (fun HT_ HW_ => ?_)
          refine pure_ (i := 0) (N := some 73) (v := ?_) (a' := ?_) #[true, false, false, false, false, false, false, false, false, false, false, false, false, false, false, false, false] rfl rfl (qSA HT_.out (by kernel_rfl)) (fun _ _ _ h => h) (Or.inl ⟨by rfl, ?_⟩) ?_ ?_
          rotate_left
          · intro w'
            go_simp
            with_reducible rfl
          rotate_left
          · simp only [Act.put, List.setIfInBounds_toArray, List.set_cons_zero, List.set_cons_succ, i64_w, i32_w]
            rfl
          refine pure_ (i := 1) (N := some 74) (v := ?_) (a' := ?_) #[true, true, false, false, false, false, false, false, false, false, false, false, false, false, false, false, false] rfl rfl (qSA HT_.out (by kernel_rfl)) (fun _ _ _ h => h) (Or.inl ⟨by rfl, ?_⟩) ?_ ?_
          rotate_left
          · intro w'
            go_simp
            with_reducible rfl
          rotate_left
          · simp only [Act.put, List.setIfInBounds_toArray, List.set_cons_zero, List.set_cons_succ, i64_w, i32_w]
            rfl
          refine pure_ (i := 2) (N := some 75) (v := ?_) (a' := ?_) #[true, true, true, false, false, false, false, false, false, false, false, false, false, false, false, false, false] rfl rfl (qSA HT_.out (by kernel_rfl)) (fun _ _ _ h => h) (Or.inl ⟨by rfl, ?_⟩) ?_ ?_
          rotate_left
          · intro w'
            go_simp
            with_reducible rfl
          rotate_left
          · simp only [Act.put, List.setIfInBounds_toArray, List.set_cons_zero, List.set_cons_succ, i64_w, i32_w]
            rfl
          refine pure_ (i := 3) (N := some 76) (v := ?_) (a' := ?_) #[true, true, true, true, false, false, false, false, false, false, false, false, false, false, false, false, false] rfl rfl (qSA HT_.out (by kernel_rfl)) (fun _ _ _ h => h) (Or.inl ⟨by rfl, ?_⟩) ?_ ?_
          rotate_left
          · intro w'
            go_simp
            with_reducible rfl
          rotate_left
          · simp only [Act.put, List.setIfInBounds_toArray, List.set_cons_zero, List.set_cons_succ, i64_w, i32_w]
            rfl
          refine pure_ (i := 4) (N := some 77) (v := ?_) (a' := ?_) #[true, true, true, true, true, false, false, false, false, false, false, false, false, false, false, false, false] rfl rfl (qSA HT_.out (by kernel_rfl)) (fun _ _ _ h => h) (Or.inl ⟨by rfl, ?_⟩) ?_ ?_
          rotate_left
          · intro w'
            go_simp
            with_reducible rfl
          rotate_left
          · simp only [Act.put, List.setIfInBounds_toArray, List.set_cons_zero, List.set_cons_succ, i64_w, i32_w]
            rfl
          refine pure_ (i := 6) (N := some 79) (v := ?_) (a' := ?_) #[true, true, true, true, true, false, true, false, false, false, false, false, false, false, false, false, false] rfl rfl (qSA HT_.out (by kernel_rfl)) (fun _ _ _ h => h) (Or.inl ⟨by rfl, ?_⟩) ?_ ?_
          rotate_left
          · intro w'
            go_simp
            with_reducible rfl
          rotate_left
          · simp only [Act.put, List.setIfInBounds_toArray, List.set_cons_zero, List.set_cons_succ, i64_w, i32_w]
            rfl
          refine pure_ (i := 7) (N := some 80) (v := ?_) (a' := ?_) #[true, true, true, true, true, false, true, true, false, false, false, false, false, false, false, false, false] rfl rfl (qSA HT_.out (by kernel_rfl)) (fun _ _ _ h => h) (Or.inl ⟨by rfl, ?_⟩) ?_ ?_
          rotate_left
          · intro w'
            go_simp
            with_reducible rfl
          rotate_left
          · simp only [Act.put, List.setIfInBounds_toArray, List.set_cons_zero, List.set_cons_succ, i64_w, i32_w]
            rfl
          refine qvC [5, 8, 9, 10, 11, 12, 13, 14, 15, 16] (fun a0_ b a w' => a = putSel a0_ b [(5, 78, .int .i64 (MapKit.count s.ms : Int)), (8, 81, .string r0), (9, 82, .int .i64 (r0.size : Int)), (10, 83, .bool false), (11, 84, .bool false), (12, 85, .bool false), (13, 86, .slice Ac s.cs.length cc), (14, 87, .bool th), (15, 88, .bool (!th)), (16, 89, .bool (!th))] ∧ (Below w.heap.size w w') ∧ (Kd.R Kd.string 9 w' w.heap.size (fun _ => True) (.slice (some ad) L.length cw) L) ∧ (Kd.R k61 61 w' w.heap.size (fun _ => True) (.slice Ac s.cs.length cc) s.cs) ∧ (Kd.R (Kd.int .i64) 3 w' w.heap.size (fun _ => True) vd s.ds) ∧ (mapI.Is w' g s.ms)) HT_.out HW_.out (by kernel_rfl) (by kernel_rfl) ?_ ?_ ?_
          · exact ⟨by simp only [putSel, Bool.false_eq_true, if_false], qg B.out, Kd.qF LR.out, Kd.qF C0.out, Kd.qF D0.out, M0.out.drew⟩
          · skip
            clear B C0 D0 LR M0
            refine qt ?_ ?_
            · rintro b a w' ⟨ha, Q_B, Q_LR, Q_C0, Q_D0, Q_M0⟩ hb_ hon hoff
              refine ⟨_, rfl, fun K hK => ?_⟩
              have e77 : a.tmps[77]? = some (.map (some g)) := by rw [ha]; exact (qDA rfl).trans rfl
              have e76 : a.tmps[76]? = some (.bool false) := by rw [ha]; exact (qDA rfl).trans rfl
              replace ha := Aside0.mk ha
              have B := Aside0.mk Q_B
              have LR := Aside0.mk Q_LR
              have C0 := Aside0.mk Q_C0
              have D0 := Aside0.mk Q_D0
              have M0 := Aside0.mk Q_M0
              have hrl_ := fun ty_ => (show (Builtin.len_ #[64] ty_ #[.map (some g)]).run Tryd.prog w' = .ok (.int .i64 (MapKit.count s.ms)) w' from M0.out.run_len ty_)
              refine qmA (w1 := w') (v := .int .i64 (MapKit.count s.ms : Int)) (qtA rfl rfl rfl (e76.trans (by first | rfl | (simp [*]; done)))) rfl ?_ ?_
              · go_simp
                (try simp only [i64_w])
                try rfl
              refine hK.out _ _ ⟨(by rw [ha.out]; exact qv 0 hb_ rfl rfl rfl), Q_B, Q_LR, Q_C0, Q_D0, Q_M0⟩
            refine qt ?_ ?_
            · rintro b a w' ⟨ha, Q_B, Q_LR, Q_C0, Q_D0, Q_M0⟩ hb_ hon hoff
              refine ⟨_, rfl, fun K hK => ?_⟩
              have e80 : a.tmps[80]? = some (.pointer (some ad)) := by rw [ha]; exact (qDA rfl).trans rfl
              have e76 : a.tmps[76]? = some (.bool false) := by rw [ha]; exact (qDA rfl).trans rfl
              replace ha := Aside0.mk ha
              have B := Aside0.mk Q_B
              have LR := Aside0.mk Q_LR
              have C0 := Aside0.mk Q_C0
              have D0 := Aside0.mk Q_D0
              have M0 := Aside0.mk Q_M0
              obtain ⟨ad_, e_, hcell_⟩ := Kd.qyA (Kd.qO LR.out).2.2 (0 : Int) (Int.le_refl 0) HLP.out
              obtain rfl : ad = ad_ := by injection e_
              rw [HR0.out] at hcell_
              have hcell2_ : w'.cell? ad = some (.string r0) := hcell_
              refine qmA (w1 := w') (v := .string r0) (qtA rfl rfl rfl (e76.trans (by first | rfl | (simp [*]; done)))) rfl ?_ ?_
              · go_simp
                (try simp only [i64_w])
                try rfl
              refine hK.out _ _ ⟨(by rw [ha.out]; exact qv 1 hb_ rfl rfl rfl), Q_B, Q_LR, Q_C0, Q_D0, Q_M0⟩
            refine qt ?_ ?_
            · rintro b a w' ⟨ha, Q_B, Q_LR, Q_C0, Q_D0, Q_M0⟩ hb_ hon hoff
              refine ⟨_, rfl, fun K hK => ?_⟩
              have e81 : a.tmps[81]? = some (.string r0) := by rw [ha]; exact qHA (e := (8, 81, .string r0)) 1 rfl rfl (hon 8 (by kernel_rfl)) rfl
              have e76 : a.tmps[76]? = some (.bool false) := by rw [ha]; exact (qDA rfl).trans rfl
              replace ha := Aside0.mk ha
              have B := Aside0.mk Q_B
              have LR := Aside0.mk Q_LR
              have C0 := Aside0.mk Q_C0
              have D0 := Aside0.mk Q_D0
              have M0 := Aside0.mk Q_M0
              refine qmA (w1 := w') (v := .int .i64 (r0.size : Int)) (qtA rfl rfl rfl (e76.trans (by first | rfl | (simp [*]; done)))) rfl ?_ ?_
              · go_simp
                (try simp only [i64_w])
                try rfl
              refine hK.out _ _ ⟨(by rw [ha.out]; exact qv 2 hb_ rfl rfl rfl), Q_B, Q_LR, Q_C0, Q_D0, Q_M0⟩
            refine qt ?_ ?_
            · rintro b a w' ⟨ha, Q_B, Q_LR, Q_C0, Q_D0, Q_M0⟩ hb_ hon hoff
              refine ⟨_, rfl, fun K hK => ?_⟩
              have e78 : a.tmps[78]? = some (.int .i64 (MapKit.count s.ms : Int)) := by rw [ha]; exact qHA (e := (5, 78, .int .i64 (MapKit.count s.ms : Int))) 0 rfl rfl (hon 5 (by kernel_rfl)) rfl
              have e82 : a.tmps[82]? = some (.int .i64 (r0.size : Int)) := by rw [ha]; exact qHA (e := (9, 82, .int .i64 (r0.size : Int))) 2 rfl rfl (hon 9 (by kernel_rfl)) rfl
              have e76 : a.tmps[76]? = some (.bool false) := by rw [ha]; exact (qDA rfl).trans rfl
              replace ha := Aside0.mk ha
              have B := Aside0.mk Q_B
              have LR := Aside0.mk Q_LR
              have C0 := Aside0.mk Q_C0
              have D0 := Aside0.mk Q_D0
              have M0 := Aside0.mk Q_M0
              refine qmA (w1 := w') (v := .bool false) (qtA rfl rfl rfl (e76.trans (by first | rfl | (simp [*]; done)))) rfl ?_ ?_
              · go_simp
                (try simp only [i64_w])
                try rfl
              refine hK.out _ _ ⟨(by rw [ha.out]; exact qv 3 hb_ rfl rfl rfl), Q_B, Q_LR, Q_C0, Q_D0, Q_M0⟩
            refine qt ?_ ?_
            · rintro b a w' ⟨ha, Q_B, Q_LR, Q_C0, Q_D0, Q_M0⟩ hb_ hon hoff
              refine ⟨_, rfl, fun K hK => ?_⟩
              have e76 : a.tmps[76]? = some (.bool false) := by rw [ha]; exact (qDA rfl).trans rfl
              have e83 : a.tmps[83]? = some (.bool false) := by rw [ha]; exact qHA (e := (10, 83, .bool false)) 3 rfl rfl (hon 10 (by kernel_rfl)) rfl
              replace ha := Aside0.mk ha
              have B := Aside0.mk Q_B
              have LR := Aside0.mk Q_LR
              have C0 := Aside0.mk Q_C0
              have D0 := Aside0.mk Q_D0
              have M0 := Aside0.mk Q_M0
              refine qmA (w1 := w') (v := .bool false) (by rfl) rfl ?_ ?_
              · go_simp
                (try simp only [i64_w])
                try rfl
              refine hK.out _ _ ⟨(by rw [ha.out]; exact qv 4 hb_ rfl rfl rfl), Q_B, Q_LR, Q_C0, Q_D0, Q_M0⟩
            refine qt ?_ ?_
            · rintro b a w' ⟨ha, Q_B, Q_LR, Q_C0, Q_D0, Q_M0⟩ hb_ hon hoff
              refine ⟨_, rfl, fun K hK => ?_⟩
              have e84 : a.tmps[84]? = some (.bool false) := by rw [ha]; exact qHA (e := (11, 84, .bool false)) 4 rfl rfl (hon 11 (by kernel_rfl)) rfl
              replace ha := Aside0.mk ha
              have B := Aside0.mk Q_B
              have LR := Aside0.mk Q_LR
              have C0 := Aside0.mk Q_C0
              have D0 := Aside0.mk Q_D0
              have M0 := Aside0.mk Q_M0
              refine qmA (w1 := w') (v := .bool false) (by rfl) rfl ?_ ?_
              · go_simp
                (try simp only [i64_w])
                try rfl
              refine hK.out _ _ ⟨(by rw [ha.out]; exact qv 5 hb_ rfl rfl rfl), Q_B, Q_LR, Q_C0, Q_D0, Q_M0⟩
            refine qt ?_ ?_
            · rintro b a w' ⟨ha, Q_B, Q_LR, Q_C0, Q_D0, Q_M0⟩ hb_ hon hoff
              refine ⟨_, rfl, fun K hK => ?_⟩
              have e5 : a.tmps[5]? = some (.slice Ac s.cs.length cc) := by rw [ha]; exact (qDA rfl).trans rfl
              have e85 : a.tmps[85]? = some (.bool false) := by rw [ha]; exact qHA (e := (12, 85, .bool false)) 5 rfl rfl (hon 12 (by kernel_rfl)) rfl
              replace ha := Aside0.mk ha
              have B := Aside0.mk Q_B
              have LR := Aside0.mk Q_LR
              have C0 := Aside0.mk Q_C0
              have D0 := Aside0.mk Q_D0
              have M0 := Aside0.mk Q_M0
              refine qmA (w1 := w') (v := .slice Ac s.cs.length cc) (qtA rfl rfl rfl (e85.trans (by first | rfl | (simp [*]; done)))) rfl ?_ ?_
              · go_simp
                (try simp only [i64_w])
                try rfl
              refine hK.out _ _ ⟨(by rw [ha.out]; exact qv 6 hb_ rfl rfl rfl), Q_B, Q_LR, Q_C0, Q_D0, Q_M0⟩
            refine qt ?_ ?_
            · rintro b a w' ⟨ha, Q_B, Q_LR, Q_C0, Q_D0, Q_M0⟩ hb_ hon hoff
              refine ⟨_, rfl, fun K hK => ?_⟩
              have e86 : a.tmps[86]? = some (.slice Ac s.cs.length cc) := by rw [ha]; exact qHA (e := (13, 86, .slice Ac s.cs.length cc)) 6 rfl rfl (hon 13 (by kernel_rfl)) rfl
              have e85 : a.tmps[85]? = some (.bool false) := by rw [ha]; exact qHA (e := (12, 85, .bool false)) 5 rfl rfl (hon 12 (by kernel_rfl)) rfl
              replace ha := Aside0.mk ha
              have B := Aside0.mk Q_B
              have LR := Aside0.mk Q_LR
              have C0 := Aside0.mk Q_C0
              have D0 := Aside0.mk Q_D0
              have M0 := Aside0.mk Q_M0
              refine goes_ Tryd.func49 (by kernel_rfl) rfl #[.slice Ac s.cs.length cc] (qtA rfl rfl rfl (e85.trans (by first | rfl | (simp [*]; done)))) rfl rfl (by simp only [List.map_toArray, List.map_cons, List.map_nil, qBC e86]) ?_
              refine (qbA.calls k Ac cc s.cs th w' (Kd.qO C0.out).2.2 (Kd.qO C0.out).2.1 HH.out).mono ?_
              rintro e_ w1_ ⟨rfl, hb_1⟩
              refine ⟨_, rfl, ?_⟩
              refine hK.out _ _ ⟨(by rw [ha.out]; exact qv 7 hb_ rfl rfl rfl), qhA B.out B.out.size hb_1, Kd.qS LR.out hb_1, Kd.qS C0.out hb_1, Kd.qS D0.out hb_1, M0.out.below hb_1⟩
            refine qt ?_ ?_
            · rintro b a w' ⟨ha, Q_B, Q_LR, Q_C0, Q_D0, Q_M0⟩ hb_ hon hoff
              refine ⟨_, rfl, fun K hK => ?_⟩
              have e87 : a.tmps[87]? = some (.bool th) := by rw [ha]; exact qHA (e := (14, 87, .bool th)) 7 rfl rfl (hon 14 (by kernel_rfl)) rfl
              have e85 : a.tmps[85]? = some (.bool false) := by rw [ha]; exact qHA (e := (12, 85, .bool false)) 5 rfl rfl (hon 12 (by kernel_rfl)) rfl
              replace ha := Aside0.mk ha
              have B := Aside0.mk Q_B
              have LR := Aside0.mk Q_LR
              have C0 := Aside0.mk Q_C0
              have D0 := Aside0.mk Q_D0
              have M0 := Aside0.mk Q_M0
              refine qmA (w1 := w') (v := .bool (!th)) (qtA rfl rfl rfl (e85.trans (by first | rfl | (simp [*]; done)))) rfl ?_ ?_
              · go_simp
                (try simp only [i64_w])
                try rfl
              refine hK.out _ _ ⟨(by rw [ha.out]; exact qv 8 hb_ rfl rfl rfl), Q_B, Q_LR, Q_C0, Q_D0, Q_M0⟩
            refine qt ?_ ?_
            · rintro b a w' ⟨ha, Q_B, Q_LR, Q_C0, Q_D0, Q_M0⟩ hb_ hon hoff
              refine ⟨_, rfl, fun K hK => ?_⟩
              have e85 : a.tmps[85]? = some (.bool false) := by rw [ha]; exact qHA (e := (12, 85, .bool false)) 5 rfl rfl (hon 12 (by kernel_rfl)) rfl
              have e88 : a.tmps[88]? = some (.bool (!th)) := by rw [ha]; exact qHA (e := (15, 88, .bool (!th))) 8 rfl rfl (hon 15 (by kernel_rfl)) rfl
              replace ha := Aside0.mk ha
              have B := Aside0.mk Q_B
              have LR := Aside0.mk Q_LR
              have C0 := Aside0.mk Q_C0
              have D0 := Aside0.mk Q_D0
              have M0 := Aside0.mk Q_M0
              refine qmA (w1 := w') (v := .bool (!th)) (by rfl) rfl ?_ ?_
              · go_simp
                (try simp only [i64_w])
                try rfl
              refine hK.out _ _ ⟨(by rw [ha.out]; exact qv 9 hb_ rfl rfl rfl), Q_B, Q_LR, Q_C0, Q_D0, Q_M0⟩
            exact qEC
          · rintro b a w' hall ⟨ha, Q_B, Q_LR, Q_C0, Q_D0, Q_M0⟩
            clear B C0 D0 LR M0
            have hb5_ := hall 5 (by kernel_rfl)
            have hb8_ := hall 8 (by kernel_rfl)
            have hb9_ := hall 9 (by kernel_rfl)
            have hb10_ := hall 10 (by kernel_rfl)
            have hb11_ := hall 11 (by kernel_rfl)
            have hb12_ := hall 12 (by kernel_rfl)
            have hb13_ := hall 13 (by kernel_rfl)
            have hb14_ := hall 14 (by kernel_rfl)
            have hb15_ := hall 15 (by kernel_rfl)
            have hb16_ := hall 16 (by kernel_rfl)
            subst ha
            simp only [putSel, hb5_, hb8_, hb9_, hb10_, hb11_, hb12_, hb13_, hb14_, hb15_, hb16_, if_true, Act.put, List.setIfInBounds_toArray, List.set_cons_zero, List.set_cons_succ]
            have B := Aside0.mk Q_B
            clear Q_B
            have LR := Aside0.mk Q_LR
            clear Q_LR
            have C0 := Aside0.mk Q_C0
            clear Q_C0
            have D0 := Aside0.mk Q_D0
            clear Q_D0
            have M0 := Aside0.mk Q_M0
            clear Q_M0
            clear hall hb5_ hb8_ hb9_ hb10_ hb11_ hb12_ hb13_ hb14_ hb15_ hb16_
            cases th with
            | true =>
              simp only [if_true, Option.some.injEq, Prod.mk.injEq] at hr
              obtain ⟨rfl, rfl, rfl⟩ := hr
              go_wp2
              go_ret3
              exact ⟨_, _, rfl, C0.out, D0.out, B.out⟩
            | false =>
              simp only [Bool.false_eq_true, if_false, Option.some.injEq, Prod.mk.injEq] at hr
              obtain ⟨rfl, rfl, rfl⟩ := hr
              go_wp2
              go_ret3
              exact ⟨_, _, rfl, Kd.R_nil k61 61 _ _ _, Kd.R_nil (Kd.int .i64) 3 _ _ _, B.out⟩
        · rw [if_neg hq] at HFN
          have hqi : ¬ (MapKit.count s.ms : Int) = (r0.size : Int) := by omega
          simp only [Option.some.injEq, Prod.mk.injEq] at HFN
          obtain ⟨rfl, rfl, rfl⟩ := HFN
          refine qsA (n := 17) (S := fun w' => True) (ds := []) #[false, false, false, false, false, false, false, false, false, false, false, false, false, false, false, false, false] (by kernel_rfl) rfl rfl trivial (fun hHeld => ?_); refine qRA sixTab17 sixBits17 (fun HT_ HW_ => ?_)
          refine pure_ (i := 0) (N := some 73) (v := ?_) (a' := ?_) #[true, false, false, false, false, false, false, false, false, false, false, false, false, false, false, false, false] rfl rfl (qSA HT_.out (by kernel_rfl)) (fun _ _ _ h => h) (Or.inl ⟨by rfl, ?_⟩) ?_ ?_
          rotate_left
          · intro w'
            go_simp
            with_reducible rfl
          rotate_left
          · simp only [Act.put, List.setIfInBounds_toArray, List.set_cons_zero, List.set_cons_succ, i64_w, i32_w]
            rfl
          refine pure_ (i := 1) (N := some 74) (v := ?_) (a' := ?_) #[true, true, false, false, false, false, false, false, false, false, false, false, false, false, false, false, false] rfl rfl (qSA HT_.out (by kernel_rfl)) (fun _ _ _ h => h) (Or.inl ⟨by rfl, ?_⟩) ?_ ?_
          rotate_left
          · intro w'
            go_simp
            with_reducible rfl
          rotate_left
          · simp only [Act.put, List.setIfInBounds_toArray, List.set_cons_zero, List.set_cons_succ, i64_w, i32_w]
            rfl
          refine pure_ (i := 2) (N := some 75) (v := ?_) (a' := ?_) #[true, true, true, false, false, false, false, false, false, false, false, false, false, false, false, false, false] rfl rfl (qSA HT_.out (by kernel_rfl)) (fun _ _ _ h => h) (Or.inl ⟨by rfl, ?_⟩) ?_ ?_
          rotate_left
          · intro w'
            go_simp
            with_reducible rfl
          rotate_left
          · simp only [Act.put, List.setIfInBounds_toArray, List.set_cons_zero, List.set_cons_succ, i64_w, i32_w]
            rfl
          refine pure_ (i := 3) (N := some 76) (v := ?_) (a' := ?_) #[true, true, true, true, false, false, false, false, false, false, false, false, false, false, false, false, false] rfl rfl (qSA HT_.out (by kernel_rfl)) (fun _ _ _ h => h) (Or.inl ⟨by rfl, ?_⟩) ?_ ?_
          rotate_left
          · intro w'
            go_simp
            with_reducible rfl
          rotate_left
          · simp only [Act.put, List.setIfInBounds_toArray, List.set_cons_zero, List.set_cons_succ, i64_w, i32_w]
            rfl
          refine pure_ (i := 4) (N := some 77) (v := ?_) (a' := ?_) #[true, true, true, true, true, false, false, false, false, false, false, false, false, false, false, false, false] rfl rfl (qSA HT_.out (by kernel_rfl)) (fun _ _ _ h => h) (Or.inl ⟨by rfl, ?_⟩) ?_ ?_
          rotate_left
          · intro w'
            go_simp
            with_reducible rfl
          rotate_left
          · simp only [Act.put, List.setIfInBounds_toArray, List.set_cons_zero, List.set_cons_succ, i64_w, i32_w]
            rfl
          refine pure_ (i := 6) (N := some 79) (v := ?_) (a' := ?_) #[true, true, true, true, true, false, true, false, false, false, false, false, false, false, false, false, false] rfl rfl (qSA HT_.out (by kernel_rfl)) (fun _ _ _ h => h) (Or.inl ⟨by rfl, ?_⟩) ?_ ?_
          rotate_left
          · intro w'
            go_simp
            with_reducible rfl
          rotate_left
          · simp only [Act.put, List.setIfInBounds_toArray, List.set_cons_zero, List.set_cons_succ, i64_w, i32_w]
            rfl
          refine pure_ (i := 7) (N := some 80) (v := ?_) (a' := ?_) #[true, true, true, true, true, false, true, true, false, false, false, false, false, false, false, false, false] rfl rfl (qSA HT_.out (by kernel_rfl)) (fun _ _ _ h => h) (Or.inl ⟨by rfl, ?_⟩) ?_ ?_
          rotate_left
          · intro w'
            go_simp
            with_reducible rfl
          rotate_left
          · simp only [Act.put, List.setIfInBounds_toArray, List.set_cons_zero, List.set_cons_succ, i64_w, i32_w]
            rfl
          refine qvC [5, 8, 9, 10, 11, 12, 13, 14, 15, 16] (fun a0_ b a w' => a = putSel a0_ b [(5, 78, .int .i64 (MapKit.count s.ms : Int)), (8, 81, .string r0), (9, 82, .int .i64 (r0.size : Int)), (10, 83, .bool true), (11, 84, .bool true), (12, 85, .bool true), (13, 86, undef), (14, 87, undef), (15, 88, undef), (16, 89, .bool true)] ∧ (Below w.heap.size w w') ∧ (Kd.R Kd.string 9 w' w.heap.size (fun _ => True) (.slice (some ad) L.length cw) L) ∧ (Kd.R k61 61 w' w.heap.size (fun _ => True) (.slice Ac s.cs.length cc) s.cs) ∧ (Kd.R (Kd.int .i64) 3 w' w.heap.size (fun _ => True) vd s.ds) ∧ (mapI.Is w' g s.ms)) HT_.out HW_.out (by kernel_rfl) (by kernel_rfl) ?_ ?_ ?_
          · exact ⟨by simp only [putSel, Bool.false_eq_true, if_false], qg B.out, Kd.qF LR.out, Kd.qF C0.out, Kd.qF D0.out, M0.out.drew⟩
          · skip
            clear B C0 D0 LR M0
            refine qt ?_ ?_
            · rintro b a w' ⟨ha, Q_B, Q_LR, Q_C0, Q_D0, Q_M0⟩ hb_ hon hoff
              refine ⟨_, rfl, fun K hK => ?_⟩
              have e77 : a.tmps[77]? = some (.map (some g)) := by rw [ha]; exact (qDA rfl).trans rfl
              have e76 : a.tmps[76]? = some (.bool false) := by rw [ha]; exact (qDA rfl).trans rfl
              replace ha := Aside0.mk ha
              have B := Aside0.mk Q_B
              have LR := Aside0.mk Q_LR
              have C0 := Aside0.mk Q_C0
              have D0 := Aside0.mk Q_D0
              have M0 := Aside0.mk Q_M0
              have hrl_ := fun ty_ => (show (Builtin.len_ #[64] ty_ #[.map (some g)]).run Tryd.prog w' = .ok (.int .i64 (MapKit.count s.ms)) w' from M0.out.run_len ty_)
              refine qmA (w1 := w') (v := .int .i64 (MapKit.count s.ms : Int)) (qtA rfl rfl rfl (e76.trans (by first | rfl | (simp [*]; done)))) rfl ?_ ?_
              · go_simp
                (try simp only [i64_w])
                try rfl
              refine hK.out _ _ ⟨(by rw [ha.out]; exact qv 0 hb_ rfl rfl rfl), Q_B, Q_LR, Q_C0, Q_D0, Q_M0⟩
            refine qt ?_ ?_
            · rintro b a w' ⟨ha, Q_B, Q_LR, Q_C0, Q_D0, Q_M0⟩ hb_ hon hoff
              refine ⟨_, rfl, fun K hK => ?_⟩
              have e80 : a.tmps[80]? = some (.pointer (some ad)) := by rw [ha]; exact (qDA rfl).trans rfl
              have e76 : a.tmps[76]? = some (.bool false) := by rw [ha]; exact (qDA rfl).trans rfl
              replace ha := Aside0.mk ha
              have B := Aside0.mk Q_B
              have LR := Aside0.mk Q_LR
              have C0 := Aside0.mk Q_C0
              have D0 := Aside0.mk Q_D0
              have M0 := Aside0.mk Q_M0
              obtain ⟨ad_, e_, hcell_⟩ := Kd.qyA (Kd.qO LR.out).2.2 (0 : Int) (Int.le_refl 0) HLP.out
              obtain rfl : ad = ad_ := by injection e_
              rw [HR0.out] at hcell_
              have hcell2_ : w'.cell? ad = some (.string r0) := hcell_
              refine qmA (w1 := w') (v := .string r0) (qtA rfl rfl rfl (e76.trans (by first | rfl | (simp [*]; done)))) rfl ?_ ?_
              · go_simp
                (try simp only [i64_w])
                try rfl
              refine hK.out _ _ ⟨(by rw [ha.out]; exact qv 1 hb_ rfl rfl rfl), Q_B, Q_LR, Q_C0, Q_D0, Q_M0⟩
            refine qt ?_ ?_
            · rintro b a w' ⟨ha, Q_B, Q_LR, Q_C0, Q_D0, Q_M0⟩ hb_ hon hoff
              refine ⟨_, rfl, fun K hK => ?_⟩
              have e81 : a.tmps[81]? = some (.string r0) := by rw [ha]; exact qHA (e := (8, 81, .string r0)) 1 rfl rfl (hon 8 (by kernel_rfl)) rfl
              have e76 : a.tmps[76]? = some (.bool false) := by rw [ha]; exact (qDA rfl).trans rfl
              replace ha := Aside0.mk ha
              have B := Aside0.mk Q_B
              have LR := Aside0.mk Q_LR
              have C0 := Aside0.mk Q_C0
              have D0 := Aside0.mk Q_D0
              have M0 := Aside0.mk Q_M0
              refine qmA (w1 := w') (v := .int .i64 (r0.size : Int)) (qtA rfl rfl rfl (e76.trans (by first | rfl | (simp [*]; done)))) rfl ?_ ?_
              · go_simp
                (try simp only [i64_w])
                try rfl
              refine hK.out _ _ ⟨(by rw [ha.out]; exact qv 2 hb_ rfl rfl rfl), Q_B, Q_LR, Q_C0, Q_D0, Q_M0⟩
            refine qt ?_ ?_
            · rintro b a w' ⟨ha, Q_B, Q_LR, Q_C0, Q_D0, Q_M0⟩ hb_ hon hoff
              refine ⟨_, rfl, fun K hK => ?_⟩
              have e78 : a.tmps[78]? = some (.int .i64 (MapKit.count s.ms : Int)) := by rw [ha]; exact qHA (e := (5, 78, .int .i64 (MapKit.count s.ms : Int))) 0 rfl rfl (hon 5 (by kernel_rfl)) rfl
              have e82 : a.tmps[82]? = some (.int .i64 (r0.size : Int)) := by rw [ha]; exact qHA (e := (9, 82, .int .i64 (r0.size : Int))) 2 rfl rfl (hon 9 (by kernel_rfl)) rfl
              have e76 : a.tmps[76]? = some (.bool false) := by rw [ha]; exact (qDA rfl).trans rfl
              replace ha := Aside0.mk ha
              have B := Aside0.mk Q_B
              have LR := Aside0.mk Q_LR
              have C0 := Aside0.mk Q_C0
              have D0 := Aside0.mk Q_D0
              have M0 := Aside0.mk Q_M0
              refine qmA (w1 := w') (v := .bool true) (qtA rfl rfl rfl (e76.trans (by first | rfl | (simp [*]; done)))) rfl ?_ ?_
              · go_simp
                (try simp only [i64_w])
                try rfl
              refine hK.out _ _ ⟨(by rw [ha.out]; exact qv 3 hb_ rfl rfl rfl), Q_B, Q_LR, Q_C0, Q_D0, Q_M0⟩
            refine qt ?_ ?_
            · rintro b a w' ⟨ha, Q_B, Q_LR, Q_C0, Q_D0, Q_M0⟩ hb_ hon hoff
              refine ⟨_, rfl, fun K hK => ?_⟩
              have e76 : a.tmps[76]? = some (.bool false) := by rw [ha]; exact (qDA rfl).trans rfl
              have e83 : a.tmps[83]? = some (.bool true) := by rw [ha]; exact qHA (e := (10, 83, .bool true)) 3 rfl rfl (hon 10 (by kernel_rfl)) rfl
              replace ha := Aside0.mk ha
              have B := Aside0.mk Q_B
              have LR := Aside0.mk Q_LR
              have C0 := Aside0.mk Q_C0
              have D0 := Aside0.mk Q_D0
              have M0 := Aside0.mk Q_M0
              refine qmA (w1 := w') (v := .bool true) (by rfl) rfl ?_ ?_
              · go_simp
                (try simp only [i64_w])
                try rfl
              refine hK.out _ _ ⟨(by rw [ha.out]; exact qv 4 hb_ rfl rfl rfl), Q_B, Q_LR, Q_C0, Q_D0, Q_M0⟩
            refine qt ?_ ?_
            · rintro b a w' ⟨ha, Q_B, Q_LR, Q_C0, Q_D0, Q_M0⟩ hb_ hon hoff
              refine ⟨_, rfl, fun K hK => ?_⟩
              have e84 : a.tmps[84]? = some (.bool true) := by rw [ha]; exact qHA (e := (11, 84, .bool true)) 4 rfl rfl (hon 11 (by kernel_rfl)) rfl
              replace ha := Aside0.mk ha
              have B := Aside0.mk Q_B
              have LR := Aside0.mk Q_LR
              have C0 := Aside0.mk Q_C0
              have D0 := Aside0.mk Q_D0
              have M0 := Aside0.mk Q_M0
              refine qmA (w1 := w') (v := .bool true) (by rfl) rfl ?_ ?_
              · go_simp
                (try simp only [i64_w])
                try rfl
              refine hK.out _ _ ⟨(by rw [ha.out]; exact qv 5 hb_ rfl rfl rfl), Q_B, Q_LR, Q_C0, Q_D0, Q_M0⟩
            refine qt ?_ ?_
            · rintro b a w' ⟨ha, Q_B, Q_LR, Q_C0, Q_D0, Q_M0⟩ hb_ hon hoff
              refine ⟨_, rfl, fun K hK => ?_⟩
              have e85 : a.tmps[85]? = some (.bool true) := by rw [ha]; exact qHA (e := (12, 85, .bool true)) 5 rfl rfl (hon 12 (by kernel_rfl)) rfl
              replace ha := Aside0.mk ha
              have B := Aside0.mk Q_B
              have LR := Aside0.mk Q_LR
              have C0 := Aside0.mk Q_C0
              have D0 := Aside0.mk Q_D0
              have M0 := Aside0.mk Q_M0
              refine off_ (qLC rfl rfl rfl (e85.trans (by first | rfl | (simp [*]; done)))) ?_
              refine hK.out _ _ ⟨(by rw [ha.out]; exact qv 6 hb_ rfl rfl rfl), Q_B, Q_LR, Q_C0, Q_D0, Q_M0⟩
            refine qt ?_ ?_
            · rintro b a w' ⟨ha, Q_B, Q_LR, Q_C0, Q_D0, Q_M0⟩ hb_ hon hoff
              refine ⟨_, rfl, fun K hK => ?_⟩
              have e85 : a.tmps[85]? = some (.bool true) := by rw [ha]; exact qHA (e := (12, 85, .bool true)) 5 rfl rfl (hon 12 (by kernel_rfl)) rfl
              replace ha := Aside0.mk ha
              have B := Aside0.mk Q_B
              have LR := Aside0.mk Q_LR
              have C0 := Aside0.mk Q_C0
              have D0 := Aside0.mk Q_D0
              have M0 := Aside0.mk Q_M0
              refine off_ (qLC rfl rfl rfl (e85.trans (by first | rfl | (simp [*]; done)))) ?_
              refine hK.out _ _ ⟨(by rw [ha.out]; exact qv 7 hb_ rfl rfl rfl), Q_B, Q_LR, Q_C0, Q_D0, Q_M0⟩
            refine qt ?_ ?_
            · rintro b a w' ⟨ha, Q_B, Q_LR, Q_C0, Q_D0, Q_M0⟩ hb_ hon hoff
              refine ⟨_, rfl, fun K hK => ?_⟩
              have e85 : a.tmps[85]? = some (.bool true) := by rw [ha]; exact qHA (e := (12, 85, .bool true)) 5 rfl rfl (hon 12 (by kernel_rfl)) rfl
              replace ha := Aside0.mk ha
              have B := Aside0.mk Q_B
              have LR := Aside0.mk Q_LR
              have C0 := Aside0.mk Q_C0
              have D0 := Aside0.mk Q_D0
              have M0 := Aside0.mk Q_M0
              refine off_ (qLC rfl rfl rfl (e85.trans (by first | rfl | (simp [*]; done)))) ?_
              refine hK.out _ _ ⟨(by rw [ha.out]; exact qv 8 hb_ rfl rfl rfl), Q_B, Q_LR, Q_C0, Q_D0, Q_M0⟩
            refine qt ?_ ?_
            · rintro b a w' ⟨ha, Q_B, Q_LR, Q_C0, Q_D0, Q_M0⟩ hb_ hon hoff
              refine ⟨_, rfl, fun K hK => ?_⟩
              have e85 : a.tmps[85]? = some (.bool true) := by rw [ha]; exact qHA (e := (12, 85, .bool true)) 5 rfl rfl (hon 12 (by kernel_rfl)) rfl
              have e88 : a.tmps[88]? = some (undef) := by rw [ha]; exact qHA (e := (15, 88, undef)) 8 rfl rfl (hon 15 (by kernel_rfl)) rfl
              replace ha := Aside0.mk ha
              have B := Aside0.mk Q_B
              have LR := Aside0.mk Q_LR
              have C0 := Aside0.mk Q_C0
              have D0 := Aside0.mk Q_D0
              have M0 := Aside0.mk Q_M0
              refine qmA (w1 := w') (v := .bool true) (by rfl) rfl ?_ ?_
              · go_simp
                (try simp only [i64_w])
                try rfl
              refine hK.out _ _ ⟨(by rw [ha.out]; exact qv 9 hb_ rfl rfl rfl), Q_B, Q_LR, Q_C0, Q_D0, Q_M0⟩
            exact qEC
          · rintro b a w' hall ⟨ha, Q_B, Q_LR, Q_C0, Q_D0, Q_M0⟩
            clear B C0 D0 LR M0
            have hb5_ := hall 5 (by kernel_rfl)
            have hb8_ := hall 8 (by kernel_rfl)
            have hb9_ := hall 9 (by kernel_rfl)
            have hb10_ := hall 10 (by kernel_rfl)
            have hb11_ := hall 11 (by kernel_rfl)
            have hb12_ := hall 12 (by kernel_rfl)
            have hb13_ := hall 13 (by kernel_rfl)
            have hb14_ := hall 14 (by kernel_rfl)
            have hb15_ := hall 15 (by kernel_rfl)
            have hb16_ := hall 16 (by kernel_rfl)
            subst ha
            simp only [putSel, hb5_, hb8_, hb9_, hb10_, hb11_, hb12_, hb13_, hb14_, hb15_, hb16_, if_true, Act.put, List.setIfInBounds_toArray, List.set_cons_zero, List.set_cons_succ]
            have B := Aside0.mk Q_B
            clear Q_B
            have LR := Aside0.mk Q_LR
            clear Q_LR
            have C0 := Aside0.mk Q_C0
            clear Q_C0
            have D0 := Aside0.mk Q_D0
            clear Q_D0
            have M0 := Aside0.mk Q_M0
            clear Q_M0
            clear hall hb5_ hb8_ hb9_ hb10_ hb11_ hb12_ hb13_ hb14_ hb15_ hb16_
            go_wp2
            go_ret3
            exact ⟨_, _, rfl, Kd.R_nil k61 61 _ _ _, Kd.R_nil (Kd.int .i64) 3 _ _ _, B.out⟩
      · rw [if_neg h6] at HFN
        have h6i : ¬ (s.cs.length : Int) = 6 := by omega
        have h6b : ((s.cs.length : Int) != 6) = true := bne_iff_ne.2 h6i
        have h6c : ((s.cs.length : Int) == 6) = false := beq_eq_false_iff_ne.2 h6i
        have h6d : decide ((s.cs.length : Int) = 6) = false := decide_eq_false h6i
        simp only [Option.some.injEq, Prod.mk.injEq] at HFN
        obtain ⟨rfl, rfl, rfl⟩ := HFN
        refine qsA (n := 17) (S := fun w' => True) (ds := []) #[false, false, false, false, false, false, false, false, false, false, false, false, false, false, false, false, false] (by kernel_rfl) rfl rfl trivial (fun hHeld => ?_); refine qRA sixTab17 sixBits17 (fun HT_ HW_ => ?_)
        refine pure_ (i := 0) (N := some 73) (v := ?_) (a' := ?_) #[true, false, false, false, false, false, false, false, false, false, false, false, false, false, false, false, false] rfl rfl (qSA HT_.out (by kernel_rfl)) (fun _ _ _ h => h) (Or.inl ⟨by rfl, ?_⟩) ?_ ?_
        rotate_left
        · intro w'
          go_simp
          with_reducible rfl
        rotate_left
        · simp only [Act.put, List.setIfInBounds_toArray, List.set_cons_zero, List.set_cons_succ, i64_w, i32_w]
          rfl
        refine pure_ (i := 1) (N := some 74) (v := ?_) (a' := ?_) #[true, true, false, false, false, false, false, false, false, false, false, false, false, false, false, false, false] rfl rfl (qSA HT_.out (by kernel_rfl)) (fun _ _ _ h => h) (Or.inl ⟨by rfl, ?_⟩) ?_ ?_
        rotate_left
        · intro w'
          go_simp
          with_reducible rfl
        rotate_left
        · simp only [Act.put, List.setIfInBounds_toArray, List.set_cons_zero, List.set_cons_succ, i64_w, i32_w]
          rfl
        refine pure_ (i := 2) (N := some 75) (v := ?_) (a' := ?_) #[true, true, true, false, false, false, false, false, false, false, false, false, false, false, false, false, false] rfl rfl (qSA HT_.out (by kernel_rfl)) (fun _ _ _ h => h) (Or.inl ⟨by rfl, ?_⟩) ?_ ?_
        rotate_left
        · intro w'
          go_simp
          with_reducible rfl
        rotate_left
        · simp only [Act.put, List.setIfInBounds_toArray, List.set_cons_zero, List.set_cons_succ, i64_w, i32_w]
          rfl
        refine pure_ (i := 3) (N := some 76) (v := ?_) (a' := ?_) #[true, true, true, true, false, false, false, false, false, false, false, false, false, false, false, false, false] rfl rfl (qSA HT_.out (by kernel_rfl)) (fun _ _ _ h => h) (Or.inl ⟨by rfl, ?_⟩) ?_ ?_
        rotate_left
        · intro w'
          go_simp
          with_reducible rfl
        rotate_left
        · simp only [Act.put, List.setIfInBounds_toArray, List.set_cons_zero, List.set_cons_succ, i64_w, i32_w]
          rfl
        refine pure_ (i := 4) (N := some 77) (v := undef) (a' := ?_) #[true, true, true, true, true, false, false, false, false, false, false, false, false, false, false, false, false] rfl rfl (qSA HT_.out (by kernel_rfl)) (fun _ _ _ h => h) (Or.inr ⟨by rfl, rfl⟩) ?_ ?_
        rotate_left
        · simp only [Act.put, List.setIfInBounds_toArray, List.set_cons_zero, List.set_cons_succ, i64_w, i32_w]
          rfl
        refine pure_ (i := 5) (N := some 78) (v := undef) (a' := ?_) #[true, true, true, true, true, true, false, false, false, false, false, false, false, false, false, false, false] rfl rfl (qSA HT_.out (by kernel_rfl)) (fun _ _ _ h => h) (Or.inr ⟨by rfl, rfl⟩) ?_ ?_
        rotate_left
        · simp only [Act.put, List.setIfInBounds_toArray, List.set_cons_zero, List.set_cons_succ, i64_w, i32_w]
          rfl
        refine pure_ (i := 6) (N := some 79) (v := undef) (a' := ?_) #[true, true, true, true, true, true, true, false, false, false, false, false, false, false, false, false, false] rfl rfl (qSA HT_.out (by kernel_rfl)) (fun _ _ _ h => h) (Or.inr ⟨by rfl, rfl⟩) ?_ ?_
        rotate_left
        · simp only [Act.put, List.setIfInBounds_toArray, List.set_cons_zero, List.set_cons_succ, i64_w, i32_w]
          rfl
        refine pure_ (i := 7) (N := some 80) (v := undef) (a' := ?_) #[true, true, true, true, true, true, true, true, false, false, false, false, false, false, false, false, false] rfl rfl (qSA HT_.out (by kernel_rfl)) (fun _ _ _ h => h) (Or.inr ⟨by rfl, rfl⟩) ?_ ?_
        rotate_left
        · simp only [Act.put, List.setIfInBounds_toArray, List.set_cons_zero, List.set_cons_succ, i64_w, i32_w]
          rfl
        refine pure_ (i := 8) (N := some 81) (v := undef) (a' := ?_) #[true, true, true, true, true, true, true, true, true, false, false, false, false, false, false, false, false] rfl rfl (qSA HT_.out (by kernel_rfl)) (fun _ _ _ h => h) (Or.inr ⟨by rfl, rfl⟩) ?_ ?_
        rotate_left
        · simp only [Act.put, List.setIfInBounds_toArray, List.set_cons_zero, List.set_cons_succ, i64_w, i32_w]
          rfl
        refine pure_ (i := 9) (N := some 82) (v := undef) (a' := ?_) #[true, true, true, true, true, true, true, true, true, true, false, false, false, false, false, false, false] rfl rfl (qSA HT_.out (by kernel_rfl)) (fun _ _ _ h => h) (Or.inr ⟨by rfl, rfl⟩) ?_ ?_
        rotate_left
        · simp only [Act.put, List.setIfInBounds_toArray, List.set_cons_zero, List.set_cons_succ, i64_w, i32_w]
          rfl
        refine pure_ (i := 10) (N := some 83) (v := undef) (a' := ?_) #[true, true, true, true, true, true, true, true, true, true, true, false, false, false, false, false, false] rfl rfl (qSA HT_.out (by kernel_rfl)) (fun _ _ _ h => h) (Or.inr ⟨by rfl, rfl⟩) ?_ ?_
        rotate_left
        · simp only [Act.put, List.setIfInBounds_toArray, List.set_cons_zero, List.set_cons_succ, i64_w, i32_w]
          rfl
        refine pure_ (i := 11) (N := some 84) (v := ?_) (a' := ?_) #[true, true, true, true, true, true, true, true, true, true, true, true, false, false, false, false, false] rfl rfl (qSA HT_.out (by kernel_rfl)) (fun _ _ _ h => h) (Or.inl ⟨by rfl, ?_⟩) ?_ ?_
        rotate_left
        · intro w'
          go_simp
          with_reducible rfl
        rotate_left
        · simp only [Act.put, List.setIfInBounds_toArray, List.set_cons_zero, List.set_cons_succ, i64_w, i32_w]
          rfl
        refine pure_ (i := 12) (N := some 85) (v := ?_) (a' := ?_) #[true, true, true, true, true, true, true, true, true, true, true, true, true, false, false, false, false] rfl rfl (qSA HT_.out (by kernel_rfl)) (fun _ _ _ h => h) (Or.inl ⟨by rfl, ?_⟩) ?_ ?_
        rotate_left
        · intro w'
          go_simp
          with_reducible rfl
        rotate_left
        · simp only [Act.put, List.setIfInBounds_toArray, List.set_cons_zero, List.set_cons_succ, i64_w, i32_w]
          rfl
        refine pure_ (i := 13) (N := some 86) (v := undef) (a' := ?_) #[true, true, true, true, true, true, true, true, true, true, true, true, true, true, false, false, false] rfl rfl (qSA HT_.out (by kernel_rfl)) (fun _ _ _ h => h) (Or.inr ⟨by rfl, rfl⟩) ?_ ?_
        rotate_left
        · simp only [Act.put, List.setIfInBounds_toArray, List.set_cons_zero, List.set_cons_succ, i64_w, i32_w]
          rfl
        refine pure_ (i := 14) (N := some 87) (v := undef) (a' := ?_) #[true, true, true, true, true, true, true, true, true, true, true, true, true, true, true, false, false] rfl rfl (qSA HT_.out (by kernel_rfl)) (fun _ _ _ h => h) (Or.inr ⟨by rfl, rfl⟩) ?_ ?_
        rotate_left
        · simp only [Act.put, List.setIfInBounds_toArray, List.set_cons_zero, List.set_cons_succ, i64_w, i32_w]
          rfl
        refine pure_ (i := 15) (N := some 88) (v := undef) (a' := ?_) #[true, true, true, true, true, true, true, true, true, true, true, true, true, true, true, true, false] rfl rfl (qSA HT_.out (by kernel_rfl)) (fun _ _ _ h => h) (Or.inr ⟨by rfl, rfl⟩) ?_ ?_
        rotate_left
        · simp only [Act.put, List.setIfInBounds_toArray, List.set_cons_zero, List.set_cons_succ, i64_w, i32_w]
          rfl
        refine qvC [16] (fun a0_ b a w' => a = putSel a0_ b [(16, 89, .bool true)] ∧ (Below w.heap.size w w') ∧ (Kd.R Kd.string 9 w' w.heap.size (fun _ => True) (.slice (some ad) L.length cw) L) ∧ (Kd.R k61 61 w' w.heap.size (fun _ => True) (.slice Ac s.cs.length cc) s.cs) ∧ (Kd.R (Kd.int .i64) 3 w' w.heap.size (fun _ => True) vd s.ds) ∧ (mapI.Is w' g s.ms)) HT_.out HW_.out (by kernel_rfl) (by kernel_rfl) ?_ ?_ ?_
        · exact ⟨by simp only [putSel, Bool.false_eq_true, if_false], qg B.out, Kd.qF LR.out, Kd.qF C0.out, Kd.qF D0.out, M0.out.drew⟩
        · skip
          clear B C0 D0 LR M0
          refine qt ?_ ?_
          · rintro b a w' ⟨ha, Q_B, Q_LR, Q_C0, Q_D0, Q_M0⟩ hb_ hon hoff
            refine ⟨_, rfl, fun K hK => ?_⟩
            have e85 : a.tmps[85]? = some (.bool true) := by rw [ha]; exact (qDA rfl).trans rfl
            have e88 : a.tmps[88]? = some (undef) := by rw [ha]; exact (qDA rfl).trans rfl
            replace ha := Aside0.mk ha
            have B := Aside0.mk Q_B
            have LR := Aside0.mk Q_LR
            have C0 := Aside0.mk Q_C0
            have D0 := Aside0.mk Q_D0
            have M0 := Aside0.mk Q_M0
            refine qmA (w1 := w') (v := .bool true) (by rfl) rfl ?_ ?_
            · go_simp
              (try simp only [i64_w])
              try rfl
            refine hK.out _ _ ⟨(by rw [ha.out]; exact qv 0 hb_ rfl rfl rfl), Q_B, Q_LR, Q_C0, Q_D0, Q_M0⟩
          exact qEC
        · rintro b a w' hall ⟨ha, Q_B, Q_LR, Q_C0, Q_D0, Q_M0⟩
          clear B C0 D0 LR M0
          have hb16_ := hall 16 (by kernel_rfl)
          subst ha
          simp only [putSel, hb16_, if_true, Act.put, List.setIfInBounds_toArray, List.set_cons_zero, List.set_cons_succ]
          have B := Aside0.mk Q_B
          clear Q_B
          have LR := Aside0.mk Q_LR
          clear Q_LR
          have C0 := Aside0.mk Q_C0
          clear Q_C0
          have D0 := Aside0.mk Q_D0
          clear Q_D0
          have M0 := Aside0.mk Q_M0
          clear Q_M0
          clear hall hb16_
          go_wp2
          go_ret3
          exact ⟨_, _, rfl, Kd.R_nil k61 61 _ _ _, Kd.R_nil (Kd.int .i64) 3 _ _ _, B.out⟩
end P
end Go.Proofs.YtdncpkppkafkpaaDoor
namespace Go.Proofs.YtdncpkppkafkpaaDoor.P
open Go.RowKit Go.Proofs.YtdncpkppkafkpaaDoorW.PrintWords Go.Proofs.YtdncpkppkafkpaaDoorW.PrintLast Go.Proofs.YtdncpkppkafkpaaDoorW.PrintMore
attribute [local go_sem] qCA qAA qOA qNA qq qp qBA qz
set_option linter.unusedVariables false
set_option linter.unusedSimpArgs false
def qYB.f (k : Nat) (a0 : ByteArray) : Option ((List (S61)) × List Int × Bool) := (qNB.f k a0).bind fun bt486 => (if bt486.2.2 = true then ((qQA.f k bt486.1).bind fun t493 => (some (bt486.1, bt486.2.1, t493))) else (some (bt486.1, bt486.2.1, false)))
set_option maxHeartbeats 8000000 in
set_option maxRecDepth 100000 in
theorem qYB.calls (k : Nat) (a0 : ByteArray) (r1 : List (S61)) (r2 : List Int) (r3 : Bool) (w : World) (hL : Laid w) (h : qYB.f k a0 = some (r1, r2, r3)) :
  Calls Tryd.prog 35 #[.string a0] w fun e w' => ∃ v0_ v1_ : Value, e = .returned (.tuple #[v0_, v1_, .bool r3]) ∧ Kd.R k61 61 w' w.heap.size (fun _ => True) v0_ r1 ∧ Kd.R (Kd.int .i64) 3 w' w.heap.size (fun _ => True) v1_ r2 ∧ Below w.heap.size w w' := by
 have HLD := Aside0.mk hL
 clear hL
 have HB := Aside0.mk (Below.refl w.heap.size w)
 have H : ((qNB.f k a0).bind fun bt486 => (if bt486.2.2 = true then ((qQA.f k bt486.1).bind fun t493 => (some (bt486.1, bt486.2.1, t493))) else (some (bt486.1, bt486.2.1, false)))) = some (r1, r2, r3) := h
 clear h
 replace H := Option.bind_eq_some_iff.mp H
 obtain ⟨⟨t486, t487, t488⟩, A20, H⟩ := H
 replace H : (if t488 = true then ((qQA.f k t486).bind fun t493 => (some (t486, t487, t493))) else (some (t486, t487, false))) = some (r1, r2, r3) := H
 have A2 := Aside0.mk A20
 clear A20
 by_cases c3 : t488 = true
 ·subst c3
  have H1 : ((qQA.f k t486).bind fun t493 => (some (t486, t487, t493))) = some (r1, r2, r3) := by rw [if_pos rfl] at H; exact H
  clear H
  have H := H1
  clear H1
  replace H := Option.bind_eq_some_iff.mp H
  obtain ⟨t493, A40, H⟩ := H
  replace H : (some (t486, t487, t493)) = some (r1, r2, r3) := H
  have A4 := Aside0.mk A40
  clear A40
  simp only [Option.some.injEq, Prod.mk.injEq] at H
  obtain ⟨rfl, rfl, rfl⟩ := H
  go_enter Tryd.func35, Tryd.ntmps35
  go_wp2_with (first | ((with_reducible refine qZ (f := 33) rfl ?_); refine qPA (some 10) rfl rfl Tryd.func33 (by kernel_rfl) rfl #[.string a0] rfl (by (try simp only [List.map_toArray, List.map_cons, List.map_nil]); first | done | rfl | (simp only [List.length_drop, List.length_take]; rfl)) ?_; (with_reducible refine (qNB.calls k a0 t486 t487 true _ ?side1 A2.out).mono ?_); (case side1 => first | (with_reducible exact HLD.out) | exact Laid.below HLD.out (by repeat (first | (with_reducible first | exact HB.out | apply qx | apply qGA | apply qg | refine qk ?_ (Aside0.out (by with_reducible assumption))) | exact HB.out))); rintro e w5 ⟨v489, v491, rfl, ho0, ho1, hb⟩; refine ⟨_, rfl, ?_⟩; have n0_ := Aside0.mk (Kd.qu ho0 (qY bl)); have n1_ := Aside0.mk (Kd.qu ho1 (qY bl)); have n2_ := Aside0.mk (qK bl hb); clear HB; have HO490 := n0_; have HO492 := n1_; have HB := n2_; clear n0_ n1_ n2_; (try clear hb); (try clear hb2); (try clear hk); (try clear hi); (try clear ho0); (try clear ho1); obtain ⟨Ao6, co6, eo6⟩ := Kd.qn HO490.out; subst eo6) | (go_at_call 51; (with_reducible refine (qQA.calls k _ _ t486 t493 _ ?side1 ?side2 A4.out).mono ?_); (case side1 => repeat (first | exact (Kd.qO HO490.out).2.2 | (with_reducible refine Kd.qMA ?_ _) | (with_reducible refine Kd.qLA ?_ _) | (with_reducible refine Kd.qcA ?_))); (case side2 => exact (Kd.qO HO490.out).2.1); rintro e w7 ⟨rfl, hb⟩; have n0_ := Aside0.mk (Kd.qS (by (with_reducible repeat (first | apply Kd.qB | apply Kd.qC | apply Kd.qF)); exact HO490.out) hb); have n1_ := Aside0.mk (Kd.qS (by (with_reducible repeat (first | apply Kd.qB | apply Kd.qC | apply Kd.qF)); exact HO492.out) hb); have n2_ := Aside0.mk (qK bl hb); clear HO490; clear HO492; clear HB; have HO490 := n0_; have HO492 := n1_; have HB := n2_; clear n0_ n1_ n2_; (try clear hb); (try clear hb2); (try clear hk); (try clear hi)))
  go_ret3
  exact ⟨_, _, by first | rfl | (simp [qQ, qP] <;> rfl) | (simp [*, qQ, qP] <;> rfl), by (with_reducible repeat (first | apply Kd.qB | apply Kd.qC | apply Kd.qF)); exact HO490.out, by (with_reducible repeat (first | apply Kd.qB | apply Kd.qC | apply Kd.qF)); exact HO492.out, bl⟩
 ·replace c3 := Bool.eq_false_iff.mpr c3
  subst c3
  have H1 : (some (t486, t487, false)) = some (r1, r2, r3) := by rw [if_neg (show ¬ (false = true) by decide)] at H; exact H
  clear H
  have H := H1
  clear H1
  simp only [Option.some.injEq, Prod.mk.injEq] at H
  obtain ⟨rfl, rfl, rfl⟩ := H
  go_enter Tryd.func35, Tryd.ntmps35
  go_wp2_with (first | ((with_reducible refine qZ (f := 33) rfl ?_); refine qPA (some 10) rfl rfl Tryd.func33 (by kernel_rfl) rfl #[.string a0] rfl (by (try simp only [List.map_toArray, List.map_cons, List.map_nil]); first | done | rfl | (simp only [List.length_drop, List.length_take]; rfl)) ?_; (with_reducible refine (qNB.calls k a0 t486 t487 false _ ?side1 A2.out).mono ?_); (case side1 => first | (with_reducible exact HLD.out) | exact Laid.below HLD.out (by repeat (first | (with_reducible first | exact HB.out | apply qx | apply qGA | apply qg | refine qk ?_ (Aside0.out (by with_reducible assumption))) | exact HB.out))); rintro e w8 ⟨v489, v491, rfl, ho0, ho1, hb⟩; refine ⟨_, rfl, ?_⟩; have n0_ := Aside0.mk (Kd.qu ho0 (qY bl)); have n1_ := Aside0.mk (Kd.qu ho1 (qY bl)); have n2_ := Aside0.mk (qK bl hb); clear HB; have HO490 := n0_; have HO492 := n1_; have HB := n2_; clear n0_ n1_ n2_; (try clear hb); (try clear hb2); (try clear hk); (try clear hi); (try clear ho0); (try clear ho1)))
  go_ret3
  exact ⟨_, _, by first | rfl | (simp [qQ, qP] <;> rfl) | (simp [*, qQ, qP] <;> rfl), by (with_reducible repeat (first | apply Kd.qB | apply Kd.qC | apply Kd.qF)); exact HO490.out, by (with_reducible repeat (first | apply Kd.qB | apply Kd.qC | apply Kd.qF)); exact HO492.out, bl⟩
mutual
def qN.l0 : Nat → List ByteArray → List (S61) → List Int → Int → Int → Option (List ByteArray × Bool)
 | 0, _, _, _, _, _ => none
 | k + 1, x9, x17, x25, x29, x30 => if x30 < x29 then (if 0 ≤ x30 then (if x30 < (x17.length : Int) then (if 0 ≤ (wrap64 (x30 + 1)) then (if (wrap64 (x30 + 1)) ≤ (x17.length : Int) then ((some (x17.drop ((wrap64 (x30 + 1)) : Int).toNat : List (S61))).bind fun y738 => (qN.l1 k x9 x30 x17 x25 x29 x30 y738 (y738.length : Int) 0 ((qL x17 x30).f0) ((qL x17 x30).f1))) else (none)) else (none)) else (none)) else (none)) else (some (x9, true))
def qN.l1 : Nat → List ByteArray → Int → List (S61) → List Int → Int → Int → List (S61) → Int → Int → Int → Int → Option (List ByteArray × Bool)
 | 0, _, _, _, _, _, _, _, _, _, _, _ => none
 | k + 1, x9, x10, x17, x25, x29, x30, x38, x39, x40, x738000, x738001 => if x40 < x39 then (if 0 ≤ x40 then (if x40 < (x38.length : Int) then (if x738000 = ((qL x38 x40).f0) then (if ((qL x38 x40).f1) = (wrap64 (x738001 + 1)) then (if 0 ≤ x10 then (if x10 < (x25.length : Int) then (if 0 ≤ (rd x25 x10) then (if (rd x25 x10) < 6 then (if 0 ≤ (wrap64 ((wrap64 (x10 + 1)) + x40)) then (if (wrap64 ((wrap64 (x10 + 1)) + x40)) < (x25.length : Int) then (if 0 ≤ (rd x25 (wrap64 ((wrap64 (x10 + 1)) + x40))) then (if (rd x25 (wrap64 ((wrap64 (x10 + 1)) + x40))) < 6 then (if x9.length < 8796093022208 then (qN.l1 k (x9 ++ [strOfNums (([bt (⟨#[116, 110, 101, 115, 119, 98]⟩ : ByteArray) (rd x25 x10), bt (⟨#[116, 110, 101, 115, 119, 98]⟩ : ByteArray) (rd x25 (wrap64 ((wrap64 (x10 + 1)) + x40)))] : List Int))]) x10 x17 x25 x29 x30 x38 x39 (wrap64 (x40 + 1)) x738000 x738001) else (none)) else (none)) else (none)) else (none)) else (none)) else (none)) else (none)) else (none)) else (none)) else (if x738001 = ((qL x38 x40).f1) then (if ((qL x38 x40).f0) = (wrap64 (x738000 + 1)) then (if 0 ≤ x10 then (if x10 < (x25.length : Int) then (if 0 ≤ (rd x25 x10) then (if (rd x25 x10) < 6 then (if 0 ≤ (wrap64 ((wrap64 (x10 + 1)) + x40)) then (if (wrap64 ((wrap64 (x10 + 1)) + x40)) < (x25.length : Int) then (if 0 ≤ (rd x25 (wrap64 ((wrap64 (x10 + 1)) + x40))) then (if (rd x25 (wrap64 ((wrap64 (x10 + 1)) + x40))) < 6 then (if x9.length < 8796093022208 then (qN.l1 k (x9 ++ [strOfNums (([bt (⟨#[116, 110, 101, 115, 119, 98]⟩ : ByteArray) (rd x25 x10), bt (⟨#[116, 110, 101, 115, 119, 98]⟩ : ByteArray) (rd x25 (wrap64 ((wrap64 (x10 + 1)) + x40)))] : List Int))]) x10 x17 x25 x29 x30 x38 x39 (wrap64 (x40 + 1)) x738000 x738001) else (none)) else (none)) else (none)) else (none)) else (none)) else (none)) else (none)) else (none)) else (none)) else (qN.l1 k x9 x10 x17 x25 x29 x30 x38 x39 (wrap64 (x40 + 1)) x738000 x738001)) else (qN.l1 k x9 x10 x17 x25 x29 x30 x38 x39 (wrap64 (x40 + 1)) x738000 x738001))) else (if x738001 = ((qL x38 x40).f1) then (if ((qL x38 x40).f0) = (wrap64 (x738000 + 1)) then (if 0 ≤ x10 then (if x10 < (x25.length : Int) then (if 0 ≤ (rd x25 x10) then (if (rd x25 x10) < 6 then (if 0 ≤ (wrap64 ((wrap64 (x10 + 1)) + x40)) then (if (wrap64 ((wrap64 (x10 + 1)) + x40)) < (x25.length : Int) then (if 0 ≤ (rd x25 (wrap64 ((wrap64 (x10 + 1)) + x40))) then (if (rd x25 (wrap64 ((wrap64 (x10 + 1)) + x40))) < 6 then (if x9.length < 8796093022208 then (qN.l1 k (x9 ++ [strOfNums (([bt (⟨#[116, 110, 101, 115, 119, 98]⟩ : ByteArray) (rd x25 x10), bt (⟨#[116, 110, 101, 115, 119, 98]⟩ : ByteArray) (rd x25 (wrap64 ((wrap64 (x10 + 1)) + x40)))] : List Int))]) x10 x17 x25 x29 x30 x38 x39 (wrap64 (x40 + 1)) x738000 x738001) else (none)) else (none)) else (none)) else (none)) else (none)) else (none)) else (none)) else (none)) else (none)) else (qN.l1 k x9 x10 x17 x25 x29 x30 x38 x39 (wrap64 (x40 + 1)) x738000 x738001)) else (qN.l1 k x9 x10 x17 x25 x29 x30 x38 x39 (wrap64 (x40 + 1)) x738000 x738001))) else (none)) else (none)) else (qN.l0 k x9 x17 x25 x29 (wrap64 (x30 + 1)))
end
def qN.f (k : Nat) (a0 : ByteArray) : Option (List ByteArray × Bool) := (qYB.f k a0).bind fun bt720 => (if bt720.2.2 = true then ((qI.f k bt720.1).bind fun bt727 => (qN.l0 k (([] : List ByteArray)) bt720.1 bt727.1 (bt720.1.length : Int) 0)) else (some (([] : List ByteArray), false)))
def qN.T13 : Bool × List (List Nat × List Nat) := (true, [([], []), ([], []), ([], []), ([1, 2], [1, 2]), ([3], [3]), ([4], [4]), ([], []), ([], []), ([7], [7]), ([], []), ([8, 9], [8, 9]), ([6, 10], [6, 10]), ([11], [11]), ([12], [12]), ([5, 13], [5, 13]), ([14], [14]), ([15], [15]), ([0, 16], [0, 16]), ([17, 17, 0, 1, 2, 3, 4, 5, 6, 7, 8, 9, 10, 11, 12, 13, 14, 15, 16, 17], [0, 17])])
def qN.B13 : List Nat := [0, 0, 0, 6, 14, 30, 0, 0, 128, 0, 896, 1984, 4032, 8128, 16382, 32766, 65534, 131071, 262143]
theorem qN.tab13 : rtab .any (opsOf Tryd.f25 13) = qN.T13 := by kernel_rfl
theorem qN.bits13 : waitsOk qN.T13.2 qN.B13 = true := by kernel_rfl
set_option maxHeartbeats 8000000 in
set_option maxRecDepth 100000 in
theorem qN.calls (k : Nat) (a0 : ByteArray) (r1 : List ByteArray) (r2 : Bool) (w : World) (hL : Laid w) (h : qN.f k a0 = some (r1, r2)) :
  Calls Tryd.prog 25 #[.string a0] w fun e w' => ∃ v0_ : Value, e = .returned (.tuple #[v0_, .bool r2]) ∧ Kd.R Kd.string 9 w' w.heap.size (fun _ => True) v0_ r1 ∧ Below w.heap.size w w' := by
 have hu61 := Tryd.underlying61
 have HLD := Aside0.mk hL
 clear hL
 have HB := Aside0.mk (Below.refl w.heap.size w)
 have H : ((qYB.f k a0).bind fun bt720 => (if bt720.2.2 = true then ((qI.f k bt720.1).bind fun bt727 => (qN.l0 k (([] : List ByteArray)) bt720.1 bt727.1 (bt720.1.length : Int) 0)) else (some (([] : List ByteArray), false)))) = some (r1, r2) := h
 clear h
 replace H := Option.bind_eq_some_iff.mp H
 obtain ⟨⟨t720, t721, t722⟩, A20, H⟩ := H
 replace H : (if t722 = true then ((qI.f k t720).bind fun bt727 => (qN.l0 k (([] : List ByteArray)) t720 bt727.1 (t720.length : Int) 0)) else (some (([] : List ByteArray), false))) = some (r1, r2) := H
 have A2 := Aside0.mk A20
 clear A20
 by_cases c3 : t722 = true
 ·subst c3
  have H1 : ((qI.f k t720).bind fun bt727 => (qN.l0 k (([] : List ByteArray)) t720 bt727.1 (t720.length : Int) 0)) = some (r1, r2) := by rw [if_pos rfl] at H; exact H
  clear H
  have H := H1
  clear H1
  replace H := Option.bind_eq_some_iff.mp H
  obtain ⟨⟨t727, t728⟩, A40, H⟩ := H
  replace H : (qN.l0 k (([] : List ByteArray)) t720 t727 (t720.length : Int) 0) = some (r1, r2) := H
  have A4 := Aside0.mk A40
  clear A40
  obtain ⟨y733, hy733⟩ : ∃ y_ : List ByteArray, y_ = (([] : List ByteArray)) := ⟨_, rfl⟩
  replace H : (qN.l0 k y733 t720 t727 (t720.length : Int) 0) = some (r1, r2) := by first | (rw [hy733]; with_reducible exact H) | (have H2_ := (Option.bind_some _ _).symm.trans H; rw [hy733]; with_reducible exact H2_) | (have H2_ := (Option.bind_some _ _).symm.trans H; with_reducible exact H2_) | with_reducible exact H | (rw [hy733]; exact H) | exact H
  have Ny733 := Aside0.mk hy733
  clear hy733
  have H' := Aside0.mk H
  clear H
  go_enter Tryd.func25, Tryd.ntmps25
  go_wp2_with (first | ((with_reducible refine qZ (f := 35) rfl ?_); refine qPA (some 16) rfl rfl Tryd.func35 (by kernel_rfl) rfl #[.string a0] rfl (by (try simp only [List.map_toArray, List.map_cons, List.map_nil]); first | done | rfl | (simp only [List.length_drop, List.length_take]; rfl)) ?_; (with_reducible refine (qYB.calls k a0 t720 t721 true _ ?side1 A2.out).mono ?_); (case side1 => first | (with_reducible exact HLD.out) | exact Laid.below HLD.out (by repeat (first | (with_reducible first | exact HB.out | apply qx | apply qGA | apply qg | refine qk ?_ (Aside0.out (by with_reducible assumption))) | exact HB.out))); rintro e w5 ⟨v723, v725, rfl, ho0, ho1, hb⟩; refine ⟨_, rfl, ?_⟩; have n0_ := Aside0.mk (Kd.qu ho0 (qY bl)); have n1_ := Aside0.mk (Kd.qu ho1 (qY bl)); have n2_ := Aside0.mk (qK bl hb); clear HB; have HO724 := n0_; have HO726 := n1_; have HB := n2_; clear n0_ n1_ n2_; (try clear hb); (try clear hb2); (try clear hk); (try clear hi); (try clear ho0); (try clear ho1); obtain ⟨Ao6, co6, eo6⟩ := Kd.qn HO724.out; subst eo6) | ((with_reducible refine qZ (f := 38) rfl ?_); refine qPA (some 24) rfl rfl Tryd.func38 (by kernel_rfl) rfl #[.slice Ao6 t720.length co6] rfl (by (try simp only [List.map_toArray, List.map_cons, List.map_nil]); first | done | rfl | (simp only [List.length_drop, List.length_take]; rfl)) ?_; (with_reducible refine (qI.calls k _ _ t720 t727 t728 _ ?side1 ?side2 A4.out).mono ?_); (case side1 => repeat (first | exact (Kd.qO HO724.out).2.2 | (with_reducible refine Kd.qMA ?_ _) | (with_reducible refine Kd.qLA ?_ _) | (with_reducible refine Kd.qcA ?_))); (case side2 => exact (Kd.qO HO724.out).2.1); rintro e w7 ⟨v729, v731, rfl, ho0, ho1, hb⟩; refine ⟨_, rfl, ?_⟩; have n0_ := Aside0.mk (Kd.qS (by (with_reducible repeat (first | apply Kd.qB | apply Kd.qC | apply Kd.qF)); exact HO724.out) hb); have n1_ := Aside0.mk (Kd.qX (Kd.R_told (Kd.R_told (Kd.R_old (by (with_reducible repeat (first | apply Kd.qB | apply Kd.qC | apply Kd.qF)); exact HO726.out) hb) (Kd.qDB ho0)) (Kd.qDB ho1)) (fun _ h_ => h_.1)); have n2_ := Aside0.mk (Kd.qu (Kd.qCB ho0 (Kd.R_lt (by (with_reducible repeat (first | apply Kd.qB | apply Kd.qC | apply Kd.qF)); exact HO726.out))) (qY bl)); have n3_ := Aside0.mk (Kd.qu (Kd.qCB ho1 (Kd.R_lt (by (with_reducible repeat (first | apply Kd.qB | apply Kd.qC | apply Kd.qF)); exact HO726.out))) (qY bl)); have n4_ := Aside0.mk (qK bl hb); clear HO724; clear HO726; clear HB; have HO724 := n0_; have HO726 := n1_; have HO730 := n2_; have HO732 := n3_; have HB := n4_; clear n0_ n1_ n2_ n3_ n4_; (try clear hb); (try clear hb2); (try clear hk); (try clear hi); (try clear ho0); (try clear ho1)) | ((with_reducible refine qa (N := 27) rfl ?_); refine Kd.R_lit Kd.string _ 9 ?hg (N := 27) ?hd (xs := ([] : List ByteArray)) (inner := []) (ok := fun _ => True) (okp := fun _ => True) ?hr ?hp (fun _ hk => hk) trivial (Below.refl _ _) (Nat.le_refl _) (by simp) ?_; (case hd => rfl); (case hg => rfl); (case hr => first | (go_simp; done) | (go_simp; rfl)); (case hp => exact (Reps.none _ _)); intro v734 w8 ho9 hb hg_ hnew_; clear hg_ hnew_; (first | rw [← Ny733.out] at ho9 | (simp only [Int.reduceToNat] at ho9; rw [← Ny733.out] at ho9)); have n0_ := Aside0.mk (Kd.qS (by (with_reducible repeat (first | apply Kd.qB | apply Kd.qC | apply Kd.qF)); exact HO724.out) hb); have n1_ := Aside0.mk (Kd.qS (by (with_reducible repeat (first | apply Kd.qB | apply Kd.qC | apply Kd.qF)); exact HO726.out) hb); have n2_ := Aside0.mk (Kd.qS (by (with_reducible repeat (first | apply Kd.qB | apply Kd.qC | apply Kd.qF)); exact HO730.out) hb); have n3_ := Aside0.mk (Kd.qS (by (with_reducible repeat (first | apply Kd.qB | apply Kd.qC | apply Kd.qF)); exact HO732.out) hb); have n4_ := Aside0.mk (Kd.qu ho9 (qY bl)); have n5_ := Aside0.mk (qK bl hb); clear HO724; clear HO726; clear HO730; clear HO732; clear HB; have HO724 := n0_; have HO726 := n1_; have HO730 := n2_; have HO732 := n3_; have HO735 := n4_; have HB := n5_; clear n0_ n1_ n2_ n3_ n4_ n5_; clear hb ho9))
  go_loopg [9, 30] k (fun kq v9 v30 w' => ∃ (x9_1 : List ByteArray) (x30_1 : Int), v30 = .int .i64 x30_1 ∧ Aside0 (qN.l0 kq x9_1 t720 t727 (t720.length : Int) x30_1 = some (r1, r2)) ∧ Aside0 (kq ≤ k) ∧ Aside0 (Kd.R Kd.string 9 w' w.heap.size (fun _ => True) v9 x9_1) ∧ Aside0 (Kd.R k61 61 w' w.heap.size (fun _ => True) (.slice Ao6 t720.length co6) t720) ∧ Aside0 (Kd.R (Kd.int .i64) 3 w' w.heap.size (fun _ => True) v729 t727) ∧ Aside0 (Below w.heap.size w w'))
  case atStart => exact ⟨(y733), (0), (by first | rfl | (simp; done) | (simp [*]; done)), H', ⟨Nat.le_refl _⟩, ⟨by (with_reducible repeat (first | apply Kd.qB | apply Kd.qC | apply Kd.qF)); exact HO735.out⟩, ⟨by (with_reducible repeat (first | apply Kd.qB | apply Kd.qC | apply Kd.qF)); exact HO724.out⟩, ⟨by (with_reducible repeat (first | apply Kd.qB | apply Kd.qC | apply Kd.qF)); exact Kd.qX HO730.out (fun _ hk => trivial)⟩, ⟨bl⟩⟩
  case round =>
   clear H'
   try clear c2
   try clear p2
   try clear c3
   obtain ⟨x9_1, x30_1, rfl, HA, HK1, HO_9, HO_17, HO_25, HB⟩ := hrel
   cases gk with
   | zero => exact absurd HA.out (by simp [qN.l0])
   | succ k1 =>
    have H := HA.out
    clear HA
    simp only [qN.l0] at H
    by_cases c10 : x30_1 < (t720.length : Int)
    ·rw [if_pos c10] at H
     have c10b0 : decide (x30_1 < (t720.length : Int)) = true := decide_eq_true c10
     clear c10
     by_cases c11 : 0 ≤ x30_1
     ·rw [if_pos c11] at H
      have c11b0 : decide (0 ≤ x30_1) = true := decide_eq_true c11
      clear c11
      by_cases c12 : x30_1 < (t720.length : Int)
      ·rw [if_pos c12] at H
       have c12b0 : decide (x30_1 < (t720.length : Int)) = true := decide_eq_true c12
       clear c12
       obtain ⟨ji13, hji13⟩ : ∃ j_ : Int, (wrap64 (x30_1 + 1)) = j_ := ⟨_, rfl⟩
       replace H : (if 0 ≤ (ji13) then (if (ji13) ≤ (t720.length : Int) then ((some (t720.drop ((ji13) : Int).toNat : List (S61))).bind fun y738 => (qN.l1 k1 x9_1 x30_1 t720 t727 (t720.length : Int) x30_1 y738 (y738.length : Int) 0 ((qL t720 x30_1).f0) ((qL t720 x30_1).f1))) else (none)) else (none)) = some (r1, r2) := by first | (rw [hji13] at H; exact H) | (simp only [hji13] at H ⊢; exact H)
       have hji13w : (IntKind.i64.wrap (x30_1 + 1)) = ji13 := (i64_w _).trans hji13
       by_cases c14 : 0 ≤ (ji13)
       ·rw [if_pos c14] at H
        have c14b0 := eq_true c14
        have c14b1 : decide (0 ≤ (ji13)) = true := decide_eq_true c14
        clear c14
        by_cases c15 : (ji13) ≤ (t720.length : Int)
        ·rw [if_pos c15] at H
         have c15b0 := eq_true c15
         have c15b1 : decide ((ji13) ≤ (t720.length : Int)) = true := decide_eq_true c15
         clear c15
         obtain ⟨y738, hy738⟩ : ∃ y_ : List (S61), y_ = (t720.drop ((ji13) : Int).toNat) := ⟨_, rfl⟩
         replace H : (qN.l1 k1 x9_1 x30_1 t720 t727 (t720.length : Int) x30_1 y738 (y738.length : Int) 0 ((qL t720 x30_1).f0) ((qL t720 x30_1).f1)) = some (r1, r2) := by first | (rw [hy738]; with_reducible exact H) | (have H2_ := (Option.bind_some _ _).symm.trans H; rw [hy738]; with_reducible exact H2_) | (have H2_ := (Option.bind_some _ _).symm.trans H; with_reducible exact H2_) | with_reducible exact H | (rw [hy738]; exact H) | exact H
         have Ny738 := Aside0.mk hy738
         clear hy738
         have H' := Aside0.mk H
         clear H
         have p736 : 0 ≤ (x30_1 : Int) := of_decide_eq_true (by first | (with_reducible assumption) | assumption)
         have q736 : x30_1 < (t720.length : Int) := of_decide_eq_true (by first | (with_reducible assumption) | assumption)
         obtain ⟨ad736, e736, hx736_0, hx736_1⟩ := qPB (Kd.qO HO_17.out).2.2 x30_1 p736 q736
         cases e736
         replace p736 := eq_true p736
         replace q736 := eq_true q736
         go_wp2_with (first | ((with_reducible refine qa (N := 11) rfl ?_); refine qb ?hg (N := 11) ?hd (cs := #[.int .i64 0, .int .i64 0]) (t := 61) ?hr ?_; (case hd => rfl); (case hg => rfl); (case hr => first | (go_simp; done) | (go_simp; rfl)); intro gb737 hg w16 hbox hb; have n0_ := Aside0.mk (Kd.qS (by (with_reducible repeat (first | apply Kd.qB | apply Kd.qC | apply Kd.qF)); exact HO_9.out) hb); have n1_ := Aside0.mk (Kd.qS (Kd.qaB (by (with_reducible repeat (first | apply Kd.qB | apply Kd.qC | apply Kd.qF)); exact HO_17.out) gb737 (Nat.le_of_eq hg.symm)) hb); have n2_ := Aside0.mk (Kd.qS (by (with_reducible repeat (first | apply Kd.qB | apply Kd.qC | apply Kd.qF)); exact HO_25.out) hb); have n3_ := Aside0.mk (qK bl hb); have n4_ := Aside0.mk (hbox); have n5_ := Aside0.mk ((gg hg)); have n6_ := Aside0.mk ((gg hg)); clear HO_9; clear HO_17; clear HO_25; clear HB; have HO_9 := n0_; have HO_17 := n1_; have HO_25 := n2_; have HB := n3_; have BK737 := n4_; have GW737 := n5_; have GE737 := n6_; clear n0_ n1_ n2_ n3_ n4_ n5_ n6_; clear hb hbox hg; have hcz17_0 := bc BK737 0; have hcz17_1 := bc BK737 1; have hfz17_0 := qA BK737.out 0; have hfz17_1 := qA BK737.out 1) | ((with_reducible refine qeA (t := 61) (p := 11) rfl ?_); refine qXA (t := 61) (p := 11) (v := ?vo_w18) (w1 := ((w16.setCell ⟨gb737, 0, none⟩ (.int .i64 ((qL t720 x30_1).f0))).setCell ⟨gb737, 1, none⟩ (.int .i64 ((qL t720 x30_1).f1)))) ?hg ?ho ?hn ?hr ?_; (case ho => rfl); (case hg => rfl); (case hn => rfl); (case hr => first | (go_simp; done) | (go_simp; rfl)); intro w18 hw; have n0_ : Aside0 (Kd.R Kd.string 9 w18 w.heap.size (fun _ => True) u9 x9_1) := ⟨(by rw [hw]; exact (by (with_reducible repeat (first | apply Kd.qB | apply Kd.qC | apply Kd.qF)); exact Kd.qX (Kd.R_far (p := ⟨gb737, 1, none⟩) (Kd.R_far (p := ⟨gb737, 0, none⟩) (Kd.qKA HO_9.out BK737.out (by decide)) (fun _ hk => hk.2) (.int .i64 ((qL t720 x30_1).f0))) (fun _ hk => hk.2) (.int .i64 ((qL t720 x30_1).f1))) (fun _ hk => trivial)))⟩; have n1_ : Aside0 (Kd.R k61 61 w18 w.heap.size (fun k_ => k_ ≠ gb737) (.slice (some ad736) t720.length co6) t720) := ⟨(by rw [hw]; exact (by (with_reducible repeat (first | apply Kd.qB | apply Kd.qC | apply Kd.qF)); exact Kd.qX (Kd.R_far (p := ⟨gb737, 1, none⟩) (Kd.R_far (p := ⟨gb737, 0, none⟩) (Kd.qX HO_17.out (fun k_ hk => (⟨hk, hk.2⟩ : _ ∧ k_ ≠ gb737))) (fun _ hk => hk.2) (.int .i64 ((qL t720 x30_1).f0))) (fun _ hk => hk.2) (.int .i64 ((qL t720 x30_1).f1))) (fun _ hk => hk.1.2)))⟩; have n2_ : Aside0 (Kd.R (Kd.int .i64) 3 w18 w.heap.size (fun _ => True) v729 t727) := ⟨(by rw [hw]; exact (by (with_reducible repeat (first | apply Kd.qB | apply Kd.qC | apply Kd.qF)); exact Kd.qX (Kd.R_far (p := ⟨gb737, 1, none⟩) (Kd.R_far (p := ⟨gb737, 0, none⟩) (Kd.qKA HO_25.out BK737.out (by decide)) (fun _ hk => hk.2) (.int .i64 ((qL t720 x30_1).f0))) (fun _ hk => hk.2) (.int .i64 ((qL t720 x30_1).f1))) (fun _ hk => trivial)))⟩; have n3_ : Aside0 (w18.heap[gb737]? = some (.cells #[.int .i64 ((qL t720 x30_1).f0), .int .i64 ((qL t720 x30_1).f1)] 61 (0, 0))) := ⟨(by rw [hw]; exact (by (with_reducible repeat (first | refine qE ?_ _ | refine qG ?_ | refine qD ?_ _)); refine qV (cs := #[.int .i64 ((qL t720 x30_1).f0), .int .i64 0]) ?_ 1 _ rfl; (with_reducible repeat (first | refine qE ?_ _ | refine qG ?_ | refine qD ?_ _)); refine qV (cs := #[.int .i64 0, .int .i64 0]) ?_ 0 _ rfl; (with_reducible repeat (first | refine qE ?_ _ | refine qG ?_ | refine qD ?_ _)); exact BK737.out))⟩; have n4_ : Aside0 (Below w.heap.size w w18) := ⟨(by rw [hw]; exact bl)⟩; clear hw; clear HO_9; clear HO_17; clear HO_25; clear BK737; clear HB; have HO_9 := n0_; have HO_17 := n1_; have HO_25 := n2_; have BK737 := n3_; have HB := n4_; clear n0_ n1_ n2_ n3_ n4_; have q19 : ((ji13) : Int) ≤ ((t720.length : Int) : Int) := of_decide_eq_true (by first | (with_reducible assumption) | assumption); obtain ⟨i019, hi019, _, hsz19, _⟩ := info_parts info61; have hroom19 : t720.length ≤ co6 := (Kd.qO HO_17.out).2.1; have hC19 : Kd.C k61 _ (some ad736) t720.length t720 := (Kd.qO HO_17.out).2.2; have q019 : (0 : Int) ≤ ((ji13) : Int) := of_decide_eq_true (by first | (with_reducible assumption) | assumption); have hcut19 := cut_from (P := Tryd.prog) 50 61 .i64 Tryd.underlying50 hi019 2 hsz19 (some ad736) t720.length co6 (ji13) q019 q19; have hr19 := Kd.C_drop (m := ((ji13) : Int).toNat) (c := co6) hC19 (by omega) hroom19; obtain ⟨A19, hA19⟩ : ∃ A1, A1 = (if co6 = ((ji13) : Int).toNat then (some ad736) else ((some ad736) : Option Addr).map (·.add (((ji13) : Int).toNat * 2))) := ⟨_, rfl⟩; obtain ⟨c19, hc19⟩ : ∃ c1, c1 = co6 - ((ji13) : Int).toNat := ⟨_, rfl⟩; have hy19 : y738.length = t720.length - ((ji13) : Int).toNat := (by rw [Ny738.out, List.length_drop] <;> omega); rw [show (t720).drop ((ji13) : Int).toNat = y738 from Ny738.out.symm] at hr19; replace hr19 : Kd.C k61 _ A19 y738.length y738 := (by rw [hA19]; exact hr19); rw [← hy19, ← hA19, ← hc19] at hcut19; have HR741 := Aside0.mk hr19; have HC741 := Aside0.mk (show y738.length ≤ c19 from by rw [hy19, hc19]; exact Nat.sub_le_sub_right hroom19 _); clear hr19 hC19 hroom19 hi019 hsz19 hc19; have KY19 := Aside0.mk hy19; have KA19 := Aside0.mk hA19; clear hy19 hA19; have KL19 := Aside0.mk (show ((ji13) : Int).toNat ≤ t720.length from by omega); replace q19 := eq_true q19))
         go_loopg [9, 40] k1 (fun kq v9 v40 w' => ∃ (x9_2 : List ByteArray) (x40_2 : Int), v40 = .int .i64 x40_2 ∧ Aside0 (qN.l1 kq x9_2 x30_1 t720 t727 (t720.length : Int) x30_1 y738 (y738.length : Int) x40_2 ((qL t720 x30_1).f0) ((qL t720 x30_1).f1) = some (r1, r2)) ∧ Aside0 (kq ≤ k1) ∧ Aside0 (Kd.R Kd.string 9 w' w.heap.size (fun _ => True) v9 x9_2) ∧ Aside0 (Kd.R k61 61 w' w.heap.size (fun k_ => k_ ≠ gb737) (.slice (some ad736) t720.length co6) t720) ∧ Aside0 (Kd.R (Kd.int .i64) 3 w' w.heap.size (fun _ => True) v729 t727) ∧ Aside0 (w'.heap[gb737]? = some (.cells #[.int .i64 ((qL t720 x30_1).f0), .int .i64 ((qL t720 x30_1).f1)] 61 (0, 0))) ∧ Aside0 (Below w.heap.size w w'))
         case atStart => exact ⟨(x9_1), (0), (by first | rfl | (simp; done) | (simp [*]; done)), H', ⟨Nat.le_refl _⟩, ⟨by (with_reducible repeat (first | apply Kd.qB | apply Kd.qC | apply Kd.qF)); exact HO_9.out⟩, ⟨by (with_reducible repeat (first | apply Kd.qB | apply Kd.qC | apply Kd.qF)); exact HO_17.out⟩, ⟨by (with_reducible repeat (first | apply Kd.qB | apply Kd.qC | apply Kd.qF)); exact HO_25.out⟩, ⟨by (with_reducible repeat (first | refine qE ?_ _ | refine qG ?_ | refine qD ?_ _)); exact BK737.out⟩, ⟨bl⟩⟩
         case round =>
          clear H'
          try clear c1
          try clear q1
          try clear c2
          try clear p2
          try clear c3
          try clear p6
          try clear p7
          try clear q7
          try clear hx7
          try clear c10
          try clear c10b0
          try clear c11
          try clear c11b0
          try clear c12
          try clear c12b0
          try clear c14
          try clear c14b0
          try clear c14b1
          try clear c15
          try clear c15b0
          try clear c15b1
          try clear c19
          try clear q19
          try clear hcz17_0
          try clear hcz17_1
          try clear hfz17_0
          try clear hfz17_1
          try clear hx736_0
          try clear hx736_1
          try clear p2
          try clear p736
          try clear q019
          try clear q19
          try clear q736
          obtain ⟨x9_2, x40_2, rfl, HA, HK2, HO_9, HO_17, HO_25, BK737, HB⟩ := hrel
          have HRn_ : Aside0 (Kd.C k61 _ A19 y738.length y738) := ⟨by
           have h_ := Kd.C_drop (m := ((ji13) : Int).toNat) (c := co6) (Kd.qO HO_17.out).2.2 KL19.out (Kd.qO HO_17.out).2.1
           rw [show (t720).drop ((ji13) : Int).toNat = y738 from Ny738.out.symm] at h_
           rw [KA19.out]; exact h_⟩
          clear HR741
          have HR741 := HRn_
          clear HRn_
          cases gk with
          | zero => exact absurd HA.out (by simp [qN.l1])
          | succ k2 =>
           have H := HA.out
           clear HA
           simp only [qN.l1] at H
           by_cases c20 : x40_2 < (y738.length : Int)
           ·rw [if_pos c20] at H
            have c20b0 : decide (x40_2 < (y738.length : Int)) = true := decide_eq_true c20
            clear c20
            by_cases c21 : 0 ≤ x40_2
            ·rw [if_pos c21] at H
             have c21b0 : decide (0 ≤ x40_2) = true := decide_eq_true c21
             clear c21
             by_cases c22 : x40_2 < (y738.length : Int)
             ·rw [if_pos c22] at H
              have c22b0 : decide (x40_2 < (y738.length : Int)) = true := decide_eq_true c22
              clear c22
              by_cases c23 : ((qL t720 x30_1).f0) = ((qL y738 x40_2).f0)
              ·rw [if_pos c23] at H
               have c23b0 : (((qL t720 x30_1).f0) == ((qL y738 x40_2).f0)) = true := beq_iff_eq.mpr c23
               have c23b1 : (((qL t720 x30_1).f0) != ((qL y738 x40_2).f0)) = false := bne_eq_false_iff_eq.mpr c23
               clear c23
               by_cases c24 : ((qL y738 x40_2).f1) = (wrap64 (((qL t720 x30_1).f1) + 1))
               ·rw [if_pos c24] at H
                have c24b0 : (((qL y738 x40_2).f1) == (wrap64 (((qL t720 x30_1).f1) + 1))) = true := beq_iff_eq.mpr c24
                have c24b1 : (((qL y738 x40_2).f1) != (wrap64 (((qL t720 x30_1).f1) + 1))) = false := bne_eq_false_iff_eq.mpr c24
                clear c24
                by_cases c25 : 0 ≤ x30_1
                ·rw [if_pos c25] at H
                 have c25b0 : decide (0 ≤ x30_1) = true := decide_eq_true c25
                 clear c25
                 by_cases c26 : x30_1 < (t727.length : Int)
                 ·rw [if_pos c26] at H
                  have c26b0 : decide (x30_1 < (t727.length : Int)) = true := decide_eq_true c26
                  clear c26
                  by_cases c27 : 0 ≤ (rd t727 x30_1)
                  ·rw [if_pos c27] at H
                   have c27b0 : decide (0 ≤ (rd t727 x30_1)) = true := decide_eq_true c27
                   clear c27
                   by_cases c28 : (rd t727 x30_1) < 6
                   ·rw [if_pos c28] at H
                    have c28b0 : decide ((rd t727 x30_1) < 6) = true := decide_eq_true c28
                    clear c28
                    obtain ⟨ji30, hji30⟩ : ∃ j_ : Int, (wrap64 ((wrap64 (x30_1 + 1)) + x40_2)) = j_ := ⟨_, rfl⟩
                    replace H : (if 0 ≤ (ji30) then (if (ji30) < (t727.length : Int) then (if 0 ≤ (rd t727 (ji30)) then (if (rd t727 (ji30)) < 6 then (if x9_2.length < 8796093022208 then (qN.l1 k2 (x9_2 ++ [strOfNums (([bt (⟨#[116, 110, 101, 115, 119, 98]⟩ : ByteArray) (rd t727 x30_1), bt (⟨#[116, 110, 101, 115, 119, 98]⟩ : ByteArray) (rd t727 (ji30))] : List Int))]) x30_1 t720 t727 (t720.length : Int) x30_1 y738 (y738.length : Int) (wrap64 (x40_2 + 1)) ((qL t720 x30_1).f0) ((qL t720 x30_1).f1)) else (none)) else (none)) else (none)) else (none)) else (none)) = some (r1, r2) := by first | (rw [hji30] at H; exact H) | (simp only [hji30] at H ⊢; exact H)
                    have hji30w : (IntKind.i64.wrap ((wrap64 (x30_1 + 1)) + x40_2)) = ji30 := (i64_w _).trans hji30
                    have hji30x : wrap64 (ji13 + x40_2) = ji30 := by rw [← hji13]; exact hji30
                    have hji30v : IntKind.i64.wrap (ji13 + x40_2) = ji30 := (i64_w _).trans hji30x
                    by_cases c31 : 0 ≤ (ji30)
                    ·rw [if_pos c31] at H
                     have c31b0 : decide (0 ≤ (ji30)) = true := decide_eq_true c31
                     clear c31
                     by_cases c32 : (ji30) < (t727.length : Int)
                     ·rw [if_pos c32] at H
                      have c32b0 : decide ((ji30) < (t727.length : Int)) = true := decide_eq_true c32
                      clear c32
                      by_cases c33 : 0 ≤ (rd t727 (ji30))
                      ·rw [if_pos c33] at H
                       have c33b0 : decide (0 ≤ (rd t727 (ji30))) = true := decide_eq_true c33
                       clear c33
                       by_cases c34 : (rd t727 (ji30)) < 6
                       ·rw [if_pos c34] at H
                        have c34b0 : decide ((rd t727 (ji30)) < 6) = true := decide_eq_true c34
                        clear c34
                        obtain ⟨y746, hy746⟩ : ∃ y_ : List Int, y_ = (([bt (⟨#[116, 110, 101, 115, 119, 98]⟩ : ByteArray) (rd t727 x30_1), bt (⟨#[116, 110, 101, 115, 119, 98]⟩ : ByteArray) (rd t727 (ji30))] : List Int)) := ⟨_, rfl⟩
                        replace H : (if x9_2.length < 8796093022208 then (qN.l1 k2 (x9_2 ++ [strOfNums y746]) x30_1 t720 t727 (t720.length : Int) x30_1 y738 (y738.length : Int) (wrap64 (x40_2 + 1)) ((qL t720 x30_1).f0) ((qL t720 x30_1).f1)) else (none)) = some (r1, r2) := by first | (rw [hy746]; with_reducible exact H) | (have H2_ := (Option.bind_some _ _).symm.trans H; rw [hy746]; with_reducible exact H2_) | (have H2_ := (Option.bind_some _ _).symm.trans H; with_reducible exact H2_) | with_reducible exact H | (rw [hy746]; exact H) | exact H
                        have Ny746 := Aside0.mk hy746
                        clear hy746
                        by_cases c36 : x9_2.length < 8796093022208
                        ·rw [if_pos c36] at H
                         have LMc36 := Aside0.mk c36
                         clear c36
                         obtain ⟨y749, hy749⟩ : ∃ y_ : List ByteArray, y_ = (x9_2 ++ [strOfNums y746]) := ⟨_, rfl⟩
                         replace H : (qN.l1 k2 y749 x30_1 t720 t727 (t720.length : Int) x30_1 y738 (y738.length : Int) (wrap64 (x40_2 + 1)) ((qL t720 x30_1).f0) ((qL t720 x30_1).f1)) = some (r1, r2) := by first | (rw [hy749]; with_reducible exact H) | (have H2_ := (Option.bind_some _ _).symm.trans H; rw [hy749]; with_reducible exact H2_) | (have H2_ := (Option.bind_some _ _).symm.trans H; with_reducible exact H2_) | with_reducible exact H | (rw [hy749]; exact H) | exact H
                         have Ny749 := Aside0.mk hy749
                         clear hy749
                         have H' := Aside0.mk H
                         clear H
                         have p742 : 0 ≤ (x40_2 : Int) := of_decide_eq_true (by first | (with_reducible assumption) | assumption)
                         have q742 : x40_2 < (y738.length : Int) := of_decide_eq_true (by first | (with_reducible assumption) | assumption)
                         obtain ⟨ad742, e742, hx742_0, hx742_1⟩ := qPB HR741.out x40_2 p742 q742
                         cases e742
                         replace p742 := eq_true p742
                         replace q742 := eq_true q742
                         try go_wp2_with (first | ((with_reducible refine qa (N := 13) rfl ?_); refine qb ?hg (N := 13) ?hd (cs := #[.int .i64 0, .int .i64 0]) (t := 61) ?hr ?_; (case hd => rfl); (case hg => rfl); (case hr => first | (go_simp; done) | (go_simp; rfl)); intro gb743 hg w37 hbox hb; have n0_ := Aside0.mk (Kd.qS (by (with_reducible repeat (first | apply Kd.qB | apply Kd.qC | apply Kd.qF)); exact HO_9.out) hb); have n1_ := Aside0.mk (Kd.qS (Kd.qaB (by (with_reducible repeat (first | apply Kd.qB | apply Kd.qC | apply Kd.qF)); exact HO_17.out) gb743 (Nat.le_of_eq hg.symm)) hb); have n2_ := Aside0.mk (Kd.qS (by (with_reducible repeat (first | apply Kd.qB | apply Kd.qC | apply Kd.qF)); exact HO_25.out) hb); have n3_ := Aside0.mk (bb BK737 hb); have n4_ := Aside0.mk (qK bl hb); have n5_ := Aside0.mk (hbox); have n6_ := Aside0.mk ((gg hg)); have n7_ := Aside0.mk ((gg hg)); have n8_ := Aside0.mk ((nl BK737 hg)); have n9_ := Aside0.mk ((nr BK737 hg)); clear HO_9; clear HO_17; clear HO_25; clear BK737; clear HB; have HO_9 := n0_; have HO_17 := n1_; have HO_25 := n2_; have BK737 := n3_; have HB := n4_; have BK743 := n5_; have GW743 := n6_; have GE743 := n7_; have NB737_743 := n8_; have NB743_737 := n9_; clear n0_ n1_ n2_ n3_ n4_ n5_ n6_ n7_ n8_ n9_; clear hb hbox hg; have hnb38 := NB743_737.out; have hnc38 := NB737_743.out; have hcz39_0 := bc BK743 0; have hcz39_1 := bc BK743 1; have hfz39_0 := qA BK743.out 0; have hfz39_1 := qA BK743.out 1; have hcz40_0 := bc BK737 0; have hcz40_1 := bc BK737 1; have hfz40_0 := qA BK737.out 0; have hfz40_1 := qA BK737.out 1))
                         have n0_ : Aside0 (Kd.R Kd.string 9 ((w37.setCell ⟨gb743, 0, none⟩ (.int .i64 ((qL y738 x40_2).f0))).setCell ⟨gb743, 1, none⟩ (.int .i64 ((qL y738 x40_2).f1))) w.heap.size (fun _ => True) u9 x9_2) := ⟨by (with_reducible repeat (first | apply Kd.qB | apply Kd.qC | apply Kd.qF)); exact Kd.qX (Kd.R_far (p := ⟨gb743, 1, none⟩) (Kd.R_far (p := ⟨gb743, 0, none⟩) (Kd.qKA HO_9.out BK743.out (by decide)) (fun _ hk => hk.2) (.int .i64 ((qL y738 x40_2).f0))) (fun _ hk => hk.2) (.int .i64 ((qL y738 x40_2).f1))) (fun _ hk => trivial)⟩
                         have n1_ : Aside0 (Kd.R k61 61 ((w37.setCell ⟨gb743, 0, none⟩ (.int .i64 ((qL y738 x40_2).f0))).setCell ⟨gb743, 1, none⟩ (.int .i64 ((qL y738 x40_2).f1))) w.heap.size (fun k_ => k_ ≠ gb737 ∧ k_ ≠ gb743) (.slice (some ad736) t720.length co6) t720) := ⟨by (with_reducible repeat (first | apply Kd.qB | apply Kd.qC | apply Kd.qF)); exact Kd.qX (Kd.R_far (p := ⟨gb743, 1, none⟩) (Kd.R_far (p := ⟨gb743, 0, none⟩) (Kd.qX HO_17.out (fun k_ hk => (⟨hk, hk.2⟩ : _ ∧ k_ ≠ gb743))) (fun _ hk => hk.2) (.int .i64 ((qL y738 x40_2).f0))) (fun _ hk => hk.2) (.int .i64 ((qL y738 x40_2).f1))) (fun _ hk => ⟨hk.1.1, hk.1.2⟩)⟩
                         have n2_ : Aside0 (Kd.R (Kd.int .i64) 3 ((w37.setCell ⟨gb743, 0, none⟩ (.int .i64 ((qL y738 x40_2).f0))).setCell ⟨gb743, 1, none⟩ (.int .i64 ((qL y738 x40_2).f1))) w.heap.size (fun _ => True) v729 t727) := ⟨by (with_reducible repeat (first | apply Kd.qB | apply Kd.qC | apply Kd.qF)); exact Kd.qX (Kd.R_far (p := ⟨gb743, 1, none⟩) (Kd.R_far (p := ⟨gb743, 0, none⟩) (Kd.qKA HO_25.out BK743.out (by decide)) (fun _ hk => hk.2) (.int .i64 ((qL y738 x40_2).f0))) (fun _ hk => hk.2) (.int .i64 ((qL y738 x40_2).f1))) (fun _ hk => trivial)⟩
                         have n3_ : Aside0 (((w37.setCell ⟨gb743, 0, none⟩ (.int .i64 ((qL y738 x40_2).f0))).setCell ⟨gb743, 1, none⟩ (.int .i64 ((qL y738 x40_2).f1))).heap[gb737]? = some (.cells #[.int .i64 ((qL t720 x30_1).f0), .int .i64 ((qL t720 x30_1).f1)] 61 (0, 0))) := ⟨by (with_reducible repeat (first | refine qE ?_ _ | refine qG ?_ | refine qD ?_ _)); refine qIA ?_ NB737_743.out _; (with_reducible repeat (first | refine qE ?_ _ | refine qG ?_ | refine qD ?_ _)); refine qIA ?_ NB737_743.out _; (with_reducible repeat (first | refine qE ?_ _ | refine qG ?_ | refine qD ?_ _)); exact BK737.out⟩
                         have n4_ : Aside0 (((w37.setCell ⟨gb743, 0, none⟩ (.int .i64 ((qL y738 x40_2).f0))).setCell ⟨gb743, 1, none⟩ (.int .i64 ((qL y738 x40_2).f1))).heap[gb743]? = some (.cells #[.int .i64 ((qL y738 x40_2).f0), .int .i64 ((qL y738 x40_2).f1)] 61 (0, 0))) := ⟨by (with_reducible repeat (first | refine qE ?_ _ | refine qG ?_ | refine qD ?_ _)); refine qV (cs := #[.int .i64 ((qL y738 x40_2).f0), .int .i64 0]) ?_ 1 _ rfl; (with_reducible repeat (first | refine qE ?_ _ | refine qG ?_ | refine qD ?_ _)); refine qV (cs := #[.int .i64 0, .int .i64 0]) ?_ 0 _ rfl; (with_reducible repeat (first | refine qE ?_ _ | refine qG ?_ | refine qD ?_ _)); exact BK743.out⟩
                         have n5_ : Aside0 (Below w.heap.size w ((w37.setCell ⟨gb743, 0, none⟩ (.int .i64 ((qL y738 x40_2).f0))).setCell ⟨gb743, 1, none⟩ (.int .i64 ((qL y738 x40_2).f1)))) := ⟨bl⟩
                         (try clear HO_9)
                         (try clear HO_17)
                         (try clear HO_25)
                         (try clear BK737)
                         (try clear BK743)
                         (try clear HB)
                         generalize ((w37.setCell ⟨gb743, 0, none⟩ (.int .i64 ((qL y738 x40_2).f0))).setCell ⟨gb743, 1, none⟩ (.int .i64 ((qL y738 x40_2).f1))) = w41 at n0_ n1_ n2_ n3_ n4_ n5_ ⊢
                         have HO_9 := n0_
                         have HO_17 := n1_
                         have HO_25 := n2_
                         have BK737 := n3_
                         have BK743 := n4_
                         have HB := n5_
                         clear n0_ n1_ n2_ n3_ n4_ n5_
                         have n0_ := Aside0.mk (Kd.qF HO_9.out)
                         have n1_ := Aside0.mk (Kd.qF HO_17.out)
                         have n2_ := Aside0.mk (Kd.qF HO_25.out)
                         have n3_ := Aside0.mk (qG BK737.out)
                         have n4_ := Aside0.mk (qG BK743.out)
                         have n5_ := Aside0.mk (qg HB.out)
                         clear HO_9
                         clear HO_17
                         clear HO_25
                         clear BK737
                         clear BK743
                         clear HB
                         have HO_9 := n0_
                         have HO_17 := n1_
                         have HO_25 := n2_
                         have BK737 := n3_
                         have BK743 := n4_
                         have HB := n5_
                         clear n0_ n1_ n2_ n3_ n4_ n5_
                         obtain ⟨Ao43, co43, eo43⟩ := Kd.qn HO_25.out
                         (first | subst eo43 | (injection eo43 with f1_ f2_ f3_; have f4_ := f1_.symm; have f5_ := f3_.symm; clear f1_ f2_ f3_; subst f4_; subst f5_))
                         have p744 : 0 ≤ (x30_1 : Int) := of_decide_eq_true (by first | (with_reducible assumption) | assumption)
                         have q744 : x30_1 < (t727.length : Int) := of_decide_eq_true (by first | (with_reducible assumption) | assumption)
                         obtain ⟨ad744, e744, hx744_0⟩ := Kd.qFA (Kd.qO HO_25.out).2.2 x30_1 p744 q744
                         cases e744
                         replace p744 := eq_true p744
                         replace q744 := eq_true q744
                         have p29 : 0 ≤ ((rd t727 x30_1) : Int) := of_decide_eq_true (by first | (with_reducible assumption) | assumption)
                         have q29 : (rd t727 x30_1) < (6 : Int) := of_decide_eq_true (by first | (with_reducible assumption) | assumption)
                         have hx29 := bt_at (⟨#[116, 110, 101, 115, 119, 98]⟩ : ByteArray) (rd t727 x30_1)
                         replace p29 := eq_true p29
                         replace q29 := eq_true q29
                         have p745 : 0 ≤ ((ji30) : Int) := of_decide_eq_true (by first | (with_reducible assumption) | assumption)
                         have q745 : (ji30) < (t727.length : Int) := of_decide_eq_true (by first | (with_reducible assumption) | assumption)
                         obtain ⟨ad745, e745, hx745_0⟩ := Kd.qFA (Kd.qO HO_25.out).2.2 (ji30) p745 q745
                         obtain rfl : ad744 = ad745 := (by injection e745)
                         replace p745 := eq_true p745
                         replace q745 := eq_true q745
                         have p35 : 0 ≤ ((rd t727 (ji30)) : Int) := of_decide_eq_true (by first | (with_reducible assumption) | assumption)
                         have q35 : (rd t727 (ji30)) < (6 : Int) := of_decide_eq_true (by first | (with_reducible assumption) | assumption)
                         have hx35 := bt_at (⟨#[116, 110, 101, 115, 119, 98]⟩ : ByteArray) (rd t727 (ji30))
                         replace p35 := eq_true p35
                         replace q35 := eq_true q35
                         refine qsA (n := 19) (S := fun w' => w'.cell? (ad744.add (x30_1).toNat) = some (.int .i64 (rd t727 x30_1)) ∧ w'.cell? (ad744.add ((ji30)).toNat) = some (.int .i64 (rd t727 (ji30)))) (ds := [15, 16, 17]) #[false, false, false, false, false, false, false, false, false, false, false, false, false, false, false, false, false, false, false] (by kernel_rfl) rfl rfl ⟨hx744_0, hx745_0⟩ (fun hHeld => ?_); refine qRA qN.tab13 qN.bits13 (fun HT_ HW_ => ?_)
                         generalize w41.drew = w42 at HO_9 HO_17 HO_25 BK737 BK743 HB hx744_0 hx745_0 hHeld ⊢
                         refine pS (i := 0) (N := some 73) #[true, false, false, false, false, false, false, false, false, false, false, false, false, false, false, false, false, false, false] HT_ ?_
                         refine pS (i := 1) (N := some 74) #[true, true, false, false, false, false, false, false, false, false, false, false, false, false, false, false, false, false, false] HT_ ?_
                         refine pS (i := 2) (N := some 75) #[true, true, true, false, false, false, false, false, false, false, false, false, false, false, false, false, false, false, false] HT_ ?_
                         refine pS (i := 3) (N := some 76) #[true, true, true, true, false, false, false, false, false, false, false, false, false, false, false, false, false, false, false] HT_ ?_
                         refine pS (i := 6) (N := some 79) #[true, true, true, true, false, false, true, false, false, false, false, false, false, false, false, false, false, false, false] HT_ ?_
                         refine pS (i := 7) (N := some 80) #[true, true, true, true, false, false, true, true, false, false, false, false, false, false, false, false, false, false, false] HT_ ?_
                         refine pS (i := 8) (N := some 81) #[true, true, true, true, false, false, true, true, true, false, false, false, false, false, false, false, false, false, false] HT_ ?_
                         refine pS (i := 9) (N := some 82) #[true, true, true, true, false, false, true, true, true, true, false, false, false, false, false, false, false, false, false] HT_ ?_
                         refine pS (i := 10) (N := some 83) #[true, true, true, true, false, false, true, true, true, true, true, false, false, false, false, false, false, false, false] HT_ ?_
                         refine pS (i := 11) (N := some 84) #[true, true, true, true, false, false, true, true, true, true, true, true, false, false, false, false, false, false, false] HT_ ?_
                         refine tS (i := 4) (N := some 77) #[true, true, true, true, true, false, true, true, true, true, true, true, false, false, false, false, false, false, false] HT_ HW_ hHeld ?_
                         refine tS (i := 5) (N := some 78) #[true, true, true, true, true, true, true, true, true, true, true, true, false, false, false, false, false, false, false] HT_ HW_ hHeld ?_
                         refine tS (i := 12) (N := some 85) #[true, true, true, true, true, true, true, true, true, true, true, true, true, false, false, false, false, false, false] HT_ HW_ hHeld ?_
                         refine tS (i := 13) (N := some 86) #[true, true, true, true, true, true, true, true, true, true, true, true, true, true, false, false, false, false, false] HT_ HW_ hHeld ?_
                         refine one_ (i := 14) (N := some 87) #[true, true, true, true, true, true, true, true, true, true, true, true, true, true, true, false, false, false, false] rfl rfl (qdA HT_.out (by kernel_rfl)) (by decide) (fun K hK => ?_)
                         refine Kd.qUB (Kd.int .u8) _ 5 ?hg (N := 87) ?hd (xs := ([bt (⟨#[116, 110, 101, 115, 119, 98]⟩ : ByteArray) (rd t727 x30_1), bt (⟨#[116, 110, 101, 115, 119, 98]⟩ : ByteArray) (rd t727 (ji30))] : List Int)) (inner := [.int .u8 (bt (⟨#[116, 110, 101, 115, 119, 98]⟩ : ByteArray) (rd t727 x30_1)), .int .u8 (bt (⟨#[116, 110, 101, 115, 119, 98]⟩ : ByteArray) (rd t727 (ji30)))]) (ok := fun _ => True) (okp := fun _ => True) ?hr ?hp (fun _ hk => hk) trivial (Below.refl _ _) (Nat.le_refl _) (by simp) ?_; (case hd => rfl); (case hg => rfl); (case hr => first | (go_simp; done) | (go_simp; rfl)); (case hp => exact (Reps.one (show Kd.M (Kd.int .u8) _ _ _ (bt (⟨#[116, 110, 101, 115, 119, 98]⟩ : ByteArray) (rd t727 x30_1)) [.int .u8 (bt (⟨#[116, 110, 101, 115, 119, 98]⟩ : ByteArray) (rd t727 x30_1))] from rfl) (Reps.one (show Kd.M (Kd.int .u8) _ _ _ (bt (⟨#[116, 110, 101, 115, 119, 98]⟩ : ByteArray) (rd t727 (ji30))) [.int .u8 (bt (⟨#[116, 110, 101, 115, 119, 98]⟩ : ByteArray) (rd t727 (ji30)))] from rfl) (Reps.none _ _))))
                         intro v747 w44 ho45 hb hg_ hnew_
                         have HS0_ := (hb.cell (World.block_lt_of_cell? _ _ (hHeld.1))).trans (hHeld.1)
                         have HS1_ := (hb.cell (World.block_lt_of_cell? _ _ (hHeld.2))).trans (hHeld.2)
                         clear hg_ hnew_
                         (first | rw [← Ny746.out] at ho45 | (simp only [Int.reduceToNat] at ho45; rw [← Ny746.out] at ho45))
                         have n0_ := Aside0.mk (Kd.qS (by (with_reducible repeat (first | apply Kd.qB | apply Kd.qC | apply Kd.qF)); exact HO_9.out) hb)
                         have n1_ := Aside0.mk (Kd.qS (by (with_reducible repeat (first | apply Kd.qB | apply Kd.qC | apply Kd.qF)); exact HO_17.out) hb)
                         have n2_ := Aside0.mk (Kd.qS (by (with_reducible repeat (first | apply Kd.qB | apply Kd.qC | apply Kd.qF)); exact HO_25.out) hb)
                         have n3_ := Aside0.mk (Kd.qu ho45 (qY bl))
                         have n4_ := Aside0.mk (bb BK737 hb)
                         have n5_ := Aside0.mk (bb BK743 hb)
                         have n6_ := Aside0.mk (qK bl hb)
                         clear HO_9
                         clear HO_17
                         clear HO_25
                         clear BK737
                         clear BK743
                         clear HB
                         have HO_9 := n0_
                         have HO_17 := n1_
                         have HO_25 := n2_
                         have HO748 := n3_
                         have BK737 := n4_
                         have BK743 := n5_
                         have HB := n6_
                         clear n0_ n1_ n2_ n3_ n4_ n5_ n6_
                         clear hb ho45
                         refine hK.out _ _ ⟨HS0_, HS1_⟩ (fun hHeld => ?_)
                         clear hK K
                         refine norm_ (a' := ?_) ?_ ?_
                         rotate_left
                         ·show Act.put _ (some 87) _ = _
                          simp only [Act.put, List.setIfInBounds_toArray, List.set_cons_zero, List.set_cons_succ, i64_w, i32_w]
                          rfl
                         refine last_ (i := 15) (N := some 88) #[true, true, true, true, true, true, true, true, true, true, true, true, true, true, true, true, false, false, false] rfl rfl (qdA HT_.out (by kernel_rfl)) (by decide) (fun K hK => ?_)
                         have hcv46 := qrB (P := Tryd.prog) Tryd.underlying43 Tryd.underlying5 Tryd.underlying9 (Kd.qsB HO748.out)
                         refine qmA (w1 := ?_) (v := ?_) (by rfl) rfl ?_ ?_
                         rotate_left 2
                         ·go_simp
                          constructor
                          ·rfl
                          ·rfl
                         clear hcv46
                         refine hK.out _ _ ?_
                         clear hK K
                         refine norm_ (a' := ?_) ?_ ?_
                         rotate_left
                         ·show Act.put _ (some 88) _ = _
                          simp only [Act.put, List.setIfInBounds_toArray, List.set_cons_zero, List.set_cons_succ, i64_w, i32_w]
                          rfl
                         refine last_ (i := 16) (N := some 89) #[true, true, true, true, true, true, true, true, true, true, true, true, true, true, true, true, true, false, false] rfl rfl (qdA HT_.out (by kernel_rfl)) (by decide) (fun K hK => ?_)
                         refine qmA (w1 := ?_) (v := ?_) (by rfl) rfl ?_ ?_
                         rotate_left 2
                         ·go_simp
                          constructor
                          ·rfl
                          ·rfl
                         refine hK.out _ _ ?_
                         clear hK K
                         refine norm_ (a' := ?_) ?_ ?_
                         rotate_left
                         ·show Act.put _ (some 89) _ = _
                          simp only [Act.put, List.setIfInBounds_toArray, List.set_cons_zero, List.set_cons_succ, i64_w, i32_w]
                          rfl
                         refine last_ (i := 17) (N := some 90) #[true, true, true, true, true, true, true, true, true, true, true, true, true, true, true, true, true, true, false] rfl rfl (qdA HT_.out (by kernel_rfl)) (by decide) (fun K hK => ?_)
                         refine Kd.qJB Kd.string (w0 := w) w.heap.size (by rfl) (.tmp 73) (.tmp 89) 35 9 (.string ⟨#[]⟩) 16 rfl Tryd.underlying35 info9 rfl (by decide) (by omega) u9 x9_2 (strOfNums y746) [.string (strOfNums y746)] (fun _ => True) (fun _ => False) rfl rfl ?aP (fun _ hk => hk.elim) ?aF ?aO ?aB ?aS ?aL ?_
                         (case aP => exact rfl)
                         (case aB => exact bl)
                         (case aF => exact (fun _ _ => trivial))
                         (case aO => exact (by (with_reducible repeat (first | apply Kd.qB | apply Kd.qC | apply Kd.qF)); exact HO_9.out))
                         (case aS => exact (qY bl))
                         (case aL => have := LMc36.out; omega)
                         intro v750 w47 ho hb hg hat
                         rw [← Ny749.out] at ho
                         have n0_ := Aside0.mk (Kd.qTA (by (with_reducible repeat (first | apply Kd.qB | apply Kd.qC | apply Kd.qF)); exact HO_17.out) (Kd.qw (by (with_reducible repeat (first | apply Kd.qB | apply Kd.qC | apply Kd.qF)); exact HO_9.out)) (by decide) hg)
                         have n1_ := Aside0.mk (Kd.qTA (by (with_reducible repeat (first | apply Kd.qB | apply Kd.qC | apply Kd.qF)); exact HO_25.out) (Kd.qw (by (with_reducible repeat (first | apply Kd.qB | apply Kd.qC | apply Kd.qF)); exact HO_9.out)) (by decide) hg)
                         have n2_ := Aside0.mk (qaA (g := gb737) (o := .cells #[.int .i64 ((qL t720 x30_1).f0), .int .i64 ((qL t720 x30_1).f1)] 61 (0, 0)) (by (with_reducible repeat (first | refine qE ?_ _ | refine qG ?_ | refine qD ?_ _)); exact BK737.out) hg (Kd.R_ne HO_9.out BK737.out (by decide)))
                         have n3_ := Aside0.mk (qaA (g := gb743) (o := .cells #[.int .i64 ((qL y738 x40_2).f0), .int .i64 ((qL y738 x40_2).f1)] 61 (0, 0)) (by (with_reducible repeat (first | refine qE ?_ _ | refine qG ?_ | refine qD ?_ _)); exact BK743.out) hg (Kd.R_ne HO_9.out BK743.out (by decide)))
                         have n4_ := Aside0.mk (Kd.qTA (by (with_reducible repeat (first | apply Kd.qB | apply Kd.qC | apply Kd.qF)); exact HO748.out) (Kd.qw (by (with_reducible repeat (first | apply Kd.qB | apply Kd.qC | apply Kd.qF)); exact HO_9.out)) (by decide) hg)
                         have n5_ := Aside0.mk (hb)
                         have n6_ := Aside0.mk (ho)
                         clear HO_17
                         clear HO_25
                         clear BK737
                         clear BK743
                         clear HO748
                         clear HB
                         clear HO_9
                         have HO_17 := n0_
                         have HO_25 := n1_
                         have BK737 := n2_
                         have BK743 := n3_
                         have HO748 := n4_
                         have HB := n5_
                         have HO751 := n6_
                         clear n0_ n1_ n2_ n3_ n4_ n5_ n6_
                         clear ho hb hg hat
                         refine hK.out _ _ ?_
                         clear hK K
                         refine norm_ (a' := ?_) ?_ ?_
                         rotate_left
                         ·show Act.put _ (some 90) _ = _
                          simp only [Act.put, List.setIfInBounds_toArray, List.set_cons_zero, List.set_cons_succ, i64_w, i32_w]
                          rfl
                         refine pS (i := 18) (N := some 9) #[true, true, true, true, true, true, true, true, true, true, true, true, true, true, true, true, true, true, true] HT_ ?_
                         refine done_ (qwA HT_.out (by kernel_rfl)) ?_
                         try go_wp2
                         go_roundg k2
                         case measure => have := HK1.out; have := HK2.out; omega
                         case rel => exact ⟨(y749), (wrap64 (x40_2 + 1)), (by first | rfl | (simp; done) | (simp [*]; done)), H', ⟨by have := HK1.out; have := HK2.out; omega⟩, ⟨by (with_reducible repeat (first | apply Kd.qB | apply Kd.qC | apply Kd.qF)); exact HO751.out⟩, ⟨by (with_reducible repeat (first | apply Kd.qB | apply Kd.qC | apply Kd.qF)); exact Kd.qX HO_17.out (fun _ hk => hk.1)⟩, ⟨by (with_reducible repeat (first | apply Kd.qB | apply Kd.qC | apply Kd.qF)); exact HO_25.out⟩, ⟨by (with_reducible repeat (first | refine qE ?_ _ | refine qG ?_ | refine qD ?_ _)); exact BK737.out⟩, ⟨bl⟩⟩
                        ·rw [if_neg c36] at H
                         exact absurd H (by simp)
                       ·rw [if_neg c34] at H
                        exact absurd H (by simp)
                      ·rw [if_neg c33] at H
                       exact absurd H (by simp)
                     ·rw [if_neg c32] at H
                      exact absurd H (by simp)
                    ·rw [if_neg c31] at H
                     exact absurd H (by simp)
                   ·rw [if_neg c28] at H
                    exact absurd H (by simp)
                  ·rw [if_neg c27] at H
                   exact absurd H (by simp)
                 ·rw [if_neg c26] at H
                  exact absurd H (by simp)
                ·rw [if_neg c25] at H
                 exact absurd H (by simp)
               ·rw [if_neg c24] at H
                have c24b0 : (((qL y738 x40_2).f1) == (wrap64 (((qL t720 x30_1).f1) + 1))) = false := beq_eq_false_iff_ne.mpr c24
                have c24b1 : (((qL y738 x40_2).f1) != (wrap64 (((qL t720 x30_1).f1) + 1))) = true := bne_iff_ne.mpr c24
                by_cases c48 : ((qL t720 x30_1).f1) = ((qL y738 x40_2).f1)
                ·rw [if_pos c48] at H
                 have c48b0 : (((qL t720 x30_1).f1) == ((qL y738 x40_2).f1)) = true := beq_iff_eq.mpr c48
                 have c48b1 : (((qL t720 x30_1).f1) != ((qL y738 x40_2).f1)) = false := bne_eq_false_iff_eq.mpr c48
                 clear c48
                 by_cases c49 : ((qL y738 x40_2).f0) = (wrap64 (((qL t720 x30_1).f0) + 1))
                 ·rw [if_pos c49] at H
                  have c49b0 : (((qL y738 x40_2).f0) == (wrap64 (((qL t720 x30_1).f0) + 1))) = true := beq_iff_eq.mpr c49
                  have c49b1 : (((qL y738 x40_2).f0) != (wrap64 (((qL t720 x30_1).f0) + 1))) = false := bne_eq_false_iff_eq.mpr c49
                  clear c49
                  by_cases c50 : 0 ≤ x30_1
                  ·rw [if_pos c50] at H
                   have c50b0 : decide (0 ≤ x30_1) = true := decide_eq_true c50
                   clear c50
                   by_cases c51 : x30_1 < (t727.length : Int)
                   ·rw [if_pos c51] at H
                    have c51b0 : decide (x30_1 < (t727.length : Int)) = true := decide_eq_true c51
                    clear c51
                    by_cases c52 : 0 ≤ (rd t727 x30_1)
                    ·rw [if_pos c52] at H
                     have c52b0 : decide (0 ≤ (rd t727 x30_1)) = true := decide_eq_true c52
                     clear c52
                     by_cases c53 : (rd t727 x30_1) < 6
                     ·rw [if_pos c53] at H
                      have c53b0 : decide ((rd t727 x30_1) < 6) = true := decide_eq_true c53
                      clear c53
                      obtain ⟨ji55, hji55⟩ : ∃ j_ : Int, (wrap64 ((wrap64 (x30_1 + 1)) + x40_2)) = j_ := ⟨_, rfl⟩
                      replace H : (if 0 ≤ (ji55) then (if (ji55) < (t727.length : Int) then (if 0 ≤ (rd t727 (ji55)) then (if (rd t727 (ji55)) < 6 then (if x9_2.length < 8796093022208 then (qN.l1 k2 (x9_2 ++ [strOfNums (([bt (⟨#[116, 110, 101, 115, 119, 98]⟩ : ByteArray) (rd t727 x30_1), bt (⟨#[116, 110, 101, 115, 119, 98]⟩ : ByteArray) (rd t727 (ji55))] : List Int))]) x30_1 t720 t727 (t720.length : Int) x30_1 y738 (y738.length : Int) (wrap64 (x40_2 + 1)) ((qL t720 x30_1).f0) ((qL t720 x30_1).f1)) else (none)) else (none)) else (none)) else (none)) else (none)) = some (r1, r2) := by first | (rw [hji55] at H; exact H) | (simp only [hji55] at H ⊢; exact H)
                      have hji55w : (IntKind.i64.wrap ((wrap64 (x30_1 + 1)) + x40_2)) = ji55 := (i64_w _).trans hji55
                      have hji55x : wrap64 (ji13 + x40_2) = ji55 := by rw [← hji13]; exact hji55
                      have hji55v : IntKind.i64.wrap (ji13 + x40_2) = ji55 := (i64_w _).trans hji55x
                      by_cases c56 : 0 ≤ (ji55)
                      ·rw [if_pos c56] at H
                       have c56b0 : decide (0 ≤ (ji55)) = true := decide_eq_true c56
                       clear c56
                       by_cases c57 : (ji55) < (t727.length : Int)
                       ·rw [if_pos c57] at H
                        have c57b0 : decide ((ji55) < (t727.length : Int)) = true := decide_eq_true c57
                        clear c57
                        by_cases c58 : 0 ≤ (rd t727 (ji55))
                        ·rw [if_pos c58] at H
                         have c58b0 : decide (0 ≤ (rd t727 (ji55))) = true := decide_eq_true c58
                         clear c58
                         by_cases c59 : (rd t727 (ji55)) < 6
                         ·rw [if_pos c59] at H
                          have c59b0 : decide ((rd t727 (ji55)) < 6) = true := decide_eq_true c59
                          clear c59
                          obtain ⟨y754, hy754⟩ : ∃ y_ : List Int, y_ = (([bt (⟨#[116, 110, 101, 115, 119, 98]⟩ : ByteArray) (rd t727 x30_1), bt (⟨#[116, 110, 101, 115, 119, 98]⟩ : ByteArray) (rd t727 (ji55))] : List Int)) := ⟨_, rfl⟩
                          replace H : (if x9_2.length < 8796093022208 then (qN.l1 k2 (x9_2 ++ [strOfNums y754]) x30_1 t720 t727 (t720.length : Int) x30_1 y738 (y738.length : Int) (wrap64 (x40_2 + 1)) ((qL t720 x30_1).f0) ((qL t720 x30_1).f1)) else (none)) = some (r1, r2) := by first | (rw [hy754]; with_reducible exact H) | (have H2_ := (Option.bind_some _ _).symm.trans H; rw [hy754]; with_reducible exact H2_) | (have H2_ := (Option.bind_some _ _).symm.trans H; with_reducible exact H2_) | with_reducible exact H | (rw [hy754]; exact H) | exact H
                          have Ny754 := Aside0.mk hy754
                          clear hy754
                          by_cases c61 : x9_2.length < 8796093022208
                          ·rw [if_pos c61] at H
                           have LMc61 := Aside0.mk c61
                           clear c61
                           obtain ⟨y757, hy757⟩ : ∃ y_ : List ByteArray, y_ = (x9_2 ++ [strOfNums y754]) := ⟨_, rfl⟩
                           replace H : (qN.l1 k2 y757 x30_1 t720 t727 (t720.length : Int) x30_1 y738 (y738.length : Int) (wrap64 (x40_2 + 1)) ((qL t720 x30_1).f0) ((qL t720 x30_1).f1)) = some (r1, r2) := by first | (rw [hy757]; with_reducible exact H) | (have H2_ := (Option.bind_some _ _).symm.trans H; rw [hy757]; with_reducible exact H2_) | (have H2_ := (Option.bind_some _ _).symm.trans H; with_reducible exact H2_) | with_reducible exact H | (rw [hy757]; exact H) | exact H
                           have Ny757 := Aside0.mk hy757
                           clear hy757
                           have H' := Aside0.mk H
                           clear H
                           have p742 : 0 ≤ (x40_2 : Int) := of_decide_eq_true (by first | (with_reducible assumption) | assumption)
                           have q742 : x40_2 < (y738.length : Int) := of_decide_eq_true (by first | (with_reducible assumption) | assumption)
                           obtain ⟨ad742, e742, hx742_0, hx742_1⟩ := qPB HR741.out x40_2 p742 q742
                           cases e742
                           replace p742 := eq_true p742
                           replace q742 := eq_true q742
                           try go_wp2_with (first | ((with_reducible refine qa (N := 13) rfl ?_); refine qb ?hg (N := 13) ?hd (cs := #[.int .i64 0, .int .i64 0]) (t := 61) ?hr ?_; (case hd => rfl); (case hg => rfl); (case hr => first | (go_simp; done) | (go_simp; rfl)); intro gb743 hg w62 hbox hb; have n0_ := Aside0.mk (Kd.qS (by (with_reducible repeat (first | apply Kd.qB | apply Kd.qC | apply Kd.qF)); exact HO_9.out) hb); have n1_ := Aside0.mk (Kd.qS (Kd.qaB (by (with_reducible repeat (first | apply Kd.qB | apply Kd.qC | apply Kd.qF)); exact HO_17.out) gb743 (Nat.le_of_eq hg.symm)) hb); have n2_ := Aside0.mk (Kd.qS (by (with_reducible repeat (first | apply Kd.qB | apply Kd.qC | apply Kd.qF)); exact HO_25.out) hb); have n3_ := Aside0.mk (bb BK737 hb); have n4_ := Aside0.mk (qK bl hb); have n5_ := Aside0.mk (hbox); have n6_ := Aside0.mk ((gg hg)); have n7_ := Aside0.mk ((gg hg)); have n8_ := Aside0.mk ((nl BK737 hg)); have n9_ := Aside0.mk ((nr BK737 hg)); clear HO_9; clear HO_17; clear HO_25; clear BK737; clear HB; have HO_9 := n0_; have HO_17 := n1_; have HO_25 := n2_; have BK737 := n3_; have HB := n4_; have BK743 := n5_; have GW743 := n6_; have GE743 := n7_; have NB737_743 := n8_; have NB743_737 := n9_; clear n0_ n1_ n2_ n3_ n4_ n5_ n6_ n7_ n8_ n9_; clear hb hbox hg; have hnb63 := NB743_737.out; have hnc63 := NB737_743.out; have hcz64_0 := bc BK743 0; have hcz64_1 := bc BK743 1; have hfz64_0 := qA BK743.out 0; have hfz64_1 := qA BK743.out 1; have hcz65_0 := bc BK737 0; have hcz65_1 := bc BK737 1; have hfz65_0 := qA BK737.out 0; have hfz65_1 := qA BK737.out 1))
                           have n0_ : Aside0 (Kd.R Kd.string 9 ((w62.setCell ⟨gb743, 0, none⟩ (.int .i64 ((qL y738 x40_2).f0))).setCell ⟨gb743, 1, none⟩ (.int .i64 ((qL y738 x40_2).f1))) w.heap.size (fun _ => True) u9 x9_2) := ⟨by (with_reducible repeat (first | apply Kd.qB | apply Kd.qC | apply Kd.qF)); exact Kd.qX (Kd.R_far (p := ⟨gb743, 1, none⟩) (Kd.R_far (p := ⟨gb743, 0, none⟩) (Kd.qKA HO_9.out BK743.out (by decide)) (fun _ hk => hk.2) (.int .i64 ((qL y738 x40_2).f0))) (fun _ hk => hk.2) (.int .i64 ((qL y738 x40_2).f1))) (fun _ hk => trivial)⟩
                           have n1_ : Aside0 (Kd.R k61 61 ((w62.setCell ⟨gb743, 0, none⟩ (.int .i64 ((qL y738 x40_2).f0))).setCell ⟨gb743, 1, none⟩ (.int .i64 ((qL y738 x40_2).f1))) w.heap.size (fun k_ => k_ ≠ gb737 ∧ k_ ≠ gb743) (.slice (some ad736) t720.length co6) t720) := ⟨by (with_reducible repeat (first | apply Kd.qB | apply Kd.qC | apply Kd.qF)); exact Kd.qX (Kd.R_far (p := ⟨gb743, 1, none⟩) (Kd.R_far (p := ⟨gb743, 0, none⟩) (Kd.qX HO_17.out (fun k_ hk => (⟨hk, hk.2⟩ : _ ∧ k_ ≠ gb743))) (fun _ hk => hk.2) (.int .i64 ((qL y738 x40_2).f0))) (fun _ hk => hk.2) (.int .i64 ((qL y738 x40_2).f1))) (fun _ hk => ⟨hk.1.1, hk.1.2⟩)⟩
                           have n2_ : Aside0 (Kd.R (Kd.int .i64) 3 ((w62.setCell ⟨gb743, 0, none⟩ (.int .i64 ((qL y738 x40_2).f0))).setCell ⟨gb743, 1, none⟩ (.int .i64 ((qL y738 x40_2).f1))) w.heap.size (fun _ => True) v729 t727) := ⟨by (with_reducible repeat (first | apply Kd.qB | apply Kd.qC | apply Kd.qF)); exact Kd.qX (Kd.R_far (p := ⟨gb743, 1, none⟩) (Kd.R_far (p := ⟨gb743, 0, none⟩) (Kd.qKA HO_25.out BK743.out (by decide)) (fun _ hk => hk.2) (.int .i64 ((qL y738 x40_2).f0))) (fun _ hk => hk.2) (.int .i64 ((qL y738 x40_2).f1))) (fun _ hk => trivial)⟩
                           have n3_ : Aside0 (((w62.setCell ⟨gb743, 0, none⟩ (.int .i64 ((qL y738 x40_2).f0))).setCell ⟨gb743, 1, none⟩ (.int .i64 ((qL y738 x40_2).f1))).heap[gb737]? = some (.cells #[.int .i64 ((qL t720 x30_1).f0), .int .i64 ((qL t720 x30_1).f1)] 61 (0, 0))) := ⟨by (with_reducible repeat (first | refine qE ?_ _ | refine qG ?_ | refine qD ?_ _)); refine qIA ?_ NB737_743.out _; (with_reducible repeat (first | refine qE ?_ _ | refine qG ?_ | refine qD ?_ _)); refine qIA ?_ NB737_743.out _; (with_reducible repeat (first | refine qE ?_ _ | refine qG ?_ | refine qD ?_ _)); exact BK737.out⟩
                           have n4_ : Aside0 (((w62.setCell ⟨gb743, 0, none⟩ (.int .i64 ((qL y738 x40_2).f0))).setCell ⟨gb743, 1, none⟩ (.int .i64 ((qL y738 x40_2).f1))).heap[gb743]? = some (.cells #[.int .i64 ((qL y738 x40_2).f0), .int .i64 ((qL y738 x40_2).f1)] 61 (0, 0))) := ⟨by (with_reducible repeat (first | refine qE ?_ _ | refine qG ?_ | refine qD ?_ _)); refine qV (cs := #[.int .i64 ((qL y738 x40_2).f0), .int .i64 0]) ?_ 1 _ rfl; (with_reducible repeat (first | refine qE ?_ _ | refine qG ?_ | refine qD ?_ _)); refine qV (cs := #[.int .i64 0, .int .i64 0]) ?_ 0 _ rfl; (with_reducible repeat (first | refine qE ?_ _ | refine qG ?_ | refine qD ?_ _)); exact BK743.out⟩
                           have n5_ : Aside0 (Below w.heap.size w ((w62.setCell ⟨gb743, 0, none⟩ (.int .i64 ((qL y738 x40_2).f0))).setCell ⟨gb743, 1, none⟩ (.int .i64 ((qL y738 x40_2).f1)))) := ⟨bl⟩
                           (try clear HO_9)
                           (try clear HO_17)
                           (try clear HO_25)
                           (try clear BK737)
                           (try clear BK743)
                           (try clear HB)
                           generalize ((w62.setCell ⟨gb743, 0, none⟩ (.int .i64 ((qL y738 x40_2).f0))).setCell ⟨gb743, 1, none⟩ (.int .i64 ((qL y738 x40_2).f1))) = w66 at n0_ n1_ n2_ n3_ n4_ n5_ ⊢
                           have HO_9 := n0_
                           have HO_17 := n1_
                           have HO_25 := n2_
                           have BK737 := n3_
                           have BK743 := n4_
                           have HB := n5_
                           clear n0_ n1_ n2_ n3_ n4_ n5_
                           have n0_ := Aside0.mk (Kd.qF HO_9.out)
                           have n1_ := Aside0.mk (Kd.qF HO_17.out)
                           have n2_ := Aside0.mk (Kd.qF HO_25.out)
                           have n3_ := Aside0.mk (qG BK737.out)
                           have n4_ := Aside0.mk (qG BK743.out)
                           have n5_ := Aside0.mk (qg HB.out)
                           clear HO_9
                           clear HO_17
                           clear HO_25
                           clear BK737
                           clear BK743
                           clear HB
                           have HO_9 := n0_
                           have HO_17 := n1_
                           have HO_25 := n2_
                           have BK737 := n3_
                           have BK743 := n4_
                           have HB := n5_
                           clear n0_ n1_ n2_ n3_ n4_ n5_
                           obtain ⟨Ao68, co68, eo68⟩ := Kd.qn HO_25.out
                           (first | subst eo68 | (injection eo68 with f1_ f2_ f3_; have f4_ := f1_.symm; have f5_ := f3_.symm; clear f1_ f2_ f3_; subst f4_; subst f5_))
                           have p752 : 0 ≤ (x30_1 : Int) := of_decide_eq_true (by first | (with_reducible assumption) | assumption)
                           have q752 : x30_1 < (t727.length : Int) := of_decide_eq_true (by first | (with_reducible assumption) | assumption)
                           obtain ⟨ad752, e752, hx752_0⟩ := Kd.qFA (Kd.qO HO_25.out).2.2 x30_1 p752 q752
                           cases e752
                           replace p752 := eq_true p752
                           replace q752 := eq_true q752
                           have p54 : 0 ≤ ((rd t727 x30_1) : Int) := of_decide_eq_true (by first | (with_reducible assumption) | assumption)
                           have q54 : (rd t727 x30_1) < (6 : Int) := of_decide_eq_true (by first | (with_reducible assumption) | assumption)
                           have hx54 := bt_at (⟨#[116, 110, 101, 115, 119, 98]⟩ : ByteArray) (rd t727 x30_1)
                           replace p54 := eq_true p54
                           replace q54 := eq_true q54
                           have p753 : 0 ≤ ((ji55) : Int) := of_decide_eq_true (by first | (with_reducible assumption) | assumption)
                           have q753 : (ji55) < (t727.length : Int) := of_decide_eq_true (by first | (with_reducible assumption) | assumption)
                           obtain ⟨ad753, e753, hx753_0⟩ := Kd.qFA (Kd.qO HO_25.out).2.2 (ji55) p753 q753
                           obtain rfl : ad752 = ad753 := (by injection e753)
                           replace p753 := eq_true p753
                           replace q753 := eq_true q753
                           have p60 : 0 ≤ ((rd t727 (ji55)) : Int) := of_decide_eq_true (by first | (with_reducible assumption) | assumption)
                           have q60 : (rd t727 (ji55)) < (6 : Int) := of_decide_eq_true (by first | (with_reducible assumption) | assumption)
                           have hx60 := bt_at (⟨#[116, 110, 101, 115, 119, 98]⟩ : ByteArray) (rd t727 (ji55))
                           replace p60 := eq_true p60
                           replace q60 := eq_true q60
                           refine qsA (n := 19) (S := fun w' => w'.cell? (ad752.add (x30_1).toNat) = some (.int .i64 (rd t727 x30_1)) ∧ w'.cell? (ad752.add ((ji55)).toNat) = some (.int .i64 (rd t727 (ji55)))) (ds := [15, 16, 17]) #[false, false, false, false, false, false, false, false, false, false, false, false, false, false, false, false, false, false, false] (by kernel_rfl) rfl rfl ⟨hx752_0, hx753_0⟩ (fun hHeld => ?_); refine qRA qN.tab13 qN.bits13 (fun HT_ HW_ => ?_)
                           generalize w66.drew = w67 at HO_9 HO_17 HO_25 BK737 BK743 HB hx752_0 hx753_0 hHeld ⊢
                           refine pS (i := 0) (N := some 73) #[true, false, false, false, false, false, false, false, false, false, false, false, false, false, false, false, false, false, false] HT_ ?_
                           refine pS (i := 1) (N := some 74) #[true, true, false, false, false, false, false, false, false, false, false, false, false, false, false, false, false, false, false] HT_ ?_
                           refine pS (i := 2) (N := some 75) #[true, true, true, false, false, false, false, false, false, false, false, false, false, false, false, false, false, false, false] HT_ ?_
                           refine pS (i := 3) (N := some 76) #[true, true, true, true, false, false, false, false, false, false, false, false, false, false, false, false, false, false, false] HT_ ?_
                           refine pS (i := 6) (N := some 79) #[true, true, true, true, false, false, true, false, false, false, false, false, false, false, false, false, false, false, false] HT_ ?_
                           refine pS (i := 7) (N := some 80) #[true, true, true, true, false, false, true, true, false, false, false, false, false, false, false, false, false, false, false] HT_ ?_
                           refine pS (i := 8) (N := some 81) #[true, true, true, true, false, false, true, true, true, false, false, false, false, false, false, false, false, false, false] HT_ ?_
                           refine pS (i := 9) (N := some 82) #[true, true, true, true, false, false, true, true, true, true, false, false, false, false, false, false, false, false, false] HT_ ?_
                           refine pS (i := 10) (N := some 83) #[true, true, true, true, false, false, true, true, true, true, true, false, false, false, false, false, false, false, false] HT_ ?_
                           refine pS (i := 11) (N := some 84) #[true, true, true, true, false, false, true, true, true, true, true, true, false, false, false, false, false, false, false] HT_ ?_
                           refine tS (i := 4) (N := some 77) #[true, true, true, true, true, false, true, true, true, true, true, true, false, false, false, false, false, false, false] HT_ HW_ hHeld ?_
                           refine tS (i := 5) (N := some 78) #[true, true, true, true, true, true, true, true, true, true, true, true, false, false, false, false, false, false, false] HT_ HW_ hHeld ?_
                           refine tS (i := 12) (N := some 85) #[true, true, true, true, true, true, true, true, true, true, true, true, true, false, false, false, false, false, false] HT_ HW_ hHeld ?_
                           refine tS (i := 13) (N := some 86) #[true, true, true, true, true, true, true, true, true, true, true, true, true, true, false, false, false, false, false] HT_ HW_ hHeld ?_
                           refine one_ (i := 14) (N := some 87) #[true, true, true, true, true, true, true, true, true, true, true, true, true, true, true, false, false, false, false] rfl rfl (qdA HT_.out (by kernel_rfl)) (by decide) (fun K hK => ?_)
                           refine Kd.qUB (Kd.int .u8) _ 5 ?hg (N := 87) ?hd (xs := ([bt (⟨#[116, 110, 101, 115, 119, 98]⟩ : ByteArray) (rd t727 x30_1), bt (⟨#[116, 110, 101, 115, 119, 98]⟩ : ByteArray) (rd t727 (ji55))] : List Int)) (inner := [.int .u8 (bt (⟨#[116, 110, 101, 115, 119, 98]⟩ : ByteArray) (rd t727 x30_1)), .int .u8 (bt (⟨#[116, 110, 101, 115, 119, 98]⟩ : ByteArray) (rd t727 (ji55)))]) (ok := fun _ => True) (okp := fun _ => True) ?hr ?hp (fun _ hk => hk) trivial (Below.refl _ _) (Nat.le_refl _) (by simp) ?_; (case hd => rfl); (case hg => rfl); (case hr => first | (go_simp; done) | (go_simp; rfl)); (case hp => exact (Reps.one (show Kd.M (Kd.int .u8) _ _ _ (bt (⟨#[116, 110, 101, 115, 119, 98]⟩ : ByteArray) (rd t727 x30_1)) [.int .u8 (bt (⟨#[116, 110, 101, 115, 119, 98]⟩ : ByteArray) (rd t727 x30_1))] from rfl) (Reps.one (show Kd.M (Kd.int .u8) _ _ _ (bt (⟨#[116, 110, 101, 115, 119, 98]⟩ : ByteArray) (rd t727 (ji55))) [.int .u8 (bt (⟨#[116, 110, 101, 115, 119, 98]⟩ : ByteArray) (rd t727 (ji55)))] from rfl) (Reps.none _ _))))
                           intro v755 w69 ho70 hb hg_ hnew_
                           have HS0_ := (hb.cell (World.block_lt_of_cell? _ _ (hHeld.1))).trans (hHeld.1)
                           have HS1_ := (hb.cell (World.block_lt_of_cell? _ _ (hHeld.2))).trans (hHeld.2)
                           clear hg_ hnew_
                           (first | rw [← Ny754.out] at ho70 | (simp only [Int.reduceToNat] at ho70; rw [← Ny754.out] at ho70))
                           have n0_ := Aside0.mk (Kd.qS (by (with_reducible repeat (first | apply Kd.qB | apply Kd.qC | apply Kd.qF)); exact HO_9.out) hb)
                           have n1_ := Aside0.mk (Kd.qS (by (with_reducible repeat (first | apply Kd.qB | apply Kd.qC | apply Kd.qF)); exact HO_17.out) hb)
                           have n2_ := Aside0.mk (Kd.qS (by (with_reducible repeat (first | apply Kd.qB | apply Kd.qC | apply Kd.qF)); exact HO_25.out) hb)
                           have n3_ := Aside0.mk (Kd.qu ho70 (qY bl))
                           have n4_ := Aside0.mk (bb BK737 hb)
                           have n5_ := Aside0.mk (bb BK743 hb)
                           have n6_ := Aside0.mk (qK bl hb)
                           clear HO_9
                           clear HO_17
                           clear HO_25
                           clear BK737
                           clear BK743
                           clear HB
                           have HO_9 := n0_
                           have HO_17 := n1_
                           have HO_25 := n2_
                           have HO756 := n3_
                           have BK737 := n4_
                           have BK743 := n5_
                           have HB := n6_
                           clear n0_ n1_ n2_ n3_ n4_ n5_ n6_
                           clear hb ho70
                           refine hK.out _ _ ⟨HS0_, HS1_⟩ (fun hHeld => ?_)
                           clear hK K
                           refine norm_ (a' := ?_) ?_ ?_
                           rotate_left
                           ·show Act.put _ (some 87) _ = _
                            simp only [Act.put, List.setIfInBounds_toArray, List.set_cons_zero, List.set_cons_succ, i64_w, i32_w]
                            rfl
                           refine last_ (i := 15) (N := some 88) #[true, true, true, true, true, true, true, true, true, true, true, true, true, true, true, true, false, false, false] rfl rfl (qdA HT_.out (by kernel_rfl)) (by decide) (fun K hK => ?_)
                           have hcv71 := qrB (P := Tryd.prog) Tryd.underlying43 Tryd.underlying5 Tryd.underlying9 (Kd.qsB HO756.out)
                           refine qmA (w1 := ?_) (v := ?_) (by rfl) rfl ?_ ?_
                           rotate_left 2
                           ·go_simp
                            constructor
                            ·rfl
                            ·rfl
                           clear hcv71
                           refine hK.out _ _ ?_
                           clear hK K
                           refine norm_ (a' := ?_) ?_ ?_
                           rotate_left
                           ·show Act.put _ (some 88) _ = _
                            simp only [Act.put, List.setIfInBounds_toArray, List.set_cons_zero, List.set_cons_succ, i64_w, i32_w]
                            rfl
                           refine last_ (i := 16) (N := some 89) #[true, true, true, true, true, true, true, true, true, true, true, true, true, true, true, true, true, false, false] rfl rfl (qdA HT_.out (by kernel_rfl)) (by decide) (fun K hK => ?_)
                           refine qmA (w1 := ?_) (v := ?_) (by rfl) rfl ?_ ?_
                           rotate_left 2
                           ·go_simp
                            constructor
                            ·rfl
                            ·rfl
                           refine hK.out _ _ ?_
                           clear hK K
                           refine norm_ (a' := ?_) ?_ ?_
                           rotate_left
                           ·show Act.put _ (some 89) _ = _
                            simp only [Act.put, List.setIfInBounds_toArray, List.set_cons_zero, List.set_cons_succ, i64_w, i32_w]
                            rfl
                           refine last_ (i := 17) (N := some 90) #[true, true, true, true, true, true, true, true, true, true, true, true, true, true, true, true, true, true, false] rfl rfl (qdA HT_.out (by kernel_rfl)) (by decide) (fun K hK => ?_)
                           refine Kd.qJB Kd.string (w0 := w) w.heap.size (by rfl) (.tmp 73) (.tmp 89) 35 9 (.string ⟨#[]⟩) 16 rfl Tryd.underlying35 info9 rfl (by decide) (by omega) u9 x9_2 (strOfNums y754) [.string (strOfNums y754)] (fun _ => True) (fun _ => False) rfl rfl ?aP (fun _ hk => hk.elim) ?aF ?aO ?aB ?aS ?aL ?_
                           (case aP => exact rfl)
                           (case aB => exact bl)
                           (case aF => exact (fun _ _ => trivial))
                           (case aO => exact (by (with_reducible repeat (first | apply Kd.qB | apply Kd.qC | apply Kd.qF)); exact HO_9.out))
                           (case aS => exact (qY bl))
                           (case aL => have := LMc61.out; omega)
                           intro v758 w72 ho hb hg hat
                           rw [← Ny757.out] at ho
                           have n0_ := Aside0.mk (Kd.qTA (by (with_reducible repeat (first | apply Kd.qB | apply Kd.qC | apply Kd.qF)); exact HO_17.out) (Kd.qw (by (with_reducible repeat (first | apply Kd.qB | apply Kd.qC | apply Kd.qF)); exact HO_9.out)) (by decide) hg)
                           have n1_ := Aside0.mk (Kd.qTA (by (with_reducible repeat (first | apply Kd.qB | apply Kd.qC | apply Kd.qF)); exact HO_25.out) (Kd.qw (by (with_reducible repeat (first | apply Kd.qB | apply Kd.qC | apply Kd.qF)); exact HO_9.out)) (by decide) hg)
                           have n2_ := Aside0.mk (qaA (g := gb737) (o := .cells #[.int .i64 ((qL t720 x30_1).f0), .int .i64 ((qL t720 x30_1).f1)] 61 (0, 0)) (by (with_reducible repeat (first | refine qE ?_ _ | refine qG ?_ | refine qD ?_ _)); exact BK737.out) hg (Kd.R_ne HO_9.out BK737.out (by decide)))
                           have n3_ := Aside0.mk (qaA (g := gb743) (o := .cells #[.int .i64 ((qL y738 x40_2).f0), .int .i64 ((qL y738 x40_2).f1)] 61 (0, 0)) (by (with_reducible repeat (first | refine qE ?_ _ | refine qG ?_ | refine qD ?_ _)); exact BK743.out) hg (Kd.R_ne HO_9.out BK743.out (by decide)))
                           have n4_ := Aside0.mk (Kd.qTA (by (with_reducible repeat (first | apply Kd.qB | apply Kd.qC | apply Kd.qF)); exact HO756.out) (Kd.qw (by (with_reducible repeat (first | apply Kd.qB | apply Kd.qC | apply Kd.qF)); exact HO_9.out)) (by decide) hg)
                           have n5_ := Aside0.mk (hb)
                           have n6_ := Aside0.mk (ho)
                           clear HO_17
                           clear HO_25
                           clear BK737
                           clear BK743
                           clear HO756
                           clear HB
                           clear HO_9
                           have HO_17 := n0_
                           have HO_25 := n1_
                           have BK737 := n2_
                           have BK743 := n3_
                           have HO756 := n4_
                           have HB := n5_
                           have HO759 := n6_
                           clear n0_ n1_ n2_ n3_ n4_ n5_ n6_
                           clear ho hb hg hat
                           refine hK.out _ _ ?_
                           clear hK K
                           refine norm_ (a' := ?_) ?_ ?_
                           rotate_left
                           ·show Act.put _ (some 90) _ = _
                            simp only [Act.put, List.setIfInBounds_toArray, List.set_cons_zero, List.set_cons_succ, i64_w, i32_w]
                            rfl
                           refine pS (i := 18) (N := some 9) #[true, true, true, true, true, true, true, true, true, true, true, true, true, true, true, true, true, true, true] HT_ ?_
                           refine done_ (qwA HT_.out (by kernel_rfl)) ?_
                           try go_wp2
                           go_roundg k2
                           case measure => have := HK1.out; have := HK2.out; omega
                           case rel => exact ⟨(y757), (wrap64 (x40_2 + 1)), (by first | rfl | (simp; done) | (simp [*]; done)), H', ⟨by have := HK1.out; have := HK2.out; omega⟩, ⟨by (with_reducible repeat (first | apply Kd.qB | apply Kd.qC | apply Kd.qF)); exact HO759.out⟩, ⟨by (with_reducible repeat (first | apply Kd.qB | apply Kd.qC | apply Kd.qF)); exact Kd.qX HO_17.out (fun _ hk => hk.1)⟩, ⟨by (with_reducible repeat (first | apply Kd.qB | apply Kd.qC | apply Kd.qF)); exact HO_25.out⟩, ⟨by (with_reducible repeat (first | refine qE ?_ _ | refine qG ?_ | refine qD ?_ _)); exact BK737.out⟩, ⟨bl⟩⟩
                          ·rw [if_neg c61] at H
                           exact absurd H (by simp)
                         ·rw [if_neg c59] at H
                          exact absurd H (by simp)
                        ·rw [if_neg c58] at H
                         exact absurd H (by simp)
                       ·rw [if_neg c57] at H
                        exact absurd H (by simp)
                      ·rw [if_neg c56] at H
                       exact absurd H (by simp)
                     ·rw [if_neg c53] at H
                      exact absurd H (by simp)
                    ·rw [if_neg c52] at H
                     exact absurd H (by simp)
                   ·rw [if_neg c51] at H
                    exact absurd H (by simp)
                  ·rw [if_neg c50] at H
                   exact absurd H (by simp)
                 ·rw [if_neg c49] at H
                  have c49b0 : (((qL y738 x40_2).f0) == (wrap64 (((qL t720 x30_1).f0) + 1))) = false := beq_eq_false_iff_ne.mpr c49
                  have c49b1 : (((qL y738 x40_2).f0) != (wrap64 (((qL t720 x30_1).f0) + 1))) = true := bne_iff_ne.mpr c49
                  have H' := Aside0.mk H
                  clear H
                  have p742 : 0 ≤ (x40_2 : Int) := of_decide_eq_true (by first | (with_reducible assumption) | assumption)
                  have q742 : x40_2 < (y738.length : Int) := of_decide_eq_true (by first | (with_reducible assumption) | assumption)
                  obtain ⟨ad742, e742, hx742_0, hx742_1⟩ := qPB HR741.out x40_2 p742 q742
                  cases e742
                  replace p742 := eq_true p742
                  replace q742 := eq_true q742
                  go_wp2_with (first | ((with_reducible refine qa (N := 13) rfl ?_); refine qb ?hg (N := 13) ?hd (cs := #[.int .i64 0, .int .i64 0]) (t := 61) ?hr ?_; (case hd => rfl); (case hg => rfl); (case hr => first | (go_simp; done) | (go_simp; rfl)); intro gb743 hg w73 hbox hb; have n0_ := Aside0.mk (Kd.qS (by (with_reducible repeat (first | apply Kd.qB | apply Kd.qC | apply Kd.qF)); exact HO_9.out) hb); have n1_ := Aside0.mk (Kd.qS (Kd.qaB (by (with_reducible repeat (first | apply Kd.qB | apply Kd.qC | apply Kd.qF)); exact HO_17.out) gb743 (Nat.le_of_eq hg.symm)) hb); have n2_ := Aside0.mk (Kd.qS (by (with_reducible repeat (first | apply Kd.qB | apply Kd.qC | apply Kd.qF)); exact HO_25.out) hb); have n3_ := Aside0.mk (bb BK737 hb); have n4_ := Aside0.mk (qK bl hb); have n5_ := Aside0.mk (hbox); have n6_ := Aside0.mk ((gg hg)); have n7_ := Aside0.mk ((gg hg)); have n8_ := Aside0.mk ((nl BK737 hg)); have n9_ := Aside0.mk ((nr BK737 hg)); clear HO_9; clear HO_17; clear HO_25; clear BK737; clear HB; have HO_9 := n0_; have HO_17 := n1_; have HO_25 := n2_; have BK737 := n3_; have HB := n4_; have BK743 := n5_; have GW743 := n6_; have GE743 := n7_; have NB737_743 := n8_; have NB743_737 := n9_; clear n0_ n1_ n2_ n3_ n4_ n5_ n6_ n7_ n8_ n9_; clear hb hbox hg; have hnb74 := NB743_737.out; have hnc74 := NB737_743.out; have hcz75_0 := bc BK743 0; have hcz75_1 := bc BK743 1; have hfz75_0 := qA BK743.out 0; have hfz75_1 := qA BK743.out 1; have hcz76_0 := bc BK737 0; have hcz76_1 := bc BK737 1; have hfz76_0 := qA BK737.out 0; have hfz76_1 := qA BK737.out 1))
                  go_roundg k2
                  case measure => have := HK1.out; have := HK2.out; omega
                  case rel => exact ⟨(x9_2), (wrap64 (x40_2 + 1)), (by first | rfl | (simp; done) | (simp [*]; done)), H', ⟨by have := HK1.out; have := HK2.out; omega⟩, ⟨by (with_reducible repeat (first | apply Kd.qB | apply Kd.qC | apply Kd.qF)); exact Kd.qX (Kd.R_far (p := ⟨gb743, 1, none⟩) (Kd.R_far (p := ⟨gb743, 0, none⟩) (Kd.qKA HO_9.out BK743.out (by decide)) (fun _ hk => hk.2) (.int .i64 ((qL y738 x40_2).f0))) (fun _ hk => hk.2) (.int .i64 ((qL y738 x40_2).f1))) (fun _ hk => trivial)⟩, ⟨by (with_reducible repeat (first | apply Kd.qB | apply Kd.qC | apply Kd.qF)); exact Kd.qX (Kd.R_far (p := ⟨gb743, 1, none⟩) (Kd.R_far (p := ⟨gb743, 0, none⟩) (Kd.qX HO_17.out (fun k_ hk => (⟨hk, hk.2⟩ : _ ∧ k_ ≠ gb743))) (fun _ hk => hk.2) (.int .i64 ((qL y738 x40_2).f0))) (fun _ hk => hk.2) (.int .i64 ((qL y738 x40_2).f1))) (fun _ hk => hk.1.1)⟩, ⟨by (with_reducible repeat (first | apply Kd.qB | apply Kd.qC | apply Kd.qF)); exact Kd.qX (Kd.R_far (p := ⟨gb743, 1, none⟩) (Kd.R_far (p := ⟨gb743, 0, none⟩) (Kd.qKA HO_25.out BK743.out (by decide)) (fun _ hk => hk.2) (.int .i64 ((qL y738 x40_2).f0))) (fun _ hk => hk.2) (.int .i64 ((qL y738 x40_2).f1))) (fun _ hk => trivial)⟩, ⟨by (with_reducible repeat (first | refine qE ?_ _ | refine qG ?_ | refine qD ?_ _)); refine qIA ?_ NB737_743.out _; (with_reducible repeat (first | refine qE ?_ _ | refine qG ?_ | refine qD ?_ _)); refine qIA ?_ NB737_743.out _; (with_reducible repeat (first | refine qE ?_ _ | refine qG ?_ | refine qD ?_ _)); exact BK737.out⟩, ⟨bl⟩⟩
                ·rw [if_neg c48] at H
                 have c48b0 : (((qL t720 x30_1).f1) == ((qL y738 x40_2).f1)) = false := beq_eq_false_iff_ne.mpr c48
                 have c48b1 : (((qL t720 x30_1).f1) != ((qL y738 x40_2).f1)) = true := bne_iff_ne.mpr c48
                 have H' := Aside0.mk H
                 clear H
                 have p742 : 0 ≤ (x40_2 : Int) := of_decide_eq_true (by first | (with_reducible assumption) | assumption)
                 have q742 : x40_2 < (y738.length : Int) := of_decide_eq_true (by first | (with_reducible assumption) | assumption)
                 obtain ⟨ad742, e742, hx742_0, hx742_1⟩ := qPB HR741.out x40_2 p742 q742
                 cases e742
                 replace p742 := eq_true p742
                 replace q742 := eq_true q742
                 go_wp2_with (first | ((with_reducible refine qa (N := 13) rfl ?_); refine qb ?hg (N := 13) ?hd (cs := #[.int .i64 0, .int .i64 0]) (t := 61) ?hr ?_; (case hd => rfl); (case hg => rfl); (case hr => first | (go_simp; done) | (go_simp; rfl)); intro gb743 hg w77 hbox hb; have n0_ := Aside0.mk (Kd.qS (by (with_reducible repeat (first | apply Kd.qB | apply Kd.qC | apply Kd.qF)); exact HO_9.out) hb); have n1_ := Aside0.mk (Kd.qS (Kd.qaB (by (with_reducible repeat (first | apply Kd.qB | apply Kd.qC | apply Kd.qF)); exact HO_17.out) gb743 (Nat.le_of_eq hg.symm)) hb); have n2_ := Aside0.mk (Kd.qS (by (with_reducible repeat (first | apply Kd.qB | apply Kd.qC | apply Kd.qF)); exact HO_25.out) hb); have n3_ := Aside0.mk (bb BK737 hb); have n4_ := Aside0.mk (qK bl hb); have n5_ := Aside0.mk (hbox); have n6_ := Aside0.mk ((gg hg)); have n7_ := Aside0.mk ((gg hg)); have n8_ := Aside0.mk ((nl BK737 hg)); have n9_ := Aside0.mk ((nr BK737 hg)); clear HO_9; clear HO_17; clear HO_25; clear BK737; clear HB; have HO_9 := n0_; have HO_17 := n1_; have HO_25 := n2_; have BK737 := n3_; have HB := n4_; have BK743 := n5_; have GW743 := n6_; have GE743 := n7_; have NB737_743 := n8_; have NB743_737 := n9_; clear n0_ n1_ n2_ n3_ n4_ n5_ n6_ n7_ n8_ n9_; clear hb hbox hg; have hnb78 := NB743_737.out; have hnc78 := NB737_743.out; have hcz79_0 := bc BK743 0; have hcz79_1 := bc BK743 1; have hfz79_0 := qA BK743.out 0; have hfz79_1 := qA BK743.out 1; have hcz80_0 := bc BK737 0; have hcz80_1 := bc BK737 1; have hfz80_0 := qA BK737.out 0; have hfz80_1 := qA BK737.out 1))
                 go_roundg k2
                 case measure => have := HK1.out; have := HK2.out; omega
                 case rel => exact ⟨(x9_2), (wrap64 (x40_2 + 1)), (by first | rfl | (simp; done) | (simp [*]; done)), H', ⟨by have := HK1.out; have := HK2.out; omega⟩, ⟨by (with_reducible repeat (first | apply Kd.qB | apply Kd.qC | apply Kd.qF)); exact Kd.qX (Kd.R_far (p := ⟨gb743, 1, none⟩) (Kd.R_far (p := ⟨gb743, 0, none⟩) (Kd.qKA HO_9.out BK743.out (by decide)) (fun _ hk => hk.2) (.int .i64 ((qL y738 x40_2).f0))) (fun _ hk => hk.2) (.int .i64 ((qL y738 x40_2).f1))) (fun _ hk => trivial)⟩, ⟨by (with_reducible repeat (first | apply Kd.qB | apply Kd.qC | apply Kd.qF)); exact Kd.qX (Kd.R_far (p := ⟨gb743, 1, none⟩) (Kd.R_far (p := ⟨gb743, 0, none⟩) (Kd.qX HO_17.out (fun k_ hk => (⟨hk, hk.2⟩ : _ ∧ k_ ≠ gb743))) (fun _ hk => hk.2) (.int .i64 ((qL y738 x40_2).f0))) (fun _ hk => hk.2) (.int .i64 ((qL y738 x40_2).f1))) (fun _ hk => hk.1.1)⟩, ⟨by (with_reducible repeat (first | apply Kd.qB | apply Kd.qC | apply Kd.qF)); exact Kd.qX (Kd.R_far (p := ⟨gb743, 1, none⟩) (Kd.R_far (p := ⟨gb743, 0, none⟩) (Kd.qKA HO_25.out BK743.out (by decide)) (fun _ hk => hk.2) (.int .i64 ((qL y738 x40_2).f0))) (fun _ hk => hk.2) (.int .i64 ((qL y738 x40_2).f1))) (fun _ hk => trivial)⟩, ⟨by (with_reducible repeat (first | refine qE ?_ _ | refine qG ?_ | refine qD ?_ _)); refine qIA ?_ NB737_743.out _; (with_reducible repeat (first | refine qE ?_ _ | refine qG ?_ | refine qD ?_ _)); refine qIA ?_ NB737_743.out _; (with_reducible repeat (first | refine qE ?_ _ | refine qG ?_ | refine qD ?_ _)); exact BK737.out⟩, ⟨bl⟩⟩
              ·rw [if_neg c23] at H
               have c23b0 : (((qL t720 x30_1).f0) == ((qL y738 x40_2).f0)) = false := beq_eq_false_iff_ne.mpr c23
               have c23b1 : (((qL t720 x30_1).f0) != ((qL y738 x40_2).f0)) = true := bne_iff_ne.mpr c23
               by_cases c81 : ((qL t720 x30_1).f1) = ((qL y738 x40_2).f1)
               ·rw [if_pos c81] at H
                have c81b0 : (((qL t720 x30_1).f1) == ((qL y738 x40_2).f1)) = true := beq_iff_eq.mpr c81
                have c81b1 : (((qL t720 x30_1).f1) != ((qL y738 x40_2).f1)) = false := bne_eq_false_iff_eq.mpr c81
                clear c81
                by_cases c82 : ((qL y738 x40_2).f0) = (wrap64 (((qL t720 x30_1).f0) + 1))
                ·rw [if_pos c82] at H
                 have c82b0 : (((qL y738 x40_2).f0) == (wrap64 (((qL t720 x30_1).f0) + 1))) = true := beq_iff_eq.mpr c82
                 have c82b1 : (((qL y738 x40_2).f0) != (wrap64 (((qL t720 x30_1).f0) + 1))) = false := bne_eq_false_iff_eq.mpr c82
                 clear c82
                 by_cases c83 : 0 ≤ x30_1
                 ·rw [if_pos c83] at H
                  have c83b0 : decide (0 ≤ x30_1) = true := decide_eq_true c83
                  clear c83
                  by_cases c84 : x30_1 < (t727.length : Int)
                  ·rw [if_pos c84] at H
                   have c84b0 : decide (x30_1 < (t727.length : Int)) = true := decide_eq_true c84
                   clear c84
                   by_cases c85 : 0 ≤ (rd t727 x30_1)
                   ·rw [if_pos c85] at H
                    have c85b0 : decide (0 ≤ (rd t727 x30_1)) = true := decide_eq_true c85
                    clear c85
                    by_cases c86 : (rd t727 x30_1) < 6
                    ·rw [if_pos c86] at H
                     have c86b0 : decide ((rd t727 x30_1) < 6) = true := decide_eq_true c86
                     clear c86
                     obtain ⟨ji88, hji88⟩ : ∃ j_ : Int, (wrap64 ((wrap64 (x30_1 + 1)) + x40_2)) = j_ := ⟨_, rfl⟩
                     replace H : (if 0 ≤ (ji88) then (if (ji88) < (t727.length : Int) then (if 0 ≤ (rd t727 (ji88)) then (if (rd t727 (ji88)) < 6 then (if x9_2.length < 8796093022208 then (qN.l1 k2 (x9_2 ++ [strOfNums (([bt (⟨#[116, 110, 101, 115, 119, 98]⟩ : ByteArray) (rd t727 x30_1), bt (⟨#[116, 110, 101, 115, 119, 98]⟩ : ByteArray) (rd t727 (ji88))] : List Int))]) x30_1 t720 t727 (t720.length : Int) x30_1 y738 (y738.length : Int) (wrap64 (x40_2 + 1)) ((qL t720 x30_1).f0) ((qL t720 x30_1).f1)) else (none)) else (none)) else (none)) else (none)) else (none)) = some (r1, r2) := by first | (rw [hji88] at H; exact H) | (simp only [hji88] at H ⊢; exact H)
                     have hji88w : (IntKind.i64.wrap ((wrap64 (x30_1 + 1)) + x40_2)) = ji88 := (i64_w _).trans hji88
                     have hji88x : wrap64 (ji13 + x40_2) = ji88 := by rw [← hji13]; exact hji88
                     have hji88v : IntKind.i64.wrap (ji13 + x40_2) = ji88 := (i64_w _).trans hji88x
                     by_cases c89 : 0 ≤ (ji88)
                     ·rw [if_pos c89] at H
                      have c89b0 : decide (0 ≤ (ji88)) = true := decide_eq_true c89
                      clear c89
                      by_cases c90 : (ji88) < (t727.length : Int)
                      ·rw [if_pos c90] at H
                       have c90b0 : decide ((ji88) < (t727.length : Int)) = true := decide_eq_true c90
                       clear c90
                       by_cases c91 : 0 ≤ (rd t727 (ji88))
                       ·rw [if_pos c91] at H
                        have c91b0 : decide (0 ≤ (rd t727 (ji88))) = true := decide_eq_true c91
                        clear c91
                        by_cases c92 : (rd t727 (ji88)) < 6
                        ·rw [if_pos c92] at H
                         have c92b0 : decide ((rd t727 (ji88)) < 6) = true := decide_eq_true c92
                         clear c92
                         obtain ⟨y762, hy762⟩ : ∃ y_ : List Int, y_ = (([bt (⟨#[116, 110, 101, 115, 119, 98]⟩ : ByteArray) (rd t727 x30_1), bt (⟨#[116, 110, 101, 115, 119, 98]⟩ : ByteArray) (rd t727 (ji88))] : List Int)) := ⟨_, rfl⟩
                         replace H : (if x9_2.length < 8796093022208 then (qN.l1 k2 (x9_2 ++ [strOfNums y762]) x30_1 t720 t727 (t720.length : Int) x30_1 y738 (y738.length : Int) (wrap64 (x40_2 + 1)) ((qL t720 x30_1).f0) ((qL t720 x30_1).f1)) else (none)) = some (r1, r2) := by first | (rw [hy762]; with_reducible exact H) | (have H2_ := (Option.bind_some _ _).symm.trans H; rw [hy762]; with_reducible exact H2_) | (have H2_ := (Option.bind_some _ _).symm.trans H; with_reducible exact H2_) | with_reducible exact H | (rw [hy762]; exact H) | exact H
                         have Ny762 := Aside0.mk hy762
                         clear hy762
                         by_cases c94 : x9_2.length < 8796093022208
                         ·rw [if_pos c94] at H
                          have LMc94 := Aside0.mk c94
                          clear c94
                          obtain ⟨y765, hy765⟩ : ∃ y_ : List ByteArray, y_ = (x9_2 ++ [strOfNums y762]) := ⟨_, rfl⟩
                          replace H : (qN.l1 k2 y765 x30_1 t720 t727 (t720.length : Int) x30_1 y738 (y738.length : Int) (wrap64 (x40_2 + 1)) ((qL t720 x30_1).f0) ((qL t720 x30_1).f1)) = some (r1, r2) := by first | (rw [hy765]; with_reducible exact H) | (have H2_ := (Option.bind_some _ _).symm.trans H; rw [hy765]; with_reducible exact H2_) | (have H2_ := (Option.bind_some _ _).symm.trans H; with_reducible exact H2_) | with_reducible exact H | (rw [hy765]; exact H) | exact H
                          have Ny765 := Aside0.mk hy765
                          clear hy765
                          have H' := Aside0.mk H
                          clear H
                          have p742 : 0 ≤ (x40_2 : Int) := of_decide_eq_true (by first | (with_reducible assumption) | assumption)
                          have q742 : x40_2 < (y738.length : Int) := of_decide_eq_true (by first | (with_reducible assumption) | assumption)
                          obtain ⟨ad742, e742, hx742_0, hx742_1⟩ := qPB HR741.out x40_2 p742 q742
                          cases e742
                          replace p742 := eq_true p742
                          replace q742 := eq_true q742
                          try go_wp2_with (first | ((with_reducible refine qa (N := 13) rfl ?_); refine qb ?hg (N := 13) ?hd (cs := #[.int .i64 0, .int .i64 0]) (t := 61) ?hr ?_; (case hd => rfl); (case hg => rfl); (case hr => first | (go_simp; done) | (go_simp; rfl)); intro gb743 hg w95 hbox hb; have n0_ := Aside0.mk (Kd.qS (by (with_reducible repeat (first | apply Kd.qB | apply Kd.qC | apply Kd.qF)); exact HO_9.out) hb); have n1_ := Aside0.mk (Kd.qS (Kd.qaB (by (with_reducible repeat (first | apply Kd.qB | apply Kd.qC | apply Kd.qF)); exact HO_17.out) gb743 (Nat.le_of_eq hg.symm)) hb); have n2_ := Aside0.mk (Kd.qS (by (with_reducible repeat (first | apply Kd.qB | apply Kd.qC | apply Kd.qF)); exact HO_25.out) hb); have n3_ := Aside0.mk (bb BK737 hb); have n4_ := Aside0.mk (qK bl hb); have n5_ := Aside0.mk (hbox); have n6_ := Aside0.mk ((gg hg)); have n7_ := Aside0.mk ((gg hg)); have n8_ := Aside0.mk ((nl BK737 hg)); have n9_ := Aside0.mk ((nr BK737 hg)); clear HO_9; clear HO_17; clear HO_25; clear BK737; clear HB; have HO_9 := n0_; have HO_17 := n1_; have HO_25 := n2_; have BK737 := n3_; have HB := n4_; have BK743 := n5_; have GW743 := n6_; have GE743 := n7_; have NB737_743 := n8_; have NB743_737 := n9_; clear n0_ n1_ n2_ n3_ n4_ n5_ n6_ n7_ n8_ n9_; clear hb hbox hg; have hnb96 := NB743_737.out; have hnc96 := NB737_743.out; have hcz97_0 := bc BK743 0; have hcz97_1 := bc BK743 1; have hfz97_0 := qA BK743.out 0; have hfz97_1 := qA BK743.out 1; have hcz98_0 := bc BK737 0; have hcz98_1 := bc BK737 1; have hfz98_0 := qA BK737.out 0; have hfz98_1 := qA BK737.out 1))
                          have n0_ : Aside0 (Kd.R Kd.string 9 ((w95.setCell ⟨gb743, 0, none⟩ (.int .i64 ((qL y738 x40_2).f0))).setCell ⟨gb743, 1, none⟩ (.int .i64 ((qL y738 x40_2).f1))) w.heap.size (fun _ => True) u9 x9_2) := ⟨by (with_reducible repeat (first | apply Kd.qB | apply Kd.qC | apply Kd.qF)); exact Kd.qX (Kd.R_far (p := ⟨gb743, 1, none⟩) (Kd.R_far (p := ⟨gb743, 0, none⟩) (Kd.qKA HO_9.out BK743.out (by decide)) (fun _ hk => hk.2) (.int .i64 ((qL y738 x40_2).f0))) (fun _ hk => hk.2) (.int .i64 ((qL y738 x40_2).f1))) (fun _ hk => trivial)⟩
                          have n1_ : Aside0 (Kd.R k61 61 ((w95.setCell ⟨gb743, 0, none⟩ (.int .i64 ((qL y738 x40_2).f0))).setCell ⟨gb743, 1, none⟩ (.int .i64 ((qL y738 x40_2).f1))) w.heap.size (fun k_ => k_ ≠ gb737 ∧ k_ ≠ gb743) (.slice (some ad736) t720.length co6) t720) := ⟨by (with_reducible repeat (first | apply Kd.qB | apply Kd.qC | apply Kd.qF)); exact Kd.qX (Kd.R_far (p := ⟨gb743, 1, none⟩) (Kd.R_far (p := ⟨gb743, 0, none⟩) (Kd.qX HO_17.out (fun k_ hk => (⟨hk, hk.2⟩ : _ ∧ k_ ≠ gb743))) (fun _ hk => hk.2) (.int .i64 ((qL y738 x40_2).f0))) (fun _ hk => hk.2) (.int .i64 ((qL y738 x40_2).f1))) (fun _ hk => ⟨hk.1.1, hk.1.2⟩)⟩
                          have n2_ : Aside0 (Kd.R (Kd.int .i64) 3 ((w95.setCell ⟨gb743, 0, none⟩ (.int .i64 ((qL y738 x40_2).f0))).setCell ⟨gb743, 1, none⟩ (.int .i64 ((qL y738 x40_2).f1))) w.heap.size (fun _ => True) v729 t727) := ⟨by (with_reducible repeat (first | apply Kd.qB | apply Kd.qC | apply Kd.qF)); exact Kd.qX (Kd.R_far (p := ⟨gb743, 1, none⟩) (Kd.R_far (p := ⟨gb743, 0, none⟩) (Kd.qKA HO_25.out BK743.out (by decide)) (fun _ hk => hk.2) (.int .i64 ((qL y738 x40_2).f0))) (fun _ hk => hk.2) (.int .i64 ((qL y738 x40_2).f1))) (fun _ hk => trivial)⟩
                          have n3_ : Aside0 (((w95.setCell ⟨gb743, 0, none⟩ (.int .i64 ((qL y738 x40_2).f0))).setCell ⟨gb743, 1, none⟩ (.int .i64 ((qL y738 x40_2).f1))).heap[gb737]? = some (.cells #[.int .i64 ((qL t720 x30_1).f0), .int .i64 ((qL t720 x30_1).f1)] 61 (0, 0))) := ⟨by (with_reducible repeat (first | refine qE ?_ _ | refine qG ?_ | refine qD ?_ _)); refine qIA ?_ NB737_743.out _; (with_reducible repeat (first | refine qE ?_ _ | refine qG ?_ | refine qD ?_ _)); refine qIA ?_ NB737_743.out _; (with_reducible repeat (first | refine qE ?_ _ | refine qG ?_ | refine qD ?_ _)); exact BK737.out⟩
                          have n4_ : Aside0 (((w95.setCell ⟨gb743, 0, none⟩ (.int .i64 ((qL y738 x40_2).f0))).setCell ⟨gb743, 1, none⟩ (.int .i64 ((qL y738 x40_2).f1))).heap[gb743]? = some (.cells #[.int .i64 ((qL y738 x40_2).f0), .int .i64 ((qL y738 x40_2).f1)] 61 (0, 0))) := ⟨by (with_reducible repeat (first | refine qE ?_ _ | refine qG ?_ | refine qD ?_ _)); refine qV (cs := #[.int .i64 ((qL y738 x40_2).f0), .int .i64 0]) ?_ 1 _ rfl; (with_reducible repeat (first | refine qE ?_ _ | refine qG ?_ | refine qD ?_ _)); refine qV (cs := #[.int .i64 0, .int .i64 0]) ?_ 0 _ rfl; (with_reducible repeat (first | refine qE ?_ _ | refine qG ?_ | refine qD ?_ _)); exact BK743.out⟩
                          have n5_ : Aside0 (Below w.heap.size w ((w95.setCell ⟨gb743, 0, none⟩ (.int .i64 ((qL y738 x40_2).f0))).setCell ⟨gb743, 1, none⟩ (.int .i64 ((qL y738 x40_2).f1)))) := ⟨bl⟩
                          (try clear HO_9)
                          (try clear HO_17)
                          (try clear HO_25)
                          (try clear BK737)
                          (try clear BK743)
                          (try clear HB)
                          generalize ((w95.setCell ⟨gb743, 0, none⟩ (.int .i64 ((qL y738 x40_2).f0))).setCell ⟨gb743, 1, none⟩ (.int .i64 ((qL y738 x40_2).f1))) = w99 at n0_ n1_ n2_ n3_ n4_ n5_ ⊢
                          have HO_9 := n0_
                          have HO_17 := n1_
                          have HO_25 := n2_
                          have BK737 := n3_
                          have BK743 := n4_
                          have HB := n5_
                          clear n0_ n1_ n2_ n3_ n4_ n5_
                          have n0_ := Aside0.mk (Kd.qF HO_9.out)
                          have n1_ := Aside0.mk (Kd.qF HO_17.out)
                          have n2_ := Aside0.mk (Kd.qF HO_25.out)
                          have n3_ := Aside0.mk (qG BK737.out)
                          have n4_ := Aside0.mk (qG BK743.out)
                          have n5_ := Aside0.mk (qg HB.out)
                          clear HO_9
                          clear HO_17
                          clear HO_25
                          clear BK737
                          clear BK743
                          clear HB
                          have HO_9 := n0_
                          have HO_17 := n1_
                          have HO_25 := n2_
                          have BK737 := n3_
                          have BK743 := n4_
                          have HB := n5_
                          clear n0_ n1_ n2_ n3_ n4_ n5_
                          obtain ⟨Ao101, co101, eo101⟩ := Kd.qn HO_25.out
                          (first | subst eo101 | (injection eo101 with f1_ f2_ f3_; have f4_ := f1_.symm; have f5_ := f3_.symm; clear f1_ f2_ f3_; subst f4_; subst f5_))
                          have p760 : 0 ≤ (x30_1 : Int) := of_decide_eq_true (by first | (with_reducible assumption) | assumption)
                          have q760 : x30_1 < (t727.length : Int) := of_decide_eq_true (by first | (with_reducible assumption) | assumption)
                          obtain ⟨ad760, e760, hx760_0⟩ := Kd.qFA (Kd.qO HO_25.out).2.2 x30_1 p760 q760
                          cases e760
                          replace p760 := eq_true p760
                          replace q760 := eq_true q760
                          have p87 : 0 ≤ ((rd t727 x30_1) : Int) := of_decide_eq_true (by first | (with_reducible assumption) | assumption)
                          have q87 : (rd t727 x30_1) < (6 : Int) := of_decide_eq_true (by first | (with_reducible assumption) | assumption)
                          have hx87 := bt_at (⟨#[116, 110, 101, 115, 119, 98]⟩ : ByteArray) (rd t727 x30_1)
                          replace p87 := eq_true p87
                          replace q87 := eq_true q87
                          have p761 : 0 ≤ ((ji88) : Int) := of_decide_eq_true (by first | (with_reducible assumption) | assumption)
                          have q761 : (ji88) < (t727.length : Int) := of_decide_eq_true (by first | (with_reducible assumption) | assumption)
                          obtain ⟨ad761, e761, hx761_0⟩ := Kd.qFA (Kd.qO HO_25.out).2.2 (ji88) p761 q761
                          obtain rfl : ad760 = ad761 := (by injection e761)
                          replace p761 := eq_true p761
                          replace q761 := eq_true q761
                          have p93 : 0 ≤ ((rd t727 (ji88)) : Int) := of_decide_eq_true (by first | (with_reducible assumption) | assumption)
                          have q93 : (rd t727 (ji88)) < (6 : Int) := of_decide_eq_true (by first | (with_reducible assumption) | assumption)
                          have hx93 := bt_at (⟨#[116, 110, 101, 115, 119, 98]⟩ : ByteArray) (rd t727 (ji88))
                          replace p93 := eq_true p93
                          replace q93 := eq_true q93
                          refine qsA (n := 19) (S := fun w' => w'.cell? (ad760.add (x30_1).toNat) = some (.int .i64 (rd t727 x30_1)) ∧ w'.cell? (ad760.add ((ji88)).toNat) = some (.int .i64 (rd t727 (ji88)))) (ds := [15, 16, 17]) #[false, false, false, false, false, false, false, false, false, false, false, false, false, false, false, false, false, false, false] (by kernel_rfl) rfl rfl ⟨hx760_0, hx761_0⟩ (fun hHeld => ?_); refine qRA qN.tab13 qN.bits13 (fun HT_ HW_ => ?_)
                          generalize w99.drew = w100 at HO_9 HO_17 HO_25 BK737 BK743 HB hx760_0 hx761_0 hHeld ⊢
                          refine pS (i := 0) (N := some 73) #[true, false, false, false, false, false, false, false, false, false, false, false, false, false, false, false, false, false, false] HT_ ?_
                          refine pS (i := 1) (N := some 74) #[true, true, false, false, false, false, false, false, false, false, false, false, false, false, false, false, false, false, false] HT_ ?_
                          refine pS (i := 2) (N := some 75) #[true, true, true, false, false, false, false, false, false, false, false, false, false, false, false, false, false, false, false] HT_ ?_
                          refine pS (i := 3) (N := some 76) #[true, true, true, true, false, false, false, false, false, false, false, false, false, false, false, false, false, false, false] HT_ ?_
                          refine pS (i := 6) (N := some 79) #[true, true, true, true, false, false, true, false, false, false, false, false, false, false, false, false, false, false, false] HT_ ?_
                          refine pS (i := 7) (N := some 80) #[true, true, true, true, false, false, true, true, false, false, false, false, false, false, false, false, false, false, false] HT_ ?_
                          refine pS (i := 8) (N := some 81) #[true, true, true, true, false, false, true, true, true, false, false, false, false, false, false, false, false, false, false] HT_ ?_
                          refine pS (i := 9) (N := some 82) #[true, true, true, true, false, false, true, true, true, true, false, false, false, false, false, false, false, false, false] HT_ ?_
                          refine pS (i := 10) (N := some 83) #[true, true, true, true, false, false, true, true, true, true, true, false, false, false, false, false, false, false, false] HT_ ?_
                          refine pS (i := 11) (N := some 84) #[true, true, true, true, false, false, true, true, true, true, true, true, false, false, false, false, false, false, false] HT_ ?_
                          refine tS (i := 4) (N := some 77) #[true, true, true, true, true, false, true, true, true, true, true, true, false, false, false, false, false, false, false] HT_ HW_ hHeld ?_
                          refine tS (i := 5) (N := some 78) #[true, true, true, true, true, true, true, true, true, true, true, true, false, false, false, false, false, false, false] HT_ HW_ hHeld ?_
                          refine tS (i := 12) (N := some 85) #[true, true, true, true, true, true, true, true, true, true, true, true, true, false, false, false, false, false, false] HT_ HW_ hHeld ?_
                          refine tS (i := 13) (N := some 86) #[true, true, true, true, true, true, true, true, true, true, true, true, true, true, false, false, false, false, false] HT_ HW_ hHeld ?_
                          refine one_ (i := 14) (N := some 87) #[true, true, true, true, true, true, true, true, true, true, true, true, true, true, true, false, false, false, false] rfl rfl (qdA HT_.out (by kernel_rfl)) (by decide) (fun K hK => ?_)
                          refine Kd.qUB (Kd.int .u8) _ 5 ?hg (N := 87) ?hd (xs := ([bt (⟨#[116, 110, 101, 115, 119, 98]⟩ : ByteArray) (rd t727 x30_1), bt (⟨#[116, 110, 101, 115, 119, 98]⟩ : ByteArray) (rd t727 (ji88))] : List Int)) (inner := [.int .u8 (bt (⟨#[116, 110, 101, 115, 119, 98]⟩ : ByteArray) (rd t727 x30_1)), .int .u8 (bt (⟨#[116, 110, 101, 115, 119, 98]⟩ : ByteArray) (rd t727 (ji88)))]) (ok := fun _ => True) (okp := fun _ => True) ?hr ?hp (fun _ hk => hk) trivial (Below.refl _ _) (Nat.le_refl _) (by simp) ?_; (case hd => rfl); (case hg => rfl); (case hr => first | (go_simp; done) | (go_simp; rfl)); (case hp => exact (Reps.one (show Kd.M (Kd.int .u8) _ _ _ (bt (⟨#[116, 110, 101, 115, 119, 98]⟩ : ByteArray) (rd t727 x30_1)) [.int .u8 (bt (⟨#[116, 110, 101, 115, 119, 98]⟩ : ByteArray) (rd t727 x30_1))] from rfl) (Reps.one (show Kd.M (Kd.int .u8) _ _ _ (bt (⟨#[116, 110, 101, 115, 119, 98]⟩ : ByteArray) (rd t727 (ji88))) [.int .u8 (bt (⟨#[116, 110, 101, 115, 119, 98]⟩ : ByteArray) (rd t727 (ji88)))] from rfl) (Reps.none _ _))))
                          intro v763 w102 ho103 hb hg_ hnew_
                          have HS0_ := (hb.cell (World.block_lt_of_cell? _ _ (hHeld.1))).trans (hHeld.1)
                          have HS1_ := (hb.cell (World.block_lt_of_cell? _ _ (hHeld.2))).trans (hHeld.2)
                          clear hg_ hnew_
                          (first | rw [← Ny762.out] at ho103 | (simp only [Int.reduceToNat] at ho103; rw [← Ny762.out] at ho103))
                          have n0_ := Aside0.mk (Kd.qS (by (with_reducible repeat (first | apply Kd.qB | apply Kd.qC | apply Kd.qF)); exact HO_9.out) hb)
                          have n1_ := Aside0.mk (Kd.qS (by (with_reducible repeat (first | apply Kd.qB | apply Kd.qC | apply Kd.qF)); exact HO_17.out) hb)
                          have n2_ := Aside0.mk (Kd.qS (by (with_reducible repeat (first | apply Kd.qB | apply Kd.qC | apply Kd.qF)); exact HO_25.out) hb)
                          have n3_ := Aside0.mk (Kd.qu ho103 (qY bl))
                          have n4_ := Aside0.mk (bb BK737 hb)
                          have n5_ := Aside0.mk (bb BK743 hb)
                          have n6_ := Aside0.mk (qK bl hb)
                          clear HO_9
                          clear HO_17
                          clear HO_25
                          clear BK737
                          clear BK743
                          clear HB
                          have HO_9 := n0_
                          have HO_17 := n1_
                          have HO_25 := n2_
                          have HO764 := n3_
                          have BK737 := n4_
                          have BK743 := n5_
                          have HB := n6_
                          clear n0_ n1_ n2_ n3_ n4_ n5_ n6_
                          clear hb ho103
                          refine hK.out _ _ ⟨HS0_, HS1_⟩ (fun hHeld => ?_)
                          clear hK K
                          refine norm_ (a' := ?_) ?_ ?_
                          rotate_left
                          ·show Act.put _ (some 87) _ = _
                           simp only [Act.put, List.setIfInBounds_toArray, List.set_cons_zero, List.set_cons_succ, i64_w, i32_w]
                           rfl
                          refine last_ (i := 15) (N := some 88) #[true, true, true, true, true, true, true, true, true, true, true, true, true, true, true, true, false, false, false] rfl rfl (qdA HT_.out (by kernel_rfl)) (by decide) (fun K hK => ?_)
                          have hcv104 := qrB (P := Tryd.prog) Tryd.underlying43 Tryd.underlying5 Tryd.underlying9 (Kd.qsB HO764.out)
                          refine qmA (w1 := ?_) (v := ?_) (by rfl) rfl ?_ ?_
                          rotate_left 2
                          ·go_simp
                           constructor
                           ·rfl
                           ·rfl
                          clear hcv104
                          refine hK.out _ _ ?_
                          clear hK K
                          refine norm_ (a' := ?_) ?_ ?_
                          rotate_left
                          ·show Act.put _ (some 88) _ = _
                           simp only [Act.put, List.setIfInBounds_toArray, List.set_cons_zero, List.set_cons_succ, i64_w, i32_w]
                           rfl
                          refine last_ (i := 16) (N := some 89) #[true, true, true, true, true, true, true, true, true, true, true, true, true, true, true, true, true, false, false] rfl rfl (qdA HT_.out (by kernel_rfl)) (by decide) (fun K hK => ?_)
                          refine qmA (w1 := ?_) (v := ?_) (by rfl) rfl ?_ ?_
                          rotate_left 2
                          ·go_simp
                           constructor
                           ·rfl
                           ·rfl
                          refine hK.out _ _ ?_
                          clear hK K
                          refine norm_ (a' := ?_) ?_ ?_
                          rotate_left
                          ·show Act.put _ (some 89) _ = _
                           simp only [Act.put, List.setIfInBounds_toArray, List.set_cons_zero, List.set_cons_succ, i64_w, i32_w]
                           rfl
                          refine last_ (i := 17) (N := some 90) #[true, true, true, true, true, true, true, true, true, true, true, true, true, true, true, true, true, true, false] rfl rfl (qdA HT_.out (by kernel_rfl)) (by decide) (fun K hK => ?_)
                          refine Kd.qJB Kd.string (w0 := w) w.heap.size (by rfl) (.tmp 73) (.tmp 89) 35 9 (.string ⟨#[]⟩) 16 rfl Tryd.underlying35 info9 rfl (by decide) (by omega) u9 x9_2 (strOfNums y762) [.string (strOfNums y762)] (fun _ => True) (fun _ => False) rfl rfl ?aP (fun _ hk => hk.elim) ?aF ?aO ?aB ?aS ?aL ?_
                          (case aP => exact rfl)
                          (case aB => exact bl)
                          (case aF => exact (fun _ _ => trivial))
                          (case aO => exact (by (with_reducible repeat (first | apply Kd.qB | apply Kd.qC | apply Kd.qF)); exact HO_9.out))
                          (case aS => exact (qY bl))
                          (case aL => have := LMc94.out; omega)
                          intro v766 w105 ho hb hg hat
                          rw [← Ny765.out] at ho
                          have n0_ := Aside0.mk (Kd.qTA (by (with_reducible repeat (first | apply Kd.qB | apply Kd.qC | apply Kd.qF)); exact HO_17.out) (Kd.qw (by (with_reducible repeat (first | apply Kd.qB | apply Kd.qC | apply Kd.qF)); exact HO_9.out)) (by decide) hg)
                          have n1_ := Aside0.mk (Kd.qTA (by (with_reducible repeat (first | apply Kd.qB | apply Kd.qC | apply Kd.qF)); exact HO_25.out) (Kd.qw (by (with_reducible repeat (first | apply Kd.qB | apply Kd.qC | apply Kd.qF)); exact HO_9.out)) (by decide) hg)
                          have n2_ := Aside0.mk (qaA (g := gb737) (o := .cells #[.int .i64 ((qL t720 x30_1).f0), .int .i64 ((qL t720 x30_1).f1)] 61 (0, 0)) (by (with_reducible repeat (first | refine qE ?_ _ | refine qG ?_ | refine qD ?_ _)); exact BK737.out) hg (Kd.R_ne HO_9.out BK737.out (by decide)))
                          have n3_ := Aside0.mk (qaA (g := gb743) (o := .cells #[.int .i64 ((qL y738 x40_2).f0), .int .i64 ((qL y738 x40_2).f1)] 61 (0, 0)) (by (with_reducible repeat (first | refine qE ?_ _ | refine qG ?_ | refine qD ?_ _)); exact BK743.out) hg (Kd.R_ne HO_9.out BK743.out (by decide)))
                          have n4_ := Aside0.mk (Kd.qTA (by (with_reducible repeat (first | apply Kd.qB | apply Kd.qC | apply Kd.qF)); exact HO764.out) (Kd.qw (by (with_reducible repeat (first | apply Kd.qB | apply Kd.qC | apply Kd.qF)); exact HO_9.out)) (by decide) hg)
                          have n5_ := Aside0.mk (hb)
                          have n6_ := Aside0.mk (ho)
                          clear HO_17
                          clear HO_25
                          clear BK737
                          clear BK743
                          clear HO764
                          clear HB
                          clear HO_9
                          have HO_17 := n0_
                          have HO_25 := n1_
                          have BK737 := n2_
                          have BK743 := n3_
                          have HO764 := n4_
                          have HB := n5_
                          have HO767 := n6_
                          clear n0_ n1_ n2_ n3_ n4_ n5_ n6_
                          clear ho hb hg hat
                          refine hK.out _ _ ?_
                          clear hK K
                          refine norm_ (a' := ?_) ?_ ?_
                          rotate_left
                          ·show Act.put _ (some 90) _ = _
                           simp only [Act.put, List.setIfInBounds_toArray, List.set_cons_zero, List.set_cons_succ, i64_w, i32_w]
                           rfl
                          refine pS (i := 18) (N := some 9) #[true, true, true, true, true, true, true, true, true, true, true, true, true, true, true, true, true, true, true] HT_ ?_
                          refine done_ (qwA HT_.out (by kernel_rfl)) ?_
                          try go_wp2
                          go_roundg k2
                          case measure => have := HK1.out; have := HK2.out; omega
                          case rel => exact ⟨(y765), (wrap64 (x40_2 + 1)), (by first | rfl | (simp; done) | (simp [*]; done)), H', ⟨by have := HK1.out; have := HK2.out; omega⟩, ⟨by (with_reducible repeat (first | apply Kd.qB | apply Kd.qC | apply Kd.qF)); exact HO767.out⟩, ⟨by (with_reducible repeat (first | apply Kd.qB | apply Kd.qC | apply Kd.qF)); exact Kd.qX HO_17.out (fun _ hk => hk.1)⟩, ⟨by (with_reducible repeat (first | apply Kd.qB | apply Kd.qC | apply Kd.qF)); exact HO_25.out⟩, ⟨by (with_reducible repeat (first | refine qE ?_ _ | refine qG ?_ | refine qD ?_ _)); exact BK737.out⟩, ⟨bl⟩⟩
                         ·rw [if_neg c94] at H
                          exact absurd H (by simp)
                        ·rw [if_neg c92] at H
                         exact absurd H (by simp)
                       ·rw [if_neg c91] at H
                        exact absurd H (by simp)
                      ·rw [if_neg c90] at H
                       exact absurd H (by simp)
                     ·rw [if_neg c89] at H
                      exact absurd H (by simp)
                    ·rw [if_neg c86] at H
                     exact absurd H (by simp)
                   ·rw [if_neg c85] at H
                    exact absurd H (by simp)
                  ·rw [if_neg c84] at H
                   exact absurd H (by simp)
                 ·rw [if_neg c83] at H
                  exact absurd H (by simp)
                ·rw [if_neg c82] at H
                 have c82b0 : (((qL y738 x40_2).f0) == (wrap64 (((qL t720 x30_1).f0) + 1))) = false := beq_eq_false_iff_ne.mpr c82
                 have c82b1 : (((qL y738 x40_2).f0) != (wrap64 (((qL t720 x30_1).f0) + 1))) = true := bne_iff_ne.mpr c82
                 have H' := Aside0.mk H
                 clear H
                 have p742 : 0 ≤ (x40_2 : Int) := of_decide_eq_true (by first | (with_reducible assumption) | assumption)
                 have q742 : x40_2 < (y738.length : Int) := of_decide_eq_true (by first | (with_reducible assumption) | assumption)
                 obtain ⟨ad742, e742, hx742_0, hx742_1⟩ := qPB HR741.out x40_2 p742 q742
                 cases e742
                 replace p742 := eq_true p742
                 replace q742 := eq_true q742
                 go_wp2_with (first | ((with_reducible refine qa (N := 13) rfl ?_); refine qb ?hg (N := 13) ?hd (cs := #[.int .i64 0, .int .i64 0]) (t := 61) ?hr ?_; (case hd => rfl); (case hg => rfl); (case hr => first | (go_simp; done) | (go_simp; rfl)); intro gb743 hg w106 hbox hb; have n0_ := Aside0.mk (Kd.qS (by (with_reducible repeat (first | apply Kd.qB | apply Kd.qC | apply Kd.qF)); exact HO_9.out) hb); have n1_ := Aside0.mk (Kd.qS (Kd.qaB (by (with_reducible repeat (first | apply Kd.qB | apply Kd.qC | apply Kd.qF)); exact HO_17.out) gb743 (Nat.le_of_eq hg.symm)) hb); have n2_ := Aside0.mk (Kd.qS (by (with_reducible repeat (first | apply Kd.qB | apply Kd.qC | apply Kd.qF)); exact HO_25.out) hb); have n3_ := Aside0.mk (bb BK737 hb); have n4_ := Aside0.mk (qK bl hb); have n5_ := Aside0.mk (hbox); have n6_ := Aside0.mk ((gg hg)); have n7_ := Aside0.mk ((gg hg)); have n8_ := Aside0.mk ((nl BK737 hg)); have n9_ := Aside0.mk ((nr BK737 hg)); clear HO_9; clear HO_17; clear HO_25; clear BK737; clear HB; have HO_9 := n0_; have HO_17 := n1_; have HO_25 := n2_; have BK737 := n3_; have HB := n4_; have BK743 := n5_; have GW743 := n6_; have GE743 := n7_; have NB737_743 := n8_; have NB743_737 := n9_; clear n0_ n1_ n2_ n3_ n4_ n5_ n6_ n7_ n8_ n9_; clear hb hbox hg; have hnb107 := NB743_737.out; have hnc107 := NB737_743.out; have hcz108_0 := bc BK743 0; have hcz108_1 := bc BK743 1; have hfz108_0 := qA BK743.out 0; have hfz108_1 := qA BK743.out 1; have hcz109_0 := bc BK737 0; have hcz109_1 := bc BK737 1; have hfz109_0 := qA BK737.out 0; have hfz109_1 := qA BK737.out 1))
                 go_roundg k2
                 case measure => have := HK1.out; have := HK2.out; omega
                 case rel => exact ⟨(x9_2), (wrap64 (x40_2 + 1)), (by first | rfl | (simp; done) | (simp [*]; done)), H', ⟨by have := HK1.out; have := HK2.out; omega⟩, ⟨by (with_reducible repeat (first | apply Kd.qB | apply Kd.qC | apply Kd.qF)); exact Kd.qX (Kd.R_far (p := ⟨gb743, 1, none⟩) (Kd.R_far (p := ⟨gb743, 0, none⟩) (Kd.qKA HO_9.out BK743.out (by decide)) (fun _ hk => hk.2) (.int .i64 ((qL y738 x40_2).f0))) (fun _ hk => hk.2) (.int .i64 ((qL y738 x40_2).f1))) (fun _ hk => trivial)⟩, ⟨by (with_reducible repeat (first | apply Kd.qB | apply Kd.qC | apply Kd.qF)); exact Kd.qX (Kd.R_far (p := ⟨gb743, 1, none⟩) (Kd.R_far (p := ⟨gb743, 0, none⟩) (Kd.qX HO_17.out (fun k_ hk => (⟨hk, hk.2⟩ : _ ∧ k_ ≠ gb743))) (fun _ hk => hk.2) (.int .i64 ((qL y738 x40_2).f0))) (fun _ hk => hk.2) (.int .i64 ((qL y738 x40_2).f1))) (fun _ hk => hk.1.1)⟩, ⟨by (with_reducible repeat (first | apply Kd.qB | apply Kd.qC | apply Kd.qF)); exact Kd.qX (Kd.R_far (p := ⟨gb743, 1, none⟩) (Kd.R_far (p := ⟨gb743, 0, none⟩) (Kd.qKA HO_25.out BK743.out (by decide)) (fun _ hk => hk.2) (.int .i64 ((qL y738 x40_2).f0))) (fun _ hk => hk.2) (.int .i64 ((qL y738 x40_2).f1))) (fun _ hk => trivial)⟩, ⟨by (with_reducible repeat (first | refine qE ?_ _ | refine qG ?_ | refine qD ?_ _)); refine qIA ?_ NB737_743.out _; (with_reducible repeat (first | refine qE ?_ _ | refine qG ?_ | refine qD ?_ _)); refine qIA ?_ NB737_743.out _; (with_reducible repeat (first | refine qE ?_ _ | refine qG ?_ | refine qD ?_ _)); exact BK737.out⟩, ⟨bl⟩⟩
               ·rw [if_neg c81] at H
                have c81b0 : (((qL t720 x30_1).f1) == ((qL y738 x40_2).f1)) = false := beq_eq_false_iff_ne.mpr c81
                have c81b1 : (((qL t720 x30_1).f1) != ((qL y738 x40_2).f1)) = true := bne_iff_ne.mpr c81
                have H' := Aside0.mk H
                clear H
                have p742 : 0 ≤ (x40_2 : Int) := of_decide_eq_true (by first | (with_reducible assumption) | assumption)
                have q742 : x40_2 < (y738.length : Int) := of_decide_eq_true (by first | (with_reducible assumption) | assumption)
                obtain ⟨ad742, e742, hx742_0, hx742_1⟩ := qPB HR741.out x40_2 p742 q742
                cases e742
                replace p742 := eq_true p742
                replace q742 := eq_true q742
                go_wp2_with (first | ((with_reducible refine qa (N := 13) rfl ?_); refine qb ?hg (N := 13) ?hd (cs := #[.int .i64 0, .int .i64 0]) (t := 61) ?hr ?_; (case hd => rfl); (case hg => rfl); (case hr => first | (go_simp; done) | (go_simp; rfl)); intro gb743 hg w110 hbox hb; have n0_ := Aside0.mk (Kd.qS (by (with_reducible repeat (first | apply Kd.qB | apply Kd.qC | apply Kd.qF)); exact HO_9.out) hb); have n1_ := Aside0.mk (Kd.qS (Kd.qaB (by (with_reducible repeat (first | apply Kd.qB | apply Kd.qC | apply Kd.qF)); exact HO_17.out) gb743 (Nat.le_of_eq hg.symm)) hb); have n2_ := Aside0.mk (Kd.qS (by (with_reducible repeat (first | apply Kd.qB | apply Kd.qC | apply Kd.qF)); exact HO_25.out) hb); have n3_ := Aside0.mk (bb BK737 hb); have n4_ := Aside0.mk (qK bl hb); have n5_ := Aside0.mk (hbox); have n6_ := Aside0.mk ((gg hg)); have n7_ := Aside0.mk ((gg hg)); have n8_ := Aside0.mk ((nl BK737 hg)); have n9_ := Aside0.mk ((nr BK737 hg)); clear HO_9; clear HO_17; clear HO_25; clear BK737; clear HB; have HO_9 := n0_; have HO_17 := n1_; have HO_25 := n2_; have BK737 := n3_; have HB := n4_; have BK743 := n5_; have GW743 := n6_; have GE743 := n7_; have NB737_743 := n8_; have NB743_737 := n9_; clear n0_ n1_ n2_ n3_ n4_ n5_ n6_ n7_ n8_ n9_; clear hb hbox hg; have hnb111 := NB743_737.out; have hnc111 := NB737_743.out; have hcz112_0 := bc BK743 0; have hcz112_1 := bc BK743 1; have hfz112_0 := qA BK743.out 0; have hfz112_1 := qA BK743.out 1; have hcz113_0 := bc BK737 0; have hcz113_1 := bc BK737 1; have hfz113_0 := qA BK737.out 0; have hfz113_1 := qA BK737.out 1))
                go_roundg k2
                case measure => have := HK1.out; have := HK2.out; omega
                case rel => exact ⟨(x9_2), (wrap64 (x40_2 + 1)), (by first | rfl | (simp; done) | (simp [*]; done)), H', ⟨by have := HK1.out; have := HK2.out; omega⟩, ⟨by (with_reducible repeat (first | apply Kd.qB | apply Kd.qC | apply Kd.qF)); exact Kd.qX (Kd.R_far (p := ⟨gb743, 1, none⟩) (Kd.R_far (p := ⟨gb743, 0, none⟩) (Kd.qKA HO_9.out BK743.out (by decide)) (fun _ hk => hk.2) (.int .i64 ((qL y738 x40_2).f0))) (fun _ hk => hk.2) (.int .i64 ((qL y738 x40_2).f1))) (fun _ hk => trivial)⟩, ⟨by (with_reducible repeat (first | apply Kd.qB | apply Kd.qC | apply Kd.qF)); exact Kd.qX (Kd.R_far (p := ⟨gb743, 1, none⟩) (Kd.R_far (p := ⟨gb743, 0, none⟩) (Kd.qX HO_17.out (fun k_ hk => (⟨hk, hk.2⟩ : _ ∧ k_ ≠ gb743))) (fun _ hk => hk.2) (.int .i64 ((qL y738 x40_2).f0))) (fun _ hk => hk.2) (.int .i64 ((qL y738 x40_2).f1))) (fun _ hk => hk.1.1)⟩, ⟨by (with_reducible repeat (first | apply Kd.qB | apply Kd.qC | apply Kd.qF)); exact Kd.qX (Kd.R_far (p := ⟨gb743, 1, none⟩) (Kd.R_far (p := ⟨gb743, 0, none⟩) (Kd.qKA HO_25.out BK743.out (by decide)) (fun _ hk => hk.2) (.int .i64 ((qL y738 x40_2).f0))) (fun _ hk => hk.2) (.int .i64 ((qL y738 x40_2).f1))) (fun _ hk => trivial)⟩, ⟨by (with_reducible repeat (first | refine qE ?_ _ | refine qG ?_ | refine qD ?_ _)); refine qIA ?_ NB737_743.out _; (with_reducible repeat (first | refine qE ?_ _ | refine qG ?_ | refine qD ?_ _)); refine qIA ?_ NB737_743.out _; (with_reducible repeat (first | refine qE ?_ _ | refine qG ?_ | refine qD ?_ _)); exact BK737.out⟩, ⟨bl⟩⟩
             ·rw [if_neg c22] at H
              exact absurd H (by simp)
            ·rw [if_neg c21] at H
             exact absurd H (by simp)
           ·rw [if_neg c20] at H
            have c20b0 : decide (x40_2 < (y738.length : Int)) = false := decide_eq_false c20
            clear c20
            have H' := Aside0.mk H
            clear H
            go_wp2
            go_roundg k2
            case measure => have := HK1.out; have := HK2.out; omega
            case rel => exact ⟨(x9_2), (wrap64 (x30_1 + 1)), (by first | rfl | (simp; done) | (simp [*]; done)), H', ⟨by have := HK1.out; have := HK2.out; omega⟩, ⟨by (with_reducible repeat (first | apply Kd.qB | apply Kd.qC | apply Kd.qF)); exact HO_9.out⟩, ⟨by (with_reducible repeat (first | apply Kd.qB | apply Kd.qC | apply Kd.qF)); exact Kd.qX HO_17.out (fun _ hk => trivial)⟩, ⟨by (with_reducible repeat (first | apply Kd.qB | apply Kd.qC | apply Kd.qF)); exact HO_25.out⟩, ⟨bl⟩⟩
        ·rw [if_neg c15] at H
         exact absurd H (by simp)
       ·rw [if_neg c14] at H
        exact absurd H (by simp)
      ·rw [if_neg c12] at H
       exact absurd H (by simp)
     ·rw [if_neg c11] at H
      exact absurd H (by simp)
    ·rw [if_neg c10] at H
     have c10b0 : decide (x30_1 < (t720.length : Int)) = false := decide_eq_false c10
     clear c10
     simp only [Option.some.injEq, Prod.mk.injEq] at H
     obtain ⟨rfl, rfl⟩ := H
     go_wp2
     go_ret2
     exact ⟨_, by first | rfl | (simp [qQ, qP] <;> rfl) | (simp [*, qQ, qP] <;> rfl), by (with_reducible repeat (first | apply Kd.qB | apply Kd.qC | apply Kd.qF)); exact HO_9.out, bl⟩
 ·replace c3 := Bool.eq_false_iff.mpr c3
  subst c3
  have H1 : (some (([] : List ByteArray), false)) = some (r1, r2) := by rw [if_neg (show ¬ (false = true) by decide)] at H; exact H
  clear H
  have H := H1
  clear H1
  simp only [Option.some.injEq, Prod.mk.injEq] at H
  obtain ⟨rfl, rfl⟩ := H
  go_enter Tryd.func25, Tryd.ntmps25
  go_wp2_with (first | ((with_reducible refine qZ (f := 35) rfl ?_); refine qPA (some 16) rfl rfl Tryd.func35 (by kernel_rfl) rfl #[.string a0] rfl (by (try simp only [List.map_toArray, List.map_cons, List.map_nil]); first | done | rfl | (simp only [List.length_drop, List.length_take]; rfl)) ?_; (with_reducible refine (qYB.calls k a0 t720 t721 false _ ?side1 A2.out).mono ?_); (case side1 => first | (with_reducible exact HLD.out) | exact Laid.below HLD.out (by repeat (first | (with_reducible first | exact HB.out | apply qx | apply qGA | apply qg | refine qk ?_ (Aside0.out (by with_reducible assumption))) | exact HB.out))); rintro e w114 ⟨v723, v725, rfl, ho0, ho1, hb⟩; refine ⟨_, rfl, ?_⟩; have n0_ := Aside0.mk (Kd.qu ho0 (qY bl)); have n1_ := Aside0.mk (Kd.qu ho1 (qY bl)); have n2_ := Aside0.mk (qK bl hb); clear HB; have HO724 := n0_; have HO726 := n1_; have HB := n2_; clear n0_ n1_ n2_; (try clear hb); (try clear hb2); (try clear hk); (try clear hi); (try clear ho0); (try clear ho1)))
  go_ret2
  exact ⟨_, by first | rfl | (simp [qQ, qP] <;> rfl) | (simp [*, qQ, qP] <;> rfl), by first | exact Kd.R_nil _ _ _ _ _ | exact Kd.N_nil _ _ _ _ _ | exact Kd.V_nil _ _ _ _ _ | exact Kd.Q_nil _ _ _ _ _ | exact Kd.S_nil _ _ _ _ _, bl⟩
def qf.l0 : Nat → List ByteArray → List ByteArray → Int → Option (Bool)
 | 0, _, _, _ => none
 | k + 1, x0, x1, x5 => if x5 < (x0.length : Int) then (if 0 ≤ x5 then (if x5 < (x1.length : Int) then (if (rdOf ByteArray.empty x0 x5).toList = (rdOf ByteArray.empty x1 x5).toList then (qf.l0 k x0 x1 (wrap64 (x5 + 1))) else (some false)) else (none)) else (none)) else (some true)
def qf.f (k : Nat) (l0 : List ByteArray) (l1 : List ByteArray) : Option (Bool) := if (l0.length : Int) = (l1.length : Int) then (qf.l0 k l0 l1 0) else (some false)
set_option maxHeartbeats 8000000 in
set_option maxRecDepth 100000 in
theorem qf.calls (k : Nat) (A0 : Option Addr) (c0 : Nat) (l0 : List ByteArray) (A1 : Option Addr) (c1 : Nat) (l1 : List ByteArray) (r : Bool) (w : World) (hr0 : Kd.C Kd.string w A0 l0.length l0) (hc0 : l0.length ≤ c0) (hr1 : Kd.C Kd.string w A1 l1.length l1) (hc1 : l1.length ≤ c1) (h : qf.f k l0 l1 = some r) :
  Calls Tryd.prog 26 #[.slice A0 l0.length c0, .slice A1 l1.length c1] w fun e w' => e = .returned (.bool r) ∧ Drawn0 w w' := by
 have HR0 := Aside0.mk hr0
 have HC0 := Aside0.mk hc0
 clear hr0 hc0
 have HR1 := Aside0.mk hr1
 have HC1 := Aside0.mk hc1
 clear hr1 hc1
 have H : (if (l0.length : Int) = (l1.length : Int) then (qf.l0 k l0 l1 0) else (some false)) = some r := h
 clear h
 by_cases c3 : (l0.length : Int) = (l1.length : Int)
 ·rw [if_pos c3] at H
  have c3b0 : ((l0.length : Int) == (l1.length : Int)) = true := beq_iff_eq.mpr c3
  have c3b1 : ((l0.length : Int) != (l1.length : Int)) = false := bne_eq_false_iff_eq.mpr c3
  have c3b2 : (l0.length == l1.length) = true := by first | simpa using c3 | (simp at c3 ⊢; omega)
  clear c3
  have H' := Aside0.mk H
  clear H
  go_enter Tryd.func26, Tryd.ntmps26
  go_wp2
  repeat (go_quiet (fail); try go_wp2)
  go_loopg [5] k (fun kq v5 w' => ∃ (x5_1 : Int), v5 = .int .i64 x5_1 ∧ Aside0 (qf.l0 kq l0 l1 x5_1 = some r) ∧ Aside0 (kq ≤ k) ∧ Drawn0 w w')
  case atStart => exact ⟨(0), (by first | rfl | (simp; done) | (simp [*]; done)), H', ⟨Nat.le_refl _⟩, by repeat (first | exact Drawn0.refl _ | apply Drawn0.step)⟩
  case round =>
   clear H'
   try clear c1
   try clear c2
   try clear p2
   try clear c3
   try clear c3b0
   try clear c3b1
   try clear c3b2
   obtain ⟨x5_1, rfl, HA, HK1, ⟨m1, rfl⟩⟩ := hrel
   cases gk with
   | zero => exact absurd HA.out (by simp [qf.l0])
   | succ k1 =>
    have H := HA.out
    clear HA
    simp only [qf.l0] at H
    by_cases c4 : x5_1 < (l0.length : Int)
    ·rw [if_pos c4] at H
     have c4b0 : decide (x5_1 < (l0.length : Int)) = true := decide_eq_true c4
     clear c4
     by_cases c5 : 0 ≤ x5_1
     ·rw [if_pos c5] at H
      have c5b0 : decide (0 ≤ x5_1) = true := decide_eq_true c5
      clear c5
      by_cases c6 : x5_1 < (l1.length : Int)
      ·rw [if_pos c6] at H
       have c6b0 : decide (x5_1 < (l1.length : Int)) = true := decide_eq_true c6
       clear c6
       by_cases c7 : (rdOf ByteArray.empty l0 x5_1).toList = (rdOf ByteArray.empty l1 x5_1).toList
       ·rw [if_pos c7] at H
        have c7b0 : ((rdOf ByteArray.empty l0 x5_1).toList == (rdOf ByteArray.empty l1 x5_1).toList) = true := beq_iff_eq.mpr c7
        have c7b1 : ((rdOf ByteArray.empty l0 x5_1).toList != (rdOf ByteArray.empty l1 x5_1).toList) = false := bne_eq_false_iff_eq.mpr c7
        clear c7
        have H' := Aside0.mk H
        clear H
        have p768 : 0 ≤ (x5_1 : Int) := of_decide_eq_true (by first | (with_reducible assumption) | assumption)
        have q768 : x5_1 < (l0.length : Int) := of_decide_eq_true (by first | (with_reducible assumption) | assumption)
        obtain ⟨ad768, e768, hx768_0⟩ := Kd.qyA HR0.out x5_1 p768 q768
        cases e768
        replace p768 := eq_true p768
        replace q768 := eq_true q768
        have p769 : 0 ≤ (x5_1 : Int) := of_decide_eq_true (by first | (with_reducible assumption) | assumption)
        have q769 : x5_1 < (l1.length : Int) := of_decide_eq_true (by first | (with_reducible assumption) | assumption)
        obtain ⟨ad769, e769, hx769_0⟩ := Kd.qyA HR1.out x5_1 p769 q769
        cases e769
        replace p769 := eq_true p769
        replace q769 := eq_true q769
        go_wp2
        repeat (go_quiet (fail); try go_wp2)
        go_roundg k1
        case measure => have := HK1.out; omega
        case rel => exact ⟨(wrap64 (x5_1 + 1)), (by first | rfl | (simp; done) | (simp [*]; done)), H', ⟨by have := HK1.out; omega⟩, by repeat (first | exact Drawn0.refl _ | apply Drawn0.step)⟩
       ·rw [if_neg c7] at H
        have c7b0 : ((rdOf ByteArray.empty l0 x5_1).toList == (rdOf ByteArray.empty l1 x5_1).toList) = false := beq_eq_false_iff_ne.mpr c7
        have c7b1 : ((rdOf ByteArray.empty l0 x5_1).toList != (rdOf ByteArray.empty l1 x5_1).toList) = true := bne_iff_ne.mpr c7
        obtain rfl := Option.some.inj H
        have p768 : 0 ≤ (x5_1 : Int) := of_decide_eq_true (by first | (with_reducible assumption) | assumption)
        have q768 : x5_1 < (l0.length : Int) := of_decide_eq_true (by first | (with_reducible assumption) | assumption)
        obtain ⟨ad768, e768, hx768_0⟩ := Kd.qyA HR0.out x5_1 p768 q768
        cases e768
        replace p768 := eq_true p768
        replace q768 := eq_true q768
        have p769 : 0 ≤ (x5_1 : Int) := of_decide_eq_true (by first | (with_reducible assumption) | assumption)
        have q769 : x5_1 < (l1.length : Int) := of_decide_eq_true (by first | (with_reducible assumption) | assumption)
        obtain ⟨ad769, e769, hx769_0⟩ := Kd.qyA HR1.out x5_1 p769 q769
        cases e769
        replace p769 := eq_true p769
        replace q769 := eq_true q769
        go_wp2
        repeat (go_quiet (fail); try go_wp2)
        go_ret
        exact ⟨by first | rfl | (simp; done) | (simp [*]; done), by repeat (first | exact Drawn0.refl _ | apply Drawn0.step)⟩
      ·rw [if_neg c6] at H
       exact absurd H (by simp)
     ·rw [if_neg c5] at H
      exact absurd H (by simp)
    ·rw [if_neg c4] at H
     have c4b0 : decide (x5_1 < (l0.length : Int)) = false := decide_eq_false c4
     clear c4
     obtain rfl := Option.some.inj H
     go_wp2
     repeat (go_quiet (fail); try go_wp2)
     go_ret
     exact ⟨by first | rfl | (simp; done) | (simp [*]; done), by repeat (first | exact Drawn0.refl _ | apply Drawn0.step)⟩
 ·rw [if_neg c3] at H
  have c3b0 : ((l0.length : Int) == (l1.length : Int)) = false := beq_eq_false_iff_ne.mpr c3
  have c3b1 : ((l0.length : Int) != (l1.length : Int)) = true := bne_iff_ne.mpr c3
  have c3b2 : (l0.length == l1.length) = false := by first | simpa using c3 | (simp at c3 ⊢; omega)
  obtain rfl := Option.some.inj H
  go_enter Tryd.func26, Tryd.ntmps26
  go_wp2
  repeat (go_quiet (fail); try go_wp2)
  go_ret
  exact ⟨by first | rfl | (simp; done) | (simp [*]; done), by repeat (first | exact Drawn0.refl _ | apply Drawn0.step)⟩
def qo.l0 : Nat → Int → ByteArray → Option (ByteArray)
 | 0, _, _ => none
 | k + 1, x0, x3 => if x0 > 0 then ((some (([(wrap64 (48 + (Int.tmod x0 10))) % 256] : List Int) : List Int)).bind fun y770 => (if (strOfNums y770).size + x3.size ≤ 9223372036854775807 then (qo.l0 k (wrap64 (Int.tdiv x0 10)) ((strOfNums y770) ++ x3)) else (none))) else (if 1 + x3.size ≤ 9223372036854775807 then (some ((⟨#[109]⟩ : ByteArray) ++ x3)) else (none))
def qo.f (k : Nat) (a0 : Int) : Option (ByteArray) := if a0 ≤ 0 then (some (⟨#[109, 48]⟩ : ByteArray)) else (qo.l0 k a0 (⟨#[]⟩ : ByteArray))
set_option maxHeartbeats 8000000 in
set_option maxRecDepth 100000 in
theorem qo.calls (k : Nat) (a0 : Int) (r : ByteArray) (w : World) (h : qo.f k a0 = some r) :
  Calls Tryd.prog 43 #[.int .i64 a0] w fun e w' => e = .returned (.string r) ∧ Below w.heap.size w w' := by
 have HB := Aside0.mk (Below.refl w.heap.size w)
 have H : (if a0 ≤ 0 then (some (⟨#[109, 48]⟩ : ByteArray)) else (qo.l0 k a0 (⟨#[]⟩ : ByteArray))) = some r := h
 clear h
 by_cases c2 : a0 ≤ 0
 ·rw [if_pos c2] at H
  have c2b0 : decide (a0 ≤ 0) = true := decide_eq_true c2
  clear c2
  obtain rfl := Option.some.inj H
  go_enter Tryd.func43, Tryd.ntmps43
  go_wp2
  go_ret
  exact ⟨by first | rfl | (simp [qQ, qP] <;> rfl) | (simp [*, qQ, qP] <;> rfl), bl⟩
 ·rw [if_neg c2] at H
  have c2b0 : decide (a0 ≤ 0) = false := decide_eq_false c2
  clear c2
  have H' := Aside0.mk H
  clear H
  go_enter Tryd.func43, Tryd.ntmps43
  go_wp2
  go_loopg [0, 3] k (fun kq v0 v3 w' => ∃ (x0_1 : Int) (x3_1 : ByteArray), v0 = .int .i64 x0_1 ∧ v3 = .string x3_1 ∧ Aside0 (qo.l0 kq x0_1 x3_1 = some r) ∧ Aside0 (kq ≤ k) ∧ Aside0 (Below w.heap.size w w'))
  case atStart => exact ⟨(a0), ((⟨#[]⟩ : ByteArray)), (by first | rfl | (simp; done) | (simp [*]; done)), (by first | rfl | (simp; done) | (simp [*]; done)), H', ⟨Nat.le_refl _⟩, ⟨bl⟩⟩
  case round =>
   clear H'
   try clear c2
   try clear c2b0
   try clear p2
   obtain ⟨x0_1, x3_1, rfl, rfl, HA, HK1, HB⟩ := hrel
   cases gk with
   | zero => exact absurd HA.out (by simp [qo.l0])
   | succ k1 =>
    have H := HA.out
    clear HA
    simp only [qo.l0] at H
    by_cases c3 : x0_1 > 0
    ·rw [if_pos c3] at H
     have c3b0 : decide (0 < x0_1) = true := decide_eq_true c3
     clear c3
     obtain ⟨y770, hy770⟩ : ∃ y_ : List Int, y_ = (([(wrap64 (48 + (Int.tmod x0_1 10))) % 256] : List Int)) := ⟨_, rfl⟩
     replace H : (if (strOfNums y770).size + x3_1.size ≤ 9223372036854775807 then (qo.l0 k1 (wrap64 (Int.tdiv x0_1 10)) ((strOfNums y770) ++ x3_1)) else (none)) = some r := by first | (rw [hy770]; with_reducible exact H) | (have H2_ := (Option.bind_some _ _).symm.trans H; rw [hy770]; with_reducible exact H2_) | (have H2_ := (Option.bind_some _ _).symm.trans H; with_reducible exact H2_) | with_reducible exact H | (rw [hy770]; exact H) | exact H
     have Ny770 := Aside0.mk hy770
     clear hy770
     by_cases c4 : (strOfNums y770).size + x3_1.size ≤ 9223372036854775807
     ·rw [if_pos c4] at H
      have c4b0 := eq_true c4
      have c4b1 : decide ((strOfNums y770).size + x3_1.size ≤ 9223372036854775807) = true := decide_eq_true c4
      try have c4b2 : (9223372036854775807 < (strOfNums y770).size + x3_1.size) = False := eq_false (Nat.not_lt.2 c4)
      have H' := Aside0.mk H
      clear H
      go_wp2_with (first | ((with_reducible refine qa (N := 12) rfl ?_); refine Kd.R_lit (Kd.int .u8) _ 5 ?hg (N := 12) ?hd (xs := ([(wrap64 (48 + (Int.tmod x0_1 10))) % 256] : List Int)) (inner := [.int .u8 ((wrap64 (48 + (Int.tmod x0_1 10))) % 256)]) (ok := fun _ => True) (okp := fun _ => True) ?hr ?hp (fun _ hk => hk) trivial (Below.refl _ _) (Nat.le_refl _) (by simp) ?_; (case hd => rfl); (case hg => rfl); (case hr => first | (go_simp; done) | (go_simp; rfl)); (case hp => exact (Reps.one (show Kd.M (Kd.int .u8) _ _ _ ((wrap64 (48 + (Int.tmod x0_1 10))) % 256) [.int .u8 ((wrap64 (48 + (Int.tmod x0_1 10))) % 256)] from rfl) (Reps.none _ _))); intro v771 w5 ho6 hb hg_ hnew_; clear hg_ hnew_; (first | rw [← Ny770.out] at ho6 | (simp only [Int.reduceToNat] at ho6; rw [← Ny770.out] at ho6)); have n0_ := Aside0.mk (Kd.qu ho6 (qY bl)); have n1_ := Aside0.mk (qK bl hb); clear HB; have HO772 := n0_; have HB := n1_; clear n0_ n1_; clear hb ho6; have hcv7 := qrB (P := Tryd.prog) Tryd.underlying43 Tryd.underlying5 Tryd.underlying9 (Kd.qsB HO772.out)))
      go_roundg k1
      case measure => have := HK1.out; omega
      case rel => exact ⟨(wrap64 (Int.tdiv x0_1 10)), ((strOfNums y770) ++ x3_1), (by first | rfl | (simp; done) | (simp [*]; done)), (by first | rfl | (simp; done) | (simp [*]; done)), H', ⟨by have := HK1.out; omega⟩, ⟨bl⟩⟩
     ·rw [if_neg c4] at H
      exact absurd H (by simp)
    ·rw [if_neg c3] at H
     have c3b0 : decide (0 < x0_1) = false := decide_eq_false c3
     clear c3
     by_cases c8 : 1 + x3_1.size ≤ 9223372036854775807
     ·rw [if_pos c8] at H
      have c8b0 := eq_true c8
      have c8b1 : decide (1 + x3_1.size ≤ 9223372036854775807) = true := decide_eq_true c8
      try have c8b2 : (9223372036854775807 < 1 + x3_1.size) = False := eq_false (Nat.not_lt.2 c8)
      obtain rfl := Option.some.inj H
      go_wp2
      go_ret
      exact ⟨by first | rfl | (simp [qQ, qP] <;> rfl) | (simp [*, qQ, qP] <;> rfl), bl⟩
     ·rw [if_neg c8] at H
      exact absurd H (by simp)
def qj.l0 : Nat → List ByteArray → Int → Int → Option (Int × List ByteArray)
 | 0, _, _, _ => none
 | k + 1, x0, x1, x5 => if x5 < (x0.length : Int) then ((qo.f k x1).bind fun t773 => (if 0 ≤ x5 then (qj.l0 k (x0.set (x5 : Int).toNat t773) (wrap64 (x1 + 1)) (wrap64 (x5 + 1))) else (none))) else (some (x1, x0))
def qj.f (k : Nat) (l0 : List ByteArray) (a1 : Int) : Option (Int × List ByteArray) := qj.l0 k l0 a1 0
set_option maxHeartbeats 8000000 in
set_option maxRecDepth 100000 in
theorem qj.calls (k : Nat) (P0_ : Nat → Prop) (u9000_ : Value) (l0 : List ByteArray) (a1 : Int) (r1 : Int) (r2 : List ByteArray) (w0 w : World) (hB : Below w0.heap.size w0 w) (ho0 : Kd.R Kd.string 9 w w0.heap.size P0_ u9000_ l0) (h : qj.f k l0 a1 = some (r1, r2)) :
  Calls Tryd.prog 27 #[u9000_, .int .i64 a1] w fun e w' => e = .returned (.int .i64 r1) ∧ Kd.R Kd.string 9 w' w0.heap.size (fun k_ => (P0_ k_ ∨ w.heap.size ≤ k_)) u9000_ r2 ∧ Below w0.heap.size w0 w' ∧ Kept w w' (fun k_ => P0_ k_) := by
 have HO0 := Aside0.mk (show Kd.R Kd.string 9 w w0.heap.size (fun k_ => (P0_ k_ ∨ w.heap.size ≤ k_)) u9000_ l0 from Kd.qX ho0 (fun k_ hk => (.inl hk)))
 have HK := Aside0.mk (Kept.refl w (fun k_ => P0_ k_))
 have HW0 := Aside0.mk hB.size
 have HB := Aside0.mk hB
 clear hB
 have H : (qj.l0 k l0 a1 0) = some (r1, r2) := h
 clear h
 have H' := Aside0.mk H
 clear H
 go_enter Tryd.func27, Tryd.ntmps27
 go_wp2
 go_loopg [1, 5] k (fun kq v1 v5 w' => ∃ (x0_1 : List ByteArray) (x1_1 : Int) (x5_1 : Int), v1 = .int .i64 x1_1 ∧ v5 = .int .i64 x5_1 ∧ Aside0 (qj.l0 kq x0_1 x1_1 x5_1 = some (r1, r2)) ∧ Aside0 (kq ≤ k) ∧ Aside0 (Kd.R Kd.string 9 w' w0.heap.size (fun k_ => (P0_ k_ ∨ w.heap.size ≤ k_)) u9000_ x0_1) ∧ Aside0 (Kept w w' (fun k_ => P0_ k_)) ∧ Aside0 (Below w0.heap.size w0 w'))
 case atStart => exact ⟨(l0), (a1), (0), (by first | rfl | (simp; done) | (simp [*]; done)), (by first | rfl | (simp; done) | (simp [*]; done)), H', ⟨Nat.le_refl _⟩, ⟨by (with_reducible repeat (first | apply Kd.qB | apply Kd.qC | apply Kd.qF)); exact HO0.out⟩, ⟨by repeat (first | (with_reducible first | exact HK.out | apply Kept.alloc | apply Kept.drewN | apply Kept.drew) | exact HK.out)⟩, ⟨bl⟩⟩
 case round =>
  clear H'
  try clear c2
  try clear p2
  obtain ⟨x0_1, x1_1, x5_1, rfl, rfl, HA, HK1, HO_0, HK, HB⟩ := hrel
  cases gk with
  | zero => exact absurd HA.out (by simp [qj.l0])
  | succ k1 =>
   have H := HA.out
   clear HA
   simp only [qj.l0] at H
   by_cases c3 : x5_1 < (x0_1.length : Int)
   ·rw [if_pos c3] at H
    have c3b0 : decide (x5_1 < (x0_1.length : Int)) = true := decide_eq_true c3
    clear c3
    replace H := Option.bind_eq_some_iff.mp H
    obtain ⟨t773, A40, H⟩ := H
    replace H : (if 0 ≤ x5_1 then (qj.l0 k1 (x0_1.set (x5_1 : Int).toNat t773) (wrap64 (x1_1 + 1)) (wrap64 (x5_1 + 1))) else (none)) = some (r1, r2) := H
    have A4 := Aside0.mk A40
    clear A40
    by_cases c5 : 0 ≤ x5_1
    ·rw [if_pos c5] at H
     have c5b0 : decide (0 ≤ x5_1) = true := decide_eq_true c5
     clear c5
     obtain ⟨y774, hy774⟩ : ∃ y_ : List ByteArray, y_ = (x0_1.set (x5_1 : Int).toNat t773) := ⟨_, rfl⟩
     replace H : (qj.l0 k1 y774 (wrap64 (x1_1 + 1)) (wrap64 (x5_1 + 1))) = some (r1, r2) := by first | (rw [hy774]; with_reducible exact H) | (have H2_ := (Option.bind_some _ _).symm.trans H; rw [hy774]; with_reducible exact H2_) | (have H2_ := (Option.bind_some _ _).symm.trans H; with_reducible exact H2_) | with_reducible exact H | (rw [hy774]; exact H) | exact H
     have Ny774 := Aside0.mk hy774
     clear hy774
     have H' := Aside0.mk H
     clear H
     obtain ⟨Ao7, co7, eo7⟩ := Kd.qn HO_0.out
     subst eo7
     go_wp2_with (first | ((with_reducible refine qZ (f := 43) rfl ?_); refine qPA (some 15) rfl rfl Tryd.func43 (by kernel_rfl) rfl #[.int .i64 x1_1] rfl (by (try simp only [List.map_toArray, List.map_cons, List.map_nil]); first | done | rfl | (simp only [List.length_drop, List.length_take]; rfl)) ?_; (with_reducible refine (qo.calls k1 x1_1 t773 _ A4.out).mono ?_); rintro e w8 ⟨rfl, hb⟩; refine ⟨_, rfl, ?_⟩; have n0_ := Aside0.mk (Kd.qS (by (with_reducible repeat (first | apply Kd.qB | apply Kd.qC | apply Kd.qF)); exact HO_0.out) hb); have n1_ := Aside0.mk (Kept.below (S := (fun k_ => P0_ k_)) (by repeat (first | (with_reducible first | exact HK.out | apply Kept.alloc | apply Kept.drewN | apply Kept.drew) | exact HK.out)) hb); have n2_ := Aside0.mk (qK bl hb); clear HO_0; clear HK; clear HB; have HO_0 := n0_; have HK := n1_; have HB := n2_; clear n0_ n1_ n2_; (try clear hb); (try clear hb2); (try clear hk); (try clear hi); have p6 : 0 ≤ (x5_1 : Int) := of_decide_eq_true (by first | (with_reducible assumption) | assumption); have q6 : (x5_1 : Int) < ((x0_1.length : Int) : Int) := of_decide_eq_true (by first | (with_reducible assumption) | assumption); obtain ⟨go6, co6, eo6, gb6, gl6, cl6, HG6⟩ := Kd.qvB HO_0.out (by omega); (first | cases eo6 | (injection eo6 with ea_ en_ ec_; (first | subst ea_ | (injection ea_ with ea_; subst ea_)); subst ec_; clear en_)); have GB6 := Aside0.mk gb6; have GG6 := Aside0.mk HG6; clear gb6 gl6 HG6; have HMgo6 := Aside0.mk (show (P0_ go6 ∨ w.heap.size ≤ go6) from (HO_0.out.1 _ rfl)); obtain ⟨hx6_0, hf6_0⟩ := Kd.qnA (⟨#[]⟩ : ByteArray) HO_0.out (x5_1 : Int) p6 q6; replace p6 := eq_true p6; replace q6 := eq_true q6; obtain ⟨hy9_, hz9_⟩ := Kd.qnA (⟨#[]⟩ : ByteArray) HO_0.out (x5_1 : Int) (of_decide_eq_true (by first | (with_reducible assumption) | assumption)) (of_decide_eq_true (by first | (with_reducible assumption) | assumption)); have HP9 := Kd.qoB HO_0.out (x5_1 : Int) t773) | ((with_reducible refine qeA (t := 9) (p := 16) rfl ?_); refine qXA (t := 9) (p := 16) (v := ?vo_w10) (w1 := (w8.setCell ⟨go6, (x5_1 : Int).toNat, none⟩ (.string t773))) ?hg ?ho ?hn ?hr ?_; (case ho => rfl); (case hg => rfl); (case hn => rfl); (case hr => first | (go_simp; done) | (go_simp; rfl)); intro w10 hw; have hg : w8.grownBy w10 (some go6) := (by rw [hw]; exact HP9.2); have hp_ : Kd.R Kd.string 9 w10 w0.heap.size (fun k_ => (P0_ k_ ∨ w.heap.size ≤ k_)) (.slice (some ⟨go6, 0, none⟩) x0_1.length co7) y774 := (by rw [hw, Ny774.out]; exact HP9.1); clear HP9; have n0_ := Aside0.mk (hp_); have n1_ := Aside0.mk ((by rw [hw]; exact qk (HB.out) GB6.out : Below w0.heap.size w0 w10)); have n2_ := Aside0.mk (Kept.of_grown (S := (fun k_ => P0_ k_)) hg (by repeat (first | (with_reducible first | exact HK.out | apply Kept.alloc | apply Kept.drewN | apply Kept.drew) | exact HK.out)) (fun k_ e_ => (HO_0.out.1 k_ e_))); clear HO_0; clear HB; clear HK; have HO_0 := n0_; have HB := n1_; have HK := n2_; clear n0_ n1_ n2_; clear hg hw hp_))
     go_roundg k1
     case measure => have := HK1.out; omega
     case rel => exact ⟨(y774), (wrap64 (x1_1 + 1)), (wrap64 (x5_1 + 1)), (by first | rfl | (simp; done) | (simp [*]; done)), (by first | rfl | (simp; done) | (simp [*]; done)), H', ⟨by have := HK1.out; omega⟩, ⟨by (with_reducible repeat (first | apply Kd.qB | apply Kd.qC | apply Kd.qF)); exact HO_0.out⟩, ⟨by repeat (first | (with_reducible first | exact HK.out | apply Kept.alloc | apply Kept.drewN | apply Kept.drew) | exact HK.out)⟩, ⟨bl⟩⟩
    ·rw [if_neg c5] at H
     exact absurd H (by simp)
   ·rw [if_neg c3] at H
    have c3b0 : decide (x5_1 < (x0_1.length : Int)) = false := decide_eq_false c3
    clear c3
    simp only [Option.some.injEq, Prod.mk.injEq] at H
    obtain ⟨rfl, rfl⟩ := H
    obtain ⟨Ao11, co11, eo11⟩ := Kd.qn HO_0.out
    subst eo11
    go_wp2
    go_ret
    exact ⟨by first | rfl | (simp [qQ, qP] <;> rfl) | (simp [*, qQ, qP] <;> rfl), by (with_reducible repeat (first | apply Kd.qB | apply Kd.qC | apply Kd.qF)); exact HO_0.out, bl, by repeat (first | (with_reducible first | exact HK.out | apply Kept.alloc | apply Kept.drewN | apply Kept.drew) | exact HK.out)⟩
def qc.l0 : Nat → List ByteArray → Int → Int → Option (Int)
 | 0, _, _, _ => none
 | k + 1, x0, x1, x5 => if x5 < (x0.length : Int) then (if 0 ≤ x5 then ((qo.f k x1).bind fun t776 => (if (rdOf ByteArray.empty x0 x5).toList = t776.toList then (qc.l0 k x0 (wrap64 (x1 + 1)) (wrap64 (x5 + 1))) else (some (-1)))) else (none)) else (some x1)
def qc.f (k : Nat) (l0 : List ByteArray) (a1 : Int) : Option (Int) := qc.l0 k l0 a1 0
set_option maxHeartbeats 8000000 in
set_option maxRecDepth 100000 in
theorem qc.calls (k : Nat) (A0 : Option Addr) (c0 : Nat) (l0 : List ByteArray) (a1 : Int) (r : Int) (w : World) (hr0 : Kd.C Kd.string w A0 l0.length l0) (hc0 : l0.length ≤ c0) (h : qc.f k l0 a1 = some r) :
  Calls Tryd.prog 28 #[.slice A0 l0.length c0, .int .i64 a1] w fun e w' => e = .returned (.int .i64 r) ∧ Below w.heap.size w w' := by
 have HR0 := Aside0.mk hr0
 have HC0 := Aside0.mk hc0
 clear hr0 hc0
 have HB := Aside0.mk (Below.refl w.heap.size w)
 have H : (qc.l0 k l0 a1 0) = some r := h
 clear h
 have H' := Aside0.mk H
 clear H
 go_enter Tryd.func28, Tryd.ntmps28
 go_wp2
 go_loopg [1, 5] k (fun kq v1 v5 w' => ∃ (x1_1 : Int) (x5_1 : Int), v1 = .int .i64 x1_1 ∧ v5 = .int .i64 x5_1 ∧ Aside0 (qc.l0 kq l0 x1_1 x5_1 = some r) ∧ Aside0 (kq ≤ k) ∧ Aside0 (Below w.heap.size w w'))
 case atStart => exact ⟨(a1), (0), (by first | rfl | (simp; done) | (simp [*]; done)), (by first | rfl | (simp; done) | (simp [*]; done)), H', ⟨Nat.le_refl _⟩, ⟨bl⟩⟩
 case round =>
  clear H'
  try clear c2
  try clear p2
  obtain ⟨x1_1, x5_1, rfl, rfl, HA, HK1, HB⟩ := hrel
  cases gk with
  | zero => exact absurd HA.out (by simp [qc.l0])
  | succ k1 =>
   have H := HA.out
   clear HA
   simp only [qc.l0] at H
   by_cases c3 : x5_1 < (l0.length : Int)
   ·rw [if_pos c3] at H
    have c3b0 : decide (x5_1 < (l0.length : Int)) = true := decide_eq_true c3
    clear c3
    by_cases c4 : 0 ≤ x5_1
    ·rw [if_pos c4] at H
     have c4b0 : decide (0 ≤ x5_1) = true := decide_eq_true c4
     clear c4
     replace H := Option.bind_eq_some_iff.mp H
     obtain ⟨t776, A50, H⟩ := H
     replace H : (if (rdOf ByteArray.empty l0 x5_1).toList = t776.toList then (qc.l0 k1 l0 (wrap64 (x1_1 + 1)) (wrap64 (x5_1 + 1))) else (some (-1))) = some r := H
     have A5 := Aside0.mk A50
     clear A50
     by_cases c6 : (rdOf ByteArray.empty l0 x5_1).toList = t776.toList
     ·rw [if_pos c6] at H
      have c6b0 : ((rdOf ByteArray.empty l0 x5_1).toList == t776.toList) = true := beq_iff_eq.mpr c6
      have c6b1 : ((rdOf ByteArray.empty l0 x5_1).toList != t776.toList) = false := bne_eq_false_iff_eq.mpr c6
      clear c6
      have H' := Aside0.mk H
      clear H
      try go_wp2
      have n0_ := Aside0.mk (qg HB.out)
      clear HB
      have HB := n0_
      clear n0_
      have p775 : 0 ≤ (x5_1 : Int) := of_decide_eq_true (by first | (with_reducible assumption) | assumption)
      have q775 : x5_1 < (l0.length : Int) := of_decide_eq_true (by first | (with_reducible assumption) | assumption)
      obtain ⟨ad775, e775, hx775_0⟩ := Kd.qyA HR0.out x5_1 p775 q775
      have hw775_0 := hx775_0
      cases e775
      replace hx775_0 := (HB.out.cell (World.block_lt_of_cell? w _ hx775_0)).trans hx775_0
      replace p775 := eq_true p775
      replace q775 := eq_true q775
      refine qsA (n := 7) (S := fun w' => w'.cell? (ad775.add (x5_1).toNat) = some (.string (rdOf ByteArray.empty l0 x5_1))) (ds := []) #[false, false, false, false, false, false, false] (by kernel_rfl) rfl rfl (((HB.out.cell (World.block_lt_of_cell? w _ hw775_0)).trans hw775_0)) (fun hHeld => ?_)
      generalize wr.drew = w7 at HB hx775_0 hHeld ⊢
      refine pure_ (i := 0) (N := some 12) (v := ?_) (a' := ?_) #[true, false, false, false, false, false, false] rfl rfl (by kernel_rfl) (fun _ _ _ h => h) (Or.inl ⟨by rfl, ?_⟩) ?_ ?_
      rotate_left
      ·intro w'
       go_simp
       first | (with_reducible rfl) | (rw [if_neg (by simp only [ByteArray.size_extract, ByteArray.size_append] at * <;> omega)]; try with_reducible rfl)
      rotate_left
      ·simp only [Act.put, List.setIfInBounds_toArray, List.set_cons_zero, List.set_cons_succ, i64_w, i32_w]
       rfl
      refine pure_ (i := 1) (N := some 13) (v := ?_) (a' := ?_) #[true, true, false, false, false, false, false] rfl rfl (by kernel_rfl) (fun _ _ _ h => h) (Or.inl ⟨by rfl, ?_⟩) ?_ ?_
      rotate_left
      ·intro w'
       go_simp
       first | (with_reducible rfl) | (rw [if_neg (by simp only [ByteArray.size_extract, ByteArray.size_append] at * <;> omega)]; try with_reducible rfl)
      rotate_left
      ·simp only [Act.put, List.setIfInBounds_toArray, List.set_cons_zero, List.set_cons_succ, i64_w, i32_w]
       rfl
      refine pure_ (i := 2) (N := some 14) (v := ?_) (a' := ?_) #[true, true, true, false, false, false, false] rfl rfl (by kernel_rfl) (fun _ _ _ h => h) (Or.inl ⟨by rfl, ?_⟩) ?_ ?_
      rotate_left
      ·intro w'
       go_simp
       first | (with_reducible rfl) | (rw [if_neg (by simp only [ByteArray.size_extract, ByteArray.size_append] at * <;> omega)]; try with_reducible rfl)
      rotate_left
      ·simp only [Act.put, List.setIfInBounds_toArray, List.set_cons_zero, List.set_cons_succ, i64_w, i32_w]
       rfl
      refine pure_ (i := 4) (N := some 16) (v := ?_) (a' := ?_) #[true, true, true, false, true, false, false] rfl rfl (by kernel_rfl) (fun _ _ _ h => h) (Or.inl ⟨by rfl, ?_⟩) ?_ ?_
      rotate_left
      ·intro w'
       go_simp
       first | (with_reducible rfl) | (rw [if_neg (by simp only [ByteArray.size_extract, ByteArray.size_append] at * <;> omega)]; try with_reducible rfl)
      rotate_left
      ·simp only [Act.put, List.setIfInBounds_toArray, List.set_cons_zero, List.set_cons_succ, i64_w, i32_w]
       rfl
      refine take_ (i := 3) (N := some 15) (v := ?_) (a' := ?_) #[true, true, true, true, true, false, false] rfl rfl (by kernel_rfl) (fun _ _ _ h => h) (Or.inl ⟨by rfl, ?_⟩) hHeld ?_ ?_
      rotate_left
      ·intro w' s0
       go_simp
       first | (with_reducible rfl) | (rw [if_neg (by simp only [ByteArray.size_extract, ByteArray.size_append] at * <;> omega)]; try with_reducible rfl)
      rotate_left
      ·simp only [Act.put, List.setIfInBounds_toArray, List.set_cons_zero, List.set_cons_succ, i64_w, i32_w]
       rfl
      refine one_ (i := 5) (N := some 17) #[true, true, true, true, true, true, false] rfl rfl (by kernel_rfl) (by decide) (fun K hK => ?_)
      refine goes_ Tryd.func43 (by kernel_rfl) rfl #[.int .i64 x1_1] (by rfl) rfl rfl (by (try simp only [List.map_toArray, List.map_cons, List.map_nil]); first | done | rfl | (simp only [List.length_drop, List.length_take]; rfl)) ?_
      with_reducible refine (qo.calls k1 x1_1 t776 _ A5.out).mono ?_
      rintro e w8 ⟨rfl, hb⟩
      refine ⟨_, rfl, ?_⟩
      have n0_ := Aside0.mk (qK bl hb)
      clear HB
      have HB := n0_
      clear n0_
      (try clear hb)
      (try clear hb2)
      (try clear hk)
      (try clear hi)
      refine hK.out _ _ (((HB.out.cell (World.block_lt_of_cell? w _ hw775_0)).trans hw775_0)) (fun hHeld => ?_)
      clear hK K
      refine norm_ (a' := ?_) ?_ ?_
      rotate_left
      ·show Act.put _ (some 17) _ = _
       simp only [Act.put, List.setIfInBounds_toArray, List.set_cons_zero, List.set_cons_succ, i64_w, i32_w]
       rfl
      refine pure_ (i := 6) (N := some 18) (v := ?_) (a' := ?_) #[true, true, true, true, true, true, true] rfl rfl (by kernel_rfl) (fun _ _ _ h => h) (Or.inl ⟨by rfl, ?_⟩) ?_ ?_
      rotate_left
      ·intro w'
       go_simp
       first | (with_reducible rfl) | (rw [if_neg (by simp only [ByteArray.size_extract, ByteArray.size_append] at * <;> omega)]; try with_reducible rfl)
      rotate_left
      ·simp only [Act.put, List.setIfInBounds_toArray, List.set_cons_zero, List.set_cons_succ, i64_w, i32_w]
       rfl
      refine done_ (by kernel_rfl) ?_
      try go_wp2
      go_roundg k1
      case measure => have := HK1.out; omega
      case rel => exact ⟨(wrap64 (x1_1 + 1)), (wrap64 (x5_1 + 1)), (by first | rfl | (simp; done) | (simp [*]; done)), (by first | rfl | (simp; done) | (simp [*]; done)), H', ⟨by have := HK1.out; omega⟩, ⟨bl⟩⟩
     ·rw [if_neg c6] at H
      have c6b0 : ((rdOf ByteArray.empty l0 x5_1).toList == t776.toList) = false := beq_eq_false_iff_ne.mpr c6
      have c6b1 : ((rdOf ByteArray.empty l0 x5_1).toList != t776.toList) = true := bne_iff_ne.mpr c6
      obtain rfl := Option.some.inj H
      try go_wp2
      have n0_ := Aside0.mk (qg HB.out)
      clear HB
      have HB := n0_
      clear n0_
      have p775 : 0 ≤ (x5_1 : Int) := of_decide_eq_true (by first | (with_reducible assumption) | assumption)
      have q775 : x5_1 < (l0.length : Int) := of_decide_eq_true (by first | (with_reducible assumption) | assumption)
      obtain ⟨ad775, e775, hx775_0⟩ := Kd.qyA HR0.out x5_1 p775 q775
      have hw775_0 := hx775_0
      cases e775
      replace hx775_0 := (HB.out.cell (World.block_lt_of_cell? w _ hx775_0)).trans hx775_0
      replace p775 := eq_true p775
      replace q775 := eq_true q775
      refine qsA (n := 7) (S := fun w' => w'.cell? (ad775.add (x5_1).toNat) = some (.string (rdOf ByteArray.empty l0 x5_1))) (ds := []) #[false, false, false, false, false, false, false] (by kernel_rfl) rfl rfl (((HB.out.cell (World.block_lt_of_cell? w _ hw775_0)).trans hw775_0)) (fun hHeld => ?_)
      generalize wr.drew = w9 at HB hx775_0 hHeld ⊢
      refine pure_ (i := 0) (N := some 12) (v := ?_) (a' := ?_) #[true, false, false, false, false, false, false] rfl rfl (by kernel_rfl) (fun _ _ _ h => h) (Or.inl ⟨by rfl, ?_⟩) ?_ ?_
      rotate_left
      ·intro w'
       go_simp
       first | (with_reducible rfl) | (rw [if_neg (by simp only [ByteArray.size_extract, ByteArray.size_append] at * <;> omega)]; try with_reducible rfl)
      rotate_left
      ·simp only [Act.put, List.setIfInBounds_toArray, List.set_cons_zero, List.set_cons_succ, i64_w, i32_w]
       rfl
      refine pure_ (i := 1) (N := some 13) (v := ?_) (a' := ?_) #[true, true, false, false, false, false, false] rfl rfl (by kernel_rfl) (fun _ _ _ h => h) (Or.inl ⟨by rfl, ?_⟩) ?_ ?_
      rotate_left
      ·intro w'
       go_simp
       first | (with_reducible rfl) | (rw [if_neg (by simp only [ByteArray.size_extract, ByteArray.size_append] at * <;> omega)]; try with_reducible rfl)
      rotate_left
      ·simp only [Act.put, List.setIfInBounds_toArray, List.set_cons_zero, List.set_cons_succ, i64_w, i32_w]
       rfl
      refine pure_ (i := 2) (N := some 14) (v := ?_) (a' := ?_) #[true, true, true, false, false, false, false] rfl rfl (by kernel_rfl) (fun _ _ _ h => h) (Or.inl ⟨by rfl, ?_⟩) ?_ ?_
      rotate_left
      ·intro w'
       go_simp
       first | (with_reducible rfl) | (rw [if_neg (by simp only [ByteArray.size_extract, ByteArray.size_append] at * <;> omega)]; try with_reducible rfl)
      rotate_left
      ·simp only [Act.put, List.setIfInBounds_toArray, List.set_cons_zero, List.set_cons_succ, i64_w, i32_w]
       rfl
      refine pure_ (i := 4) (N := some 16) (v := ?_) (a' := ?_) #[true, true, true, false, true, false, false] rfl rfl (by kernel_rfl) (fun _ _ _ h => h) (Or.inl ⟨by rfl, ?_⟩) ?_ ?_
      rotate_left
      ·intro w'
       go_simp
       first | (with_reducible rfl) | (rw [if_neg (by simp only [ByteArray.size_extract, ByteArray.size_append] at * <;> omega)]; try with_reducible rfl)
      rotate_left
      ·simp only [Act.put, List.setIfInBounds_toArray, List.set_cons_zero, List.set_cons_succ, i64_w, i32_w]
       rfl
      refine take_ (i := 3) (N := some 15) (v := ?_) (a' := ?_) #[true, true, true, true, true, false, false] rfl rfl (by kernel_rfl) (fun _ _ _ h => h) (Or.inl ⟨by rfl, ?_⟩) hHeld ?_ ?_
      rotate_left
      ·intro w' s0
       go_simp
       first | (with_reducible rfl) | (rw [if_neg (by simp only [ByteArray.size_extract, ByteArray.size_append] at * <;> omega)]; try with_reducible rfl)
      rotate_left
      ·simp only [Act.put, List.setIfInBounds_toArray, List.set_cons_zero, List.set_cons_succ, i64_w, i32_w]
       rfl
      refine one_ (i := 5) (N := some 17) #[true, true, true, true, true, true, false] rfl rfl (by kernel_rfl) (by decide) (fun K hK => ?_)
      refine goes_ Tryd.func43 (by kernel_rfl) rfl #[.int .i64 x1_1] (by rfl) rfl rfl (by (try simp only [List.map_toArray, List.map_cons, List.map_nil]); first | done | rfl | (simp only [List.length_drop, List.length_take]; rfl)) ?_
      with_reducible refine (qo.calls k1 x1_1 t776 _ A5.out).mono ?_
      rintro e w10 ⟨rfl, hb⟩
      refine ⟨_, rfl, ?_⟩
      have n0_ := Aside0.mk (qK bl hb)
      clear HB
      have HB := n0_
      clear n0_
      (try clear hb)
      (try clear hb2)
      (try clear hk)
      (try clear hi)
      refine hK.out _ _ (((HB.out.cell (World.block_lt_of_cell? w _ hw775_0)).trans hw775_0)) (fun hHeld => ?_)
      clear hK K
      refine norm_ (a' := ?_) ?_ ?_
      rotate_left
      ·show Act.put _ (some 17) _ = _
       simp only [Act.put, List.setIfInBounds_toArray, List.set_cons_zero, List.set_cons_succ, i64_w, i32_w]
       rfl
      refine pure_ (i := 6) (N := some 18) (v := ?_) (a' := ?_) #[true, true, true, true, true, true, true] rfl rfl (by kernel_rfl) (fun _ _ _ h => h) (Or.inl ⟨by rfl, ?_⟩) ?_ ?_
      rotate_left
      ·intro w'
       go_simp
       first | (with_reducible rfl) | (rw [if_neg (by simp only [ByteArray.size_extract, ByteArray.size_append] at * <;> omega)]; try with_reducible rfl)
      rotate_left
      ·simp only [Act.put, List.setIfInBounds_toArray, List.set_cons_zero, List.set_cons_succ, i64_w, i32_w]
       rfl
      refine done_ (by kernel_rfl) ?_
      try go_wp2
      go_ret
      exact ⟨by first | rfl | (simp [qQ, qP] <;> rfl) | (simp [*, qQ, qP] <;> rfl), bl⟩
    ·rw [if_neg c4] at H
     exact absurd H (by simp)
   ·rw [if_neg c3] at H
    have c3b0 : decide (x5_1 < (l0.length : Int)) = false := decide_eq_false c3
    clear c3
    obtain rfl := Option.some.inj H
    go_wp2
    go_ret
    exact ⟨by first | rfl | (simp [qQ, qP] <;> rfl) | (simp [*, qQ, qP] <;> rfl), bl⟩
end Go.Proofs.YtdncpkppkafkpaaDoor.P
